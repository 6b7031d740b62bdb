import Derived.Test.YtfnegoimdljanaaGreatDoorAbsDraw3
set_option linter.unusedSimpArgs false
set_option linter.unusedVariables false
namespace Go.Abs
open Go
section
variable {P:Program} {nt:Nat} {F A:Nat→Prop} {Γ0:Gh}
theorem Zvq:∀ (l:List AV) (k t:Nat),gs (VN k l) t=if k≤t then ZbE l[t-k]? else .junk
 | [],k,t=>by simp[VN,gs,lkp,ZbE]
 | v :: r,k,t=>by
  have ih:=Zvq r (k+1) t;have aa:gs (VN k (v :: r)) t=if k=t then ZbE (Zze (some v) (lkp (VN (k+1) r) t)) else gs (VN (k+1) r) t:=by
   simp only[VN,gs,Zkh];by_cases h:k=t
   ·simp[h]
   ·simp only[h,Km];cases lkp (VN (k+1) r) t<;>rfl
  rw[aa];by_cases h1:k=t
  ·subst h1;have h2:lkp (VN (k+1) r) k=none:=by
    have:∀ (l:List AV) (j:Nat),k<j→lkp (VN j l) k=none:=by
     intro l
     induction l with
     | nil=>intro j _;rfl
     | cons a l ihl=>
      intro j hj;simp only[VN,Zkh,ihl (j+1) o_];rw[Ke o_];rfl
    exact this r (k+1) o_
   rw[h2];simp[Zze,ZbE]
  ·rw[Ke h1,ih];by_cases h2:k≤t
   ·rw[Kj o_,Kj h2];have:t-k=(t-(k+1))+1:=o_
    rw[this];simp
   ·rw[Ke o_,Ke h2]
theorem Zob {v:Value} {u:Value} {t:TypeId} {w:World} (h:(Instr.loadAt t v).run P w=.ok u w):(do loadVar t (← asAddr v):Sem Value).run P w=.ok u w:=by
 cases v with
 | pointer a=>
  cases a with
  | none=>simp[Instr.loadAt,Instr.sureAddr] at h
  | some a=>simpa [Instr.loadAt,Instr.sureAddr,asAddr] using h
 | _=>simp[Instr.loadAt,Instr.sureAddr] at h
theorem ZgA {I:Nat→Prop} {Γ:Gh} {st:St} {a:Act} {w:World} (h:Sim nt F A I Γ (UU st.nx) st.sl st.hp a w):∀ {aa:List ResultVar} {rs:List ZpX} {vs:List AV},QF (cRes P) aa=some rs→QF (Zp7 st) rs=some vs →
  ∃ us:List Value,(aa.mapM (m:=Sem) fun
   | .tmp t=>pure (a.tmps.getD t undef)
   | .cell c t=>do loadVar t (← asAddr (a.tmps.getD c undef))).run P w=.ok us w∧Zy (Rep Γ w I) vs us
 | [],rs,vs,hr,hv=>by
  simp only[QF] at hr;cases hr;simp only[QF] at hv;cases hv;exact⟨[],by simp,trivial⟩
 | rv :: aa,rs,vs,hr,hv=>by
  simp only[QF] at hr;obtain⟨r,h1,hr⟩:=Za hr;obtain⟨ad,h2,hr⟩:=Za hr;cases hr;simp only[QF] at hv;obtain⟨v,h3,hv⟩:=Za hv;obtain⟨ae,h4,hv⟩:=Za hv;cases hv;obtain⟨us,h5,h6⟩:=ZgA h h2 h4;cases rv with
  | tmp t=>
   simp only[cRes] at h1;cases h1;simp only[Zp7] at h3;cases h3;refine⟨a.tmps.getD t undef :: us,?_,h.slots t,h6⟩;simp only[List.mapM_cons,Sem.run_bind,Sem.run_pure,Result.andThen_ok,h5]
  | cell c t=>
   simp only[cRes] at h1;obtain⟨g,h7,h1⟩:=Za h1;cases h1;simp only[Zp7] at h3;obtain⟨u,h8,h9⟩:=ZvD (P:=P) h7 h.hpOK (h.slots c) h3;have ab:=Zob h8;refine⟨u :: us,?_,h9,h6⟩;simp only[List.mapM_cons];rw[Sem.run_bind,ab];simp only[Result.andThen_ok,Sem.run_bind,h5,Sem.run_pure]
theorem ZsB {Γ:Gh} {w:World} {I:Nat→Prop}:∀ {vs:List AV} {us:List Value},ZjK vs=false→Zy (Rep Γ w I) vs us→Zy (UD Γ w I) vs us
 | [],[],_,_=>trivial
 | [],_ :: _,_,h=>h.elim
 | _ :: _,[],_,h=>h.elim
 | v :: vs,u :: us,hn,h=>by
  simp only[ZjK,Kak] at hn;refine⟨?_,ZsB hn.2 h.2⟩;cases v<;>first | exact h.1 | (simp[ZyN] at hn)
theorem Zyx {Γ:Gh} {w:World} {I:Nat→Prop} {vs:List AV} {us:List Value} (h:Zy (Rep Γ w I) vs us):Rep Γ w I (ZbT vs) (if h:us.toArray.size=1 then us.toArray[0] else .tuple us.toArray):=by
 match vs,us,h with
 | [],[],h=>exact⟨#[],rfl,trivial⟩
 | [v],[u],h=>exact h.1
 | v :: v' :: vs,u :: u' :: us,h=>
  simp only[ZbT];cases hn:ZjK (v :: v' :: vs)
  ·simp only[Ka,Km];rw[dif_neg (by simp)];exact⟨_,rfl,by simpa using ZsB hn h⟩
  ·exact trivial
theorem Zxa {C:Orc} {M:Zq} (hC:QJ P C) {f:FuncId} {fn:Func} {cf:Zr} (hf:P.funcs[f]?=some fn) (ag:(fn.name == "runtime.NumGoroutine")=false) (ae:ZxA P fn=some (ZjN cf)) (hD:Wm P C M fn.ntmps)
  {N:Nat} {as1:List AV} {h:List Zk} {res:AV} {hs:List Zk} (hv:Zp8 C M N cf as1 h=some (res,hs)):Zo7 P f as1 h res hs:=by
 unfold ZxA at ae;obtain⟨c,hb,ae⟩:=Za ae;obtain⟨cc,am,ae⟩:=Za ae;obtain⟨rs,an,ae⟩:=Za ae;obtain⟨cnt,ao,aj⟩:=cf;simp only[ZjN,Option.some.injEq,Zr.mk.injEq] at ae;obtain⟨rfl,rfl,rfl⟩:=ae;refine⟨⟨fn,hf,ag,by rw[hb];rfl⟩,fun F A I Γ args w aa=>?_⟩;unfold Zp8 at hv;split at hv
 ·rename_i ap;simp only at ap hv;cases hr:ZG C M N aj { sl:=VN 0 as1,hp:=VR 0 h,nx:=h.length,m:=h.length } with
  | none=>rw[hr] at hv;simp[Zdx] at hv
  | some q=>
   obtain⟨ex,ab⟩:=q;rw[hr] at hv;have aq:as1.length=args.length:=aa.args.length;refine calls_of_wp hf hb ?_;have hS:Sim fn.ntmps F A I Γ (UU h.length) (VN 0 as1) (VR 0 h) { tmps:=args.toArray++Array.replicate (fn.ntmps-args.toArray.size) undef,defers:=[] } w:=by
    refine { nt:=by simp;omega,dfr:=rfl,slots:=fun t=>?_,objs:=aa.objs,inj:=aa.inj,bound:=aa.bound,fresh:=aa.fresh,own:=aa.own,names:=fun id ah=>aa.names id (by simpa [UU] using ah),glob:=aa.glob };rw[Zvq];simp only[Kaj,Kl,Nat.sub_zero];cases ht:as1[t]? with
    | none=>exact trivial
    | some x=>
     obtain⟨v,h1,h2⟩:=aa.args.get t x ht;have h3:(args.toArray++Array.replicate (fn.ntmps-args.toArray.size) undef).getD t undef=v:=by
      have ak:=(Kc.1 h1).1;have h4:=KK ak;rw[h1] at h4;simp[Array.getElem?_append,ak];exact(Option.some.inj h4).symm
     rw[h3];exact h2
   have hm:Zqc Γ h.length:=by
    refine⟨aa.names,fun k hk=>?_⟩;have hl:lkp (VR 0 h) k=some h[k]:=by rw[WG];simp[hk]
    have ho:=aa.objs k _ hl;cases hq:h[k] with
    | box cs=>rw[hq] at ho;obtain⟨b,cur,e,h1,_⟩:=ho;exact⟨_,h1⟩
    | row sz xs e z=>rw[hq] at ho;obtain⟨ad,n,c,h1,_⟩:=ho;exact⟨_,h1⟩
    | gone=>rw[hq] at ho;exact ho
    | tree sz ns xs lk=>rw[hq] at ho;obtain⟨ad,n,c,h1,_⟩:=ho;exact⟨_,h1⟩
   have hc:Ze9 Γ Γ (VR 0 h):=Qa.refl Γ;refine Zfb (F:=F) (A:=A) (Γ0:=Γ) hC hD aj c am hr hS hc hm fun a' w' hp=>?_;have al:(bnd (QF (Zp7 ab) rs) fun vs=>some (V2 h.length ab.hp (ZbT vs)))=some (res,hs)→a'.defers=[]∧∃ v,(results fn a'.tmps).run P w'=.ok v w'∧∃ v2 I' Γ',Ending.returned v=.returned v2∧Zzf F A I Γ w hs res I' Γ' v2 w':=by
    intro af;obtain⟨I',Γ',b1,b2,b3,b4,b5⟩:=hp;obtain⟨vs,ar,af⟩:=Za af;obtain⟨us,au,ai⟩:=ZgA b5 an ar;refine⟨b5.dfr,(if h:us.toArray.size=1 then us.toArray[0] else .tuple us.toArray),?_,_,I',ZbV ab.hp (Q6 ab.hp (XN ab.hp) (Zx (ZbT vs)++Wl ab.hp (List.range h.length)) (List.range h.length)) Γ',rfl,?_⟩
    ·unfold results;rw[Sem.run_bind,Array.mapM_eq_mapM_toList,Sem.run_map];exact congrArg (fun r:Result (List Value)=>(r.andThen fun a w'=>Result.ok a.toArray w').andThen fun a w'=>Sem.run P (pure (if h:a.size=1 then a[0] else Value.tuple a)) w') au
    ·have av:=(UA ab.hp (XN ab.hp) (Zx (ZbT vs)++Wl ab.hp (List.range h.length)) (List.range h.length) Kaq).1;obtain⟨t1,t2,t3⟩:=ZxB b5 av (ZgY b5 b1 hm);simp only[V2,Option.some.injEq,Prod.mk.injEq] at af;obtain⟨rfl,rfl⟩:=af;have aw:=ZsW (hp:=ab.hp) (hp':=ab.hp) (n:=XN ab.hp) (todo:=Zx (ZbT vs)++Wl ab.hp (List.range h.length)) (m:=h.length) b1 hm;exact { heads:=aw,keeps:=b2,sub:=b3,fr:=b4,res:=Zqe _ (Zyx ai),objs:=t1,inj:=t2,bound:=b5.bound,names:=fun id ah=>t3 id (by simpa [ZcR] using ah) }
   cases ex with
   | normal=>exact al (by simpa [Zdx] using hv)
   | ret=>exact al (by simpa [Zdx] using hv)
   | exit id=>simp[Zdx] at hv
 ·cases hv
end
end Go.Abs
namespace Go.Abs
open Go
theorem Zef {C:Orc} {M:Zq} {nx i:Nat} {t:Bool} {o:COp} {sl:Sl} {hp:Hp} {ce:Ze} (h:VQ C M nx i t o sl hp=some ce):vop C M sl hp (nx+64*i) o=some ce:=by
 unfold VQ at h;split at h
 ·exact h
 ·unfold ZbR at h;obtain⟨c,h1,h⟩:=Za h;unfold Ze4 at h;split at h
  ·cases h;exact h1
  ·cases h
structure Zh8 (P:Program) (X:Fns) (M:Zq):Prop where
 text:∀ f cf,X f=some (.text cf)→∃ fn,P.funcs[f]?=some fn∧(fn.name == "runtime.NumGoroutine")=false∧ZxA P fn=some (ZjN cf)
 prim:∀ f p,X f=some (.prim p)→∀ as1 h r hs,p as1 h=some (r,hs)→Zo7 P f as1 h r hs
theorem ZeK {P:Program} {X:Fns} {M:Zq} (hX:Zh8 P X M) (hD:∀ C nt,QJ P C→Wm P C M nt):∀ n,QJ P (Qj X M n)
 | 0=>fun f as1 h r hs hv=>by simp only[Qj] at hv;cases hv
 | n+1=>fun f as1 h r hs hv=>by
  simp only[Qj] at hv;have hC:=ZeK hX hD n;cases hf:X f with
  | none=>rw[hf] at hv;simp only[Zmn] at hv;cases hv
  | some g=>
   rw[hf] at hv;cases g with
   | text cf=>
    simp only[Zmn] at hv;obtain⟨fn,h1,h2,h3⟩:=hX.text f cf hf;exact Zxa hC h1 h2 h3 (hD _ _ hC) hv
   | prim p=>simp only[Zmn] at hv;exact hX.prim f p hf as1 h r hs hv
theorem Zns {P:Program} {X:Fns} {M:Zq} (hX:Zh8 P X M) (hD:∀ C nt,QJ P C→Wm P C M nt):QJ P (Zd X M):=fun f as1 h r hs hv=>by
 obtain⟨n,hn⟩:=ZgW hv;exact ZeK hX hD n f as1 h r hs hn
end Go.Abs
namespace Go.Abs
open Go
theorem Zyy {v:AV} (h:okC v=true):okV v=true:=by
 cases v<;>first | exact h | cases h
theorem Zma {g:List Nat} {v:AV} (h:okC (Qb g v)=true):Qb g v=v:=by
 cases v<;>simp only[Qb] at h ⊢ <;> first | rfl | (split at h<;>rename_i h' <;> first | (cases h;done) | rw[Ke h'])
theorem ZjC {g:List Nat}:∀ {cs:List AV},Zur (cs.map (Qb g))=true→cs.map (Qb g)=cs
 | [],_=>rfl
 | c :: cs,h=>by
  simp only[Kk,Zur,Kf] at h ⊢;rw[Zma h.1,ZjC h.2]
theorem Zeg {g:List Nat} {v:AV} (h:okV (ZS g v)=true):ZS g v=v:=by
 cases v with
 | agg cs=>simp only[ZS,okV] at h ⊢;rw[ZjC h]
 | clo f cs=>simp only[ZS,okV,okC] at h;cases h
 | tup vs=>rfl
 | _=>
  simp only[ZS] at h ⊢;refine Zma ?_;revert h;simp only[Qb]
  first | exact id | (split<;>first | exact id | (intro h;cases h))
theorem Zbz {g:List Nat} {v:AV} (h:okV (kill g v)=true):kill g v=v:=by
 cases v with
 | tup vs=>
  cases vs with
  | nil=>rfl
  | cons x r=>simp only[kill,Kk,okV,okC] at h;cases h
 | _=>simp only[kill] at h ⊢;exact Zeg h
theorem Zvr {g:List Nat} {v:AV} (hn:∀ id∈Zn v,id∉g):Qb g v=v:=by
 cases v<;>simp only[Qb]<;>first | rfl | (rw[Ke];simpa [Zn] using hn)
theorem Zyz {g:List Nat} {v:AV} (h:okV v=true) (hn:∀ id∈Zx v,id∉g):kill g v=v:=by
 cases v with
 | tup vs=>
  cases vs with
  | nil=>rfl
  | cons x r=>simp only[okV,okC] at h;cases h
 | clo f cs=>simp only[okV,okC] at h;cases h
 | agg cs=>
  simp only[kill,ZS];congr 1
  rw[KV (g:=id),LH];intro c hc;exact Zvr fun id aa=>hn id (by simp only[Zx,ZA,Kz];exact⟨c,hc,aa⟩)
 | _=>simp only[kill,ZS];exact Zvr hn
theorem ZAX {g:List Nat} {v:AV} (h:kill g v=v):∀ id∈Zx v,id∉g:=fun id aa=>(Zso g v id (by rw[h];exact aa)).2
theorem Zzx {g:List Nat} {c:AV} (h:okC c=true) (h1:Qb g c=c):ZS g c=c:=by
 cases c<;>simp only[ZS]<;>first | exact h1 | cases h
def ZaR (g:List Nat):Option Zk→Option Zk→Prop
 | none,none=>True
 | some (.row s xs _ _),some (.row s' xs' _ _)=>s'=s∧xs'=xs
 | some (.box cs),some (.box cs')=>cs'=cs.map (ZS g)
 | some (.tree s n xs l),some (.tree s' n' xs' l')=>s'=s∧n'=n∧xs'=xs∧l'=VY g l
 | some .gone,some .gone=>True
 | _,_=>False
theorem Zvs {g:List Nat} {b:Bool} (o:Option Zk):ZaR g o ((o.map (Xp g)).map fun o=>if b then Y5 o else o):=by
 cases o with
 | none=>trivial
 | some o=>cases o<;>cases b<;>exact(by first | exact⟨rfl,rfl⟩ | exact rfl | exact⟨rfl,rfl,rfl,rfl⟩ | exact trivial)
theorem ZsC {g:List Nat}:∀ {l:List AV} {ds:List D},ZeP l=some ds→l.map (ZS g)=l
 | [],ds,_=>rfl
 | v :: l,ds,h=>by
  simp only[ZeP] at h;obtain⟨x,h1,h⟩:=Za h;obtain⟨aa,h2,h⟩:=Za h;have:ZS g v=v:=by cases v<;>first | rfl | cases h1
  rw[Kk,this,ZsC h2]
theorem Zpz {g:List Nat}:∀ {l:List AV} {ds:List D},ZeP (l.map (ZS g))=some ds→l.map (ZS g)=l
 | [],ds,_=>rfl
 | v :: l,ds,h=>by
  simp only[Kk,ZeP] at h;obtain⟨x,h1,h⟩:=Za h;obtain⟨aa,h2,h⟩:=Za h;have hv:ZS g v=v:=by
   refine Zeg ?_;cases hk:ZS g v<;>rw[hk] at h1<;>first | rfl | cases h1
  rw[Kk,hv,Zpz h2]
theorem ZgB (l:List AV):(∃ ds,ZeP l=some ds∧UG l=.d (.agg ds))∨(ZeP l=none∧(UG l=.junk∨UG l=.agg l)):=by
 unfold UG;cases h:ZeP l with
 | some ds=>exact .inl ⟨ds,rfl,rfl⟩
 | none=>
  refine .inr ⟨rfl,?_⟩;unfold W1;split
  ·rename_i h;cases h
  ·split
   ·exact .inl rfl
   ·exact .inr rfl
theorem Zkp:∀ {l:List AV},Zur l=true→∀ c∈l,okC c=true
 | [],_,c,hc=>by simp at hc
 | x :: l,h,c,hc=>by
  simp only[Zur,Kf] at h;rcases Kd.1 hc with rfl | hc
  ·exact h.1
  ·exact Zkp h.2 c hc
theorem Zzy {g:List Nat} {l:List AV} (h:okV (UG l)=true) (hk:kill g (UG l)=UG l):l.map (ZS g)=l:=by
 rcases ZgB l with ⟨ds,h1,h2⟩ | ⟨h1,h2 | h2⟩
 ·exact ZsC h1
 ·rw[h2] at h;cases h
 ·rw[h2] at h hk;simp only[kill,ZS,AV.agg.injEq] at hk;simp only[okV] at h;have hm:=Zkp h;have aa : ∀ c∈l,Qb g c=c:=by
   intro c hc;have:=ZjC (g:=g) (cs:=l) (by rw[hk];exact h);exact Zma (by
    have h3:Qb g c∈l.map (Qb g):=Kat hc;rw[hk] at h3;exact hm _ h3)
  rw[KV (g:=id),LH];intro c hc;exact Zzx (hm c hc) (aa c hc)
theorem Zzz {g:List Nat} {l:List AV} (h:okV (UG (l.map (ZS g)))=true):l.map (ZS g)=l:=by
 rcases ZgB (l.map (ZS g)) with ⟨ds,h1,h2⟩ | ⟨h1,h2 | h2⟩
 ·exact Zpz h1
 ·rw[h2] at h;cases h
 ·rw[h2] at h;simp only[okV] at h;have hm:=Zkp h;rw[KV (g:=id),LH];intro c hc;exact Zeg (Zyy (hm _ (Kat hc)))
theorem Zxb {g:List Nat} {v:AV} (h:okV v=true) (hk:kill g v=v):ZS g v=v:=by
 cases v with
 | tup vs=>rfl
 | _=>simp only[kill] at hk;exact hk
theorem Zxc {g:List Nat} {v:AV} (h:okV v=true) (hk:ZS g v=v):kill g v=v:=by
 cases v with
 | tup vs=>
  cases vs with
  | nil=>rfl
  | cons x r=>simp only[okV,okC] at h;cases h
 | _=>simp only[kill];exact hk
theorem ZiO {α β:Type} (f:α→β) (l:List α) (a b:Nat):((l.map f).drop a).take b=((l.drop a).take b).map f:=by
 rw[← List.map_drop,← List.map_take]
theorem Znt (g:List Nat) (c:AV):Zkz (ZS g c)=ZS g (Zkz c):=by
 have aa:∀ v:AV,(∀ a b,v≠.bbuf a b)→Zkz v=v:=fun v h'=>by cases v<;>first | rfl | exact absurd rfl (h' _ _)
 by_cases h' : ∃ a b,c=.bbuf a b
 ·obtain⟨a,b,rfl⟩:=h';rfl
 ·have h2:∀ a b,c≠.bbuf a b:=fun a b e=>h' ⟨a,b,e⟩;rw[aa c h2,aa];exact fun a b e=>h2 a b ((Uh g c a b).1 e)
theorem Zvt {g:List Nat} {cs:List AV} {a:Bool} {s off:Nat} {v:AV} (h:J3 a s off (some (.box cs))=some v) (ho:okV v=true) (hk:kill g v=v):J3 a s off (some (.box (cs.map (ZS g))))=some v:=by
 unfold J3 at h ⊢;cases a with
 | true=>
  simp only[Kl] at h ⊢;split at h
  ·rename_i hl;cases h;rw[Kj (by simpa using hl),ZiO,Zzy ho hk]
  ·cases h
 | false=>
  simp only[Ka,Km] at h ⊢;obtain⟨c,hc,rfl⟩:=Option.map_eq_some_iff.1 h;rw[Ld,hc];simp only[K4];rw[Znt,Zxb ho hk]
theorem Zvu {g:List Nat} {cs:List AV} {a:Bool} {s off:Nat} {v:AV} (h:J3 a s off (some (.box (cs.map (ZS g))))=some v) (ho:okV v=true):J3 a s off (some (.box cs))=some v∧kill g v=v:=by
 unfold J3 at h ⊢;cases a with
 | true=>
  simp only[Kl] at h ⊢;split at h
  ·rename_i hl;cases h;rw[ZiO] at ho ⊢;have he:=Zzz ho;rw[he] at ho ⊢;refine⟨by rw[Kj (by simpa using hl)],?_⟩;rcases ZgB ((cs.drop off).take s) with ⟨ds,h1,h2⟩ | ⟨h1,h2 | h2⟩
   ·rw[h2];rfl
   ·rw[h2] at ho;cases ho
   ·rw[h2] at ho ⊢;simp only[okV] at ho;have hm:=Zkp ho;simp only[kill,ZS,AV.agg.injEq];rw[KV (g:=id),LH];intro c hc;have h3:ZS g c=c:=by
     refine Zeg ?_;have h4:ZS g c∈((cs.drop off).take s).map (ZS g):=Kat hc;rw[he] at h4;exact Zyy (hm _ h4)
    have:=hm c hc;cases c<;>first | exact h3 | cases this
  ·cases h
 | false=>
  simp only[Ka,Km] at h ⊢;rw[Ld] at h;cases hc:cs[off]? with
  | none=>rw[hc] at h;cases h
  | some c=>
   rw[hc] at h;simp only[K4,Option.some.injEq] at h;rw[Znt] at h;have h3:ZS g (Zkz c)=Zkz c:=Zeg (by rw[h];exact ho);rw[h3] at h;subst h;exact⟨rfl,Zxc ho h3⟩
theorem Zaj {g:List Nat} {o o' : Option Zk} (h:ZaR g o o'):(∃ s xs e f e' f',o=some (.row s xs e f)∧o'=some (.row s xs e' f'))∨(o=none∧o'=none)∨(∃ cs,o=some (.box cs)∧o'=some (.box (cs.map (ZS g))))∨(o=some .gone∧o'=some .gone)∨(∃ s n xs l,o=some (.tree s n xs l)∧o'=some (.tree s n xs (VY g l))):=by
 cases o with
 | none=>cases o' with
  | none=>exact .inr (.inl ⟨rfl,rfl⟩)
  | some o'=>cases h
 | some o=>cases o' with
  | none=>cases o<;>cases h
  | some o' =>
   cases o with
   | box cs=>cases o' with
    | box cs'=>simp only[ZaR] at h;subst h;exact .inr (.inr (.inl ⟨cs,rfl,rfl⟩))
    | row _ _ _ _=>cases h
    | gone=>cases h
    | tree _ _ _ _=>cases h
   | row s xs e f=>cases o' with
    | box cs'=>cases h
    | row s' xs' e' f'=>simp only[ZaR] at h;obtain⟨rfl,rfl⟩:=h;exact .inl ⟨_,_,_,_,_,_,rfl,rfl⟩
    | gone=>cases h
    | tree _ _ _ _=>cases h
   | gone=>cases o' with
    | box cs'=>cases h
    | row _ _ _ _=>cases h
    | gone=>exact .inr (.inr (.inr (.inl ⟨rfl,rfl⟩)))
    | tree _ _ _ _=>cases h
   | tree s n xs l=>cases o' with
    | box cs'=>cases h
    | row _ _ _ _=>cases h
    | gone=>cases h
    | tree s' n' xs' l'=>simp only[ZaR] at h;obtain⟨rfl,rfl,rfl,rfl⟩:=h;exact .inr (.inr (.inr (.inr ⟨_,_,_,_,rfl,rfl⟩)))
section
variable {g:List Nat} {o o' : Option Zk}
theorem Zuc (h:ZaR g o o') (sz id n:Nat):ZcW sz id n o'=ZcW sz id n o:=by
 rcases Zaj h with ⟨s,xs,e,f,e',f',rfl,rfl⟩ | ⟨rfl,rfl⟩ | ⟨cs,rfl,rfl⟩ | ⟨rfl,rfl⟩ | ⟨s,n,xs,l,rfl,rfl⟩<;>rfl
theorem ZrN (h:ZaR g o o') (sz id off m n:Nat):ZbH sz id off m n o'=ZbH sz id off m n o:=by
 rcases Zaj h with ⟨s,xs,e,f,e',f',rfl,rfl⟩ | ⟨rfl,rfl⟩ | ⟨cs,rfl,rfl⟩ | ⟨rfl,rfl⟩ | ⟨s,n,xs,l,rfl,rfl⟩<;>rfl
theorem ZrO (h:ZaR g o o') (s id:Nat) (lo hi:Option AV):ZbI s id lo hi o'=ZbI s id lo hi o:=by
 rcases Zaj h with ⟨s,xs,e,f,e',f',rfl,rfl⟩ | ⟨rfl,rfl⟩ | ⟨cs,rfl,rfl⟩ | ⟨rfl,rfl⟩ | ⟨s,n,xs,l,rfl,rfl⟩<;>rfl
theorem ZpA (h:ZaR g o o') (s id off n:Nat) (lo hi:Option AV):JG s id off n lo hi o'=JG s id off n lo hi o:=by
 rcases Zaj h with ⟨s,xs,e,f,e',f',rfl,rfl⟩ | ⟨rfl,rfl⟩ | ⟨cs,rfl,rfl⟩ | ⟨rfl,rfl⟩ | ⟨s,n,xs,l,rfl,rfl⟩<;>rfl
theorem Zud {i off:Nat} {l:Option (Option Nat×Nat×Nat)} {x:D} {v:AV} (h:UK i off l x=some v) (hk:kill g v=v):UK i off (VY g l) x=some v:=by
 unfold UK at h ⊢;split at h
 ·unfold ZnC at h;split at h
  ·rename_i nm i' c;split at h
   ·rename_i hc;cases h;have:g.contains nm=false:=by
     cases hg:g.contains nm with
     | false=>rfl
     | true=>simp only[kill,ZS,Qb,hg,Kl] at hk;cases hk
    simp only[VY,this,Ka,Km,ZnC,hc,and_self,Kl]
   ·cases h
  ·cases h
 ·exact h
 ·cases h
theorem Zue {i off:Nat} {l:Option (Option Nat×Nat×Nat)} {x:D} {v:AV} (h:UK i off (VY g l) x=some v):UK i off l x=some v∧kill g v=v:=by
 unfold UK at h ⊢;split at h
 ·unfold ZnC at h;split at h
  ·rename_i nm i' c hl;split at h
   ·rename_i hc;cases h;unfold VY at hl;split at hl
    ·rename_i ab q;split at hl
     ·cases hl
     ·rename_i hg;cases hl;simp only[Lz] at hg;exact⟨by simp only[ZnC,hc,and_self,Kl],by simp only[kill,ZS,Qb,hg,Ka,Km]⟩
    ·rename_i aa;subst hl;exact absurd rfl (aa _ _)
   ·cases h
  ·cases h
 ·split at h
  ·rename_i hp;cases h;exact⟨by rw[Kj hp],rfl⟩
  ·cases h
 ·cases h
theorem Zkq {id:Nat} (h:ZaR g o o') {a:Bool} {s sz i off:Nat} {v:AV}:(UM id a s sz i off o=some v→kill g v=v→UM id a s sz i off o'=some v)∧(UM id a s sz i off o'=some v→UM id a s sz i off o=some v∧kill g v=v):=by
 have aa:∀ {cs:List D},ZbF a s off cs=some v→∃ d,v=.d d:=by
  intro cs h;unfold ZbF at h;split at h
  ·split at h
   ·cases h;exact⟨_,rfl⟩
   ·cases h
  ·unfold asD at h;obtain⟨y,_,h⟩:=Za h;cases h;exact⟨_,rfl⟩
 rcases Zaj h with ⟨s,xs,e,f,e',f',rfl,rfl⟩ | ⟨rfl,rfl⟩ | ⟨cs,rfl,rfl⟩ | ⟨rfl,rfl⟩ | ⟨s,n,xs,l,rfl,rfl⟩
 ·refine⟨fun h _=>h,fun h=>⟨h,?_⟩⟩;simp only[UM] at h;split at h
  ·obtain⟨x,_,h⟩:=Za h;unfold ZkA at h;split at h
   ·obtain⟨d,rfl⟩:=aa h;rfl
   ·cases h
  ·cases h
 ·exact⟨fun h _=>(by cases h),fun h=>(by cases h)⟩
 ·exact⟨fun h _=>(by cases h),fun h=>(by cases h)⟩
 ·exact⟨fun h _=>(by cases h),fun h=>(by cases h)⟩
 ·simp only[UM];split
  ·split
   ·exact⟨fun h _=>(by cases h),fun h=>(by cases h)⟩
   ·constructor
    ·intro hh hk;obtain⟨x,h1,hh⟩:=Za hh;rw[h1,Zg];exact Zud hh hk
    ·intro hh;obtain⟨x,h1,hh⟩:=Za hh;rw[h1,Zg];exact Zue hh
  ·exact⟨fun h _=>(by cases h),fun h=>(by cases h)⟩
end
section
variable {hp hp' : Hp} {g:List Nat}
def Zkr (g:List Nat) (hp hp' : Hp) (v:AV):Prop:=∀ k∈Zx v,ZaR g (lkp hp k) (lkp hp' k)
theorem ZAY {o o' : Option Zk} (h:ZaR g o o'):ZpN o'=ZpN o:=by
 rcases Zaj h with ⟨s,xs,e,f,e',f',rfl,rfl⟩ | ⟨rfl,rfl⟩ | ⟨cs,rfl,rfl⟩ | ⟨rfl,rfl⟩ | ⟨s,n,xs,l,rfl,rfl⟩<;>rfl
theorem Zeh {v:AV} (h:Zkr g hp hp' v):Zdq hp' v=Zdq hp v:=by
 cases v<;>simp only[Zdq]
 case d x=>cases x<;>rfl
 case own id=>rw[ZAY (h id (by simp[Zx,ZA,Zn]))]
theorem Zay {v:AV} (h:Zkr g hp hp' v) (sz n:Nat):QG hp' sz n v=QG hp sz n v:=by
 cases v<;>simp only[QG]
 case d x=>cases x<;>rfl
 case own id=>rw[Zuc (h id (by simp[Zx,ZA,Zn]))]
 case ownv id off n=>rw[ZrN (h id (by simp[Zx,ZA,Zn]))]
theorem ZgC {v:AV} (h:Zkr g hp hp' v) (s:Nat) (lo hi:Option AV):Vy hp' s lo hi v=Vy hp s lo hi v:=by
 cases v<;>simp only[Vy]
 case d x=>cases x<;>rfl
 case own id=>rw[ZrO (h id (by simp[Zx,ZA,Zn]))]
 case ownv id off n=>rw[ZpA (h id (by simp[Zx,ZA,Zn]))]
theorem ZzA {x v:AV} (hs:Zkr g hp hp' x) {a:Bool} {s:Nat} (h:WJ hp a s x=some v) (ho:okV v=true) (hk:kill g v=v):WJ hp' a s x=some v:=by
 cases x<;>simp only[WJ] at h ⊢ <;> first | (cases h;done) | skip
 case ptr id off=>
  rcases Zaj (hs id (by simp[Zx,ZA,Zn])) with ⟨_,_,_,_,_,_,e1,e2⟩ | ⟨e1,e2⟩ | ⟨cs,e1,e2⟩ | ⟨e1,e2⟩ | ⟨_,_,_,_,e1,e2⟩
  ·rw[e1] at h;cases h
  ·rw[e1] at h;cases h
  ·rw[e1] at h;rw[e2];exact Zvt h ho hk
  ·rw[e1] at h;cases h
  ·rw[e1] at h;cases h
 case prow id sz i off=>exact(Zkq (hs id (by simp[Zx,ZA,Zn]))).1 h hk
 case pim cs=>exact h
theorem ZAZ {a:Bool} {s off:Nat} {cs:List D} {v:AV} (h:ZbF a s off cs=some v):∃ d,v=.d d:=by
 unfold ZbF at h;split at h
 ·split at h
  ·cases h;exact⟨_,rfl⟩
  ·cases h
 ·unfold asD at h;obtain⟨y,_,h⟩:=Za h;cases h;exact⟨_,rfl⟩
theorem ZzB {x v:AV} (hs:Zkr g hp hp' x) {a:Bool} {s:Nat} (h:WJ hp' a s x=some v) (ho:okV v=true):WJ hp a s x=some v∧kill g v=v:=by
 cases x<;>simp only[WJ] at h ⊢ <;> first | (cases h;done) | skip
 case ptr id off=>
  rcases Zaj (hs id (by simp[Zx,ZA,Zn])) with ⟨_,_,_,_,_,_,e1,e2⟩ | ⟨e1,e2⟩ | ⟨cs,e1,e2⟩ | ⟨e1,e2⟩ | ⟨_,_,_,_,e1,e2⟩
  ·rw[e2] at h;cases h
  ·rw[e2] at h;cases h
  ·rw[e2] at h;rw[e1];exact Zvu h ho
  ·rw[e2] at h;cases h
  ·rw[e2] at h;cases h
 case prow id sz i off=>
  exact(Zkq (hs id (by simp[Zx,ZA,Zn]))).2 h
 case pim cs=>
  obtain⟨d,rfl⟩:=ZAZ h;exact⟨h,rfl⟩
theorem Znu {x:AV} {d:D} {e:Bool} (h:ZaV hp x=some (d,e,[])) (hp' : Hp):ZaV hp' x=some (d,e,[]):=by
 cases x<;>simp only[ZaV] at h ⊢ <;> first | exact h | skip
 case own id=>obtain⟨q,_,h⟩:=Za h;simp at h
theorem Znv:∀ {xs:List AV} {d:List D} {e:Bool},VG hp xs=some (d,e,[])→∀ hp' : Hp,VG hp' xs=some (d,e,[])
 | [],d,e,h,hp'=>h
 | x :: xs,d,e,h,hp'=>by
  simp only[VG] at h ⊢;obtain⟨⟨d1,e1,l1⟩,h1,h⟩:=Za h;obtain⟨⟨d2,e2,l2⟩,h2,h⟩:=Za h;have hl:l1=[]∧l2=[]:=by
   simp only at h;split at h
   ·simp only[Option.some.injEq,Prod.mk.injEq,Kac] at h;exact h.2.2
   ·cases h
  obtain⟨rfl,rfl⟩:=hl;rw[Znu h1 hp',Zg,Znv h2 hp',Zg];exact h
theorem Zxd {x:AV} {d:D} {e:Bool} (h:give hp x=some (d,e,[])) (hp' : Hp):give hp' x=some (d,e,[]):=by
 cases x<;>simp only[give] at h ⊢ <;> first | exact Znu h hp' | skip
 case agg cs=>
  obtain⟨⟨d1,e1,l1⟩,h1,h⟩:=Za h;simp only[Option.some.injEq,Prod.mk.injEq] at h;obtain⟨rfl,rfl,rfl⟩:=h;rw[Znv h1 hp',Zg]
theorem ZiP:∀ {xs:List AV} {d:List D} {e:Bool},Wk hp xs=some (d,e,[])→∀ hp' : Hp,Wk hp' xs=some (d,e,[])
 | [],d,e,h,hp'=>h
 | x :: xs,d,e,h,hp'=>by
  simp only[Wk] at h ⊢;obtain⟨⟨d1,e1,l1⟩,h1,h⟩:=Za h;obtain⟨⟨d2,e2,l2⟩,h2,h⟩:=Za h;have hl:l1=[]∧l2=[]:=by
   simp only at h;split at h
   ·simp only[Option.some.injEq,Prod.mk.injEq,Kac] at h;exact h.2.2
   ·cases h
  obtain⟨rfl,rfl⟩:=hl;rw[Zxd h1 hp',Zg,ZiP h2 hp',Zg];exact h
theorem ZiQ {base s:Nat} {vs:List AV} {ce:Ze} (h:buildSl hp base s vs=some ce) (hf:ce.eff.frz=[]) (hp' : Hp) :
  buildSl hp' base s vs=some ce∧(ce.eff.val=.nil∨ce.eff.val=.own base)∧(∀ k o,(k,o)∈ce.eff.adds→∃ sz xs e f,o=.row sz xs e f):=by
 cases vs with
 | nil=>simp only[buildSl,Qp] at h ⊢;cases h;exact⟨rfl,.inl rfl,fun k o h=>by simp at h⟩
 | cons v vs=>
  simp only[buildSl] at h ⊢;obtain⟨⟨ds,e,l⟩,h1,h⟩:=Za h;unfold ZzR at h;split at h
  ·rename_i hc;cases h;simp only at hf;subst hf;rw[ZiP h1 hp',Zg];refine⟨?_,.inr rfl,fun k o ho=>?_⟩
   ·unfold ZzR;rw[Kj hc]
   ·simp at ho;obtain⟨rfl,rfl⟩:=ho;exact⟨_,_,_,_,rfl⟩
  ·cases h
end
theorem Zks {C:Orc} {M:Zq} {sl:Sl} {hp hp' : Hp} {base:Nat} {c:COp} (hc:V1 c=true):vop C M sl hp base c=vop C M sl hp' base c:=by
 cases c<;>first | rfl | (simp[V1] at hc)
section
variable {C:Orc} {M:Zq} {sl sl' : Sl} {hp hp' : Hp} {base:Nat} {g:List Nat}
theorem Z7 {v:AV} {ce:Ze} (h:Qp v=some ce):ce.eff.adds=[]:=by cases h;rfl
theorem QO {v:Option AV} {ce:Ze} (h:VO v=some ce):ce.eff.adds=[]:=by obtain⟨v,_,h⟩:=Za h;exact Z7 h
theorem Zak {v:Option AV} {ce:Ze} (h:VO v=some ce):v=some ce.eff.val:=by obtain⟨v,rfl,h⟩:=Za h;cases h;rfl
theorem ZyA {v:Option AV} {ce:Ze} {w:Option AV} (h:VO v=some ce) (hw:w=some ce.eff.val):VO w=some ce:=by
 obtain⟨v,rfl,h⟩:=Za h;cases h;rw[hw];rfl
theorem Zxe {c:COp} (hc:V1 c=true) (hv:Zxo c=true) {ce:Ze} (h:vop C M sl hp base c=some ce):ce.eff.adds=[]:=by
 cases c<;>simp only[V1,Zxo,Ka] at hc hv<;>simp only[vop] at h
 case stuck=>cases h
 case move x=>exact Z7 h
 case pick c a b=>
  unfold ZgO at h;split at h
  ·split at h<;>exact Z7 h
  ·cases h
 case build zs ps=>obtain⟨cs,_,h⟩:=Za h;exact Z7 h
 case nilCheck x=>unfold JH at h;split at h<;>first | exact Z7 h | cases h
 case bin op eq x y=>
  unfold ZgQ at h;split at h
  ·split at h
   ·exact QO h
   ·cases h
  ·exact QO h
 case un op x=>exact QO h
 case eqA neg n x y=>
  unfold Zum at h;split at h
  ·obtain⟨r,_,h⟩:=Za h;exact Z7 h
  ·cases h
 case convI k x=>unfold Go.Abs.convI at h;split at h<;>first | exact Z7 h | cases h
 case convS x=>unfold Go.Abs.convS at h;split at h<;>first | exact Z7 h | cases h
 case sliceS x lo hi=>exact QO h
 case shift off x=>unfold V0 at h;split at h<;>first | exact Z7 h | cases h
 case part g s off x=>exact QO h
 case iaA len s x i=>
  obtain⟨n,_,h⟩:=Za h;unfold ZpU at h;split at h
  ·unfold V0 at h;split at h<;>first | exact Z7 h | cases h
  ·cases h
 case ixS x i=>
  obtain⟨n,_,h⟩:=Za h;unfold Zxk at h;split at h
  ·unfold ZvJ at h;split at h
   ·obtain⟨b,_,h⟩:=Za h;exact Z7 h
   ·cases h
  ·cases h
 case ixA g s len x i=>
  obtain⟨n,_,h⟩:=Za h;unfold ZzS at h;split at h
  ·exact QO h
  ·cases h
 case nth i x=>unfold ZvK at h;split at h<;>first | exact QO h | cases h
 case lenS x=>obtain⟨n,_,h⟩:=Za h;exact Z7 h
 case min x y=>unfold ZnD at h;split at h<;>first | (split at h<;>first | exact Z7 h | cases h) | cases h
 case max x y=>unfold ZnE at h;split at h<;>first | (split at h<;>first | exact Z7 h | cases h) | cases h
theorem Znw {c:AV} (h:Zdv c=true):ZS g c=c:=by cases c<;>first | rfl | cases h
theorem ZeL:∀ {cs:List AV},Vg cs=true→∀ c∈cs,Zdv c=true
 | [],_,c,hc=>by simp at hc
 | x :: l,h,c,hc=>by
  simp only[Vg,Kf] at h;rcases Kd.1 hc with rfl | hc
  ·exact h.1
  ·exact ZeL h.2 c hc
theorem Zmb:∀ (slc:List (Option Nat)) (cs:List AV) (b:Nat),(∀ c∈(mat slc cs b).1,c∈cs∨∃ k o,c=.own k∧(k,o)∈(mat slc cs b).2)∧∀ k o,(k,o)∈(mat slc cs b).2→∃ sz,o=.row sz [] true false
 | [],cs,b=>by simp only[mat];exact⟨fun c hc=>.inl hc,fun k o h=>by simp at h⟩
 | t :: ts,[],b=>by cases t<;>(simp only[mat];exact⟨fun c hc=>.inl hc,fun k o h=>by simp at h⟩)
 | t :: ts,v :: vs,b=>by
  by_cases hv:(∃ sz,t=some sz)∧v=.nil
  ·obtain⟨⟨sz,rfl⟩,rfl⟩:=hv;obtain⟨h1,h2⟩:=Zmb ts vs (b+1);simp only[mat];refine⟨fun c hc=>?_,fun k o h=>?_⟩
   ·rcases Kd.1 hc with rfl | hc
    ·exact .inr ⟨b,_,rfl,Lh ..⟩
    ·rcases h1 c hc with h | ⟨k,o,e,h⟩
     ·exact .inl (Kv _ h)
     ·exact .inr ⟨k,o,e,Kv _ h⟩
   ·rcases Kd.1 h with h | h
    ·cases h;exact⟨_,rfl⟩
    ·exact h2 k o h
  ·obtain⟨h1,h2⟩:=Zmb ts vs b;have e:mat (t :: ts) (v :: vs) b=(v :: (mat ts vs b).1,(mat ts vs b).2):=by
    cases t with
    | none=>simp[mat]
    | some sz=>cases v<;>first | (exact absurd ⟨⟨sz,rfl⟩,rfl⟩ hv) | simp[mat]
   rw[e];refine⟨fun c hc=>?_,h2⟩;rcases Kd.1 hc with rfl | hc
   ·exact .inl (Lh ..)
   ·rcases h1 c hc with h | h
    ·exact .inl (Kv _ h)
    ·exact .inr h
theorem ZsD {base:Nat}:∀ {cs:List AV},Vg cs=true→cs.map (ZjI base)=cs
 | [],_=>rfl
 | c :: cs,h=>by
  simp only[Vg,Kf] at h;rw[Kk,ZsD h.2];congr 1
  cases c<;>first | rfl | (simp[Zdv] at h)
theorem ZsE:∀ {cs:List AV},Vg cs=true→XK cs=true
 | [],_=>rfl
 | c :: cs,h=>by
  simp only[Vg,Kf] at h;have:=ZsE h.2;cases c<;>first | exact this | (simp[Zdv] at h)
theorem Znx {slc:List (Option Nat)} {cs:List AV} {ce:Ze} (hb:∀ k,base≤k→k<base+64→k∉g) (hc:Vg cs=true) (h:ZgP slc base cs=some ce) (ad:QX base (base+64) ce.eff.adds=true) :
  (∀ id∈Zx ce.eff.val,id∉g)∧∀ k o,(k,o)∈ce.eff.adds→Xp g o=o:=by
 have hr:=Uu ad;unfold ZgP at h;rw[ZsD hc] at h;unfold ZpR at h;rw[Ke (by rw[ZsE hc];decide)] at h;split at h
 ·cases h;simp only at hr ⊢;obtain⟨h1,h2⟩:=Zmb slc cs (base+1);refine⟨fun id aa=>?_,fun k o hm=>?_⟩
  ·simp[Zx,ZA,Zn] at aa;subst aa;exact hb _ (Kp _) o_
  ·rcases Kd.1 hm with hm | hm
   ·cases hm;simp only[Xp];congr 1
    rw[KV (g:=id),LH];intro c ab;rcases h1 c ab with h | ⟨k,o,rfl,h⟩
    ·exact Znw (ZeL hc c h)
    ·have:=hr k o (Kv _ h);have hk:=hb k this.1 this.2;simp[ZS,Qb,hk]
   ·obtain⟨sz,rfl⟩:=h2 k o hm;rfl
 ·cases h;simp only at hr ⊢;refine⟨fun id aa=>?_,fun k o hm=>?_⟩
  ·simp[Zx,ZA,Zn] at aa;subst aa;exact hb _ (Kp _) o_
  ·simp at hm;obtain⟨rfl,rfl⟩:=hm;simp only[Xp];congr 1
   rw[KV (g:=id),LH];exact fun c ab=>Znw (ZeL hc c ab)
theorem ZzC {c:COp} (hc:Zp0 c=true) (he:∀ x∈ZF c,evO sl' x=evO sl x) (hs:∀ x∈ZF c,Zkr g hp hp' (evO sl x)) {ce:Ze}
  (hb:∀ k,base≤k→k<base+64→k∉g) (h:vop C M sl hp base c=some ce) (ab:QX base (base+64) ce.eff.adds=true) (ad:ce.eff.frz=[]) (ho:okV ce.eff.val=true) (hk:kill g ce.eff.val=ce.eff.val):vop C M sl' hp' base c=some ce∧∀ k o,(k,o)∈ce.eff.adds→Xp g o=o:=by
 rw[Xi C M hp' base he];have aa:ce.eff.adds=[]→∀ k o,(k,o)∈ce.eff.adds→Xp g o=o:=fun e k o hm=>by rw[e] at hm;simp at hm
 simp only[Zp0,Lt,Kf] at hc;rcases hc with ((hc | hc) | ⟨hc1,hc2⟩) | hc
 ·cases c<;>simp only[UR,Ka] at hc<;>simp only[vop] at h ⊢ <;> simp only[ZF] at hs
  case load a s x=>exact⟨ZyA h (ZzA (hs x (by simp)) (Zak h) ho hk),aa (QO h)⟩
  case slice s x lo hi=>
   rw[ZgC (hs x (by simp))];exact⟨h,aa (QO h)⟩
  case slice0 x hi mx=>
   unfold slice0 at h ⊢;rw[Zeh (hs x (by simp))];exact⟨h,aa (QO h)⟩
  case iaS s x i=>
   obtain⟨n,h1,h⟩:=Za h;rw[h1,Zg];unfold ZiV at h ⊢;rw[Zay (hs x (by simp))];refine⟨h,aa ?_⟩;split at h
   ·exact QO h
   ·cases h
  case len x=>
   rw[Zeh (hs x (by simp))];refine⟨h,aa ?_⟩;obtain⟨n,_,h⟩:=Za h;exact Z7 h
 ·cases c<;>simp only[ZsT,Ka] at hc
  simp only[vop] at h ⊢;obtain⟨h1,h2,h3⟩:=ZiQ h ad hp';refine⟨h1,fun k o hm=>?_⟩;obtain⟨sz,xs,e,f,rfl⟩:=h3 k o hm;rfl
 ·rw[← Zks (hp:=hp) hc1];exact⟨h,aa (Zxe hc1 hc2 h)⟩
 ·cases c<;>simp only[ZoU,Ka] at hc
  simp only[vop] at h ⊢;exact⟨h,(Znx hb hc h ab).2⟩
theorem Zxf {c:COp} (hc:ZkJ c=true) (he:∀ x∈ZF c,evO sl' x=evO sl x) (hs:∀ x∈ZF c,Zkr g hp hp' (evO sl x)) {ce:Ze}
  (hn:∀ x∈ZF c,∀ id∈Zx (evO sl x),id∉g) (hb:∀ k,base≤k→k<base+64→k∉g)
  (h:vop C M sl' hp' base c=some ce) (ad:QX base (base+64) ce.eff.adds=true) (ae:ce.eff.frz=[]) (ho:okV ce.eff.val=true):vop C M sl hp base c=some ce∧kill g ce.eff.val=ce.eff.val∧∀ k o,(k,o)∈ce.eff.adds→Xp g o=o:=by
 rw[Xi C M hp' base he] at h;have aa:ce.eff.adds=[]→∀ k o,(k,o)∈ce.eff.adds→Xp g o=o:=fun e k o hm=>by rw[e] at hm;simp at hm
 have names:(∀ id∈Zx ce.eff.val,id∉g)→kill g ce.eff.val=ce.eff.val:=Zyz ho;cases c<;>simp only[ZkJ,Ka] at hc<;>simp only[vop] at h ⊢ <;> simp only[ZF] at hs hn
 case alloc slc cs=>
  obtain⟨h1,h2⟩:=Znx hb hc h ad;exact⟨h,names h1,h2⟩
 case buildSl s xs=>
  obtain⟨h1,h2,h3⟩:=ZiQ h ae hp;refine⟨h1,names fun id ab=>?_,fun k o hm=>?_⟩
  ·rcases h2 with h2 | h2
   ·rw[h2] at ab;simp[Zx,ZA,Zn] at ab
   ·rw[h2] at ab;simp[Zx,ZA,Zn] at ab;subst ab;exact hb _ (Kp _) o_
  ·obtain⟨sz,xs,e,f,rfl⟩:=h3 k o hm;rfl
 case load a s x=>
  obtain⟨h1,h2⟩:=ZzB (hs x (by simp)) (Zak h) ho;exact⟨ZyA h h1,h2,aa (QO h)⟩
 case nilCheck x=>
  have hx:=hn x (by simp);refine⟨h,names ?_,aa ?_⟩
  ·unfold JH at h;split at h<;>rename_i hv<;>first | (cases h;done) | (cases h;show ∀ id∈Zx _,_;rw[← hv];exact hx)
  ·unfold JH at h;split at h<;>first | exact Z7 h | cases h
 case bin op eq x y=>
  have hd:∃ d,ce.eff.val=.d d:=by
   have o2:∀ {a b:AV},VO (vbin op a b)=some ce→∃ d,ce.eff.val=.d d:=fun {a b} h=>by
    have h1:=Zak h;unfold vbin at h1;split at h1
    ·unfold UJ at h1;split at h1
     ·obtain⟨y,_,h1⟩:=Za h1;exact⟨_,(Option.some.inj h1).symm⟩
     ·obtain⟨y,_,h1⟩:=Za h1;exact⟨_,(Option.some.inj h1).symm⟩
     ·split at h1
      ·obtain⟨y,_,h1⟩:=Za h1;have:=Option.some.inj h1;exact⟨_,this.symm⟩
      ·cases h1
    ·obtain⟨y,_,h1⟩:=Za h1;have:=Option.some.inj h1;exact⟨_,this.symm⟩
    ·cases h1
   unfold ZgQ at h;split at h
   ·split at h
    ·have h1:=Zak h;unfold ZsQ at h1;split at h1
     ·exact⟨_,(Option.some.inj h1).symm⟩
     ·exact⟨_,(Option.some.inj h1).symm⟩
     ·cases h1
    ·cases h
   ·exact o2 h
  obtain⟨d,hd⟩:=hd;refine⟨h,by rw[hd];rfl,aa ?_⟩;unfold ZgQ at h;split at h
  ·split at h
   ·exact QO h
   ·cases h
  ·exact QO h
 case un op x=>
  have hd:∃ d,ce.eff.val=.d d:=by
   have h1:=Zak h;unfold vun at h1;split at h1
   ·unfold neg1 at h1;split at h1
    ·exact⟨_,(Option.some.inj h1).symm⟩
    ·cases h1
   ·unfold not1 at h1;split at h1
    ·exact⟨_,(Option.some.inj h1).symm⟩
    ·cases h1
   ·cases h1
  obtain⟨d,hd⟩:=hd;exact⟨h,by rw[hd];rfl,aa (QO h)⟩
 case convI k x=>
  unfold Go.Abs.convI at h ⊢;split at h
  ·exact⟨h,by cases h;rfl,aa (Z7 h)⟩
  ·cases h
 case shift off x=>
  have hx:=hn x (by simp);refine⟨h,names ?_,aa ?_⟩
  ·unfold V0 at h;split at h<;>rename_i hv<;>first | (cases h;done) | skip
   ·cases h;rw[hv] at hx;simpa [Zx,ZA,Zn] using hx
   ·cases h;rw[hv] at hx;simpa [Zx,ZA,Zn] using hx
   ·cases h;simp[Zx,ZA,Zn]
  ·unfold V0 at h;split at h<;>first | exact Z7 h | cases h
 case slice s x lo hi=>
  have hx:=hn x (by simp);rw[ZgC (hs x (by simp))] at h;refine⟨h,names ?_,aa (QO h)⟩;have h1:=Zak h;cases hv:evO sl x<;>rw[hv] at h1 hx<;>simp only[Vy] at h1<;>first | (cases h1;done) | skip
  case d y=>
   cases y<;>simp only[Vy] at h1<;>first | (cases h1;done) | skip
   split at h1
   ·obtain⟨b,_,h1⟩:=Za h1;rw[← Option.some.inj h1];simp[Zx,ZA,Zn]
   ·cases h1
  case nil=>obtain⟨b,_,h1⟩:=Za h1;rw[← Option.some.inj h1];simp[Zx,ZA,Zn]
  case own id=>
   unfold ZbI at h1;split at h1
   ·split at h1
    ·unfold ZvH at h1;split at h1
     ·rw[← Option.some.inj h1];exact hx
     ·obtain⟨b,_,h1⟩:=Za h1;rw[← Option.some.inj h1];simpa [Zx,ZA,Zn] using hx
    ·cases h1
   ·cases h1
  case ownv id off n=>
   unfold JG at h1;split at h1
   ·split at h1
    ·obtain⟨b,_,h1⟩:=Za h1;rw[← Option.some.inj h1];simpa [Zx,ZA,Zn] using hx
    ·cases h1
   ·cases h1
 case sliceS x lo hi=>
  have hd:∃ d,ce.eff.val=.d d:=by
   have h1:=Zak h;unfold sliceS at h1;split at h1
   ·obtain⟨b,_,h1⟩:=Za h1;exact⟨_,(Option.some.inj h1).symm⟩
   ·cases h1
  obtain⟨d,hd⟩:=hd;exact⟨h,by rw[hd];rfl,aa (QO h)⟩
 case lenS x=>
  obtain⟨n,h1,h⟩:=Za h;refine⟨by rw[h1,Zg];exact h,by cases h;rfl,aa (Z7 h)⟩
 case iaS s x i=>
  have hx:=hn x (by simp);obtain⟨n,h1,h⟩:=Za h;rw[h1,Zg];unfold ZiV at h ⊢;rw[Zay (hs x (by simp))] at h;refine⟨h,names ?_,aa ?_⟩
  ·split at h
   ·have h1:=Zak h;cases hv:evO sl x<;>rw[hv] at h1 hx<;>simp only[QG] at h1<;>first | (cases h1;done) | skip
    case d y=>
     cases y<;>simp only[QG] at h1<;>first | (cases h1;done) | skip
     obtain⟨b,_,h1⟩:=Za h1;unfold ZyI at h1;split at h1
     ·rw[← Option.some.inj h1];simp[Zx,ZA,Zn]
     ·cases h1
    case own id=>
     unfold ZcW at h1;split at h1
     ·split at h1
      ·rw[← Option.some.inj h1];simpa [Zx,ZA,Zn] using hx
      ·cases h1
     ·split at h1
      ·rw[← Option.some.inj h1];simpa [Zx,ZA,Zn] using hx
      ·cases h1
     ·cases h1
    case ownv id off n=>
     unfold ZbH at h1;split at h1
     ·split at h1
      ·rw[← Option.some.inj h1];simpa [Zx,ZA,Zn] using hx
      ·cases h1
     ·cases h1
   ·cases h
  ·split at h
   ·exact QO h
   ·cases h
 case len x=>
  rw[Zeh (hs x (by simp))] at h;obtain⟨n,h1,h2⟩:=Za h;exact⟨h,by cases h2;rfl,aa (Z7 h2)⟩
end
end Go.Abs
namespace Go.Abs
open Go
theorem ZzD {hp:Hp} {m:Bool} {x y:AV} (h:ZcN hp m x=some y):∀ k∈Jy y,k∈Jy x:=by
 intro k hk;have aa:∀ {r:Option D},asD r=some y→False:=fun {r} h=>by
  obtain⟨d,_,h⟩:=Za h;cases h;simp[Jy] at hk
 cases x<;>simp only[ZcN] at h<;>first | (exact(aa h).elim) | skip
 case d d=>cases h;simp[Jy] at hk
 case nil=>cases m<;>simp only[ZgL] at h<;>(cases h;simp[Jy] at hk)
 case nilp=>cases h;exact hk
 case nili=>cases h;exact hk
 case ptr a b=>cases h;exact hk
 case pim c=>cases h;exact hk
 case clo f c=>cases h;exact hk
 case own id=>
  cases m<;>simp only[ZeT] at h
  ·exact(aa h).elim
  ·cases h;simp[Jy] at hk
 case agg cs=>
  cases m<;>simp only[ZeU] at h
  ·exact(aa h).elim
  ·split at h
   ·cases h
   ·cases h;simp[Jy] at hk
theorem ZsF {hp:Hp} {m:Nat→Bool}:∀ {xs ys:List AV} (i:Nat),args hp m i xs=some ys→∀ y∈ys,∀ k∈Jy y,∃ x∈xs,k∈Jy x
 | [],ys,i,h,y,hy,k,hk=>by simp only[args] at h;cases h;simp at hy
 | x :: xs,ys,i,h,y,hy,k,hk=>by
  simp only[args] at h;obtain⟨a,h1,h⟩:=Za h;obtain⟨as1,h2,h⟩:=Za h;cases h;rcases Kd.1 hy with rfl | hy
  ·exact⟨x,by simp,ZzD h1 k hk⟩
  ·obtain⟨x',h3,h4⟩:=ZsF (i+1) h2 y hy k hk;exact⟨x',by simp[h3],h4⟩
theorem ZpB {x:AV}:∀ id∈ZcV x,id∈Zn x:=by
 intro id h;cases x<;>simp[ZcV] at h<;>simp[Zn,h]
theorem Zvv {x:AV}:∀ id∈ZeQ x,id∈Zx x:=by
 intro id h;cases x<;>simp only[ZeQ] at h<;>first | exact ZpB id h | (simp[ZcV] at h;done) | skip
 case agg cs=>
  obtain⟨c,h1,h2⟩:=Kz.1 h;exact Kz.2 ⟨c,h1,ZpB id h2⟩
theorem Zny:∀ {xs ys:List AV},∀ i∈Yx xs ys,∃ x∈xs,i∈Zx x
 | [],ys,i,h=>by cases ys<;>simp[Yx] at h
 | x :: xs,[],i,h=>by simp[Yx] at h
 | x :: xs,y :: ys,i,h=>by
  have aa:i∈Yx xs ys→∃ x'∈x :: xs,i∈Zx x':=fun h=>by
   obtain⟨x',h1,h2⟩:=Zny i h;exact⟨x',by simp[h1],h2⟩
  rw[Znf] at h;rcases Kh.1 h with h | h
  ·cases y<;>simp only[Zyp] at h<;>first | (simp at h;done) | exact⟨x,by simp,Zvv i h⟩
  ·exact aa h
theorem ZzE {C:Orc} {m:Nat→Bool} {hp:Hp} {base f:Nat} {ad:List AV} {ce:Ze} (h:ZcX C m hp base f ad=some ce) (hm:m 99=false) :
  ce.eff.dels=[]∧(∀ i∈ce.eff.frz,∃ a∈ad,i∈Zx a)∧(∀ i∈ce.gone,∃ o,lkp hp i=some o)∧(∀ k o,(k,o)∈ce.eff.sets→(∃ o,lkp hp k=some o)∧(k∈ce.gone∨∃ a∈ad,k∈Jy a)):=by
 unfold ZcX at h;obtain⟨as1,h1,h⟩:=Za h;unfold ZeV at h;split at h
 ·rename_i hc;obtain⟨⟨r,out⟩,h2,h⟩:=Za h;unfold Zam at h;split at h
  ·cases h
  split at h
  ·cases h
  ·cases h;obtain⟨_,_,ab⟩:=UA hp (XN hp) (as1.flatMap Zx) [] Lw;have aa : ∀ id∈Q6 hp (XN hp) (as1.flatMap Zx) [],∃ o,lkp hp id=some o:=fun id af=>(ab id af).resolve_left (by simp);refine⟨rfl,fun i hi=>?_,fun i hi=>?_,fun k o hk=>?_⟩
   ·simp only at hi;split at hi
    ·simp at hi
    ·exact Zny i hi
   ·rw[hm] at hi;exact aa i (LS.1 hi).1
   ·obtain⟨q,o0,h3,_,_⟩:=Zjv _ _ _ _ _ hk;have ae:=Kb h3;refine⟨aa k ae,?_⟩;have:=KW.1 hc.2.2 k ae;simp only[Lt,KX,Ko] at this;rcases this with h4 | h4
    ·exact .inl (by rw[hm];exact LS.2 ⟨ae,h4⟩)
    ·obtain⟨y,h5,h6⟩:=Kz.1 h4;exact .inr (ZsF 0 h1 y h5 k h6)
 ·cases h
theorem ZgD:∀ {l:Hp} {hp:Hp} {k:Nat} {o:Zk},(∃ o',(k,o')∈l)→lkp (Zi hp l) k=some o→(k,o)∈l
 | [],hp,k,o,h,_=>by obtain⟨o',h⟩:=h;simp at h
 | (a,x) :: r,hp,k,o,h,hl=>by
  simp only[Zi] at hl;by_cases h1:∃ o',(k,o')∈r
  ·exact Kv _ (ZgD h1 hl)
  ·rw[ZD r _ k fun o' aa=>h1 ⟨o',aa⟩,Qg] at hl;obtain⟨o',h2⟩:=h;rcases Kd.1 h2 with h2 | h2
   ·cases h2;rw[Kj rfl] at hl;cases hl;exact Lh ..
   ·exact absurd ⟨o',h2⟩ h1
theorem ZbA:∀ {l:Hp} {hp hp' : Hp} {k:Nat},(∃ o',(k,o')∈l)→lkp (Zi hp l) k=lkp (Zi hp' l) k
 | [],hp,hp',k,h=>by obtain⟨o',h⟩:=h;simp at h
 | (a,x) :: r,hp,hp',k,h=>by
  simp only[Zi];by_cases h1:∃ o',(k,o')∈r
  ·exact ZbA h1
  ·rw[ZD r _ k fun o' aa=>h1 ⟨o',aa⟩,ZD r _ k fun o' aa=>h1 ⟨o',aa⟩,Qg,Qg];obtain⟨o',h2⟩:=h;rcases Kd.1 h2 with h2 | h2
   ·cases h2;simp
   ·exact absurd ⟨o',h2⟩ h1
theorem JD:∀ (l:Hp) {hp hp' : Hp} {k:Nat},lkp hp k=lkp hp' k→lkp (Zi hp l) k=lkp (Zi hp' l) k
 | [],hp,hp',k,h=>h
 | (a,x) :: r,hp,hp',k,h=>by
  simp only[Zi];exact JD r (by rw[Qg,Qg,h])
theorem ZyB {ce:Ze} {dX dY:Option Nat} {v:AV} {ax:Hp} {s:Sl×Hp} (hd:JJ dX dY=true) (aa:ce.eff.dels=[])
  (h1:∀ k o,(k,o)∈ax→(∀ o',(k,o')∉ce.eff.sets)∧(∀ o',(k,o')∉ce.eff.adds)∧k∉ce.eff.frz) (h2:∀ k o,(k,o)∈ax→Xp ce.gone o=o) (hv:kill ce.gone v=v) :
  XJ (Zs (ce.on dY s.1 s.2).1 dX v,Zi (ce.on dY s.1 s.2).2 ax) (ce.on dY (Zs s.1 dX v) (Zi s.2 ax)):=by
 refine⟨fun t=>?_,fun k=>?_⟩
 ·show gs (Zs (Zs (Xc ce.gone s.1) dY ce.eff.val) dX v) t=gs (Zs (Xc ce.gone (Zs s.1 dX v)) dY ce.eff.val) t;simp only[QC,QN];by_cases hx:dX=some t
  ·have hy:¬dY=some t:=fun e=>by rw[hx,e] at hd;simp[JJ] at hd
   simp[hx,hy,hv]
  ·simp[hx]
 ·show lkp (Zi (ce.eff.on (VL ce.gone s.2)) ax) k=lkp (ce.eff.on (VL ce.gone (Zi s.2 ax))) k;unfold Eff.on;rw[aa];simp only[Z6];by_cases hk:∃ o,(k,o)∈ax
  ·obtain⟨o,ho⟩:=hk;obtain⟨g1,g2,g3⟩:=h1 k o ho;rw[ZD _ (Zi (Qm ce.eff.frz (VL ce.gone (Zi s.2 ax))) ce.eff.sets) k g2,ZD _ (Qm ce.eff.frz (VL ce.gone (Zi s.2 ax))) k g1];rw[Qc,VS];rw[ZbA (hp':=s.2) ⟨o,ho⟩];cases hl:lkp (Zi s.2 ax) k with
   | none=>rfl
   | some o' =>
    have:=h2 k o' (ZgD ⟨o,ho⟩ hl);simp[this,g3]
  ·have ab : ∀ o,(k,o)∉ax:=fun o ho=>hk ⟨o,ho⟩;rw[ZD ax _ k ab];refine JD _ (JD _ ?_);rw[Qc,Qc,VS,VS,ZD ax _ k ab]
structure Zmc (ce:Ze):Prop where
 gone:ce.gone=[]
 sets:ce.eff.sets=[]
 dels:ce.eff.dels=[]
 frz:ce.eff.frz=[]
theorem Zvw {ce:Ze} (h:Zmc ce) (d:Option Nat) (s:Sl×Hp):ce.on d s.1 s.2=(Zs s.1 d ce.eff.val,Zi s.2 ce.eff.adds):=by
 unfold Ze.on Eff.on;rw[h.gone,h.sets,h.dels,h.frz];rfl
theorem Zxg {C:Orc} {M:Zq} {nx i:Nat} {o:CO} {s s' : Sl×Hp} (h:ZN C M nx i false o s=some s') :
  (ZZ s.1 o.guard=some false∧s'=(Zs s.1 o.dst (.tup []),s.2)) ∨
  (ZZ s.1 o.guard=some true∧∃ ce,Zmc ce∧vop C M s.1 s.2 (nx+64*i) o.op=some ce∧QX (nx+64*i) (nx+64*i+64) ce.eff.adds=true∧s'=(Zs s.1 o.dst ce.eff.val,Zi s.2 ce.eff.adds)):=by
 unfold ZN at h;obtain⟨b,hw,h⟩:=Za h;cases b with
 | true=>
  simp only[Kl] at h;obtain⟨ce,h1,h2,rfl⟩:=Xr h;unfold VQ at h1;simp only[Ka,Km] at h1;unfold ZbR at h1;obtain⟨c,h3,h1⟩:=Za h1;unfold Ze4 at h1;split at h1
  ·rename_i e1 e2 e3 e4;cases h1;have hq:Zmc ce:=⟨e1,e2,e3,e4⟩
   exact .inr ⟨hw,ce,hq,h3,h2,Zvw hq _ s⟩
  ·cases h1
 | false=>
  simp only[Ka,Km] at h;cases h;exact .inl ⟨hw,rfl⟩
theorem Zh9 {C:Orc} {M:Zq} {nx i:Nat} {o:CO} {s:Sl×Hp} {ce:Ze} (hw:ZZ s.1 o.guard=some true) (hq:Zmc ce) (hv:vop C M s.1 s.2 (nx+64*i) o.op=some ce) (hk:QX (nx+64*i) (nx+64*i+64) ce.eff.adds=true) :
  ZN C M nx i false o s=some (Zs s.1 o.dst ce.eff.val,Zi s.2 ce.eff.adds):=by
 unfold ZN;rw[hw,Zg];simp only[Kl];unfold Ys VQ;simp only[Ka,Km];rw[hv];simp only[ZbR,Zg,hq.gone,hq.sets,hq.dels,hq.frz,Ze4];rw[Kj hk,Zvw hq _ s]
theorem Yr {C:Orc} {M:Zq} {nx i:Nat} {t:Bool} {o:CO} {s:Sl×Hp} (hw:ZZ s.1 o.guard=some false):ZN C M nx i t o s=some (Zs s.1 o.dst (.tup []),s.2):=by
 unfold ZN;rw[hw,Zg];rfl
theorem Zia {sl sl' : Sl} {g:List Nat} {gd:Option (Nat×Bool)} (h:∀ q,gd=some q→gs sl' q.1=kill g (gs sl q.1)):ZZ sl' gd=ZZ sl gd:=by
 cases gd with
 | none=>rfl
 | some q=>
  simp only[ZZ,h q rfl];cases gs sl q.1 with
  | d x=>rfl
  | tup vs=>cases vs<;>rfl
  | ptr a b=>simp only[kill,ZS,Qb];split<;>rfl
  | prow a b c d=>simp only[kill,ZS,Qb];split<;>rfl
  | own a=>simp only[kill,ZS,Qb];split<;>rfl
  | ownv a b c=>simp only[kill,ZS,Qb];split<;>rfl
  | bnil a b=>simp only[kill,ZS,Qb];split<;>rfl
  | _=>rfl
end Go.Abs
