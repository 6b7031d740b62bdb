/- Own text. -/
import Derived.Test.YtfnegoimdljanaaGreatDoorAbsSound3
import Derived.Test.YtfnegoimdljanaaGreatDoorAbsDraw3
set_option linter.unusedVariables false
set_option linter.unusedSimpArgs false
namespace Go.Abs
open Go
section
variable {P:Program} {nt:Nat} {F A:Nat→Prop} {Γ0:Gh}
theorem ZAf:∀ (l:List AV) (k t:Nat),gs (Wz k l) t=if k≤t then Zen l[t-k]? else .junk
 | [],k,t=>by simp[Wz,gs,lkp,Zen]
 | v :: r,k,t=>by
  have ih:=ZAf r (k+1) t;have aa:gs (Wz k (v :: r)) t=if k=t then Zen (ZDW (some v) (lkp (Wz (k+1) r) t)) else gs (Wz (k+1) r) t:=by
   simp only[Wz,gs,ZmD];by_cases h:k=t
   ·simp[h]
   ·simp only[h,Kn];cases lkp (Wz (k+1) r) t<;>rfl
  rw[aa];by_cases h1:k=t
  ·subst h1;have h2:lkp (Wz (k+1) r) k=none:=by
    have:∀ (l:List AV) (j:Nat),k<j→lkp (Wz j l) k=none:=by
     intro l
     induction l with
     | nil=>intro j _;rfl
     | cons a l ihl=>
      intro j hj;simp only[Wz,ZmD,ihl (j+1) (by omega)];rw[Kd (by omega)];rfl
    exact this r (k+1) (by omega)
   rw[h2];simp[ZDW,Zen]
  ·rw[Kd h1,ih];by_cases h2:k≤t
   ·rw[Kg (by omega),Kg h2];have:t-k=(t-(k+1))+1:=by omega
    rw[this];simp
   ·rw[Kd (by omega),Kd h2]
theorem ZqF {v:Value} {u:Value} {t:TypeId} {w:World} (h:(Instr.loadAt t v).run P w=.ok u w):(do loadVar t (← asAddr v):Sem Value).run P w=.ok u w:=by
 cases v with
 | pointer a=>
  cases a with
  | none=>simp[Instr.loadAt,Instr.sureAddr] at h
  | some a=>simpa [Instr.loadAt,Instr.sureAddr,asAddr] using h
 | _=>simp[Instr.loadAt,Instr.sureAddr] at h
theorem Zi8 {I:Nat→Prop} {Γ:Gh} {st:St} {a:Act} {w:World} (h:Sim nt F A I Γ (Zav st.nx) st.sl st.hp a w):∀ {aa:List ResultVar} {rs:List ZtD} {vs:List AV},QJ (cRes P) aa=some rs→QJ (ZtO st) rs=some vs →
  ∃ us:List Value,(aa.mapM (m:=Sem) fun
   | .tmp t=>pure (a.tmps.getD t undef)
   | .cell c t=>do loadVar t (← asAddr (a.tmps.getD c undef))).run P w=.ok us w∧ZA (Rep Γ w I) vs us
 | [],rs,vs,hr,hv=>by
  simp only[QJ] at hr;cases hr;simp only[QJ] at hv;cases hv;exact⟨[],by simp,trivial⟩
 | rv :: aa,rs,vs,hr,hv=>by
  simp only[QJ] at hr;obtain⟨r,h1,hr⟩:=Za hr;obtain⟨ad,h2,hr⟩:=Za hr;cases hr;simp only[QJ] at hv;obtain⟨v,h3,hv⟩:=Za hv;obtain⟨ae,h4,hv⟩:=Za hv;cases hv;obtain⟨us,h5,h6⟩:=Zi8 h h2 h4;cases rv with
  | tmp t=>
   simp only[cRes] at h1;cases h1;simp only[ZtO] at h3;cases h3;refine⟨a.tmps.getD t undef :: us,?_,h.slots t,h6⟩;simp only[List.mapM_cons,Sem.run_bind,Sem.run_pure,Result.andThen_ok,h5]
  | cell c t=>
   simp only[cRes] at h1;obtain⟨g,h7,h1⟩:=Za h1;cases h1;simp only[ZtO] at h3;obtain⟨u,h8,h9⟩:=ZAs (P:=P) h7 h.hpOK (h.slots c) h3;have ab:=ZqF h8;refine⟨u :: us,?_,h9,h6⟩;simp only[List.mapM_cons];rw[Sem.run_bind,ab];simp only[Result.andThen_ok,Sem.run_bind,h5,Sem.run_pure]
theorem Zws {Γ:Gh} {w:World} {I:Nat→Prop}:∀ {vs:List AV} {us:List Value},ZlM vs=false→ZA (Rep Γ w I) vs us→ZA (Zah Γ w I) vs us
 | [],[],_,_=>trivial
 | [],_ :: _,_,h=>h.elim
 | _ :: _,[],_,h=>h.elim
 | v :: vs,u :: us,hn,h=>by
  simp only[ZlM,Kap] at hn;refine⟨?_,Zws hn.2 h.2⟩;cases v<;>first | exact h.1 | (simp[ZDk] at hn)
theorem ZC4 {Γ:Gh} {w:World} {I:Nat→Prop} {vs:List AV} {us:List Value} (h:ZA (Rep Γ w I) vs us):Rep Γ w I (ZeC vs) (if h:us.toArray.size=1 then us.toArray[0] else .tuple us.toArray):=by
 match vs,us,h with
 | [],[],h=>exact⟨#[],rfl,trivial⟩
 | [v],[u],h=>exact h.1
 | v :: v' :: vs,u :: u' :: us,h=>
  simp only[ZeC];cases hn:ZlM (v :: v' :: vs)
  ·simp only[Ka,Kn];rw[dif_neg (by simp)];exact⟨_,rfl,by simpa using Zws hn h⟩
  ·exact trivial
theorem ZBT {C:Orc} {M:Zs} (hC:QG P C) {f:FuncId} {fn:Func} {cf:Zr} (hf:P.funcs[f]?=some fn) (ag:(fn.name == "runtime.NumGoroutine")=false) (ae:Zvx P fn=some (ZlP cf)) (hD:Uq P C M fn.ntmps)
  {N:Nat} {as1:List AV} {h:List Zm} {res:AV} {hs:List Zm} (hv:ZtP C M N cf as1 h=some (res,hs)):ZsQ P f as1 h res hs:=by
 unfold Zvx at ae;obtain⟨c,hb,ae⟩:=Za ae;obtain⟨cc,hcc,ae⟩:=Za ae;obtain⟨rs,am,ae⟩:=Za ae;obtain⟨cnt,an,aj⟩:=cf;simp only[ZlP,Option.some.injEq,Zr.mk.injEq] at ae;obtain⟨rfl,rfl,rfl⟩:=ae;refine⟨⟨fn,hf,ag,by rw[hb];rfl⟩,fun F A I Γ args w aa=>?_⟩;unfold ZtP at hv;split at hv
 ·rename_i ao;simp only at ao hv;cases hr:ZH C M N aj { sl:=Wz 0 as1,hp:=WC 0 h,nx:=h.length,m:=h.length } with
  | none=>rw[hr] at hv;simp[Zf7] at hv
  | some q=>
   obtain⟨ex,ab⟩:=q;rw[hr] at hv;have ap:as1.length=args.length:=aa.args.length;refine calls_of_wp hf hb ?_;have hS:Sim fn.ntmps F A I Γ (Zav h.length) (Wz 0 as1) (WC 0 h) { tmps:=args.toArray++Array.replicate (fn.ntmps-args.toArray.size) undef,defers:=[] } w:=by
    refine { nt:=by simp;omega,dfr:=rfl,slots:=fun t=>?_,objs:=aa.objs,inj:=aa.inj,bound:=aa.bound,fresh:=aa.fresh,own:=aa.own,names:=fun id ah=>aa.names id (by simpa [Zav] using ah),glob:=aa.glob };rw[ZAf];simp only[Kau,Km,Nat.sub_zero];cases ht:as1[t]? with
    | none=>exact trivial
    | some x=>
     obtain⟨v,h1,h2⟩:=aa.args.get t x ht;have h3:(args.toArray++Array.replicate (fn.ntmps-args.toArray.size) undef).getD t undef=v:=by
      have ak:=(Kb.1 h1).1;have h4:=Kv ak;rw[h1] at h4;simp[Array.getElem?_append,ak];exact(Option.some.inj h4).symm
     rw[h3];exact h2
   have hm:ZtT Γ h.length:=by
    refine⟨aa.names,fun k hk=>?_⟩;have hl:lkp (WC 0 h) k=some h[k]:=by rw[UM];simp[hk]
    have ho:=aa.objs k _ hl;cases hq:h[k] with
    | box cs=>rw[hq] at ho;obtain⟨b,cur,e,h1,_⟩:=ho;exact⟨_,h1⟩
    | row sz xs e z=>rw[hq] at ho;obtain⟨ad,n,c,h1,_⟩:=ho;exact⟨_,h1⟩
    | gone=>rw[hq] at ho;exact ho
    | tree sz ns xs lk=>rw[hq] at ho;obtain⟨ad,n,c,h1,_⟩:=ho;exact⟨_,h1⟩
   have hc:Zh1 Γ Γ (WC 0 h):=Qg.refl Γ;refine Zh3 (F:=F) (A:=A) (Γ0:=Γ) hC hD aj c hcc hr hS hc hm fun a' w' hp=>?_;have al:(bnd (QJ (ZtO ab) rs) fun vs=>some (W6 h.length ab.hp (ZeC vs)))=some (res,hs)→a'.defers=[]∧∃ v,(results fn a'.tmps).run P w'=.ok v w'∧∃ v2 I' Γ',Ending.returned v=.returned v2∧ZDX F A I Γ w hs res I' Γ' v2 w':=by
    intro af;obtain⟨I',Γ',b1,b2,b3,b4,b5⟩:=hp;obtain⟨vs,aq,af⟩:=Za af;obtain⟨us,ar,ai⟩:=Zi8 b5 am aq;refine⟨b5.dfr,(if h:us.toArray.size=1 then us.toArray[0] else .tuple us.toArray),?_,_,I',ZeE ab.hp (Xm ab.hp (Yd ab.hp) (Zz (ZeC vs)++Up ab.hp (List.range h.length)) (List.range h.length)) Γ',rfl,?_⟩
    ·unfold results;rw[Sem.run_bind,Array.mapM_eq_mapM_toList,Sem.run_map];exact congrArg (fun r:Result (List Value)=>(r.andThen fun a w'=>Result.ok a.toArray w').andThen fun a w'=>Sem.run P (pure (if h:a.size=1 then a[0] else Value.tuple a)) w') ar
    ·have au:=(Zae ab.hp (Yd ab.hp) (Zz (ZeC vs)++Up ab.hp (List.range h.length)) (List.range h.length) Kay).1;obtain⟨t1,t2,t3⟩:=ZCj b5 au (Zjw b5 b1 hm);simp only[W6,Option.some.injEq,Prod.mk.injEq] at af;obtain⟨rfl,rfl⟩:=af;have av:=ZwN (hp:=ab.hp) (hp':=ab.hp) (n:=Yd ab.hp) (todo:=Zz (ZeC vs)++Up ab.hp (List.range h.length)) (m:=h.length) b1 hm;exact { heads:=av,keeps:=b2,sub:=b3,fr:=b4,res:=ZtV _ (ZC4 ai),objs:=t1,inj:=t2,bound:=b5.bound,names:=fun id ah=>t3 id (by simpa [Zff] using ah) }
   cases ex with
   | normal=>exact al (by simpa [Zf7] using hv)
   | ret=>exact al (by simpa [Zf7] using hv)
   | exit id=>simp[Zf7] at hv
 ·cases hv
end
end Go.Abs
set_option linter.unusedVariables false
set_option linter.unusedSimpArgs false
namespace Go.Abs
open Go
theorem Zgy {C:Orc} {M:Zs} {nx i:Nat} {t:Bool} {o:COp} {sl:Sl} {hp:Hp} {ce:Zf} (h:WB C M nx i t o sl hp=some ce):vop C M sl hp (nx+64*i) o=some ce:=by
 unfold WB at h;split at h
 ·exact h
 ·unfold ZeA at h;obtain⟨c,h1,h⟩:=Za h;unfold ZhW at h;split at h
  ·cases h;exact h1
  ·cases h
structure Zj6 (P:Program) (X:Fns) (M:Zs):Prop where
 text:∀ f cf,X f=some (.text cf)→∃ fn,P.funcs[f]?=some fn∧(fn.name == "runtime.NumGoroutine")=false∧Zvx P fn=some (ZlP cf)
 prim:∀ f p,X f=some (.prim p)→∀ as1 h r hs,p as1 h=some (r,hs)→ZsQ P f as1 h r hs
theorem ZhC {P:Program} {X:Fns} {M:Zs} (hX:Zj6 P X M) (hD:∀ C nt,QG P C→Uq P C M nt):∀ n,QG P (Qo X M n)
 | 0=>fun f as1 h r hs hv=>by simp only[Qo] at hv;cases hv
 | n+1=>fun f as1 h r hs hv=>by
  simp only[Qo] at hv;have hC:=ZhC hX hD n;cases hf:X f with
  | none=>rw[hf] at hv;simp only[Zoz] at hv;cases hv
  | some g=>
   rw[hf] at hv;cases g with
   | text cf=>
    simp only[Zoz] at hv;obtain⟨fn,h1,h2,h3⟩:=hX.text f cf hf;exact ZBT hC h1 h2 h3 (hD _ _ hC) hv
   | prim p=>simp only[Zoz] at hv;exact hX.prim f p hf as1 h r hs hv
theorem Zpg {P:Program} {X:Fns} {M:Zs} (hX:Zj6 P X M) (hD:∀ C nt,QG P C→Uq P C M nt):QG P (Zd X M):=fun f as1 h r hs hv=>by
 obtain⟨n,hn⟩:=Zju hv;exact ZhC hX hD n f as1 h r hs hn
end Go.Abs
set_option linter.unusedVariables false
set_option linter.unusedSimpArgs false
namespace Go.Abs
open Go
theorem ZC5 {v:AV} (h:okC v=true):okV v=true:=by
 cases v<;>first | exact h | cases h
theorem Zom {g:List Nat} {v:AV} (h:okC (Qh g v)=true):Qh g v=v:=by
 cases v<;>simp only[Qh] at h ⊢ <;> first | rfl | (split at h<;>rename_i h' <;> first | (cases h;done) | rw[Kd h'])
theorem ZlF {g:List Nat}:∀ {cs:List AV},Zyv (cs.map (Qh g))=true→cs.map (Qh g)=cs
 | [],_=>rfl
 | c :: cs,h=>by
  simp only[Kk,Zyv,Kf] at h ⊢;rw[Zom h.1,ZlF h.2]
theorem Zgz {g:List Nat} {v:AV} (h:okV (ZV g v)=true):ZV g v=v:=by
 cases v with
 | agg cs=>simp only[ZV,okV] at h ⊢;rw[ZlF h]
 | clo f cs=>simp only[ZV,okV,okC] at h;cases h
 | tup vs=>rfl
 | _=>
  simp only[ZV] at h ⊢;refine Zom ?_;revert h;simp only[Qh]
  first | exact id | (split<;>first | exact id | (intro h;cases h))
theorem Zeh {g:List Nat} {v:AV} (h:okV (kill g v)=true):kill g v=v:=by
 cases v with
 | tup vs=>
  cases vs with
  | nil=>rfl
  | cons x r=>simp only[kill,Kk,okV,okC] at h;cases h
 | _=>simp only[kill] at h ⊢;exact Zgz h
theorem ZAg {g:List Nat} {v:AV} (hn:∀ id∈Zo v,id∉g):Qh g v=v:=by
 cases v<;>simp only[Qh]<;>first | rfl | (rw[Kd];simpa [Zo] using hn)
theorem ZC6 {g:List Nat} {v:AV} (h:okV v=true) (hn:∀ id∈Zz v,id∉g):kill g v=v:=by
 cases v with
 | tup vs=>
  cases vs with
  | nil=>rfl
  | cons x r=>simp only[okV,okC] at h;cases h
 | clo f cs=>simp only[okV,okC] at h;cases h
 | agg cs=>
  simp only[kill,ZV];congr 1
  rw[K5 (g:=id),LK];intro c hc;exact ZAg fun id aa=>hn id (by simp only[Zz,ZC,KA];exact⟨c,hc,aa⟩)
 | _=>simp only[kill,ZV];exact ZAg hn
theorem ZFQ {g:List Nat} {v:AV} (h:kill g v=v):∀ id∈Zz v,id∉g:=fun id aa=>(Zwf g v id (by rw[h];exact aa)).2
theorem ZEg {g:List Nat} {c:AV} (h:okC c=true) (h1:Qh g c=c):ZV g c=c:=by
 cases c<;>simp only[ZV]<;>first | exact h1 | cases h
def Zcy (g:List Nat):Option Zm→Option Zm→Prop
 | none,none=>True
 | some (.row s xs _ _),some (.row s' xs' _ _)=>s'=s∧xs'=xs
 | some (.box cs),some (.box cs')=>cs'=cs.map (ZV g)
 | some (.tree s n xs l),some (.tree s' n' xs' l')=>s'=s∧n'=n∧xs'=xs∧l'=W2 g l
 | some .gone,some .gone=>True
 | _,_=>False
theorem ZAh {g:List Nat} {b:Bool} (o:Option Zm):Zcy g o ((o.map (XG g)).map fun o=>if b then VM o else o):=by
 cases o with
 | none=>trivial
 | some o=>cases o<;>cases b<;>exact(by first | exact⟨rfl,rfl⟩ | exact rfl | exact⟨rfl,rfl,rfl,rfl⟩ | exact trivial)
theorem Zwt {g:List Nat}:∀ {l:List AV} {ds:List D},ZhH l=some ds→l.map (ZV g)=l
 | [],ds,_=>rfl
 | v :: l,ds,h=>by
  simp only[ZhH] at h;obtain⟨x,h1,h⟩:=Za h;obtain⟨aa,h2,h⟩:=Za h;have:ZV g v=v:=by cases v<;>first | rfl | cases h1
  rw[Kk,this,Zwt h2]
theorem Ztg {g:List Nat}:∀ {l:List AV} {ds:List D},ZhH (l.map (ZV g))=some ds→l.map (ZV g)=l
 | [],ds,_=>rfl
 | v :: l,ds,h=>by
  simp only[Kk,ZhH] at h;obtain⟨x,h1,h⟩:=Za h;obtain⟨aa,h2,h⟩:=Za h;have hv:ZV g v=v:=by
   refine Zgz ?_;cases hk:ZV g v<;>rw[hk] at h1<;>first | rfl | cases h1
  rw[Kk,hv,Ztg h2]
theorem Zi9 (l:List AV):(∃ ds,ZhH l=some ds∧Zaj l=.d (.agg ds))∨(ZhH l=none∧(Zaj l=.junk∨Zaj l=.agg l)):=by
 unfold Zaj;cases h:ZhH l with
 | some ds=>exact .inl ⟨ds,rfl,rfl⟩
 | none=>
  refine .inr ⟨rfl,?_⟩;unfold U8;split
  ·rename_i h;cases h
  ·split
   ·exact .inl rfl
   ·exact .inr rfl
theorem ZmL:∀ {l:List AV},Zyv l=true→∀ c∈l,okC c=true
 | [],_,c,hc=>by simp at hc
 | x :: l,h,c,hc=>by
  simp only[Zyv,Kf] at h;rcases Ke.1 hc with rfl | hc
  ·exact h.1
  ·exact ZmL h.2 c hc
theorem ZEh {g:List Nat} {l:List AV} (h:okV (Zaj l)=true) (hk:kill g (Zaj l)=Zaj l):l.map (ZV g)=l:=by
 rcases Zi9 l with ⟨ds,h1,h2⟩ | ⟨h1,h2 | h2⟩
 ·exact Zwt h1
 ·rw[h2] at h;cases h
 ·rw[h2] at h hk;simp only[kill,ZV,AV.agg.injEq] at hk;simp only[okV] at h;have hm:=ZmL h;have aa : ∀ c∈l,Qh g c=c:=by
   intro c hc;have:=ZlF (g:=g) (cs:=l) (by rw[hk];exact h);exact Zom (by
    have h3:Qh g c∈l.map (Qh g):=KaA hc;rw[hk] at h3;exact hm _ h3)
  rw[K5 (g:=id),LK];intro c hc;exact ZEg (hm c hc) (aa c hc)
theorem ZEi {g:List Nat} {l:List AV} (h:okV (Zaj (l.map (ZV g)))=true):l.map (ZV g)=l:=by
 rcases Zi9 (l.map (ZV g)) with ⟨ds,h1,h2⟩ | ⟨h1,h2 | h2⟩
 ·exact Ztg h1
 ·rw[h2] at h;cases h
 ·rw[h2] at h;simp only[okV] at h;have hm:=ZmL h;rw[K5 (g:=id),LK];intro c hc;exact Zgz (ZC5 (hm _ (KaA hc)))
theorem ZBU {g:List Nat} {v:AV} (h:okV v=true) (hk:kill g v=v):ZV g v=v:=by
 cases v with
 | tup vs=>rfl
 | _=>simp only[kill] at hk;exact hk
theorem ZBV {g:List Nat} {v:AV} (h:okV v=true) (hk:ZV g v=v):kill g v=v:=by
 cases v with
 | tup vs=>
  cases vs with
  | nil=>rfl
  | cons x r=>simp only[okV,okC] at h;cases h
 | _=>simp only[kill];exact hk
theorem ZkU {α β:Type} (f:α→β) (l:List α) (a b:Nat):((l.map f).drop a).take b=((l.drop a).take b).map f:=by
 rw[← List.map_drop,← List.map_take]
theorem Zph (g:List Nat) (c:AV):ZmU (ZV g c)=ZV g (ZmU c):=by
 have aa:∀ v:AV,(∀ a b,v≠.bbuf a b)→ZmU v=v:=fun v h'=>by cases v<;>first | rfl | exact absurd rfl (h' _ _)
 by_cases h' : ∃ a b,c=.bbuf a b
 ·obtain⟨a,b,rfl⟩:=h';rfl
 ·have h2:∀ a b,c≠.bbuf a b:=fun a b e=>h' ⟨a,b,e⟩;rw[aa c h2,aa];exact fun a b e=>h2 a b ((Ji g c a b).1 e)
theorem ZAi {g:List Nat} {cs:List AV} {a:Bool} {s off:Nat} {v:AV} (h:ZbP a s off (some (.box cs))=some v) (ho:okV v=true) (hk:kill g v=v):ZbP a s off (some (.box (cs.map (ZV g))))=some v:=by
 unfold ZbP at h ⊢;cases a with
 | true=>
  simp only[Km] at h ⊢;split at h
  ·rename_i hl;cases h;rw[Kg (by simpa using hl),ZkU,ZEh ho hk]
  ·cases h
 | false=>
  simp only[Ka,Kn] at h ⊢;obtain⟨c,hc,rfl⟩:=Option.map_eq_some_iff.1 h;rw[K0,hc];simp only[Lc];rw[Zph,ZBU ho hk]
theorem ZAj {g:List Nat} {cs:List AV} {a:Bool} {s off:Nat} {v:AV} (h:ZbP a s off (some (.box (cs.map (ZV g))))=some v) (ho:okV v=true):ZbP a s off (some (.box cs))=some v∧kill g v=v:=by
 unfold ZbP at h ⊢;cases a with
 | true=>
  simp only[Km] at h ⊢;split at h
  ·rename_i hl;cases h;rw[ZkU] at ho ⊢;have he:=ZEi ho;rw[he] at ho ⊢;refine⟨by rw[Kg (by simpa using hl)],?_⟩;rcases Zi9 ((cs.drop off).take s) with ⟨ds,h1,h2⟩ | ⟨h1,h2 | h2⟩
   ·rw[h2];rfl
   ·rw[h2] at ho;cases ho
   ·rw[h2] at ho ⊢;simp only[okV] at ho;have hm:=ZmL ho;simp only[kill,ZV,AV.agg.injEq];rw[K5 (g:=id),LK];intro c hc;have h3:ZV g c=c:=by
     refine Zgz ?_;have h4:ZV g c∈((cs.drop off).take s).map (ZV g):=KaA hc;rw[he] at h4;exact ZC5 (hm _ h4)
    have:=hm c hc;cases c<;>first | exact h3 | cases this
  ·cases h
 | false=>
  simp only[Ka,Kn] at h ⊢;rw[K0] at h;cases hc:cs[off]? with
  | none=>rw[hc] at h;cases h
  | some c=>
   rw[hc] at h;simp only[Lc,Option.some.injEq] at h;rw[Zph] at h;have h3:ZV g (ZmU c)=ZmU c:=Zgz (by rw[h];exact ho);rw[h3] at h;subst h;exact⟨rfl,ZBV ho h3⟩
theorem Zb6 {g:List Nat} {o o' : Option Zm} (h:Zcy g o o'):(∃ s xs e f e' f',o=some (.row s xs e f)∧o'=some (.row s xs e' f'))∨(o=none∧o'=none)∨(∃ cs,o=some (.box cs)∧o'=some (.box (cs.map (ZV g))))∨(o=some .gone∧o'=some .gone)∨(∃ s n xs l,o=some (.tree s n xs l)∧o'=some (.tree s n xs (W2 g l))):=by
 cases o with
 | none=>cases o' with
  | none=>exact .inr (.inl ⟨rfl,rfl⟩)
  | some o'=>cases h
 | some o=>cases o' with
  | none=>cases o<;>cases h
  | some o' =>
   cases o with
   | box cs=>cases o' with
    | box cs'=>simp only[Zcy] at h;subst h;exact .inr (.inr (.inl ⟨cs,rfl,rfl⟩))
    | row _ _ _ _=>cases h
    | gone=>cases h
    | tree _ _ _ _=>cases h
   | row s xs e f=>cases o' with
    | box cs'=>cases h
    | row s' xs' e' f'=>simp only[Zcy] at h;obtain⟨rfl,rfl⟩:=h;exact .inl ⟨_,_,_,_,_,_,rfl,rfl⟩
    | gone=>cases h
    | tree _ _ _ _=>cases h
   | gone=>cases o' with
    | box cs'=>cases h
    | row _ _ _ _=>cases h
    | gone=>exact .inr (.inr (.inr (.inl ⟨rfl,rfl⟩)))
    | tree _ _ _ _=>cases h
   | tree s n xs l=>cases o' with
    | box cs'=>cases h
    | row _ _ _ _=>cases h
    | gone=>cases h
    | tree s' n' xs' l'=>simp only[Zcy] at h;obtain⟨rfl,rfl,rfl,rfl⟩:=h;exact .inr (.inr (.inr (.inr ⟨_,_,_,_,rfl,rfl⟩)))
section
variable {g:List Nat} {o o' : Option Zm}
theorem Zyh (h:Zcy g o o') (sz id n:Nat):Zfk sz id n o'=Zfk sz id n o:=by
 rcases Zb6 h with ⟨s,xs,e,f,e',f',rfl,rfl⟩ | ⟨rfl,rfl⟩ | ⟨cs,rfl,rfl⟩ | ⟨rfl,rfl⟩ | ⟨s,n,xs,l,rfl,rfl⟩<;>rfl
theorem Zvs (h:Zcy g o o') (sz id off m n:Nat):Zeq sz id off m n o'=Zeq sz id off m n o:=by
 rcases Zb6 h with ⟨s,xs,e,f,e',f',rfl,rfl⟩ | ⟨rfl,rfl⟩ | ⟨cs,rfl,rfl⟩ | ⟨rfl,rfl⟩ | ⟨s,n,xs,l,rfl,rfl⟩<;>rfl
theorem Zvt (h:Zcy g o o') (s id:Nat) (lo hi:Option AV):Zer s id lo hi o'=Zer s id lo hi o:=by
 rcases Zb6 h with ⟨s,xs,e,f,e',f',rfl,rfl⟩ | ⟨rfl,rfl⟩ | ⟨cs,rfl,rfl⟩ | ⟨rfl,rfl⟩ | ⟨s,n,xs,l,rfl,rfl⟩<;>rfl
theorem Zth (h:Zcy g o o') (s id off n:Nat) (lo hi:Option AV):ZaX s id off n lo hi o'=ZaX s id off n lo hi o:=by
 rcases Zb6 h with ⟨s,xs,e,f,e',f',rfl,rfl⟩ | ⟨rfl,rfl⟩ | ⟨cs,rfl,rfl⟩ | ⟨rfl,rfl⟩ | ⟨s,n,xs,l,rfl,rfl⟩<;>rfl
theorem Zyi {i off:Nat} {l:Option (Option Nat×Nat×Nat)} {x:D} {v:AV} (h:Zam i off l x=some v) (hk:kill g v=v):Zam i off (W2 g l) x=some v:=by
 unfold Zam at h ⊢;split at h
 ·unfold Zpq at h;split at h
  ·rename_i nm i' c;split at h
   ·rename_i hc;cases h;have:g.contains nm=false:=by
     cases hg:g.contains nm with
     | false=>rfl
     | true=>simp only[kill,ZV,Qh,hg,Km] at hk;cases hk
    simp only[W2,this,Ka,Kn,Zpq,hc,and_self,Km]
   ·cases h
  ·cases h
 ·exact h
 ·cases h
theorem Zyj {i off:Nat} {l:Option (Option Nat×Nat×Nat)} {x:D} {v:AV} (h:Zam i off (W2 g l) x=some v):Zam i off l x=some v∧kill g v=v:=by
 unfold Zam at h ⊢;split at h
 ·unfold Zpq at h;split at h
  ·rename_i nm i' c hl;split at h
   ·rename_i hc;cases h;unfold W2 at hl;split at hl
    ·rename_i ab q;split at hl
     ·cases hl
     ·rename_i hg;cases hl;simp only[LD] at hg;exact⟨by simp only[Zpq,hc,and_self,Km],by simp only[kill,ZV,Qh,hg,Ka,Kn]⟩
    ·rename_i aa;subst hl;exact absurd rfl (aa _ _)
   ·cases h
  ·cases h
 ·split at h
  ·rename_i hp;cases h;exact⟨by rw[Kg hp],rfl⟩
  ·cases h
 ·cases h
theorem ZmM {id:Nat} (h:Zcy g o o') {a:Bool} {s sz i off:Nat} {v:AV}:(Zan id a s sz i off o=some v→kill g v=v→Zan id a s sz i off o'=some v)∧(Zan id a s sz i off o'=some v→Zan id a s sz i off o=some v∧kill g v=v):=by
 have aa:∀ {cs:List D},Zeo a s off cs=some v→∃ d,v=.d d:=by
  intro cs h;unfold Zeo at h;split at h
  ·split at h
   ·cases h;exact⟨_,rfl⟩
   ·cases h
  ·unfold asD at h;obtain⟨y,_,h⟩:=Za h;cases h;exact⟨_,rfl⟩
 rcases Zb6 h with ⟨s,xs,e,f,e',f',rfl,rfl⟩ | ⟨rfl,rfl⟩ | ⟨cs,rfl,rfl⟩ | ⟨rfl,rfl⟩ | ⟨s,n,xs,l,rfl,rfl⟩
 ·refine⟨fun h _=>h,fun h=>⟨h,?_⟩⟩;simp only[Zan] at h;split at h
  ·obtain⟨x,_,h⟩:=Za h;unfold ZmV at h;split at h
   ·obtain⟨d,rfl⟩:=aa h;rfl
   ·cases h
  ·cases h
 ·exact⟨fun h _=>(by cases h),fun h=>(by cases h)⟩
 ·exact⟨fun h _=>(by cases h),fun h=>(by cases h)⟩
 ·exact⟨fun h _=>(by cases h),fun h=>(by cases h)⟩
 ·simp only[Zan];split
  ·split
   ·exact⟨fun h _=>(by cases h),fun h=>(by cases h)⟩
   ·constructor
    ·intro hh hk;obtain⟨x,h1,hh⟩:=Za hh;rw[h1,Zh];exact Zyi hh hk
    ·intro hh;obtain⟨x,h1,hh⟩:=Za hh;rw[h1,Zh];exact Zyj hh
  ·exact⟨fun h _=>(by cases h),fun h=>(by cases h)⟩
end
section
variable {hp hp' : Hp} {g:List Nat}
def ZmN (g:List Nat) (hp hp' : Hp) (v:AV):Prop:=∀ k∈Zz v,Zcy g (lkp hp k) (lkp hp' k)
theorem ZFR {o o' : Option Zm} (h:Zcy g o o'):Ztt o'=Ztt o:=by
 rcases Zb6 h with ⟨s,xs,e,f,e',f',rfl,rfl⟩ | ⟨rfl,rfl⟩ | ⟨cs,rfl,rfl⟩ | ⟨rfl,rfl⟩ | ⟨s,n,xs,l,rfl,rfl⟩<;>rfl
theorem ZgA {v:AV} (h:ZmN g hp hp' v):Zf0 hp' v=Zf0 hp v:=by
 cases v<;>simp only[Zf0]
 case d x=>cases x<;>rfl
 case own id=>rw[ZFR (h id (by simp[Zz,ZC,Zo]))]
theorem Zcq {v:AV} (h:ZmN g hp hp' v) (sz n:Nat):QK hp' sz n v=QK hp sz n v:=by
 cases v<;>simp only[QK]
 case d x=>cases x<;>rfl
 case own id=>rw[Zyh (h id (by simp[Zz,ZC,Zo]))]
 case ownv id off n=>rw[Zvs (h id (by simp[Zz,ZC,Zo]))]
theorem Zja {v:AV} (h:ZmN g hp hp' v) (s:Nat) (lo hi:Option AV):Wj hp' s lo hi v=Wj hp s lo hi v:=by
 cases v<;>simp only[Wj]
 case d x=>cases x<;>rfl
 case own id=>rw[Zvt (h id (by simp[Zz,ZC,Zo]))]
 case ownv id off n=>rw[Zth (h id (by simp[Zz,ZC,Zo]))]
theorem ZEj {x v:AV} (hs:ZmN g hp hp' x) {a:Bool} {s:Nat} (h:UO hp a s x=some v) (ho:okV v=true) (hk:kill g v=v):UO hp' a s x=some v:=by
 cases x<;>simp only[UO] at h ⊢ <;> first | (cases h;done) | skip
 case ptr id off=>
  rcases Zb6 (hs id (by simp[Zz,ZC,Zo])) with ⟨_,_,_,_,_,_,e1,e2⟩ | ⟨e1,e2⟩ | ⟨cs,e1,e2⟩ | ⟨e1,e2⟩ | ⟨_,_,_,_,e1,e2⟩
  ·rw[e1] at h;cases h
  ·rw[e1] at h;cases h
  ·rw[e1] at h;rw[e2];exact ZAi h ho hk
  ·rw[e1] at h;cases h
  ·rw[e1] at h;cases h
 case prow id sz i off=>exact(ZmM (hs id (by simp[Zz,ZC,Zo]))).1 h hk
 case pim cs=>exact h
theorem ZFS {a:Bool} {s off:Nat} {cs:List D} {v:AV} (h:Zeo a s off cs=some v):∃ d,v=.d d:=by
 unfold Zeo at h;split at h
 ·split at h
  ·cases h;exact⟨_,rfl⟩
  ·cases h
 ·unfold asD at h;obtain⟨y,_,h⟩:=Za h;cases h;exact⟨_,rfl⟩
theorem ZEk {x v:AV} (hs:ZmN g hp hp' x) {a:Bool} {s:Nat} (h:UO hp' a s x=some v) (ho:okV v=true):UO hp a s x=some v∧kill g v=v:=by
 cases x<;>simp only[UO] at h ⊢ <;> first | (cases h;done) | skip
 case ptr id off=>
  rcases Zb6 (hs id (by simp[Zz,ZC,Zo])) with ⟨_,_,_,_,_,_,e1,e2⟩ | ⟨e1,e2⟩ | ⟨cs,e1,e2⟩ | ⟨e1,e2⟩ | ⟨_,_,_,_,e1,e2⟩
  ·rw[e2] at h;cases h
  ·rw[e2] at h;cases h
  ·rw[e2] at h;rw[e1];exact ZAj h ho
  ·rw[e2] at h;cases h
  ·rw[e2] at h;cases h
 case prow id sz i off=>
  exact(ZmM (hs id (by simp[Zz,ZC,Zo]))).2 h
 case pim cs=>
  obtain⟨d,rfl⟩:=ZFS h;exact⟨h,rfl⟩
theorem Zpi {x:AV} {d:D} {e:Bool} (h:ZcB hp x=some (d,e,[])) (hp' : Hp):ZcB hp' x=some (d,e,[]):=by
 cases x<;>simp only[ZcB] at h ⊢ <;> first | exact h | skip
 case own id=>obtain⟨q,_,h⟩:=Za h;simp at h
theorem Zpj:∀ {xs:List AV} {d:List D} {e:Bool},Ws hp xs=some (d,e,[])→∀ hp' : Hp,Ws hp' xs=some (d,e,[])
 | [],d,e,h,hp'=>h
 | x :: xs,d,e,h,hp'=>by
  simp only[Ws] at h ⊢;obtain⟨⟨d1,e1,l1⟩,h1,h⟩:=Za h;obtain⟨⟨d2,e2,l2⟩,h2,h⟩:=Za h;have hl:l1=[]∧l2=[]:=by
   simp only at h;split at h
   ·simp only[Option.some.injEq,Prod.mk.injEq,Kai] at h;exact h.2.2
   ·cases h
  obtain⟨rfl,rfl⟩:=hl;rw[Zpi h1 hp',Zh,Zpj h2 hp',Zh];exact h
theorem ZBW {x:AV} {d:D} {e:Bool} (h:give hp x=some (d,e,[])) (hp' : Hp):give hp' x=some (d,e,[]):=by
 cases x<;>simp only[give] at h ⊢ <;> first | exact Zpi h hp' | skip
 case agg cs=>
  obtain⟨⟨d1,e1,l1⟩,h1,h⟩:=Za h;simp only[Option.some.injEq,Prod.mk.injEq] at h;obtain⟨rfl,rfl,rfl⟩:=h;rw[Zpj h1 hp',Zh]
theorem ZkV:∀ {xs:List AV} {d:List D} {e:Bool},Uo hp xs=some (d,e,[])→∀ hp' : Hp,Uo hp' xs=some (d,e,[])
 | [],d,e,h,hp'=>h
 | x :: xs,d,e,h,hp'=>by
  simp only[Uo] at h ⊢;obtain⟨⟨d1,e1,l1⟩,h1,h⟩:=Za h;obtain⟨⟨d2,e2,l2⟩,h2,h⟩:=Za h;have hl:l1=[]∧l2=[]:=by
   simp only at h;split at h
   ·simp only[Option.some.injEq,Prod.mk.injEq,Kai] at h;exact h.2.2
   ·cases h
  obtain⟨rfl,rfl⟩:=hl;rw[ZBW h1 hp',Zh,ZkV h2 hp',Zh];exact h
theorem ZkW {base s:Nat} {vs:List AV} {ce:Zf} (h:buildSl hp base s vs=some ce) (hf:ce.eff.frz=[]) (hp' : Hp) :
  buildSl hp' base s vs=some ce∧(ce.eff.val=.nil∨ce.eff.val=.own base)∧(∀ k o,(k,o)∈ce.eff.adds→∃ sz xs e f,o=.row sz xs e f):=by
 cases vs with
 | nil=>simp only[buildSl,QV] at h ⊢;cases h;exact⟨rfl,.inl rfl,fun k o h=>by simp at h⟩
 | cons v vs=>
  simp only[buildSl] at h ⊢;obtain⟨⟨ds,e,l⟩,h1,h⟩:=Za h;unfold ZEy at h;split at h
  ·rename_i hc;cases h;simp only at hf;subst hf;rw[ZkV h1 hp',Zh];refine⟨?_,.inr rfl,fun k o ho=>?_⟩
   ·unfold ZEy;rw[Kg hc]
   ·simp at ho;obtain⟨rfl,rfl⟩:=ho;exact⟨_,_,_,_,rfl⟩
  ·cases h
end
theorem ZmO {C:Orc} {M:Zs} {sl:Sl} {hp hp' : Hp} {base:Nat} {c:COp} (hc:W5 c=true):vop C M sl hp base c=vop C M sl hp' base c:=by
 cases c<;>first | rfl | (simp[W5] at hc)
section
variable {C:Orc} {M:Zs} {sl sl' : Sl} {hp hp' : Hp} {base:Nat} {g:List Nat}
theorem Qf {v:AV} {ce:Zf} (h:QV v=some ce):ce.eff.adds=[]:=by cases h;rfl
theorem Q3 {v:Option AV} {ce:Zf} (h:WA v=some ce):ce.eff.adds=[]:=by obtain⟨v,_,h⟩:=Za h;exact Qf h
theorem Zb7 {v:Option AV} {ce:Zf} (h:WA v=some ce):v=some ce.eff.val:=by obtain⟨v,rfl,h⟩:=Za h;cases h;rfl
theorem ZC7 {v:Option AV} {ce:Zf} {w:Option AV} (h:WA v=some ce) (hw:w=some ce.eff.val):WA w=some ce:=by
 obtain⟨v,rfl,h⟩:=Za h;cases h;rw[hw];rfl
theorem ZBX {c:COp} (hc:W5 c=true) (hv:ZB7 c=true) {ce:Zf} (h:vop C M sl hp base c=some ce):ce.eff.adds=[]:=by
 cases c<;>simp only[W5,ZB7,Ka] at hc hv<;>simp only[vop] at h
 case stuck=>cases h
 case move x=>exact Qf h
 case pick c a b=>
  unfold Zjn at h;split at h
  ·split at h<;>exact Qf h
  ·cases h
 case build zs ps=>obtain⟨cs,_,h⟩:=Za h;exact Qf h
 case nilCheck x=>unfold ZaY at h;split at h<;>first | exact Qf h | cases h
 case bin op eq x y=>
  unfold ZqH at h;split at h
  ·split at h
   ·exact Q3 h
   ·cases h
  ·exact Q3 h
 case un op x=>exact Q3 h
 case eqA neg n x y=>
  unfold Zyq at h;split at h
  ·obtain⟨r,_,h⟩:=Za h;exact Qf h
  ·cases h
 case convI k x=>unfold Go.Abs.convI at h;split at h<;>first | exact Qf h | cases h
 case convS x=>unfold Go.Abs.convS at h;split at h<;>first | exact Qf h | cases h
 case sliceS x lo hi=>exact Q3 h
 case shift off x=>unfold W4 at h;split at h<;>first | exact Qf h | cases h
 case part g s off x=>exact Q3 h
 case iaA len s x i=>
  obtain⟨n,_,h⟩:=Za h;unfold ZtA at h;split at h
  ·unfold W4 at h;split at h<;>first | exact Qf h | cases h
  ·cases h
 case ixS x i=>
  obtain⟨n,_,h⟩:=Za h;unfold ZB3 at h;split at h
  ·unfold ZAy at h;split at h
   ·obtain⟨b,_,h⟩:=Za h;exact Qf h
   ·cases h
  ·cases h
 case ixA g s len x i=>
  obtain⟨n,_,h⟩:=Za h;unfold ZEz at h;split at h
  ·exact Q3 h
  ·cases h
 case nth i x=>unfold ZAz at h;split at h<;>first | exact Q3 h | cases h
 case lenS x=>obtain⟨n,_,h⟩:=Za h;exact Qf h
 case min x y=>unfold Zpr at h;split at h<;>first | (split at h<;>first | exact Qf h | cases h) | cases h
 case max x y=>unfold Zps at h;split at h<;>first | (split at h<;>first | exact Qf h | cases h) | cases h
theorem Zpk {c:AV} (h:Zf5 c=true):ZV g c=c:=by cases c<;>first | rfl | cases h
theorem ZhD:∀ {cs:List AV},V0 cs=true→∀ c∈cs,Zf5 c=true
 | [],_,c,hc=>by simp at hc
 | x :: l,h,c,hc=>by
  simp only[V0,Kf] at h;rcases Ke.1 hc with rfl | hc
  ·exact h.1
  ·exact ZhD h.2 c hc
theorem Zon:∀ (slc:List (Option Nat)) (cs:List AV) (b:Nat),(∀ c∈(mat slc cs b).1,c∈cs∨∃ k o,c=.own k∧(k,o)∈(mat slc cs b).2)∧∀ k o,(k,o)∈(mat slc cs b).2→∃ sz,o=.row sz [] true false
 | [],cs,b=>by simp only[mat];exact⟨fun c hc=>.inl hc,fun k o h=>by simp at h⟩
 | t :: ts,[],b=>by cases t<;>(simp only[mat];exact⟨fun c hc=>.inl hc,fun k o h=>by simp at h⟩)
 | t :: ts,v :: vs,b=>by
  by_cases hv:(∃ sz,t=some sz)∧v=.nil
  ·obtain⟨⟨sz,rfl⟩,rfl⟩:=hv;obtain⟨h1,h2⟩:=Zon ts vs (b+1);simp only[mat];refine⟨fun c hc=>?_,fun k o h=>?_⟩
   ·rcases Ke.1 hc with rfl | hc
    ·exact .inr ⟨b,_,rfl,Lm ..⟩
    ·rcases h1 c hc with h | ⟨k,o,e,h⟩
     ·exact .inl (Kz _ h)
     ·exact .inr ⟨k,o,e,Kz _ h⟩
   ·rcases Ke.1 h with h | h
    ·cases h;exact⟨_,rfl⟩
    ·exact h2 k o h
  ·obtain⟨h1,h2⟩:=Zon ts vs b;have e:mat (t :: ts) (v :: vs) b=(v :: (mat ts vs b).1,(mat ts vs b).2):=by
    cases t with
    | none=>simp[mat]
    | some sz=>cases v<;>first | (exact absurd ⟨⟨sz,rfl⟩,rfl⟩ hv) | simp[mat]
   rw[e];refine⟨fun c hc=>?_,h2⟩;rcases Ke.1 hc with rfl | hc
   ·exact .inl (Lm ..)
   ·rcases h1 c hc with h | h
    ·exact .inl (Kz _ h)
    ·exact .inr h
theorem Zwu {base:Nat}:∀ {cs:List AV},V0 cs=true→cs.map (ZlK base)=cs
 | [],_=>rfl
 | c :: cs,h=>by
  simp only[V0,Kf] at h;rw[Kk,Zwu h.2];congr 1
  cases c<;>first | rfl | (simp[Zf5] at h)
theorem Zwv:∀ {cs:List AV},V0 cs=true→X9 cs=true
 | [],_=>rfl
 | c :: cs,h=>by
  simp only[V0,Kf] at h;have:=Zwv h.2;cases c<;>first | exact this | (simp[Zf5] at h)
theorem Zpl {slc:List (Option Nat)} {cs:List AV} {ce:Zf} (hb:∀ k,base≤k→k<base+64→k∉g) (hc:V0 cs=true) (h:Zjo slc base cs=some ce) (ad:Xf base (base+64) ce.eff.adds=true) :
  (∀ id∈Zz ce.eff.val,id∉g)∧∀ k o,(k,o)∈ce.eff.adds→XG g o=o:=by
 have hr:=Js ad;unfold Zjo at h;rw[Zwu hc] at h;unfold Ztx at h;rw[Kd (by rw[Zwv hc];decide)] at h;split at h
 ·cases h;simp only at hr ⊢;obtain⟨h1,h2⟩:=Zon slc cs (base+1);refine⟨fun id aa=>?_,fun k o hm=>?_⟩
  ·simp[Zz,ZC,Zo] at aa;subst aa;exact hb _ (Kp _) (by omega)
  ·rcases Ke.1 hm with hm | hm
   ·cases hm;simp only[XG];congr 1
    rw[K5 (g:=id),LK];intro c ab;rcases h1 c ab with h | ⟨k,o,rfl,h⟩
    ·exact Zpk (ZhD hc c h)
    ·have:=hr k o (Kz _ h);have hk:=hb k this.1 this.2;simp[ZV,Qh,hk]
   ·obtain⟨sz,rfl⟩:=h2 k o hm;rfl
 ·cases h;simp only at hr ⊢;refine⟨fun id aa=>?_,fun k o hm=>?_⟩
  ·simp[Zz,ZC,Zo] at aa;subst aa;exact hb _ (Kp _) (by omega)
  ·simp at hm;obtain⟨rfl,rfl⟩:=hm;simp only[XG];congr 1
   rw[K5 (g:=id),LK];exact fun c ab=>Zpk (ZhD hc c ab)
theorem ZEl {c:COp} (hc:ZtH c=true) (he:∀ x∈ZF c,evO sl' x=evO sl x) (hs:∀ x∈ZF c,ZmN g hp hp' (evO sl x)) {ce:Zf}
  (hb:∀ k,base≤k→k<base+64→k∉g) (h:vop C M sl hp base c=some ce) (ab:Xf base (base+64) ce.eff.adds=true) (ad:ce.eff.frz=[]) (ho:okV ce.eff.val=true) (hk:kill g ce.eff.val=ce.eff.val):vop C M sl' hp' base c=some ce∧∀ k o,(k,o)∈ce.eff.adds→XG g o=o:=by
 rw[XB C M hp' base he];have aa:ce.eff.adds=[]→∀ k o,(k,o)∈ce.eff.adds→XG g o=o:=fun e k o hm=>by rw[e] at hm;simp at hm
 simp only[ZtH,Lx,Kf] at hc;rcases hc with ((hc | hc) | ⟨hc1,hc2⟩) | hc
 ·cases c<;>simp only[Zas,Ka] at hc<;>simp only[vop] at h ⊢ <;> simp only[ZF] at hs
  case load a s x=>exact⟨ZC7 h (ZEj (hs x (by simp)) (Zb7 h) ho hk),aa (Q3 h)⟩
  case slice s x lo hi=>
   rw[Zja (hs x (by simp))];exact⟨h,aa (Q3 h)⟩
  case slice0 x hi mx=>
   unfold slice0 at h ⊢;rw[ZgA (hs x (by simp))];exact⟨h,aa (Q3 h)⟩
  case iaS s x i=>
   obtain⟨n,h1,h⟩:=Za h;rw[h1,Zh];unfold Zk1 at h ⊢;rw[Zcq (hs x (by simp))];refine⟨h,aa ?_⟩;split at h
   ·exact Q3 h
   ·cases h
  case len x=>
   rw[ZgA (hs x (by simp))];refine⟨h,aa ?_⟩;obtain⟨n,_,h⟩:=Za h;exact Qf h
 ·cases c<;>simp only[ZwK,Ka] at hc
  simp only[vop] at h ⊢;obtain⟨h1,h2,h3⟩:=ZkW h ad hp';refine⟨h1,fun k o hm=>?_⟩;obtain⟨sz,xs,e,f,rfl⟩:=h3 k o hm;rfl
 ·rw[← ZmO (hp:=hp) hc1];exact⟨h,aa (ZBX hc1 hc2 h)⟩
 ·cases c<;>simp only[ZqV,Ka] at hc
  simp only[vop] at h ⊢;exact⟨h,(Zpl hb hc h ab).2⟩
theorem ZBY {c:COp} (hc:Zm4 c=true) (he:∀ x∈ZF c,evO sl' x=evO sl x) (hs:∀ x∈ZF c,ZmN g hp hp' (evO sl x)) {ce:Zf}
  (hn:∀ x∈ZF c,∀ id∈Zz (evO sl x),id∉g) (hb:∀ k,base≤k→k<base+64→k∉g)
  (h:vop C M sl' hp' base c=some ce) (ad:Xf base (base+64) ce.eff.adds=true) (ae:ce.eff.frz=[]) (ho:okV ce.eff.val=true):vop C M sl hp base c=some ce∧kill g ce.eff.val=ce.eff.val∧∀ k o,(k,o)∈ce.eff.adds→XG g o=o:=by
 rw[XB C M hp' base he] at h;have aa:ce.eff.adds=[]→∀ k o,(k,o)∈ce.eff.adds→XG g o=o:=fun e k o hm=>by rw[e] at hm;simp at hm
 have names:(∀ id∈Zz ce.eff.val,id∉g)→kill g ce.eff.val=ce.eff.val:=ZC6 ho;cases c<;>simp only[Zm4,Ka] at hc<;>simp only[vop] at h ⊢ <;> simp only[ZF] at hs hn
 case alloc slc cs=>
  obtain⟨h1,h2⟩:=Zpl hb hc h ad;exact⟨h,names h1,h2⟩
 case buildSl s xs=>
  obtain⟨h1,h2,h3⟩:=ZkW h ae hp;refine⟨h1,names fun id ab=>?_,fun k o hm=>?_⟩
  ·rcases h2 with h2 | h2
   ·rw[h2] at ab;simp[Zz,ZC,Zo] at ab
   ·rw[h2] at ab;simp[Zz,ZC,Zo] at ab;subst ab;exact hb _ (Kp _) (by omega)
  ·obtain⟨sz,xs,e,f,rfl⟩:=h3 k o hm;rfl
 case load a s x=>
  obtain⟨h1,h2⟩:=ZEk (hs x (by simp)) (Zb7 h) ho;exact⟨ZC7 h h1,h2,aa (Q3 h)⟩
 case nilCheck x=>
  have hx:=hn x (by simp);refine⟨h,names ?_,aa ?_⟩
  ·unfold ZaY at h;split at h<;>rename_i hv<;>first | (cases h;done) | (cases h;show ∀ id∈Zz _,_;rw[← hv];exact hx)
  ·unfold ZaY at h;split at h<;>first | exact Qf h | cases h
 case bin op eq x y=>
  have hd:∃ d,ce.eff.val=.d d:=by
   have o2:∀ {a b:AV},WA (vbin op a b)=some ce→∃ d,ce.eff.val=.d d:=fun {a b} h=>by
    have h1:=Zb7 h;unfold vbin at h1;split at h1
    ·unfold ZaW at h1;split at h1
     ·obtain⟨y,_,h1⟩:=Za h1;exact⟨_,(Option.some.inj h1).symm⟩
     ·obtain⟨y,_,h1⟩:=Za h1;exact⟨_,(Option.some.inj h1).symm⟩
     ·split at h1
      ·obtain⟨y,_,h1⟩:=Za h1;have:=Option.some.inj h1;exact⟨_,this.symm⟩
      ·cases h1
    ·obtain⟨y,_,h1⟩:=Za h1;have:=Option.some.inj h1;exact⟨_,this.symm⟩
    ·cases h1
   unfold ZqH at h;split at h
   ·split at h
    ·have h1:=Zb7 h;unfold ZwH at h1;split at h1
     ·exact⟨_,(Option.some.inj h1).symm⟩
     ·exact⟨_,(Option.some.inj h1).symm⟩
     ·cases h1
    ·cases h
   ·exact o2 h
  obtain⟨d,hd⟩:=hd;refine⟨h,by rw[hd];rfl,aa ?_⟩;unfold ZqH at h;split at h
  ·split at h
   ·exact Q3 h
   ·cases h
  ·exact Q3 h
 case un op x=>
  have hd:∃ d,ce.eff.val=.d d:=by
   have h1:=Zb7 h;unfold vun at h1;split at h1
   ·unfold neg1 at h1;split at h1
    ·exact⟨_,(Option.some.inj h1).symm⟩
    ·cases h1
   ·unfold not1 at h1;split at h1
    ·exact⟨_,(Option.some.inj h1).symm⟩
    ·cases h1
   ·cases h1
  obtain⟨d,hd⟩:=hd;exact⟨h,by rw[hd];rfl,aa (Q3 h)⟩
 case convI k x=>
  unfold Go.Abs.convI at h ⊢;split at h
  ·exact⟨h,by cases h;rfl,aa (Qf h)⟩
  ·cases h
 case shift off x=>
  have hx:=hn x (by simp);refine⟨h,names ?_,aa ?_⟩
  ·unfold W4 at h;split at h<;>rename_i hv<;>first | (cases h;done) | skip
   ·cases h;rw[hv] at hx;simpa [Zz,ZC,Zo] using hx
   ·cases h;rw[hv] at hx;simpa [Zz,ZC,Zo] using hx
   ·cases h;simp[Zz,ZC,Zo]
  ·unfold W4 at h;split at h<;>first | exact Qf h | cases h
 case slice s x lo hi=>
  have hx:=hn x (by simp);rw[Zja (hs x (by simp))] at h;refine⟨h,names ?_,aa (Q3 h)⟩;have h1:=Zb7 h;cases hv:evO sl x<;>rw[hv] at h1 hx<;>simp only[Wj] at h1<;>first | (cases h1;done) | skip
  case d y=>
   cases y<;>simp only[Wj] at h1<;>first | (cases h1;done) | skip
   split at h1
   ·obtain⟨b,_,h1⟩:=Za h1;rw[← Option.some.inj h1];simp[Zz,ZC,Zo]
   ·cases h1
  case nil=>obtain⟨b,_,h1⟩:=Za h1;rw[← Option.some.inj h1];simp[Zz,ZC,Zo]
  case own id=>
   unfold Zer at h1;split at h1
   ·split at h1
    ·unfold ZAw at h1;split at h1
     ·rw[← Option.some.inj h1];exact hx
     ·obtain⟨b,_,h1⟩:=Za h1;rw[← Option.some.inj h1];simpa [Zz,ZC,Zo] using hx
    ·cases h1
   ·cases h1
  case ownv id off n=>
   unfold ZaX at h1;split at h1
   ·split at h1
    ·obtain⟨b,_,h1⟩:=Za h1;rw[← Option.some.inj h1];simpa [Zz,ZC,Zo] using hx
    ·cases h1
   ·cases h1
 case sliceS x lo hi=>
  have hd:∃ d,ce.eff.val=.d d:=by
   have h1:=Zb7 h;unfold sliceS at h1;split at h1
   ·obtain⟨b,_,h1⟩:=Za h1;exact⟨_,(Option.some.inj h1).symm⟩
   ·cases h1
  obtain⟨d,hd⟩:=hd;exact⟨h,by rw[hd];rfl,aa (Q3 h)⟩
 case lenS x=>
  obtain⟨n,h1,h⟩:=Za h;refine⟨by rw[h1,Zh];exact h,by cases h;rfl,aa (Qf h)⟩
 case iaS s x i=>
  have hx:=hn x (by simp);obtain⟨n,h1,h⟩:=Za h;rw[h1,Zh];unfold Zk1 at h ⊢;rw[Zcq (hs x (by simp))] at h;refine⟨h,names ?_,aa ?_⟩
  ·split at h
   ·have h1:=Zb7 h;cases hv:evO sl x<;>rw[hv] at h1 hx<;>simp only[QK] at h1<;>first | (cases h1;done) | skip
    case d y=>
     cases y<;>simp only[QK] at h1<;>first | (cases h1;done) | skip
     obtain⟨b,_,h1⟩:=Za h1;unfold ZDf at h1;split at h1
     ·rw[← Option.some.inj h1];simp[Zz,ZC,Zo]
     ·cases h1
    case own id=>
     unfold Zfk at h1;split at h1
     ·split at h1
      ·rw[← Option.some.inj h1];simpa [Zz,ZC,Zo] using hx
      ·cases h1
     ·split at h1
      ·rw[← Option.some.inj h1];simpa [Zz,ZC,Zo] using hx
      ·cases h1
     ·cases h1
    case ownv id off n=>
     unfold Zeq at h1;split at h1
     ·split at h1
      ·rw[← Option.some.inj h1];simpa [Zz,ZC,Zo] using hx
      ·cases h1
     ·cases h1
   ·cases h
  ·split at h
   ·exact Q3 h
   ·cases h
 case len x=>
  rw[ZgA (hs x (by simp))] at h;obtain⟨n,h1,h2⟩:=Za h;exact⟨h,by cases h2;rfl,aa (Qf h2)⟩
end
end Go.Abs
set_option linter.unusedVariables false
set_option linter.unusedSimpArgs false
namespace Go.Abs
open Go
theorem ZEm {hp:Hp} {m:Bool} {x y:AV} (h:ZeH hp m x=some y):∀ k∈ZaE y,k∈ZaE x:=by
 intro k hk;have aa:∀ {r:Option D},asD r=some y→False:=fun {r} h=>by
  obtain⟨d,_,h⟩:=Za h;cases h;simp[ZaE] at hk
 cases x<;>simp only[ZeH] at h<;>first | (exact(aa h).elim) | skip
 case d d=>cases h;simp[ZaE] at hk
 case nil=>cases m<;>simp only[Zjk] at h<;>(cases h;simp[ZaE] at hk)
 case nilp=>cases h;exact hk
 case nili=>cases h;exact hk
 case ptr a b=>cases h;exact hk
 case pim c=>cases h;exact hk
 case clo f c=>cases h;exact hk
 case own id=>
  cases m<;>simp only[ZhL] at h
  ·exact(aa h).elim
  ·cases h;simp[ZaE] at hk
 case agg cs=>
  cases m<;>simp only[ZhM] at h
  ·exact(aa h).elim
  ·split at h
   ·cases h
   ·cases h;simp[ZaE] at hk
theorem Zww {hp:Hp} {m:Nat→Bool}:∀ {xs ys:List AV} (i:Nat),args hp m i xs=some ys→∀ y∈ys,∀ k∈ZaE y,∃ x∈xs,k∈ZaE x
 | [],ys,i,h,y,hy,k,hk=>by simp only[args] at h;cases h;simp at hy
 | x :: xs,ys,i,h,y,hy,k,hk=>by
  simp only[args] at h;obtain⟨a,h1,h⟩:=Za h;obtain⟨as1,h2,h⟩:=Za h;cases h;rcases Ke.1 hy with rfl | hy
  ·exact⟨x,by simp,ZEm h1 k hk⟩
  ·obtain⟨x',h3,h4⟩:=Zww (i+1) h2 y hy k hk;exact⟨x',by simp[h3],h4⟩
theorem Zti {x:AV}:∀ id∈Zfj x,id∈Zo x:=by
 intro id h;cases x<;>simp[Zfj] at h<;>simp[Zo,h]
theorem ZAk {x:AV}:∀ id∈ZhI x,id∈Zz x:=by
 intro id h;cases x<;>simp only[ZhI] at h<;>first | exact Zti id h | (simp[Zfj] at h;done) | skip
 case agg cs=>
  obtain⟨c,h1,h2⟩:=KA.1 h;exact KA.2 ⟨c,h1,Zti id h2⟩
theorem Zpm:∀ {xs ys:List AV},∀ i∈Y7 xs ys,∃ x∈xs,i∈Zz x
 | [],ys,i,h=>by cases ys<;>simp[Y7] at h
 | x :: xs,[],i,h=>by simp[Y7] at h
 | x :: xs,y :: ys,i,h=>by
  have aa:i∈Y7 xs ys→∃ x'∈x :: xs,i∈Zz x':=fun h=>by
   obtain⟨x',h1,h2⟩:=Zpm i h;exact⟨x',by simp[h1],h2⟩
  rw[Zo3] at h;rcases Ki.1 h with h | h
  ·cases y<;>simp only[ZCX] at h<;>first | (simp at h;done) | exact⟨x,by simp,ZAk i h⟩
  ·exact aa h
theorem ZEn {C:Orc} {m:Nat→Bool} {hp:Hp} {base f:Nat} {ad:List AV} {ce:Zf} (h:Zfl C m hp base f ad=some ce) (hm:m 99=false) :
  ce.eff.dels=[]∧(∀ i∈ce.eff.frz,∃ a∈ad,i∈Zz a)∧(∀ i∈ce.gone,∃ o,lkp hp i=some o)∧(∀ k o,(k,o)∈ce.eff.sets→(∃ o,lkp hp k=some o)∧(k∈ce.gone∨∃ a∈ad,k∈ZaE a)):=by
 unfold Zfl at h;obtain⟨as1,h1,h⟩:=Za h;unfold ZhN at h;split at h
 ·rename_i hc;obtain⟨⟨r,out⟩,h2,h⟩:=Za h;unfold Zb9 at h;split at h
  ·cases h
  split at h
  ·cases h
  ·cases h;obtain⟨_,_,ab⟩:=Zae hp (Yd hp) (as1.flatMap Zz) [] Lz;have aa : ∀ id∈Xm hp (Yd hp) (as1.flatMap Zz) [],∃ o,lkp hp id=some o:=fun id af=>(ab id af).resolve_left (by simp);refine⟨rfl,fun i hi=>?_,fun i hi=>?_,fun k o hk=>?_⟩
   ·simp only at hi;split at hi
    ·simp at hi
    ·exact Zpm i hi
   ·rw[hm] at hi;exact aa i (LX.1 hi).1
   ·obtain⟨q,o0,h3,_,_⟩:=Zly _ _ _ _ _ hk;have ae:=Kc h3;refine⟨aa k ae,?_⟩;have:=KU.1 hc.2.2 k ae;simp only[Lx,K6,Ko] at this;rcases this with h4 | h4
    ·exact .inl (by rw[hm];exact LX.2 ⟨ae,h4⟩)
    ·obtain⟨y,h5,h6⟩:=KA.1 h4;exact .inr (Zww 0 h1 y h5 k h6)
 ·cases h
theorem Zjb:∀ {l:Hp} {hp:Hp} {k:Nat} {o:Zm},(∃ o',(k,o')∈l)→lkp (Zi hp l) k=some o→(k,o)∈l
 | [],hp,k,o,h,_=>by obtain⟨o',h⟩:=h;simp at h
 | (a,x) :: r,hp,k,o,h,hl=>by
  simp only[Zi] at hl;by_cases h1:∃ o',(k,o')∈r
  ·exact Kz _ (Zjb h1 hl)
  ·rw[ZD r _ k fun o' aa=>h1 ⟨o',aa⟩,Qm] at hl;obtain⟨o',h2⟩:=h;rcases Ke.1 h2 with h2 | h2
   ·cases h2;rw[Kg rfl] at hl;cases hl;exact Lm ..
   ·exact absurd ⟨o',h2⟩ h1
theorem Zei:∀ {l:Hp} {hp hp' : Hp} {k:Nat},(∃ o',(k,o')∈l)→lkp (Zi hp l) k=lkp (Zi hp' l) k
 | [],hp,hp',k,h=>by obtain⟨o',h⟩:=h;simp at h
 | (a,x) :: r,hp,hp',k,h=>by
  simp only[Zi];by_cases h1:∃ o',(k,o')∈r
  ·exact Zei h1
  ·rw[ZD r _ k fun o' aa=>h1 ⟨o',aa⟩,ZD r _ k fun o' aa=>h1 ⟨o',aa⟩,Qm,Qm];obtain⟨o',h2⟩:=h;rcases Ke.1 h2 with h2 | h2
   ·cases h2;simp
   ·exact absurd ⟨o',h2⟩ h1
theorem ZaT:∀ (l:Hp) {hp hp' : Hp} {k:Nat},lkp hp k=lkp hp' k→lkp (Zi hp l) k=lkp (Zi hp' l) k
 | [],hp,hp',k,h=>h
 | (a,x) :: r,hp,hp',k,h=>by
  simp only[Zi];exact ZaT r (by rw[Qm,Qm,h])
theorem ZC8 {ce:Zf} {dX dY:Option Nat} {v:AV} {ax:Hp} {s:Sl×Hp} (hd:Za0 dX dY=true) (aa:ce.eff.dels=[])
  (h1:∀ k o,(k,o)∈ax→(∀ o',(k,o')∉ce.eff.sets)∧(∀ o',(k,o')∉ce.eff.adds)∧k∉ce.eff.frz) (h2:∀ k o,(k,o)∈ax→XG ce.gone o=o) (hv:kill ce.gone v=v) :
  X8 (Zt (ce.on dY s.1 s.2).1 dX v,Zi (ce.on dY s.1 s.2).2 ax) (ce.on dY (Zt s.1 dX v) (Zi s.2 ax)):=by
 refine⟨fun t=>?_,fun k=>?_⟩
 ·show gs (Zt (Zt (XA ce.gone s.1) dY ce.eff.val) dX v) t=gs (Zt (XA ce.gone (Zt s.1 dX v)) dY ce.eff.val) t;simp only[QE,Q1];by_cases hx:dX=some t
  ·have hy:¬dY=some t:=fun e=>by rw[hx,e] at hd;simp[Za0] at hd
   simp[hx,hy,hv]
  ·simp[hx]
 ·show lkp (Zi (ce.eff.on (Wx ce.gone s.2)) ax) k=lkp (ce.eff.on (Wx ce.gone (Zi s.2 ax))) k;unfold Eff.on;rw[aa];simp only[Qc];by_cases hk:∃ o,(k,o)∈ax
  ·obtain⟨o,ho⟩:=hk;obtain⟨g1,g2,g3⟩:=h1 k o ho;rw[ZD _ (Zi (Qq ce.eff.frz (Wx ce.gone (Zi s.2 ax))) ce.eff.sets) k g2,ZD _ (Qq ce.eff.frz (Wx ce.gone (Zi s.2 ax))) k g1];rw[Qi,WX];rw[Zei (hp':=s.2) ⟨o,ho⟩];cases hl:lkp (Zi s.2 ax) k with
   | none=>rfl
   | some o' =>
    have:=h2 k o' (Zjb ⟨o,ho⟩ hl);simp[this,g3]
  ·have ab : ∀ o,(k,o)∉ax:=fun o ho=>hk ⟨o,ho⟩;rw[ZD ax _ k ab];refine ZaT _ (ZaT _ ?_);rw[Qi,Qi,WX,WX,ZD ax _ k ab]
structure Zoo (ce:Zf):Prop where
 gone:ce.gone=[]
 sets:ce.eff.sets=[]
 dels:ce.eff.dels=[]
 frz:ce.eff.frz=[]
theorem ZAl {ce:Zf} (h:Zoo ce) (d:Option Nat) (s:Sl×Hp):ce.on d s.1 s.2=(Zt s.1 d ce.eff.val,Zi s.2 ce.eff.adds):=by
 unfold Zf.on Eff.on;rw[h.gone,h.sets,h.dels,h.frz];rfl
theorem ZBZ {C:Orc} {M:Zs} {nx i:Nat} {o:CO} {s s' : Sl×Hp} (h:ZP C M nx i false o s=some s') :
  (Z3 s.1 o.guard=some false∧s'=(Zt s.1 o.dst (.tup []),s.2)) ∨
  (Z3 s.1 o.guard=some true∧∃ ce,Zoo ce∧vop C M s.1 s.2 (nx+64*i) o.op=some ce∧Xf (nx+64*i) (nx+64*i+64) ce.eff.adds=true∧s'=(Zt s.1 o.dst ce.eff.val,Zi s.2 ce.eff.adds)):=by
 unfold ZP at h;obtain⟨b,hw,h⟩:=Za h;cases b with
 | true=>
  simp only[Km] at h;obtain⟨ce,h1,h2,rfl⟩:=XK h;unfold WB at h1;simp only[Ka,Kn] at h1;unfold ZeA at h1;obtain⟨c,h3,h1⟩:=Za h1;unfold ZhW at h1;split at h1
  ·rename_i e1 e2 e3 e4;cases h1;have hq:Zoo ce:=⟨e1,e2,e3,e4⟩
   exact .inr ⟨hw,ce,hq,h3,h2,ZAl hq _ s⟩
  ·cases h1
 | false=>
  simp only[Ka,Kn] at h;cases h;exact .inl ⟨hw,rfl⟩
theorem Zj7 {C:Orc} {M:Zs} {nx i:Nat} {o:CO} {s:Sl×Hp} {ce:Zf} (hw:Z3 s.1 o.guard=some true) (hq:Zoo ce) (hv:vop C M s.1 s.2 (nx+64*i) o.op=some ce) (hk:Xf (nx+64*i) (nx+64*i+64) ce.eff.adds=true) :
  ZP C M nx i false o s=some (Zt s.1 o.dst ce.eff.val,Zi s.2 ce.eff.adds):=by
 unfold ZP;rw[hw,Zh];simp only[Km];unfold YZ WB;simp only[Ka,Kn];rw[hv];simp only[ZeA,Zh,hq.gone,hq.sets,hq.dels,hq.frz,ZhW];rw[Kg hk,ZAl hq _ s]
theorem YY {C:Orc} {M:Zs} {nx i:Nat} {t:Bool} {o:CO} {s:Sl×Hp} (hw:Z3 s.1 o.guard=some false):ZP C M nx i t o s=some (Zt s.1 o.dst (.tup []),s.2):=by
 unfold ZP;rw[hw,Zh];rfl
theorem Zj8 {sl sl' : Sl} {g:List Nat} {gd:Option (Nat×Bool)} (h:∀ q,gd=some q→gs sl' q.1=kill g (gs sl q.1)):Z3 sl' gd=Z3 sl gd:=by
 cases gd with
 | none=>rfl
 | some q=>
  simp only[Z3,h q rfl];cases gs sl q.1 with
  | d x=>rfl
  | tup vs=>cases vs<;>rfl
  | ptr a b=>simp only[kill,ZV,Qh];split<;>rfl
  | prow a b c d=>simp only[kill,ZV,Qh];split<;>rfl
  | own a=>simp only[kill,ZV,Qh];split<;>rfl
  | ownv a b c=>simp only[kill,ZV,Qh];split<;>rfl
  | bnil a b=>simp only[kill,ZV,Qh];split<;>rfl
  | _=>rfl
end Go.Abs
