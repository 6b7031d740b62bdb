/- Own text. -/
import Derived.Test.YtcefneehgbiebaaGreatDoorAbsSound3
set_option linter.unusedVariables false
set_option linter.unusedSimpArgs false
namespace Go.Abs
open Go
section
variable {P:Program} {nt:Nat} {F A:Nat→Prop} {Γ0:Gh}
theorem Zv3:∀ (l:List AV) (k t:Nat),gs (Wd k l) t=if k≤t then Zee l[t-k]? else .junk
 | [],k,t=>by simp[Wd,gs,lkp,Zee]
 | v :: r,k,t=>by
  have ih:=Zv3 r (k+1) t;have aa:gs (Wd k (v :: r)) t=if k=t then Zee (Zzf (some v) (lkp (Wd (k+1) r) t)) else gs (Wd (k+1) r) t:=by
   simp only[Wd,gs,ZjV];by_cases h:k=t
   ·simp[h]
   ·simp only[h,Kq];cases lkp (Wd (k+1) r) t<;>rfl
  rw[aa];by_cases h1:k=t
  ·subst h1;have h2:lkp (Wd (k+1) r) k=none:=by
    have:∀ (l:List AV) (j:Nat),k<j→lkp (Wd j l) k=none:=by
     intro l
     induction l with
     | nil=>intro j _;rfl
     | cons a l ihl=>
      intro j hj;simp only[Wd,ZjV,ihl (j+1) (by omega)];rw[Ke (by omega)];rfl
    exact this r (k+1) (by omega)
   rw[h2];simp[Zzf,Zee]
  ·rw[Ke h1,ih];by_cases h2:k≤t
   ·rw[Kh (by omega),Kh h2];have:t-k=(t-(k+1))+1:=by omega
    rw[this];simp
   ·rw[Ke (by omega),Ke h2]
theorem Znb {v:Value} {u:Value} {t:TypeId} {w:World} (h:(Instr.loadAt t v).run P w=.ok u w):(do loadVar t (← asAddr v):Sem Value).run P w=.ok u w:=by
 cases v with
 | pointer a=>
  cases a with
  | none=>simp[Instr.loadAt,Instr.sureAddr] at h
  | some a=>simpa [Instr.loadAt,Instr.sureAddr,asAddr] using h
 | _=>simp[Instr.loadAt,Instr.sureAddr] at h
theorem Zhl {I:Nat→Prop} {Γ:Gh} {st:St} {a:Act} {w:World} (h:Sim nt F A I Γ (ZaX st.nx) st.sl st.hp a w):∀ {aa:List ResultVar} {rs:List Zrg} {vs:List AV},QG (cRes P) aa=some rs→QG (Zna st) rs=some vs →
  ∃ us:List Value,(aa.mapM (m:=Sem) fun
   | .tmp t=>pure (a.tmps.getD t undef)
   | .cell c t=>do loadVar t (← asAddr (a.tmps.getD c undef))).run P w=.ok us w∧Zu (Rep Γ w I) vs us
 | [],rs,vs,hr,hv=>by
  simp only[QG] at hr;cases hr;simp only[QG] at hv;cases hv;exact⟨[],by simp,trivial⟩
 | rv :: aa,rs,vs,hr,hv=>by
  simp only[QG] at hr;obtain⟨r,h1,hr⟩:=Za hr;obtain⟨ad,h2,hr⟩:=Za hr;cases hr;simp only[QG] at hv;obtain⟨v,h3,hv⟩:=Za hv;obtain⟨ae,h4,hv⟩:=Za hv;cases hv;obtain⟨us,h5,h6⟩:=Zhl h h2 h4;cases rv with
  | tmp t=>
   simp only[cRes] at h1;cases h1;simp only[Zna] at h3;cases h3;refine⟨a.tmps.getD t undef :: us,?_,h.slots t,h6⟩;simp only[List.mapM_cons,Sem.run_bind,Sem.run_pure,Result.andThen_ok,h5]
  | cell c t=>
   simp only[cRes] at h1;obtain⟨g,h7,h1⟩:=Za h1;cases h1;simp only[Zna] at h3;obtain⟨u,h8,h9⟩:=ZvI (P:=P) h7 h.hpOK (h.slots c) h3;have ab:=Znb h8;refine⟨u :: us,?_,h9,h6⟩;simp only[List.mapM_cons];rw[Sem.run_bind,ab];simp only[Result.andThen_ok,Sem.run_bind,h5,Sem.run_pure]
theorem ZsX {Γ:Gh} {w:World} {I:Nat→Prop}:∀ {vs:List AV} {us:List Value},Zjn vs=false→Zu (Rep Γ w I) vs us→Zu (Zac Γ w I) vs us
 | [],[],_,_=>trivial
 | [],_ :: _,_,h=>h.elim
 | _ :: _,[],_,h=>h.elim
 | v :: vs,u :: us,hn,h=>by
  simp only[Zjn,L3] at hn;refine⟨?_,ZsX hn.2 h.2⟩;cases v<;>first | exact h.1 | (simp[ZyP] at hn)
theorem ZyR {Γ:Gh} {w:World} {I:Nat→Prop} {vs:List AV} {us:List Value} (h:Zu (Rep Γ w I) vs us):Rep Γ w I (Zcq vs) (if h:us.toArray.size=1 then us.toArray[0] else .tuple us.toArray):=by
 match vs,us,h with
 | [],[],h=>exact⟨#[],rfl,trivial⟩
 | [v],[u],h=>exact h.1
 | v :: v' :: vs,u :: u' :: us,h=>
  simp only[Zcq];cases hn:Zjn (v :: v' :: vs)
  ·simp only[Ka,Kq];rw[dif_neg (by simp)];exact⟨_,rfl,by simpa using ZsX hn h⟩
  ·exact trivial
theorem ZxV {C:Orc} {M:Zp} (hC:QL P C) (hB:WC C) {f:FuncId} {fn:Func} {cf:Zr} (hf:P.funcs[f]?=some fn) (ag:(fn.name == "runtime.NumGoroutine")=false) (ae:cFun P fn=some (Zly cf)) (hD:Uk P C M fn.ntmps)
  {N:Nat} {as:List AV} {h:List Zm} {res:AV} {hs:List Zm} (hv:Zkn C M N cf as h=some (res,hs)):Zor P f as h res hs:=by
 unfold cFun at ae;obtain⟨c,hb,ae⟩:=Za ae;obtain⟨cc,am,ae⟩:=Za ae;obtain⟨rs,an,ae⟩:=Za ae;obtain⟨cnt,ao,aj⟩:=cf;simp only[Zly,Option.some.injEq,Zr.mk.injEq] at ae;obtain⟨rfl,rfl,rfl⟩:=ae;refine⟨⟨fn,hf,ag,by rw[hb];rfl⟩,fun F A I Γ args w aa=>?_⟩;unfold Zkn at hv;split at hv
 ·rename_i ap;simp only at ap hv;cases hr:ZG C M N aj { sl:=Wd 0 as,hp:=VH 0 h,nx:=h.length,m:=h.length } with
  | none=>rw[hr] at hv;simp[Zb5] at hv
  | some q=>
   obtain⟨ex,ab⟩:=q;rw[hr] at hv;have aq:as.length=args.length:=aa.args.length;refine calls_of_wp hf hb ?_;have hS:Sim fn.ntmps F A I Γ (ZaX h.length) (Wd 0 as) (VH 0 h) { tmps:=args.toArray++Array.replicate (fn.ntmps-args.toArray.size) undef,defers:=[] } w:=by
    refine { nt:=by simp;omega,dfr:=rfl,slots:=fun t=>?_,objs:=aa.objs,inj:=aa.inj,bound:=aa.bound,fresh:=aa.fresh,own:=aa.own,names:=fun id ah=>aa.names id (by simpa [ZaX] using ah),glob:=aa.glob };rw[Zv3];simp only[LR,Km,L7];cases ht:as[t]? with
    | none=>exact trivial
    | some x=>
     obtain⟨v,h1,h2⟩:=aa.args.get t x ht;have h3:(args.toArray++Array.replicate (fn.ntmps-args.toArray.size) undef).getD t undef=v:=by
      have ak:=(Kb.1 h1).1;have h4:=Kn ak;rw[h1] at h4;simp[Array.getElem?_append,ak];exact(Option.some.inj h4).symm
     rw[h3];exact h2
   have hc:Zf0 Γ Γ (VH 0 h):=by
    intro k b hk;refine⟨hk,?_⟩;have ar:k<h.length:=by
     rcases KZ k h.length with h1 | h1
     ·exact h1
     ·rw[aa.names k h1] at hk;cases hk
    have hl:lkp (VH 0 h) k=some h[k]:=by rw[Vh];simp[ar]
    have ho:=aa.objs k _ hl;cases hq:h[k] with
    | box cs=>exact⟨cs,by rw[hl,hq]⟩
    | row sz xs e z=>
     rw[hq] at ho;obtain⟨ad,n,c,h1,_⟩:=ho;rw[hk] at h1;cases h1
    | deep sz ns xs lk=>
     rw[hq] at ho;obtain⟨ad,n,c,h1,_⟩:=ho;rw[hk] at h1;cases h1
   refine Zf1 (F:=F) (A:=A) (Γ0:=Γ) hC hB hD aj c am hr hS hc aa.names fun a' w' hp=>?_;have al:(bnd (QG (Zna ab) rs) fun vs=>some (Vl h.length ab.hp (Zcq vs)))=some (res,hs)→a'.defers=[]∧∃ v,(results fn a'.tmps).run P w'=.ok v w'∧∃ v2 I' Γ',Ending.returned v=.returned v2∧Zzg F A I Γ w hs res I' Γ' v2 w':=by
    intro af;obtain⟨I',Γ',b1,b2,b3,b4,b5⟩:=hp;obtain⟨vs,au,af⟩:=Za af;obtain⟨us,av,ai⟩:=Zhl b5 an au;refine⟨b5.dfr,(if h:us.toArray.size=1 then us.toArray[0] else .tuple us.toArray),?_,_,I',Zb7 ab.hp (QM ab.hp (Xd ab.hp) (ZD (Zcq vs)++WL ab.hp (List.range h.length)) (List.range h.length)) Γ',rfl,?_⟩
    ·unfold results;rw[Sem.run_bind,Array.mapM_eq_mapM_toList,Sem.run_map];exact congrArg (fun r:Result (List Value)=>(r.andThen fun a w'=>Result.ok a.toArray w').andThen fun a w'=>Sem.run P (pure (if h:a.size=1 then a[0] else Value.tuple a)) w') av
    ·have aw:=(ZbI ab.hp (Xd ab.hp) (ZD (Zcq vs)++WL ab.hp (List.range h.length)) (List.range h.length) List.nodup_range).1;obtain⟨t1,t2,t3⟩:=ZxU b5 aw;simp only[Vl,Option.some.injEq,Prod.mk.injEq] at af;obtain⟨rfl,rfl⟩:=af;have ax:=ZsW (n:=Xd ab.hp) (todo:=ZD (Zcq vs)++WL ab.hp (List.range h.length)) (m:=h.length) b1 aa.names;exact { boxes:=fun id b hg=>(ax id b hg).1,keeps:=b2,sub:=b3,fr:=b4,res:=Zpp _ (ZyR ai),objs:=t1,inj:=t2,bound:=b5.bound,names:=fun id ah=>t3 id (by simpa [ZdT] using ah) }
   cases ex with
   | normal=>exact al (by simpa [Zb5] using hv)
   | ret=>exact al (by simpa [Zb5] using hv)
   | exit id=>simp[Zb5] at hv
 ·cases hv
end
end Go.Abs
set_option linter.unusedVariables false
set_option linter.unusedSimpArgs false
namespace Go.Abs
open Go
theorem Zpq {C:Orc} {M:Zp} (hB:WC C) {nx:Nat}:∀ (os:List CO) (i:Nat) {sl:Sl} {hp:Hp} {r:Sl×Hp},Zff C M nx i os sl hp=some r→Xf hp r.2 nx
 | [],i,sl,hp,r,h=>by simp only[Zff] at h;cases h;exact Xf.refl hp nx
 | o :: os,i,sl,hp,r,h=>by
  simp only[Zff] at h;obtain⟨b,_,h⟩:=Za h;split at h
  ·obtain⟨q,hq,h⟩:=Za h;obtain⟨ce,aa,ab,rfl⟩:=Q7 hq;have h1:=(ZfZ hB aa).keeps ab o.dst sl;exact Xf.trans (fun id cs ad hl=>h1 id cs (by omega) hl) (Zpq hB os (i+1) h)
  ·exact Zpq hB os (i+1) h
theorem ZbL {C:Orc} {M:Zp} {nx i:Nat} {t:Bool} {o:COp} {sl:Sl} {hp:Hp} {ce:Zd} (h:WR C M nx i t o sl hp=some ce):vop C M sl hp (nx+64*i) o=some ce:=by
 unfold WR at h;split at h
 ·exact h
 ·unfold Zdj at h;obtain⟨c,h1,h⟩:=Za h;unfold ZfW at h;split at h
  ·cases h;exact h1
  ·cases h
theorem ZlC {C:Orc} {M:Zp} (hB:WC C) {nx:Nat}:∀ (os:List CO) (i:Nat) (t:Bool) {sl:Sl} {hp:Hp} {r:Sl×Hp},UX C M nx i t os sl hp=some r→Xf hp r.2 nx
 | [],i,t,sl,hp,r,h=>by simp only[UX] at h;cases h;exact Xf.refl hp nx
 | o :: os,i,t,sl,hp,r,h=>by
  simp only[UX] at h;obtain⟨b,_,h⟩:=Za h;split at h
  ·obtain⟨q,hq,h⟩:=Za h;obtain⟨ce,aa,ab,rfl⟩:=Q7 hq;have h1:=(ZfZ hB (ZbL aa)).keeps ab o.dst sl;exact Xf.trans (fun id cs ad hl=>h1 id cs (by omega) hl) (ZlC hB os (i+1) _ h)
  ·exact ZlC hB os (i+1) _ h
theorem Zz5 (K:List Nat) (st:St):Xf st.hp (WM K st).hp st.m∧st.m≤(WM K st).nx:=by
 refine⟨fun k cs hk hl=>?_,?_⟩
 ·show ∃ cs',lkp (VH 0 _) k=_;rw[Vh];simp only[LR,Km,L7,KX,ZcX,Zhk hk,KI,hl,Zkb];exact⟨_,rfl⟩
 ·show st.m≤(QM _ _ _ _).length;obtain⟨t,ht⟩:=Zah st.hp (Xd st.hp) (Zpl (only K st.sl)++WL st.hp (List.range st.m)) (List.range st.m);rw[ht];simp
theorem ZBl {C:Orc} {M:Zp} (hB:WC C) {N:Nat}:∀ (c:ZZ) (st aa : St) (e:Ex),ZG C M N c st=some (e,aa)→st.m≤st.nx→Xf st.hp aa.hp st.m∧aa.m=st.m∧st.m≤aa.nx:=by
 intro c
 induction c with
 | skip=>intro st aa e h hm;simp only[ZG] at h;cases h;exact⟨Xf.refl _ _,rfl,hm⟩
 | region n d ops=>
  intro st aa e h hm;cases d
  ·simp only[ZG,Zkm] at h;obtain⟨r,h1,h⟩:=Za h;cases h;have h2:=Zpq hB _ _ h1;exact⟨fun id cs ab hl=>h2 id cs (by omega) hl,rfl,by show st.m≤st.nx+64*n;omega⟩
  ·simp only[ZG,Zkm] at h;obtain⟨r,h1,h⟩:=Za h;cases h;unfold Zpm at h1;obtain⟨r',h3,h1⟩:=Za h1;split at h1
   ·cases h1;have h2:=ZlC hB _ _ _ h3;exact⟨fun id cs ab hl=>h2 id cs (by omega) hl,rfl,by show st.m≤st.nx+64*n;omega⟩
   ·cases h1
 | seq x y ihx ihy=>
  intro st aa e h hm;simp only[ZG] at h;cases hx:ZG C M N x st with
  | none=>rw[hx] at h;cases h
  | some q=>
   obtain⟨e1,st1⟩:=q;rw[hx] at h;obtain⟨h1,h2,h3⟩:=ihx _ _ _ hx hm;cases e1<;>simp only[andThen] at h
   ·obtain⟨h4,h5,h6⟩:=ihy _ _ _ h (by omega);rw[h2] at h4 h5 h6;exact⟨h1.trans h4,h5,h6⟩
   ·cases h;exact⟨h1,h2,h3⟩
   ·cases h;exact⟨h1,h2,h3⟩
 | cond c x y ihx ihy=>
  intro st aa e h hm;simp only[ZG] at h;unfold Zhh at h;split at h
  ·split at h
   ·exact ihx _ _ _ h hm
   ·exact ihy _ _ _ h hm
  ·cases h
 | block id c ih=>
  intro st aa e h hm;simp only[ZG] at h;cases hx:ZG C M N c st with
  | none=>rw[hx] at h;cases h
  | some q=>
   obtain⟨e1,st1⟩:=q;rw[hx] at h;have h1:=ih _ _ _ hx hm;unfold ZgG at h;split at h
   ·rename_i j af hq;cases hq;split at h<;>(cases h;exact h1)
   ·cases h;exact h1
 | loop c ih=>
  intro st aa e h hm;simp only[ZG] at h;have ad:∀ (K:List Nat) (n:Nat) (st:St),UY (ZG C M N c) K n st=some (e,aa)→st.m≤st.nx→Xf st.hp aa.hp st.m∧aa.m=st.m∧st.m≤aa.nx:=by
   intro K n
   induction n with
   | zero=>intro st h;simp only[UY] at h;cases h
   | succ n ihn=>
    intro st h hm;simp only[UY] at h;obtain⟨c1,c2⟩:=Zz5 K st;cases hx:ZG C M N c (WM K st) with
    | none=>rw[hx] at h;cases h
    | some q=>
     obtain⟨e1,st1⟩:=q;rw[hx] at h;obtain⟨h1,h2,h3⟩:=ih _ _ _ hx c2;have ae:(WM K st).m=st.m:=rfl;rw[ae] at h1 h2 h3;cases e1 with
     | normal=>
      simp only at h;obtain⟨h4,h5,h6⟩:=ihn _ h (by omega);rw[h2] at h4 h5 h6;exact⟨(c1.trans h1).trans h4,h5,h6⟩
     | exit id=>simp only at h;cases h;exact⟨c1.trans h1,h2,h3⟩
     | ret=>simp only at h;cases h;exact⟨c1.trans h1,h2,h3⟩
  exact ad _ N st h hm
 | exit id=>intro st aa e h hm;simp only[ZG] at h;cases h;exact⟨Xf.refl _ _,rfl,hm⟩
 | ret=>intro st aa e h hm;simp only[ZG] at h;cases h;exact⟨Xf.refl _ _,rfl,hm⟩
 | stuck=>intro st aa e h hm;simp only[ZG] at h;cases h
 | link id i j c ih=>
  intro st aa e h hm;simp only[ZG] at h;obtain⟨st1,h1,h⟩:=Za h;unfold Zep at h1;obtain⟨n,_,h1⟩:=Za h1;split at h1
  ·obtain⟨o,ho,h1⟩:=Za h1;cases h1;obtain⟨h2,h3,h4⟩:=ih _ _ _ h (by show st.m≤st.nx+64;omega);refine⟨Xf.trans (fun k cs hk hl=>⟨cs,?_⟩) h2,h3,h4⟩;show lkp (ins st.hp id o) k=_;rw[Qm,Ke (fun e=>by subst e;rw[hl] at ho;cases ho)];exact hl
  ·cases h1
 | melt c ih=>
  intro st aa e h hm;simp only[ZG] at h;obtain⟨h2,h3,h4⟩:=ih _ _ _ h hm;refine⟨Xf.trans (fun k cs hk hl=>⟨cs,?_⟩) h2,h3,h4⟩;show lkp (Ziv Zda st.hp) k=_;rw[Zdl,hl];rfl
 | keep K c ih=>
  intro st aa e h hm;simp only[ZG] at h;cases hx:ZG C M N c st with
  | none=>rw[hx] at h;cases h
  | some q=>
   obtain⟨e1,st1⟩:=q;rw[hx] at h;simp only[ZmM] at h;cases h;have h1:=ih _ _ _ hx hm;exact⟨h1.1,h1.2.1,h1.2.2⟩
theorem Zz6 {C:Orc} {M:Zp} (hB:WC C) {N:Nat} {cf:Zr} {as:List AV} {h:List Zm} {r:AV} {hs:List Zm} (hv:Zkn C M N cf as h=some (r,hs)) (k:Nat) (cs:List AV) (hk:h[k]?=some (Zm.box cs)):∃ cs',hs[k]?=some (Zm.box cs'):=by
 unfold Zkn at hv;split at hv
 ·cases hr:ZG C M N cf.body { sl:=Wd 0 as,hp:=VH 0 h,nx:=h.length,m:=h.length } with
  | none=>rw[hr] at hv;simp[Zb5] at hv
  | some q=>
   obtain⟨ex,ab⟩:=q;rw[hr] at hv;obtain⟨h1,h2,h3⟩:=ZBl hB _ _ _ _ hr (Kt _);have ad:k<h.length:=(Kb.1 hk).1;obtain⟨cs',h4⟩:=h1 k cs ad (by show lkp (VH 0 h) k=_;rw[Vh];simpa using hk);have ae:(bnd (QG (Zna ab) cf.res) fun vs=>some (Vl h.length ab.hp (Zcq vs)))=some (r,hs)→∃ cs',hs[k]?=some (Zm.box cs'):=by
    intro aa;obtain⟨vs,_,aa⟩:=Za aa;simp only[Vl,Option.some.injEq,Prod.mk.injEq] at aa;obtain⟨_,rfl⟩:=aa;rw[KX,ZcX,Zhk ad];simp only[KI,h4,Zkb];exact⟨_,rfl⟩
   cases ex with
   | normal=>exact ae (by simpa [Zb5] using hv)
   | ret=>exact ae (by simpa [Zb5] using hv)
   | exit id=>simp[Zb5] at hv
 ·cases hv
structure Zf2 (P:Program) (X:Fns) (M:Zp):Prop where
 text:∀ f cf,X f=some (.text cf)→∃ fn,P.funcs[f]?=some fn∧(fn.name == "runtime.NumGoroutine")=false∧cFun P fn=some (Zly cf)
 prim:∀ f p,X f=some (.prim p)→∀ as h r hs,p as h=some (r,hs)→Zor P f as h r hs∧∀ (k:Nat) (cs:List AV),h[k]?=some (Zm.box cs)→∃ cs',hs[k]?=some (Zm.box cs')
theorem Zjs {P:Program} {X:Fns} {M:Zp} (hX:Zf2 P X M):∀ n,WC (Qo X M n)
 | 0=>fun f as h r hs hv=>by simp only[Qo] at hv;cases hv
 | n+1=>fun f as h r hs hv k cs hk=>by
  simp only[Qo] at hv;cases hf:X f with
  | none=>rw[hf] at hv;simp only[ZfX] at hv;cases hv
  | some g=>
   rw[hf] at hv;cases g with
   | text cf=>simp only[ZfX] at hv;exact Zz6 (Zjs hX n) hv k cs hk
   | prim p=>simp only[ZfX] at hv;exact(hX.prim f p hf as h r hs hv).2 k cs hk
theorem Zf3 {P:Program} {X:Fns} {M:Zp} (hX:Zf2 P X M) (hD:∀ C nt,QL P C→WC C→Uk P C M nt):∀ n,QL P (Qo X M n)
 | 0=>fun f as h r hs hv=>by simp only[Qo] at hv;cases hv
 | n+1=>fun f as h r hs hv=>by
  simp only[Qo] at hv;have hC:=Zf3 hX hD n;have hB:=Zjs hX n;cases hf:X f with
  | none=>rw[hf] at hv;simp only[ZfX] at hv;cases hv
  | some g=>
   rw[hf] at hv;cases g with
   | text cf=>
    simp only[ZfX] at hv;obtain⟨fn,h1,h2,h3⟩:=hX.text f cf hf;exact ZxV hC hB h1 h2 h3 (hD _ _ hC hB) hv
   | prim p=>simp only[ZfX] at hv;exact(hX.prim f p hf as h r hs hv).1
theorem ZmN {P:Program} {X:Fns} {M:Zp} (hX:Zf2 P X M) (hD:∀ C nt,QL P C→WC C→Uk P C M nt):QL P (Ze X M):=fun f as h r hs hv=>by
 obtain⟨n,hn⟩:=Zhi hv;exact Zf3 hX hD n f as h r hs hn
end Go.Abs
