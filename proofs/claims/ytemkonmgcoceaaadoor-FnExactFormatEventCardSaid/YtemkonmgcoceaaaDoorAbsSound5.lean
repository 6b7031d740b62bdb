/- The abstract semantics and the model: programs. Own text. -/
import Derived.Test.YtemkonmgcoceaaaDoorAbsSound3
set_option linter.unusedVariables false
set_option linter.unusedSimpArgs false
namespace Go.Abs
open Go
section
variable {P:Program} {nt:Nat} {F A:Nat→Prop} {Γ0:Gh}
theorem Zli:∀ (l:List AV) (k t:Nat),gs (YI k l) t=if k≤t then Jq l[t-k]? else .junk
 | [],k,t=>by simp[YI,gs,lkp,Jq]
 | v :: r,k,t=>by
  have ih:=Zli r (k+1) t
  have key:gs (YI k (v :: r)) t=if k=t then Jq (ZnG (some v) (lkp (YI (k+1) r) t)) else gs (YI (k+1) r) t:=by
   simp only[YI,gs,Zdq]
   by_cases h:k=t
   ·simp[h]
   ·simp only[h,if_false];cases lkp (YI (k+1) r) t<;>rfl
  rw[key]
  by_cases h1:k=t
  ·subst h1
   have h2:lkp (YI (k+1) r) k=none:=by
    have:∀ (l:List AV) (j:Nat),k<j→lkp (YI j l) k=none:=by
     intro l
     induction l with
     | nil=>intro j _;rfl
     | cons a l ihl=>
      intro j hj
      simp only[YI,Zdq,ihl (j+1) (by omega)]
      rw[if_neg (by omega)];rfl
    exact this r (k+1) (by omega)
   rw[h2];simp[ZnG,Jq]
  ·rw[if_neg h1,ih]
   by_cases h2:k≤t
   ·rw[if_pos (by omega),if_pos h2]
    have:t-k=(t-(k+1))+1:=by omega
    rw[this];simp
   ·rw[if_neg (by omega),if_neg h2]
theorem ZfF {v:Value} {u:Value} {t:TypeId} {w:World} (h:(Instr.loadAt t v).run P w=.ok u w):(do loadVar t (← asAddr v):Sem Value).run P w=.ok u w:=by
 cases v with
 | pointer a=>
  cases a with
  | none=>simp[Instr.loadAt,Instr.sureAddr] at h
  | some a=>simpa [Instr.loadAt,Instr.sureAddr,asAddr] using h
 | _=>simp[Instr.loadAt,Instr.sureAddr] at h
theorem ZbE {I:Nat→Prop} {Γ:Gh} {st:St} {a:Act} {w:World} (h:Sim nt F A I Γ (V6 st.nx) st.sl st.hp a w):∀ {rvs:List ResultVar} {rs:List ZhX} {vs:List AV},Qh (cRes P) rvs=some rs→Qh (ZfE st) rs=some vs →
  ∃ us:List Value,(rvs.mapM (m:=Sem) fun
   | .tmp t=>pure (a.tmps.getD t undef)
   | .cell c t=>do loadVar t (← asAddr (a.tmps.getD c undef))).run P w=.ok us w∧Zm (Rep Γ w I) vs us
 | [],rs,vs,hr,hv=>by
  simp only[Qh] at hr;cases hr
  simp only[Qh] at hv;cases hv
  exact⟨[],by simp,trivial⟩
 | rv :: rvs,rs,vs,hr,hv=>by
  simp only[Qh] at hr
  obtain⟨r,h1,hr⟩:=Za hr
  obtain⟨rs',h2,hr⟩:=Za hr
  cases hr
  simp only[Qh] at hv
  obtain⟨v,h3,hv⟩:=Za hv
  obtain⟨vs',h4,hv⟩:=Za hv
  cases hv
  obtain⟨us,h5,h6⟩:=ZbE h h2 h4
  cases rv with
  | tmp t=>
   simp only[cRes] at h1;cases h1
   simp only[ZfE] at h3;cases h3
   refine⟨a.tmps.getD t undef :: us,?_,h.slots t,h6⟩
   simp only[List.mapM_cons,Sem.run_bind,Sem.run_pure,Result.andThen_ok,h5]
  | cell c t=>
   simp only[cRes] at h1
   obtain⟨g,h7,h1⟩:=Za h1
   cases h1
   simp only[ZfE] at h3
   obtain⟨u,h8,h9⟩:=ZkU (P:=P) h7 h.hpOK (h.slots c) h3
   have h10:=ZfF h8
   refine⟨u :: us,?_,h9,h6⟩
   simp only[List.mapM_cons]
   rw[Sem.run_bind,h10]
   simp only[Result.andThen_ok,Sem.run_bind,h5,Sem.run_pure]
theorem ZiL {Γ:Gh} {w:World} {I:Nat→Prop}:∀ {vs:List AV} {us:List Value},ZcY vs=false→Zm (Rep Γ w I) vs us→Zm (VZ Γ w I) vs us
 | [],[],_,_=>trivial
 | [],_ :: _,_,h=>h.elim
 | _ :: _,[],_,h=>h.elim
 | v :: vs,u :: us,hn,h=>by
  simp only[ZcY,Bool.or_eq_false_iff] at hn
  refine⟨?_,ZiL hn.2 h.2⟩
  cases v<;>first | exact h.1 | (simp[Znl] at hn)
theorem Znn {Γ:Gh} {w:World} {I:Nat→Prop} {vs:List AV} {us:List Value} (h:Zm (Rep Γ w I) vs us):Rep Γ w I (W7 vs) (if h:us.toArray.size=1 then us.toArray[0] else .tuple us.toArray):=by
 match vs,us,h with
 | [],[],h=>exact⟨#[],rfl,trivial⟩
 | [v],[u],h=>exact h.1
 | v :: v' :: vs,u :: u' :: us,h=>
  simp only[W7]
  cases hn:ZcY (v :: v' :: vs)
  ·simp only[Bool.false_eq_true,if_false]
   rw[dif_neg (by simp)]
   exact⟨_,rfl,by simpa using ZiL hn h⟩
  ·exact trivial
theorem ZmK {C:Orc} {M:Zj} (hC:Z6 P C) (hB:Yb C) {f:FuncId} {fn:Func} {cf:QK} (hf:P.funcs[f]?=some fn) (hname:(fn.name == "runtime.NumGoroutine")=false) (hcf:cFun P fn=some (ZeD cf)) (hD:Ym P C M fn.ntmps)
  {N:Nat} {as:List AV} {h:List Zi} {res:AV} {hs:List Zi} (hv:ZdT C M N cf as h=some (res,hs)):Zgg P f as h res hs:=by
 unfold cFun at hcf
 obtain⟨c,hb,hcf⟩:=Za hcf
 obtain⟨cc,hcc,hcf⟩:=Za hcf
 obtain⟨rs,hrs,hcf⟩:=Za hcf
 obtain⟨cnt,cres,cc0⟩:=cf
 simp only[ZeD,Option.some.injEq,QK.mk.injEq] at hcf
 obtain⟨rfl,rfl,rfl⟩:=hcf
 refine⟨⟨fn,hf,hname,by rw[hb];rfl⟩,fun F A I Γ args w hpre=>?_⟩
 unfold ZdT at hv
 split at hv
 ·rename_i hle
  simp only at hle hv
  cases hr:Zw C M N cc0 { sl:=YI 0 as,hp:=Yj 0 h,nx:=h.length,m:=h.length } with
  | none=>rw[hr] at hv;simp[WU] at hv
  | some q=>
   obtain⟨ex,st'⟩:=q
   rw[hr] at hv
   have hlen:as.length=args.length:=hpre.args.length
   refine calls_of_wp hf hb ?_
   have hS:Sim fn.ntmps F A I Γ (V6 h.length) (YI 0 as) (Yj 0 h) { tmps:=args.toArray++Array.replicate (fn.ntmps-args.toArray.size) undef,defers:=[] } w:=by
    refine { nt:=by simp;omega,dfr:=rfl,slots:=fun t=>?_,objs:=hpre.objs,inj:=hpre.inj,bound:=hpre.bound,fresh:=hpre.fresh,own:=hpre.own,names:=fun id hid=>hpre.names id (by simpa [V6] using hid),glob:=hpre.glob }
    rw[Zli]
    simp only[Nat.zero_le,if_true,Nat.sub_zero]
    cases ht:as[t]? with
    | none=>exact trivial
    | some x=>
     obtain⟨v,h1,h2⟩:=hpre.args.get t x ht
     have h3:(args.toArray++Array.replicate (fn.ntmps-args.toArray.size) undef).getD t undef=v:=by
      have hlt:=(List.getElem?_eq_some_iff.1 h1).1
      have h4:=List.getElem?_eq_getElem hlt
      rw[h1] at h4
      simp[Array.getElem?_append,hlt]
      exact(Option.some.inj h4).symm
     rw[h3];exact h2
   have hc:ZaR Γ Γ (Yj 0 h):=by
    intro k b hk
    refine⟨hk,?_⟩
    have hkm:k<h.length:=by
     rcases Nat.lt_or_ge k h.length with h1 | h1
     ·exact h1
     ·rw[hpre.names k h1] at hk;cases hk
    have hl:lkp (Yj 0 h) k=some h[k]:=by rw[XS];simp[hkm]
    have ho:=hpre.objs k _ hl
    cases hq:h[k] with
    | box cs=>exact⟨cs,by rw[hl,hq]⟩
    | row sz xs e z=>
     rw[hq] at ho
     obtain⟨ad,n,c,h1,_⟩:=ho
     rw[hk] at h1;cases h1
    | deep sz ns xs lk=>
     rw[hq] at ho
     obtain⟨ad,n,c,h1,_⟩:=ho
     rw[hk] at h1;cases h1
   refine ZaS (F:=F) (A:=A) (Γ0:=Γ) hC hB hD cc0 c hcc hr hS hc hpre.names fun a' w' hp=>?_
   have fin:(bnd (Qh (ZfE st') rs) fun vs=>some (XX h.length st'.hp (W7 vs)))=some (res,hs)→a'.defers=[]∧∃ v,(results fn a'.tmps).run P w'=.ok v w'∧∃ v2 I' Γ',Ending.returned v=.returned v2∧ZnH F A I Γ w hs res I' Γ' v2 w':=by
    intro hres
    obtain⟨I',Γ',b1,b2,b3,b4,b5⟩:=hp
    obtain⟨vs,hvs,hres⟩:=Za hres
    obtain⟨us,hus,hrep⟩:=ZbE b5 hrs hvs
    refine⟨b5.dfr,(if h:us.toArray.size=1 then us.toArray[0] else .tuple us.toArray),?_,_,I',WW st'.hp (Qj st'.hp (QI st'.hp) (Zs (W7 vs)++Yv st'.hp (List.range h.length)) (List.range h.length)) Γ',rfl,?_⟩
    ·unfold results
     rw[Sem.run_bind,Array.mapM_eq_mapM_toList,Sem.run_map]
     exact congrArg (fun r:Result (List Value)=>(r.andThen fun a w'=>Result.ok a.toArray w').andThen fun a w'=>Sem.run P (pure (if h:a.size=1 then a[0] else Value.tuple a)) w') hus
    ·have hnd:=(WK st'.hp (QI st'.hp) (Zs (W7 vs)++Yv st'.hp (List.range h.length)) (List.range h.length) List.nodup_range).1
     obtain⟨t1,t2,t3⟩:=ZmJ b5 hnd
     simp only[XX,Option.some.injEq,Prod.mk.injEq] at hres
     obtain⟨rfl,rfl⟩:=hres
     have hcp:=ZiK (n:=QI st'.hp) (todo:=Zs (W7 vs)++Yv st'.hp (List.range h.length)) (m:=h.length) b1 hpre.names
     exact { boxes:=fun id b hg=>(hcp id b hg).1,keeps:=b2,sub:=b3,fr:=b4,res:=Zhe _ (Znn hrep),objs:=t1,inj:=t2,bound:=b5.bound,names:=fun id hid=>t3 id (by simpa [U9] using hid) }
   cases ex with
   | normal=>exact fin (by simpa [WU] using hv)
   | ret=>exact fin (by simpa [WU] using hv)
   | exit id=>simp[WU] at hv
 ·cases hv
end
end Go.Abs
set_option linter.unusedVariables false
set_option linter.unusedSimpArgs false
namespace Go.Abs
open Go
theorem Zhf {C:Orc} {M:Zj} (hB:Yb C) {nx:Nat}:∀ (os:List CO) (i:Nat) {sl:Sl} {hp:Hp} {r:Sl×Hp},Zad C M nx i os sl hp=some r→QL hp r.2 nx
 | [],i,sl,hp,r,h=>by simp only[Zad] at h;cases h;exact QL.refl hp nx
 | o :: os,i,sl,hp,r,h=>by
  simp only[Zad] at h
  obtain⟨b,_,h⟩:=Za h
  split at h
  ·obtain⟨q,hq,h⟩:=Za h
   obtain⟨ce,hce,hok,rfl⟩:=QB hq
   have h1:=(ZaQ hB hce).keeps hok o.dst sl
   exact QL.trans (fun id cs hid hl=>h1 id cs (by omega) hl) (Zhf hB os (i+1) h)
  ·exact Zhf hB os (i+1) h
theorem WN {C:Orc} {M:Zj} {nx i:Nat} {t:Bool} {o:COp} {sl:Sl} {hp:Hp} {ce:Zb} (h:Yw C M nx i t o sl hp=some ce):vop C M sl hp (nx+64*i) o=some ce:=by
 unfold Yw at h
 split at h
 ·exact h
 ·unfold UZ at h
  obtain⟨c,h1,h⟩:=Za h
  unfold ZaN at h
  split at h
  ·cases h;exact h1
  ·cases h
theorem ZeH {C:Orc} {M:Zj} (hB:Yb C) {nx:Nat}:∀ (os:List CO) (i:Nat) (t:Bool) {sl:Sl} {hp:Hp} {r:Sl×Hp},Va C M nx i t os sl hp=some r→QL hp r.2 nx
 | [],i,t,sl,hp,r,h=>by simp only[Va] at h;cases h;exact QL.refl hp nx
 | o :: os,i,t,sl,hp,r,h=>by
  simp only[Va] at h
  obtain⟨b,_,h⟩:=Za h
  split at h
  ·obtain⟨q,hq,h⟩:=Za h
   obtain⟨ce,hce,hok,rfl⟩:=QB hq
   have h1:=(ZaQ hB (WN hce)).keeps hok o.dst sl
   exact QL.trans (fun id cs hid hl=>h1 id cs (by omega) hl) (ZeH hB os (i+1) _ h)
  ·exact ZeH hB os (i+1) _ h
theorem Zot (K:List Nat) (st:St):QL st.hp (Y0 K st).hp st.m∧st.m≤(Y0 K st).nx:=by
 refine⟨fun k cs hk hl=>?_,?_⟩
 ·show ∃ cs',lkp (Yj 0 _) k=_
  rw[XS]
  simp only[Nat.zero_le,if_true,Nat.sub_zero,List.getElem?_map,UF,ZbD hk,Option.map_some,hl,ZdG]
  exact⟨_,rfl⟩
 ·show st.m≤(Qj _ _ _ _).length
  obtain⟨t,ht⟩:=V4 st.hp (QI st.hp) (Zha (only K st.sl)++Yv st.hp (List.range st.m)) (List.range st.m)
  rw[ht]
  simp
theorem ZpG {C:Orc} {M:Zj} (hB:Yb C) {N:Nat}:∀ (c:Zp) (st st' : St) (e:Ex),Zw C M N c st=some (e,st')→st.m≤st.nx→QL st.hp st'.hp st.m∧st'.m=st.m∧st.m≤st'.nx:=by
 intro c
 induction c with
 | skip=>intro st st' e h hm;simp only[Zw] at h;cases h;exact⟨QL.refl _ _,rfl,hm⟩
 | region n d ops=>
  intro st st' e h hm
  cases d
  ·simp only[Zw,ZdS] at h
   obtain⟨r,h1,h⟩:=Za h
   cases h
   have h2:=Zhf hB _ _ h1
   exact⟨fun id cs hid hl=>h2 id cs (by omega) hl,rfl,by show st.m≤st.nx+64*n;omega⟩
  ·simp only[Zw,ZdS] at h
   obtain⟨r,h1,h⟩:=Za h
   cases h
   unfold Zhb at h1
   obtain⟨r',h3,h1⟩:=Za h1
   split at h1
   ·cases h1
    have h2:=ZeH hB _ _ _ h3
    exact⟨fun id cs hid hl=>h2 id cs (by omega) hl,rfl,by show st.m≤st.nx+64*n;omega⟩
   ·cases h1
 | seq x y ihx ihy=>
  intro st st' e h hm
  simp only[Zw] at h
  cases hx:Zw C M N x st with
  | none=>rw[hx] at h;cases h
  | some q=>
   obtain⟨e1,st1⟩:=q
   rw[hx] at h
   obtain⟨h1,h2,h3⟩:=ihx _ _ _ hx hm
   cases e1<;>simp only[andThen] at h
   ·obtain⟨h4,h5,h6⟩:=ihy _ _ _ h (by omega)
    rw[h2] at h4 h5 h6
    exact⟨h1.trans h4,h5,h6⟩
   ·cases h;exact⟨h1,h2,h3⟩
   ·cases h;exact⟨h1,h2,h3⟩
 | cond c x y ihx ihy=>
  intro st st' e h hm
  simp only[Zw] at h
  unfold ZbA at h
  split at h
  ·split at h
   ·exact ihx _ _ _ h hm
   ·exact ihy _ _ _ h hm
  ·cases h
 | block id c ih=>
  intro st st' e h hm
  simp only[Zw] at h
  cases hx:Zw C M N c st with
  | none=>rw[hx] at h;cases h
  | some q=>
   obtain⟨e1,st1⟩:=q
   rw[hx] at h
   have h1:=ih _ _ _ hx hm
   unfold Za3 at h
   split at h
   ·rename_i j st2 hq
    cases hq
    split at h<;>(cases h;exact h1)
   ·cases h;exact h1
 | loop c ih=>
  intro st st' e h hm
  simp only[Zw] at h
  have key:∀ (K:List Nat) (n:Nat) (st:St),Vb (Zw C M N c) K n st=some (e,st')→st.m≤st.nx→QL st.hp st'.hp st.m∧st'.m=st.m∧st.m≤st'.nx:=by
   intro K n
   induction n with
   | zero=>intro st h;simp only[Vb] at h;cases h
   | succ n ihn=>
    intro st h hm
    simp only[Vb] at h
    obtain⟨c1,c2⟩:=Zot K st
    cases hx:Zw C M N c (Y0 K st) with
    | none=>rw[hx] at h;cases h
    | some q=>
     obtain⟨e1,st1⟩:=q
     rw[hx] at h
     obtain⟨h1,h2,h3⟩:=ih _ _ _ hx c2
     have hcm:(Y0 K st).m=st.m:=rfl
     rw[hcm] at h1 h2 h3
     cases e1 with
     | normal=>
      simp only at h
      obtain⟨h4,h5,h6⟩:=ihn _ h (by omega)
      rw[h2] at h4 h5 h6
      exact⟨(c1.trans h1).trans h4,h5,h6⟩
     | exit id=>simp only at h;cases h;exact⟨c1.trans h1,h2,h3⟩
     | ret=>simp only at h;cases h;exact⟨c1.trans h1,h2,h3⟩
  exact key _ N st h hm
 | exit id=>intro st st' e h hm;simp only[Zw] at h;cases h;exact⟨QL.refl _ _,rfl,hm⟩
 | ret=>intro st st' e h hm;simp only[Zw] at h;cases h;exact⟨QL.refl _ _,rfl,hm⟩
 | stuck=>intro st st' e h hm;simp only[Zw] at h;cases h
 | link id i j c ih=>
  intro st st' e h hm
  simp only[Zw] at h
  obtain⟨st1,h1,h⟩:=Za h
  unfold JB at h1
  obtain⟨n,_,h1⟩:=Za h1
  split at h1
  ·obtain⟨o,ho,h1⟩:=Za h1
   cases h1
   obtain⟨h2,h3,h4⟩:=ih _ _ _ h (by show st.m≤st.nx+64;omega)
   refine⟨QL.trans (fun k cs hk hl=>⟨cs,?_⟩) h2,h3,h4⟩
   show lkp (ins st.hp id o) k=_
   rw[ZZ,if_neg (fun e=>by subst e;rw[hl] at ho;cases ho)]
   exact hl
  ·cases h1
 | melt c ih=>
  intro st st' e h hm
  simp only[Zw] at h
  obtain⟨h2,h3,h4⟩:=ih _ _ _ h hm
  refine⟨QL.trans (fun k cs hk hl=>⟨cs,?_⟩) h2,h3,h4⟩
  show lkp (Zca US st.hp) k=_
  rw[U2,hl];rfl
 | keep K c ih=>
  intro st st' e h hm
  simp only[Zw] at h
  cases hx:Zw C M N c st with
  | none=>rw[hx] at h;cases h
  | some q=>
   obtain⟨e1,st1⟩:=q
   rw[hx] at h
   simp only[Zfn] at h
   cases h
   have h1:=ih _ _ _ hx hm
   exact⟨h1.1,h1.2.1,h1.2.2⟩
theorem Zou {C:Orc} {M:Zj} (hB:Yb C) {N:Nat} {cf:QK} {as:List AV} {h:List Zi} {r:AV} {hs:List Zi} (hv:ZdT C M N cf as h=some (r,hs)) (k:Nat) (cs:List AV) (hk:h[k]?=some (Zi.box cs)):∃ cs',hs[k]?=some (Zi.box cs'):=by
 unfold ZdT at hv
 split at hv
 ·cases hr:Zw C M N cf.body { sl:=YI 0 as,hp:=Yj 0 h,nx:=h.length,m:=h.length } with
  | none=>rw[hr] at hv;simp[WU] at hv
  | some q=>
   obtain⟨ex,st'⟩:=q
   rw[hr] at hv
   obtain⟨h1,h2,h3⟩:=ZpG hB _ _ _ _ hr (Nat.le_refl _)
   have hkl:k<h.length:=(List.getElem?_eq_some_iff.1 hk).1
   obtain⟨cs',h4⟩:=h1 k cs hkl (by show lkp (Yj 0 h) k=_;rw[XS];simpa using hk)
   have fin:(bnd (Qh (ZfE st') cf.res) fun vs=>some (XX h.length st'.hp (W7 vs)))=some (r,hs)→∃ cs',hs[k]?=some (Zi.box cs'):=by
    intro hres
    obtain⟨vs,_,hres⟩:=Za hres
    simp only[XX,Option.some.injEq,Prod.mk.injEq] at hres
    obtain⟨_,rfl⟩:=hres
    rw[List.getElem?_map,UF,ZbD hkl]
    simp only[Option.map_some,h4,ZdG]
    exact⟨_,rfl⟩
   cases ex with
   | normal=>exact fin (by simpa [WU] using hv)
   | ret=>exact fin (by simpa [WU] using hv)
   | exit id=>simp[WU] at hv
 ·cases hv
structure Jj (P:Program) (X:Fns) (M:Zj):Prop where
 text:∀ f cf,X f=some (.text cf)→∃ fn,P.funcs[f]?=some fn∧(fn.name == "runtime.NumGoroutine")=false∧cFun P fn=some (ZeD cf)
 prim:∀ f p,X f=some (.prim p)→∀ as h r hs,p as h=some (r,hs)→Zgg P f as h r hs∧∀ (k:Nat) (cs:List AV),h[k]?=some (Zi.box cs)→∃ cs',hs[k]?=some (Zi.box cs')
theorem Zc3 {P:Program} {X:Fns} {M:Zj} (hX:Jj P X M):∀ n,Yb (Z0 X M n)
 | 0=>fun f as h r hs hv=>by simp only[Z0] at hv;cases hv
 | n+1=>fun f as h r hs hv k cs hk=>by
  simp only[Z0] at hv
  cases hf:X f with
  | none=>rw[hf] at hv;simp only[ZaO] at hv;cases hv
  | some g=>
   rw[hf] at hv
   cases g with
   | text cf=>simp only[ZaO] at hv;exact Zou (Zc3 hX n) hv k cs hk
   | prim p=>simp only[ZaO] at hv;exact(hX.prim f p hf as h r hs hv).2 k cs hk
theorem ZaT {P:Program} {X:Fns} {M:Zj} (hX:Jj P X M) (hD:∀ C nt,Z6 P C→Yb C→Ym P C M nt):∀ n,Z6 P (Z0 X M n)
 | 0=>fun f as h r hs hv=>by simp only[Z0] at hv;cases hv
 | n+1=>fun f as h r hs hv=>by
  simp only[Z0] at hv
  have hC:=ZaT hX hD n
  have hB:=Zc3 hX n
  cases hf:X f with
  | none=>rw[hf] at hv;simp only[ZaO] at hv;cases hv
  | some g=>
   rw[hf] at hv
   cases g with
   | text cf=>
    simp only[ZaO] at hv
    obtain⟨fn,h1,h2,h3⟩:=hX.text f cf hf
    exact ZmK hC hB h1 h2 h3 (hD _ _ hC hB) hv
   | prim p=>simp only[ZaO] at hv;exact(hX.prim f p hf as h r hs hv).1
theorem Zfo {P:Program} {X:Fns} {M:Zj} (hX:Jj P X M) (hD:∀ C nt,Z6 P C→Yb C→Ym P C M nt):Z6 P (Zv X M):=fun f as h r hs hv=>by
 obtain⟨n,hn⟩:=ZbB hv
 exact ZaT hX hD n f as h r hs hn
end Go.Abs
