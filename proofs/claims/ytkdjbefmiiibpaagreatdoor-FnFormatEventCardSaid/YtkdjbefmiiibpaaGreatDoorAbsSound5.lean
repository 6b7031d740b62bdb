/- The abstract semantics and the model: programs. Own text. -/
import Derived.Test.YtkdjbefmiiibpaaGreatDoorAbsSound3
set_option linter.unusedVariables false
set_option linter.unusedSimpArgs false
namespace Go.Abs
open Go
section
variable {P:Program} {nt:Nat} {F A:Nat→Prop} {Γ0:Gh}
theorem Zsv:∀ (l:List AV) (k t:Nat),gs (WZ k l) t=if k≤t then ZcR l[t-k]? else .junk
 | [],k,t=>by simp[WZ,gs,lkp,ZcR]
 | v :: r,k,t=>by
  have ih:=Zsv r (k+1) t
  have key:gs (WZ k (v :: r)) t=if k=t then ZcR (Zvy (some v) (lkp (WZ (k+1) r) t)) else gs (WZ (k+1) r) t:=by
   simp only[WZ,gs,ZhS]
   by_cases h:k=t
   ·simp[h]
   ·simp only[h,if_false];cases lkp (WZ (k+1) r) t<;>rfl
  rw[key]
  by_cases h1:k=t
  ·subst h1
   have h2:lkp (WZ (k+1) r) k=none:=by
    have:∀ (l:List AV) (j:Nat),k<j→lkp (WZ j l) k=none:=by
     intro l
     induction l with
     | nil=>intro j _;rfl
     | cons a l ihl=>
      intro j hj
      simp only[WZ,ZhS,ihl (j+1) (by omega)]
      rw[if_neg (by omega)];rfl
    exact this r (k+1) (by omega)
   rw[h2];simp[Zvy,ZcR]
  ·rw[if_neg h1,ih]
   by_cases h2:k≤t
   ·rw[if_pos (by omega),if_pos h2]
    have:t-k=(t-(k+1))+1:=by omega
    rw[this];simp
   ·rw[if_neg (by omega),if_neg h2]
theorem ZkH {v:Value} {u:Value} {t:TypeId} {w:World} (h:(Instr.loadAt t v).run P w=.ok u w):(do loadVar t (← asAddr v):Sem Value).run P w=.ok u w:=by
 cases v with
 | pointer a=>
  cases a with
  | none=>simp[Instr.loadAt,Instr.sureAddr] at h
  | some a=>simpa [Instr.loadAt,Instr.sureAddr,asAddr] using h
 | _=>simp[Instr.loadAt,Instr.sureAddr] at h
theorem Zfy {I:Nat→Prop} {Γ:Gh} {st:St} {a:Act} {w:World} (h:Sim nt F A I Γ (J8 st.nx) st.sl st.hp a w):∀ {rvs:List ResultVar} {rs:List Zoh} {vs:List AV},QU (cRes P) rvs=some rs→QU (ZkG st) rs=some vs →
  ∃ us:List Value,(rvs.mapM (m:=Sem) fun
   | .tmp t=>pure (a.tmps.getD t undef)
   | .cell c t=>do loadVar t (← asAddr (a.tmps.getD c undef))).run P w=.ok us w∧Zu (Rep Γ w I) vs us
 | [],rs,vs,hr,hv=>by
  simp only[QU] at hr;cases hr
  simp only[QU] at hv;cases hv
  exact⟨[],by simp,trivial⟩
 | rv :: rvs,rs,vs,hr,hv=>by
  simp only[QU] at hr
  obtain⟨r,h1,hr⟩:=Za hr
  obtain⟨rs',h2,hr⟩:=Za hr
  cases hr
  simp only[QU] at hv
  obtain⟨v,h3,hv⟩:=Za hv
  obtain⟨vs',h4,hv⟩:=Za hv
  cases hv
  obtain⟨us,h5,h6⟩:=Zfy h h2 h4
  cases rv with
  | tmp t=>
   simp only[cRes] at h1;cases h1
   simp only[ZkG] at h3;cases h3
   refine⟨a.tmps.getD t undef :: us,?_,h.slots t,h6⟩
   simp only[List.mapM_cons,Sem.run_bind,Sem.run_pure,Result.andThen_ok,h5]
  | cell c t=>
   simp only[cRes] at h1
   obtain⟨g,h7,h1⟩:=Za h1
   cases h1
   simp only[ZkG] at h3
   obtain⟨u,h8,h9⟩:=Zsc (P:=P) h7 h.hpOK (h.slots c) h3
   have h10:=ZkH h8
   refine⟨u :: us,?_,h9,h6⟩
   simp only[List.mapM_cons]
   rw[Sem.run_bind,h10]
   simp only[Result.andThen_ok,Sem.run_bind,h5,Sem.run_pure]
theorem Zpb {Γ:Gh} {w:World} {I:Nat→Prop}:∀ {vs:List AV} {us:List Value},Zhd vs=false→Zu (Rep Γ w I) vs us→Zu (J0 Γ w I) vs us
 | [],[],_,_=>trivial
 | [],_ :: _,_,h=>h.elim
 | _ :: _,[],_,h=>h.elim
 | v :: vs,u :: us,hn,h=>by
  simp only[Zhd,Bool.or_eq_false_iff] at hn
  refine⟨?_,Zpb hn.2 h.2⟩
  cases v<;>first | exact h.1 | (simp[ZuV] at hn)
theorem ZuX {Γ:Gh} {w:World} {I:Nat→Prop} {vs:List AV} {us:List Value} (h:Zu (Rep Γ w I) vs us):Rep Γ w I (Zbn vs) (if h:us.toArray.size=1 then us.toArray[0] else .tuple us.toArray):=by
 match vs,us,h with
 | [],[],h=>exact⟨#[],rfl,trivial⟩
 | [v],[u],h=>exact h.1
 | v :: v' :: vs,u :: u' :: us,h=>
  simp only[Zbn]
  cases hn:Zhd (v :: v' :: vs)
  ·simp only[Bool.false_eq_true,if_false]
   rw[dif_neg (by simp)]
   exact⟨_,rfl,by simpa using Zpb hn h⟩
  ·exact trivial
theorem Zud {C:Orc} {M:Zo} (hC:QW P C) (hB:Wr C) {f:FuncId} {fn:Func} {cf:ZR} (hf:P.funcs[f]?=some fn) (hname:(fn.name == "runtime.NumGoroutine")=false) (hcf:cFun P fn=some (Zjl cf)) (hD:Up P C M fn.ntmps)
  {N:Nat} {as:List AV} {h:List Zl} {res:AV} {hs:List Zl} (hv:Zim C M N cf as h=some (res,hs)):ZlQ P f as h res hs:=by
 unfold cFun at hcf
 obtain⟨c,hb,hcf⟩:=Za hcf
 obtain⟨cc,hcc,hcf⟩:=Za hcf
 obtain⟨rs,hrs,hcf⟩:=Za hcf
 obtain⟨cnt,cres,cc0⟩:=cf
 simp only[Zjl,Option.some.injEq,ZR.mk.injEq] at hcf
 obtain⟨rfl,rfl,rfl⟩:=hcf
 refine⟨⟨fn,hf,hname,by rw[hb];rfl⟩,fun F A I Γ args w hpre=>?_⟩
 unfold Zim at hv
 split at hv
 ·rename_i hle
  simp only at hle hv
  cases hr:ZI C M N cc0 { sl:=WZ 0 as,hp:=V5 0 h,nx:=h.length,m:=h.length } with
  | none=>rw[hr] at hv;simp[Za9] at hv
  | some q=>
   obtain⟨ex,st'⟩:=q
   rw[hr] at hv
   have hlen:as.length=args.length:=hpre.args.length
   refine calls_of_wp hf hb ?_
   have hS:Sim fn.ntmps F A I Γ (J8 h.length) (WZ 0 as) (V5 0 h) { tmps:=args.toArray++Array.replicate (fn.ntmps-args.toArray.size) undef,defers:=[] } w:=by
    refine { nt:=by simp;omega,dfr:=rfl,slots:=fun t=>?_,objs:=hpre.objs,inj:=hpre.inj,bound:=hpre.bound,fresh:=hpre.fresh,own:=hpre.own,names:=fun id hid=>hpre.names id (by simpa [J8] using hid),glob:=hpre.glob }
    rw[Zsv]
    simp only[Nat.zero_le,if_true,Nat.sub_zero]
    cases ht:as[t]? with
    | none=>exact trivial
    | some x=>
     obtain⟨v,h1,h2⟩:=hpre.args.get t x ht
     have h3:(args.toArray++Array.replicate (fn.ntmps-args.toArray.size) undef).getD t undef=v:=by
      have hlt:=(List.getElem?_eq_some_iff.1 h1).1
      have h4:=List.getElem?_eq_getElem hlt
      rw[h1] at h4
      simp[Array.getElem?_append,hlt]
      exact(Option.some.inj h4).symm
     rw[h3];exact h2
   have hc:Zeu Γ Γ (V5 0 h):=by
    intro k b hk
    refine⟨hk,?_⟩
    have hkm:k<h.length:=by
     rcases Nat.lt_or_ge k h.length with h1 | h1
     ·exact h1
     ·rw[hpre.names k h1] at hk;cases hk
    have hl:lkp (V5 0 h) k=some h[k]:=by rw[Vr];simp[hkm]
    have ho:=hpre.objs k _ hl
    cases hq:h[k] with
    | box cs=>exact⟨cs,by rw[hl,hq]⟩
    | row sz xs e z=>
     rw[hq] at ho
     obtain⟨ad,n,c,h1,_⟩:=ho
     rw[hk] at h1;cases h1
    | deep sz ns xs lk=>
     rw[hq] at ho
     obtain⟨ad,n,c,h1,_⟩:=ho
     rw[hk] at h1;cases h1
   refine Zev (F:=F) (A:=A) (Γ0:=Γ) hC hB hD cc0 c hcc hr hS hc hpre.names fun a' w' hp=>?_
   have fin:(bnd (QU (ZkG st') rs) fun vs=>some (Vv h.length st'.hp (Zbn vs)))=some (res,hs)→a'.defers=[]∧∃ v,(results fn a'.tmps).run P w'=.ok v w'∧∃ v2 I' Γ',Ending.returned v=.returned v2∧Zvz F A I Γ w hs res I' Γ' v2 w':=by
    intro hres
    obtain⟨I',Γ',b1,b2,b3,b4,b5⟩:=hp
    obtain⟨vs,hvs,hres⟩:=Za hres
    obtain⟨us,hus,hrep⟩:=Zfy b5 hrs hvs
    refine⟨b5.dfr,(if h:us.toArray.size=1 then us.toArray[0] else .tuple us.toArray),?_,_,I',Zbb st'.hp (QX st'.hp (Xz st'.hp) (ZF (Zbn vs)++Wx st'.hp (List.range h.length)) (List.range h.length)) Γ',rfl,?_⟩
    ·unfold results
     rw[Sem.run_bind,Array.mapM_eq_mapM_toList,Sem.run_map]
     exact congrArg (fun r:Result (List Value)=>(r.andThen fun a w'=>Result.ok a.toArray w').andThen fun a w'=>Sem.run P (pure (if h:a.size=1 then a[0] else Value.tuple a)) w') hus
    ·have hnd:=(ZaT st'.hp (Xz st'.hp) (ZF (Zbn vs)++Wx st'.hp (List.range h.length)) (List.range h.length) List.nodup_range).1
     obtain⟨t1,t2,t3⟩:=Zuc b5 hnd
     simp only[Vv,Option.some.injEq,Prod.mk.injEq] at hres
     obtain⟨rfl,rfl⟩:=hres
     have hcp:=Zpa (n:=Xz st'.hp) (todo:=ZF (Zbn vs)++Wx st'.hp (List.range h.length)) (m:=h.length) b1 hpre.names
     exact { boxes:=fun id b hg=>(hcp id b hg).1,keeps:=b2,sub:=b3,fr:=b4,res:=ZmS _ (ZuX hrep),objs:=t1,inj:=t2,bound:=b5.bound,names:=fun id hid=>t3 id (by simpa [Zcw] using hid) }
   cases ex with
   | normal=>exact fin (by simpa [Za9] using hv)
   | ret=>exact fin (by simpa [Za9] using hv)
   | exit id=>simp[Za9] at hv
 ·cases hv
end
end Go.Abs
set_option linter.unusedVariables false
set_option linter.unusedSimpArgs false
namespace Go.Abs
open Go
theorem ZmT {C:Orc} {M:Zo} (hB:Wr C) {nx:Nat}:∀ (os:List CO) (i:Nat) {sl:Sl} {hp:Hp} {r:Sl×Hp},ZdH C M nx i os sl hp=some r→XB hp r.2 nx
 | [],i,sl,hp,r,h=>by simp only[ZdH] at h;cases h;exact XB.refl hp nx
 | o :: os,i,sl,hp,r,h=>by
  simp only[ZdH] at h
  obtain⟨b,_,h⟩:=Za h
  split at h
  ·obtain⟨q,hq,h⟩:=Za h
   obtain⟨ce,hce,hok,rfl⟩:=Xf hq
   have h1:=(Zet hB hce).keeps hok o.dst sl
   exact XB.trans (fun id cs hid hl=>h1 id cs (by omega) hl) (ZmT hB os (i+1) h)
  ·exact ZmT hB os (i+1) h
theorem ZaY {C:Orc} {M:Zo} {nx i:Nat} {t:Bool} {o:COp} {sl:Sl} {hp:Hp} {ce:Zb} (h:Wz C M nx i t o sl hp=some ce):vop C M sl hp (nx+64*i) o=some ce:=by
 unfold Wz at h
 split at h
 ·exact h
 ·unfold Zco at h
  obtain⟨c,h1,h⟩:=Za h
  unfold Zeq at h
  split at h
  ·cases h;exact h1
  ·cases h
theorem Zjp {C:Orc} {M:Zo} (hB:Wr C) {nx:Nat}:∀ (os:List CO) (i:Nat) (t:Bool) {sl:Sl} {hp:Hp} {r:Sl×Hp},UQ C M nx i t os sl hp=some r→XB hp r.2 nx
 | [],i,t,sl,hp,r,h=>by simp only[UQ] at h;cases h;exact XB.refl hp nx
 | o :: os,i,t,sl,hp,r,h=>by
  simp only[UQ] at h
  obtain⟨b,_,h⟩:=Za h
  split at h
  ·obtain⟨q,hq,h⟩:=Za h
   obtain⟨ce,hce,hok,rfl⟩:=Xf hq
   have h1:=(Zet hB (ZaY hce)).keeps hok o.dst sl
   exact XB.trans (fun id cs hid hl=>h1 id cs (by omega) hl) (Zjp hB os (i+1) _ h)
  ·exact Zjp hB os (i+1) _ h
theorem Zwl (K:List Nat) (st:St):XB st.hp (Uu K st).hp st.m∧st.m≤(Uu K st).nx:=by
 refine⟨fun k cs hk hl=>?_,?_⟩
 ·show ∃ cs',lkp (V5 0 _) k=_
  rw[Vr]
  simp only[Nat.zero_le,if_true,Nat.sub_zero,List.getElem?_map,Zb2,Zfx hk,Option.map_some,hl,Zh8]
  exact⟨_,rfl⟩
 ·show st.m≤(QX _ _ _ _).length
  obtain⟨t,ht⟩:=J5 st.hp (Xz st.hp) (ZmO (only K st.sl)++Wx st.hp (List.range st.m)) (List.range st.m)
  rw[ht]
  simp
theorem Zx9 {C:Orc} {M:Zo} (hB:Wr C) {N:Nat}:∀ (c:Zg) (st st' : St) (e:Ex),ZI C M N c st=some (e,st')→st.m≤st.nx→XB st.hp st'.hp st.m∧st'.m=st.m∧st.m≤st'.nx:=by
 intro c
 induction c with
 | skip=>intro st st' e h hm;simp only[ZI] at h;cases h;exact⟨XB.refl _ _,rfl,hm⟩
 | region n d ops=>
  intro st st' e h hm
  cases d
  ·simp only[ZI,Zil] at h
   obtain⟨r,h1,h⟩:=Za h
   cases h
   have h2:=ZmT hB _ _ h1
   exact⟨fun id cs hid hl=>h2 id cs (by omega) hl,rfl,by show st.m≤st.nx+64*n;omega⟩
  ·simp only[ZI,Zil] at h
   obtain⟨r,h1,h⟩:=Za h
   cases h
   unfold ZmP at h1
   obtain⟨r',h3,h1⟩:=Za h1
   split at h1
   ·cases h1
    have h2:=Zjp hB _ _ _ h3
    exact⟨fun id cs hid hl=>h2 id cs (by omega) hl,rfl,by show st.m≤st.nx+64*n;omega⟩
   ·cases h1
 | seq x y ihx ihy=>
  intro st st' e h hm
  simp only[ZI] at h
  cases hx:ZI C M N x st with
  | none=>rw[hx] at h;cases h
  | some q=>
   obtain⟨e1,st1⟩:=q
   rw[hx] at h
   obtain⟨h1,h2,h3⟩:=ihx _ _ _ hx hm
   cases e1<;>simp only[andThen] at h
   ·obtain⟨h4,h5,h6⟩:=ihy _ _ _ h (by omega)
    rw[h2] at h4 h5 h6
    exact⟨h1.trans h4,h5,h6⟩
   ·cases h;exact⟨h1,h2,h3⟩
   ·cases h;exact⟨h1,h2,h3⟩
 | cond c x y ihx ihy=>
  intro st st' e h hm
  simp only[ZI] at h
  unfold Zfu at h
  split at h
  ·split at h
   ·exact ihx _ _ _ h hm
   ·exact ihy _ _ _ h hm
  ·cases h
 | block id c ih=>
  intro st st' e h hm
  simp only[ZI] at h
  cases hx:ZI C M N c st with
  | none=>rw[hx] at h;cases h
  | some q=>
   obtain⟨e1,st1⟩:=q
   rw[hx] at h
   have h1:=ih _ _ _ hx hm
   unfold ZeH at h
   split at h
   ·rename_i j st2 hq
    cases hq
    split at h<;>(cases h;exact h1)
   ·cases h;exact h1
 | loop c ih=>
  intro st st' e h hm
  simp only[ZI] at h
  have key:∀ (K:List Nat) (n:Nat) (st:St),UR (ZI C M N c) K n st=some (e,st')→st.m≤st.nx→XB st.hp st'.hp st.m∧st'.m=st.m∧st.m≤st'.nx:=by
   intro K n
   induction n with
   | zero=>intro st h;simp only[UR] at h;cases h
   | succ n ihn=>
    intro st h hm
    simp only[UR] at h
    obtain⟨c1,c2⟩:=Zwl K st
    cases hx:ZI C M N c (Uu K st) with
    | none=>rw[hx] at h;cases h
    | some q=>
     obtain⟨e1,st1⟩:=q
     rw[hx] at h
     obtain⟨h1,h2,h3⟩:=ih _ _ _ hx c2
     have hcm:(Uu K st).m=st.m:=rfl
     rw[hcm] at h1 h2 h3
     cases e1 with
     | normal=>
      simp only at h
      obtain⟨h4,h5,h6⟩:=ihn _ h (by omega)
      rw[h2] at h4 h5 h6
      exact⟨(c1.trans h1).trans h4,h5,h6⟩
     | exit id=>simp only at h;cases h;exact⟨c1.trans h1,h2,h3⟩
     | ret=>simp only at h;cases h;exact⟨c1.trans h1,h2,h3⟩
  exact key _ N st h hm
 | exit id=>intro st st' e h hm;simp only[ZI] at h;cases h;exact⟨XB.refl _ _,rfl,hm⟩
 | ret=>intro st st' e h hm;simp only[ZI] at h;cases h;exact⟨XB.refl _ _,rfl,hm⟩
 | stuck=>intro st st' e h hm;simp only[ZI] at h;cases h
 | link id i j c ih=>
  intro st st' e h hm
  simp only[ZI] at h
  obtain⟨st1,h1,h⟩:=Za h
  unfold Zc3 at h1
  obtain⟨n,_,h1⟩:=Za h1
  split at h1
  ·obtain⟨o,ho,h1⟩:=Za h1
   cases h1
   obtain⟨h2,h3,h4⟩:=ih _ _ _ h (by show st.m≤st.nx+64;omega)
   refine⟨XB.trans (fun k cs hk hl=>⟨cs,?_⟩) h2,h3,h4⟩
   show lkp (ins st.hp id o) k=_
   rw[Qs,if_neg (fun e=>by subst e;rw[hl] at ho;cases ho)]
   exact hl
  ·cases h1
 | melt c ih=>
  intro st st' e h hm
  simp only[ZI] at h
  obtain⟨h2,h3,h4⟩:=ih _ _ _ h hm
  refine⟨XB.trans (fun k cs hk hl=>⟨cs,?_⟩) h2,h3,h4⟩
  show lkp (Zgk Zcf st.hp) k=_
  rw[Zcq,hl];rfl
 | keep K c ih=>
  intro st st' e h hm
  simp only[ZI] at h
  cases hx:ZI C M N c st with
  | none=>rw[hx] at h;cases h
  | some q=>
   obtain⟨e1,st1⟩:=q
   rw[hx] at h
   simp only[Zj1] at h
   cases h
   have h1:=ih _ _ _ hx hm
   exact⟨h1.1,h1.2.1,h1.2.2⟩
theorem Zwm {C:Orc} {M:Zo} (hB:Wr C) {N:Nat} {cf:ZR} {as:List AV} {h:List Zl} {r:AV} {hs:List Zl} (hv:Zim C M N cf as h=some (r,hs)) (k:Nat) (cs:List AV) (hk:h[k]?=some (Zl.box cs)):∃ cs',hs[k]?=some (Zl.box cs'):=by
 unfold Zim at hv
 split at hv
 ·cases hr:ZI C M N cf.body { sl:=WZ 0 as,hp:=V5 0 h,nx:=h.length,m:=h.length } with
  | none=>rw[hr] at hv;simp[Za9] at hv
  | some q=>
   obtain⟨ex,st'⟩:=q
   rw[hr] at hv
   obtain⟨h1,h2,h3⟩:=Zx9 hB _ _ _ _ hr (Nat.le_refl _)
   have hkl:k<h.length:=(List.getElem?_eq_some_iff.1 hk).1
   obtain⟨cs',h4⟩:=h1 k cs hkl (by show lkp (V5 0 h) k=_;rw[Vr];simpa using hk)
   have fin:(bnd (QU (ZkG st') cf.res) fun vs=>some (Vv h.length st'.hp (Zbn vs)))=some (r,hs)→∃ cs',hs[k]?=some (Zl.box cs'):=by
    intro hres
    obtain⟨vs,_,hres⟩:=Za hres
    simp only[Vv,Option.some.injEq,Prod.mk.injEq] at hres
    obtain⟨_,rfl⟩:=hres
    rw[List.getElem?_map,Zb2,Zfx hkl]
    simp only[Option.map_some,h4,Zh8]
    exact⟨_,rfl⟩
   cases ex with
   | normal=>exact fin (by simpa [Za9] using hv)
   | ret=>exact fin (by simpa [Za9] using hv)
   | exit id=>simp[Za9] at hv
 ·cases hv
structure Zew (P:Program) (X:Fns) (M:Zo):Prop where
 text:∀ f cf,X f=some (.text cf)→∃ fn,P.funcs[f]?=some fn∧(fn.name == "runtime.NumGoroutine")=false∧cFun P fn=some (Zjl cf)
 prim:∀ f p,X f=some (.prim p)→∀ as h r hs,p as h=some (r,hs)→ZlQ P f as h r hs∧∀ (k:Nat) (cs:List AV),h[k]?=some (Zl.box cs)→∃ cs',hs[k]?=some (Zl.box cs')
theorem Zhi {P:Program} {X:Fns} {M:Zo} (hX:Zew P X M):∀ n,Wr (Qt X M n)
 | 0=>fun f as h r hs hv=>by simp only[Qt] at hv;cases hv
 | n+1=>fun f as h r hs hv k cs hk=>by
  simp only[Qt] at hv
  cases hf:X f with
  | none=>rw[hf] at hv;simp only[Zer] at hv;cases hv
  | some g=>
   rw[hf] at hv
   cases g with
   | text cf=>simp only[Zer] at hv;exact Zwm (Zhi hX n) hv k cs hk
   | prim p=>simp only[Zer] at hv;exact(hX.prim f p hf as h r hs hv).2 k cs hk
theorem Zex {P:Program} {X:Fns} {M:Zo} (hX:Zew P X M) (hD:∀ C nt,QW P C→Wr C→Up P C M nt):∀ n,QW P (Qt X M n)
 | 0=>fun f as h r hs hv=>by simp only[Qt] at hv;cases hv
 | n+1=>fun f as h r hs hv=>by
  simp only[Qt] at hv
  have hC:=Zex hX hD n
  have hB:=Zhi hX n
  cases hf:X f with
  | none=>rw[hf] at hv;simp only[Zer] at hv;cases hv
  | some g=>
   rw[hf] at hv
   cases g with
   | text cf=>
    simp only[Zer] at hv
    obtain⟨fn,h1,h2,h3⟩:=hX.text f cf hf
    exact Zud hC hB h1 h2 h3 (hD _ _ hC hB) hv
   | prim p=>simp only[Zer] at hv;exact(hX.prim f p hf as h r hs hv).1
theorem Zj2 {P:Program} {X:Fns} {M:Zo} (hX:Zew P X M) (hD:∀ C nt,QW P C→Wr C→Up P C M nt):QW P (Zk X M):=fun f as h r hs hv=>by
 obtain⟨n,hn⟩:=Zfv hv
 exact Zex hX hD n f as h r hs hn
end Go.Abs
