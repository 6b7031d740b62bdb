/- The abstract semantics and the model: programs. Own text. -/
import Derived.Test.YtkdjbefmiiibpaaGreatDoorAbsSound3
set_option linter.unusedVariables false
set_option linter.unusedSimpArgs false
namespace Go.Abs
open Go
section
variable {P:Program} {nt:Nat} {F A:Nat→Prop} {Γ0:Gh}
theorem Zu4:∀ (l:List AV) (k t:Nat),gs (UN k l) t=if k≤t then Zfu l[t-k]? else .junk
 | [],k,t=>by simp[UN,gs,lkp,Zfu]
 | v :: r,k,t=>by
  have ih:=Zu4 r (k+1) t
  have key:gs (UN k (v :: r)) t=if k=t then Zfu (ZyK (some v) (lkp (UN (k+1) r) t)) else gs (UN (k+1) r) t:=by
   simp only[UN,gs,Zle]
   by_cases h:k=t
   ·simp[h]
   ·simp only[h,if_false];cases lkp (UN (k+1) r) t<;>rfl
  rw[key]
  by_cases h1:k=t
  ·subst h1
   have h2:lkp (UN (k+1) r) k=none:=by
    have:∀ (l:List AV) (j:Nat),k<j→lkp (UN j l) k=none:=by
     intro l
     induction l with
     | nil=>intro j _;rfl
     | cons a l ihl=>
      intro j hj
      simp only[UN,Zle,ihl (j+1) (by omega)]
      rw[if_neg (by omega)];rfl
    exact this r (k+1) (by omega)
   rw[h2];simp[ZyK,Zfu]
  ·rw[if_neg h1,ih]
   by_cases h2:k≤t
   ·rw[if_pos (by omega),if_pos h2]
    have:t-k=(t-(k+1))+1:=by omega
    rw[this];simp
   ·rw[if_neg (by omega),if_neg h2]
theorem Zn4 {v:Value} {u:Value} {t:TypeId} {w:World} (h:(Instr.loadAt t v).run P w=.ok u w):(do loadVar t (← asAddr v):Sem Value).run P w=.ok u w:=by
 cases v with
 | pointer a=>
  cases a with
  | none=>simp[Instr.loadAt,Instr.sureAddr] at h
  | some a=>simpa [Instr.loadAt,Instr.sureAddr,asAddr] using h
 | _=>simp[Instr.loadAt,Instr.sureAddr] at h
theorem ZiO {I:Nat→Prop} {Γ:Gh} {st:St} {a:Act} {w:World} (h:Sim nt F A I Γ (Zbz st.nx) st.sl st.hp a w):∀ {rvs:List ResultVar} {rs:List ZqX} {vs:List AV},Q6 (cRes P) rvs=some rs→Q6 (Zn3 st) rs=some vs →
  ∃ us:List Value,(rvs.mapM (m:=Sem) fun
   | .tmp t=>pure (a.tmps.getD t undef)
   | .cell c t=>do loadVar t (← asAddr (a.tmps.getD c undef))).run P w=.ok us w∧Zz (Rep Γ w I) vs us
 | [],rs,vs,hr,hv=>by
  simp only[Q6] at hr;cases hr
  simp only[Q6] at hv;cases hv
  exact⟨[],by simp,trivial⟩
 | rv :: rvs,rs,vs,hr,hv=>by
  simp only[Q6] at hr
  obtain⟨r,h1,hr⟩:=Za hr
  obtain⟨rs',h2,hr⟩:=Za hr
  cases hr
  simp only[Q6] at hv
  obtain⟨v,h3,hv⟩:=Za hv
  obtain⟨vs',h4,hv⟩:=Za hv
  cases hv
  obtain⟨us,h5,h6⟩:=ZiO h h2 h4
  cases rv with
  | tmp t=>
   simp only[cRes] at h1;cases h1
   simp only[Zn3] at h3;cases h3
   refine⟨a.tmps.getD t undef :: us,?_,h.slots t,h6⟩
   simp only[List.mapM_cons,Sem.run_bind,Sem.run_pure,Result.andThen_ok,h5]
  | cell c t=>
   simp only[cRes] at h1
   obtain⟨g,h7,h1⟩:=Za h1
   cases h1
   simp only[Zn3] at h3
   obtain⟨u,h8,h9⟩:=ZuL (P:=P) h7 h.hpOK (h.slots c) h3
   have h10:=Zn4 h8
   refine⟨u :: us,?_,h9,h6⟩
   simp only[List.mapM_cons]
   rw[Sem.run_bind,h10]
   simp only[Result.andThen_ok,Sem.run_bind,h5,Sem.run_pure]
theorem Zsd {Γ:Gh} {w:World} {I:Nat→Prop}:∀ {vs:List AV} {us:List Value},ZkJ vs=false→Zz (Rep Γ w I) vs us→Zz (Za2 Γ w I) vs us
 | [],[],_,_=>trivial
 | [],_ :: _,_,h=>h.elim
 | _ :: _,[],_,h=>h.elim
 | v :: vs,u :: us,hn,h=>by
  simp only[ZkJ,Bool.or_eq_false_iff] at hn
  refine⟨?_,Zsd hn.2 h.2⟩
  cases v<;>first | exact h.1 | (simp[Zx8] at hn)
theorem Zya {Γ:Gh} {w:World} {I:Nat→Prop} {vs:List AV} {us:List Value} (h:Zz (Rep Γ w I) vs us):Rep Γ w I (Zdq vs) (if h:us.toArray.size=1 then us.toArray[0] else .tuple us.toArray):=by
 match vs,us,h with
 | [],[],h=>exact⟨#[],rfl,trivial⟩
 | [v],[u],h=>exact h.1
 | v :: v' :: vs,u :: u' :: us,h=>
  simp only[Zdq]
  cases hn:ZkJ (v :: v' :: vs)
  ·simp only[Bool.false_eq_true,if_false]
   rw[dif_neg (by simp)]
   exact⟨_,rfl,by simpa using Zsd hn h⟩
  ·exact trivial
theorem Zw4 {C:Orc} {M:Zt} (hC:QD P C) (hB:Wo C) {f:FuncId} {fn:Func} {cf:ZH} (hf:P.funcs[f]?=some fn) (hname:(fn.name == "runtime.NumGoroutine")=false) (hcf:cFun P fn=some (ZmR cf)) (hD:Wp P C M fn.ntmps)
  {N:Nat} {as:List AV} {h:List Zo} {res:AV} {hs:List Zo} (hv:ZlI C M N cf as h=some (res,hs)):ZoH P f as h res hs:=by
 unfold cFun at hcf
 obtain⟨c,hb,hcf⟩:=Za hcf
 obtain⟨cc,hcc,hcf⟩:=Za hcf
 obtain⟨rs,hrs,hcf⟩:=Za hcf
 obtain⟨cnt,cres,cc0⟩:=cf
 simp only[ZmR,Option.some.injEq,ZH.mk.injEq] at hcf
 obtain⟨rfl,rfl,rfl⟩:=hcf
 refine⟨⟨fn,hf,hname,by rw[hb];rfl⟩,fun F A I Γ args w hpre=>?_⟩
 unfold ZlI at hv
 split at hv
 ·rename_i hle
  simp only at hle hv
  cases hr:ZL C M N cc0 { sl:=UN 0 as,hp:=W5 0 h,nx:=h.length,m:=h.length } with
  | none=>rw[hr] at hv;simp[ZcQ] at hv
  | some q=>
   obtain⟨ex,st'⟩:=q
   rw[hr] at hv
   have hlen:as.length=args.length:=hpre.args.length
   refine calls_of_wp hf hb ?_
   have hS:Sim fn.ntmps F A I Γ (Zbz h.length) (UN 0 as) (W5 0 h) { tmps:=args.toArray++Array.replicate (fn.ntmps-args.toArray.size) undef,defers:=[] } w:=by
    refine { nt:=by simp;omega,dfr:=rfl,slots:=fun t=>?_,objs:=hpre.objs,inj:=hpre.inj,bound:=hpre.bound,fresh:=hpre.fresh,own:=hpre.own,names:=fun id hid=>hpre.names id (by simpa [Zbz] using hid),glob:=hpre.glob }
    rw[Zu4]
    simp only[Nat.zero_le,if_true,Nat.sub_zero]
    cases ht:as[t]? with
    | none=>exact trivial
    | some x=>
     obtain⟨v,h1,h2⟩:=hpre.args.get t x ht
     have h3:(args.toArray++Array.replicate (fn.ntmps-args.toArray.size) undef).getD t undef=v:=by
      have hlt:=(List.getElem?_eq_some_iff.1 h1).1
      have h4:=List.getElem?_eq_getElem hlt
      rw[h1] at h4
      simp[Array.getElem?_append,hlt]
      exact(Option.some.inj h4).symm
     rw[h3];exact h2
   have hc:ZhC Γ Γ (W5 0 h):=by
    intro k b hk
    refine⟨hk,?_⟩
    have hkm:k<h.length:=by
     rcases Nat.lt_or_ge k h.length with h1 | h1
     ·exact h1
     ·rw[hpre.names k h1] at hk;cases hk
    have hl:lkp (W5 0 h) k=some h[k]:=by rw[Wi];simp[hkm]
    have ho:=hpre.objs k _ hl
    cases hq:h[k] with
    | box cs=>exact⟨cs,by rw[hl,hq]⟩
    | row sz xs e z=>
     rw[hq] at ho
     obtain⟨ad,n,c,h1,_⟩:=ho
     rw[hk] at h1;cases h1
    | deep sz ns xs lk=>
     rw[hq] at ho
     obtain⟨ad,n,c,h1,_⟩:=ho
     rw[hk] at h1;cases h1
   refine ZhD (F:=F) (A:=A) (Γ0:=Γ) hC hB hD cc0 c hcc hr hS hc hpre.names fun a' w' hp=>?_
   have fin:(bnd (Q6 (Zn3 st') rs) fun vs=>some (Wm h.length st'.hp (Zdq vs)))=some (res,hs)→a'.defers=[]∧∃ v,(results fn a'.tmps).run P w'=.ok v w'∧∃ v2 I' Γ',Ending.returned v=.returned v2∧ZyL F A I Γ w hs res I' Γ' v2 w':=by
    intro hres
    obtain⟨I',Γ',b1,b2,b3,b4,b5⟩:=hp
    obtain⟨vs,hvs,hres⟩:=Za hres
    obtain⟨us,hus,hrep⟩:=ZiO b5 hrs hvs
    refine⟨b5.dfr,(if h:us.toArray.size=1 then us.toArray[0] else .tuple us.toArray),?_,_,I',ZcS st'.hp (Xd st'.hp (XO st'.hp) (ZI (Zdq vs)++UD st'.hp (List.range h.length)) (List.range h.length)) Γ',rfl,?_⟩
    ·unfold results
     rw[Sem.run_bind,Array.mapM_eq_mapM_toList,Sem.run_map]
     exact congrArg (fun r:Result (List Value)=>(r.andThen fun a w'=>Result.ok a.toArray w').andThen fun a w'=>Sem.run P (pure (if h:a.size=1 then a[0] else Value.tuple a)) w') hus
    ·have hnd:=(Zcr st'.hp (XO st'.hp) (ZI (Zdq vs)++UD st'.hp (List.range h.length)) (List.range h.length) List.nodup_range).1
     obtain⟨t1,t2,t3⟩:=Zw3 b5 hnd
     simp only[Wm,Option.some.injEq,Prod.mk.injEq] at hres
     obtain⟨rfl,rfl⟩:=hres
     have hcp:=Zsc (n:=XO st'.hp) (todo:=ZI (Zdq vs)++UD st'.hp (List.range h.length)) (m:=h.length) b1 hpre.names
     exact { boxes:=fun id b hg=>(hcp id b hg).1,keeps:=b2,sub:=b3,fr:=b4,res:=ZpH _ (Zya hrep),objs:=t1,inj:=t2,bound:=b5.bound,names:=fun id hid=>t3 id (by simpa [Zfa] using hid) }
   cases ex with
   | normal=>exact fin (by simpa [ZcQ] using hv)
   | ret=>exact fin (by simpa [ZcQ] using hv)
   | exit id=>simp[ZcQ] at hv
 ·cases hv
end
end Go.Abs
set_option linter.unusedVariables false
set_option linter.unusedSimpArgs false
namespace Go.Abs
open Go
theorem ZpI {C:Orc} {M:Zt} (hB:Wo C) {nx:Nat}:∀ (os:List CO) (i:Nat) {sl:Sl} {hp:Hp} {r:Sl×Hp},ZgJ C M nx i os sl hp=some r→XQ hp r.2 nx
 | [],i,sl,hp,r,h=>by simp only[ZgJ] at h;cases h;exact XQ.refl hp nx
 | o :: os,i,sl,hp,r,h=>by
  simp only[ZgJ] at h
  obtain⟨b,_,h⟩:=Za h
  split at h
  ·obtain⟨q,hq,h⟩:=Za h
   obtain⟨ce,hce,hok,rfl⟩:=Xv hq
   have h1:=(ZhB hB hce).keeps hok o.dst sl
   exact XQ.trans (fun id cs hid hl=>h1 id cs (by omega) hl) (ZpI hB os (i+1) h)
  ·exact ZpI hB os (i+1) h
theorem Zcw {C:Orc} {M:Zt} {nx i:Nat} {t:Bool} {o:COp} {sl:Sl} {hp:Hp} {ce:Zc} (h:UE C M nx i t o sl hp=some ce):vop C M sl hp (nx+64*i) o=some ce:=by
 unfold UE at h
 split at h
 ·exact h
 ·unfold Zeg at h
  obtain⟨c,h1,h⟩:=Za h
  unfold Zhy at h
  split at h
  ·cases h;exact h1
  ·cases h
theorem ZmV {C:Orc} {M:Zt} (hB:Wo C) {nx:Nat}:∀ (os:List CO) (i:Nat) (t:Bool) {sl:Sl} {hp:Hp} {r:Sl×Hp},JV C M nx i t os sl hp=some r→XQ hp r.2 nx
 | [],i,t,sl,hp,r,h=>by simp only[JV] at h;cases h;exact XQ.refl hp nx
 | o :: os,i,t,sl,hp,r,h=>by
  simp only[JV] at h
  obtain⟨b,_,h⟩:=Za h
  split at h
  ·obtain⟨q,hq,h⟩:=Za h
   obtain⟨ce,hce,hok,rfl⟩:=Xv hq
   have h1:=(ZhB hB (Zcw hce)).keeps hok o.dst sl
   exact XQ.trans (fun id cs hid hl=>h1 id cs (by omega) hl) (ZmV hB os (i+1) _ h)
  ·exact ZmV hB os (i+1) _ h
theorem Zzv (K:List Nat) (st:St):XQ st.hp (JG K st).hp st.m∧st.m≤(JG K st).nx:=by
 refine⟨fun k cs hk hl=>?_,?_⟩
 ·show ∃ cs',lkp (W5 0 _) k=_
  rw[Wi]
  simp only[Nat.zero_le,if_true,Nat.sub_zero,List.getElem?_map,ZdU,ZiN hk,Option.map_some,hl,Zlu]
  exact⟨_,rfl⟩
 ·show st.m≤(Xd _ _ _ _).length
  obtain⟨t,ht⟩:=Za7 st.hp (XO st.hp) (ZpD (only K st.sl)++UD st.hp (List.range st.m)) (List.range st.m)
  rw[ht]
  simp
theorem ZA7 {C:Orc} {M:Zt} (hB:Wo C) {N:Nat}:∀ (c:Ze) (st st' : St) (e:Ex),ZL C M N c st=some (e,st')→st.m≤st.nx→XQ st.hp st'.hp st.m∧st'.m=st.m∧st.m≤st'.nx:=by
 intro c
 induction c with
 | skip=>intro st st' e h hm;simp only[ZL] at h;cases h;exact⟨XQ.refl _ _,rfl,hm⟩
 | region n d ops=>
  intro st st' e h hm
  cases d
  ·simp only[ZL,ZlH] at h
   obtain⟨r,h1,h⟩:=Za h
   cases h
   have h2:=ZpI hB _ _ h1
   exact⟨fun id cs hid hl=>h2 id cs (by omega) hl,rfl,by show st.m≤st.nx+64*n;omega⟩
  ·simp only[ZL,ZlH] at h
   obtain⟨r,h1,h⟩:=Za h
   cases h
   unfold ZpE at h1
   obtain⟨r',h3,h1⟩:=Za h1
   split at h1
   ·cases h1
    have h2:=ZmV hB _ _ _ h3
    exact⟨fun id cs hid hl=>h2 id cs (by omega) hl,rfl,by show st.m≤st.nx+64*n;omega⟩
   ·cases h1
 | seq x y ihx ihy=>
  intro st st' e h hm
  simp only[ZL] at h
  cases hx:ZL C M N x st with
  | none=>rw[hx] at h;cases h
  | some q=>
   obtain⟨e1,st1⟩:=q
   rw[hx] at h
   obtain⟨h1,h2,h3⟩:=ihx _ _ _ hx hm
   cases e1<;>simp only[andThen] at h
   ·obtain⟨h4,h5,h6⟩:=ihy _ _ _ h (by omega)
    rw[h2] at h4 h5 h6
    exact⟨h1.trans h4,h5,h6⟩
   ·cases h;exact⟨h1,h2,h3⟩
   ·cases h;exact⟨h1,h2,h3⟩
 | cond c x y ihx ihy=>
  intro st st' e h hm
  simp only[ZL] at h
  unfold ZiK at h
  split at h
  ·split at h
   ·exact ihx _ _ _ h hm
   ·exact ihy _ _ _ h hm
  ·cases h
 | block id c ih=>
  intro st st' e h hm
  simp only[ZL] at h
  cases hx:ZL C M N c st with
  | none=>rw[hx] at h;cases h
  | some q=>
   obtain⟨e1,st1⟩:=q
   rw[hx] at h
   have h1:=ih _ _ _ hx hm
   unfold Zh9 at h
   split at h
   ·rename_i j st2 hq
    cases hq
    split at h<;>(cases h;exact h1)
   ·cases h;exact h1
 | loop c ih=>
  intro st st' e h hm
  simp only[ZL] at h
  have key:∀ (K:List Nat) (n:Nat) (st:St),JW (ZL C M N c) K n st=some (e,st')→st.m≤st.nx→XQ st.hp st'.hp st.m∧st'.m=st.m∧st.m≤st'.nx:=by
   intro K n
   induction n with
   | zero=>intro st h;simp only[JW] at h;cases h
   | succ n ihn=>
    intro st h hm
    simp only[JW] at h
    obtain⟨c1,c2⟩:=Zzv K st
    cases hx:ZL C M N c (JG K st) with
    | none=>rw[hx] at h;cases h
    | some q=>
     obtain⟨e1,st1⟩:=q
     rw[hx] at h
     obtain⟨h1,h2,h3⟩:=ih _ _ _ hx c2
     have hcm:(JG K st).m=st.m:=rfl
     rw[hcm] at h1 h2 h3
     cases e1 with
     | normal=>
      simp only at h
      obtain⟨h4,h5,h6⟩:=ihn _ h (by omega)
      rw[h2] at h4 h5 h6
      exact⟨(c1.trans h1).trans h4,h5,h6⟩
     | exit id=>simp only at h;cases h;exact⟨c1.trans h1,h2,h3⟩
     | ret=>simp only at h;cases h;exact⟨c1.trans h1,h2,h3⟩
  exact key _ N st h hm
 | exit id=>intro st st' e h hm;simp only[ZL] at h;cases h;exact⟨XQ.refl _ _,rfl,hm⟩
 | ret=>intro st st' e h hm;simp only[ZL] at h;cases h;exact⟨XQ.refl _ _,rfl,hm⟩
 | stuck=>intro st st' e h hm;simp only[ZL] at h;cases h
 | link id i j c ih=>
  intro st st' e h hm
  simp only[ZL] at h
  obtain⟨st1,h1,h⟩:=Za h
  unfold ZfG at h1
  obtain⟨n,_,h1⟩:=Za h1
  split at h1
  ·obtain⟨o,ho,h1⟩:=Za h1
   cases h1
   obtain⟨h2,h3,h4⟩:=ih _ _ _ h (by show st.m≤st.nx+64;omega)
   refine⟨XQ.trans (fun k cs hk hl=>⟨cs,?_⟩) h2,h3,h4⟩
   show lkp (ins st.hp id o) k=_
   rw[Qy,if_neg (fun e=>by subst e;rw[hl] at ho;cases ho)]
   exact hl
  ·cases h1
 | melt c ih=>
  intro st st' e h hm
  simp only[ZL] at h
  obtain⟨h2,h3,h4⟩:=ih _ _ _ h hm
  refine⟨XQ.trans (fun k cs hk hl=>⟨cs,?_⟩) h2,h3,h4⟩
  show lkp (ZjZ Zd7 st.hp) k=_
  rw[Zei,hl];rfl
 | keep K c ih=>
  intro st st' e h hm
  simp only[ZL] at h
  cases hx:ZL C M N c st with
  | none=>rw[hx] at h;cases h
  | some q=>
   obtain⟨e1,st1⟩:=q
   rw[hx] at h
   simp only[ZnF] at h
   cases h
   have h1:=ih _ _ _ hx hm
   exact⟨h1.1,h1.2.1,h1.2.2⟩
theorem Zzw {C:Orc} {M:Zt} (hB:Wo C) {N:Nat} {cf:ZH} {as:List AV} {h:List Zo} {r:AV} {hs:List Zo} (hv:ZlI C M N cf as h=some (r,hs)) (k:Nat) (cs:List AV) (hk:h[k]?=some (Zo.box cs)):∃ cs',hs[k]?=some (Zo.box cs'):=by
 unfold ZlI at hv
 split at hv
 ·cases hr:ZL C M N cf.body { sl:=UN 0 as,hp:=W5 0 h,nx:=h.length,m:=h.length } with
  | none=>rw[hr] at hv;simp[ZcQ] at hv
  | some q=>
   obtain⟨ex,st'⟩:=q
   rw[hr] at hv
   obtain⟨h1,h2,h3⟩:=ZA7 hB _ _ _ _ hr (Nat.le_refl _)
   have hkl:k<h.length:=(List.getElem?_eq_some_iff.1 hk).1
   obtain⟨cs',h4⟩:=h1 k cs hkl (by show lkp (W5 0 h) k=_;rw[Wi];simpa using hk)
   have fin:(bnd (Q6 (Zn3 st') cf.res) fun vs=>some (Wm h.length st'.hp (Zdq vs)))=some (r,hs)→∃ cs',hs[k]?=some (Zo.box cs'):=by
    intro hres
    obtain⟨vs,_,hres⟩:=Za hres
    simp only[Wm,Option.some.injEq,Prod.mk.injEq] at hres
    obtain⟨_,rfl⟩:=hres
    rw[List.getElem?_map,ZdU,ZiN hkl]
    simp only[Option.map_some,h4,Zlu]
    exact⟨_,rfl⟩
   cases ex with
   | normal=>exact fin (by simpa [ZcQ] using hv)
   | ret=>exact fin (by simpa [ZcQ] using hv)
   | exit id=>simp[ZcQ] at hv
 ·cases hv
structure ZdD (P:Program) (X:Fns) (M:Zt):Prop where
 text:∀ f cf,X f=some (.text cf)→∃ fn,P.funcs[f]?=some fn∧(fn.name == "runtime.NumGoroutine")=false∧cFun P fn=some (ZmR cf)
 prim:∀ f p,X f=some (.prim p)→∀ as h r hs,p as h=some (r,hs)→ZoH P f as h r hs∧∀ (k:Nat) (cs:List AV),h[k]?=some (Zo.box cs)→∃ cs',hs[k]?=some (Zo.box cs')
theorem ZkO {P:Program} {X:Fns} {M:Zt} (hX:ZdD P X M):∀ n,Wo (QC X M n)
 | 0=>fun f as h r hs hv=>by simp only[QC] at hv;cases hv
 | n+1=>fun f as h r hs hv k cs hk=>by
  simp only[QC] at hv
  cases hf:X f with
  | none=>rw[hf] at hv;simp only[Zhz] at hv;cases hv
  | some g=>
   rw[hf] at hv
   cases g with
   | text cf=>simp only[Zhz] at hv;exact Zzw (ZkO hX n) hv k cs hk
   | prim p=>simp only[Zhz] at hv;exact(hX.prim f p hf as h r hs hv).2 k cs hk
theorem ZhE {P:Program} {X:Fns} {M:Zt} (hX:ZdD P X M) (hD:∀ C nt,QD P C→Wo C→Wp P C M nt):∀ n,QD P (QC X M n)
 | 0=>fun f as h r hs hv=>by simp only[QC] at hv;cases hv
 | n+1=>fun f as h r hs hv=>by
  simp only[QC] at hv
  have hC:=ZhE hX hD n
  have hB:=ZkO hX n
  cases hf:X f with
  | none=>rw[hf] at hv;simp only[Zhz] at hv;cases hv
  | some g=>
   rw[hf] at hv
   cases g with
   | text cf=>
    simp only[Zhz] at hv
    obtain⟨fn,h1,h2,h3⟩:=hX.text f cf hf
    exact Zw4 hC hB h1 h2 h3 (hD _ _ hC hB) hv
   | prim p=>simp only[Zhz] at hv;exact(hX.prim f p hf as h r hs hv).1
theorem ZnG {P:Program} {X:Fns} {M:Zt} (hX:ZdD P X M) (hD:∀ C nt,QD P C→Wo C→Wp P C M nt):QD P (Zh X M):=fun f as h r hs hv=>by
 obtain⟨n,hn⟩:=ZiL hv
 exact ZhE hX hD n f as h r hs hn
end Go.Abs
