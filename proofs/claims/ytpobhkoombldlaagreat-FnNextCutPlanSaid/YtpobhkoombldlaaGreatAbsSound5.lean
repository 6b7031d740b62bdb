/- The abstract semantics and the model: programs. Own text. -/
import Derived.Test.YtpobhkoombldlaaGreatAbsSound4
set_option linter.unusedVariables false
set_option linter.unusedSimpArgs false
namespace Go.Abs
open Go
theorem Zqp {C:Orc} {M:Zu} (hB:V1 C) {nx:Nat}:∀ (os:List CO) (i:Nat) {sl:Sl} {hp:Hp} {r:Sl×Hp},ZhY C M nx i os sl hp=some r→XG hp r.2 nx
 | [],i,sl,hp,r,h=>by simp only[ZhY] at h;cases h;exact XG.refl hp nx
 | o :: os,i,sl,hp,r,h=>by
  simp only[ZhY] at h
  obtain⟨b,_,h⟩:=Za h
  split at h
  ·obtain⟨q,hq,h⟩:=Za h
   obtain⟨ce,hce,hok,rfl⟩:=Xn hq
   have h1:=(ZiD hB hce).keeps hok o.dst sl
   exact XG.trans (fun id cs hid hl=>h1 id cs (by omega) hl) (Zqp hB os (i+1) h)
  ·exact Zqp hB os (i+1) h
theorem ZeB {C:Orc} {M:Zu} {nx i:Nat} {t:Bool} {o:COp} {sl:Sl} {hp:Hp} {ce:Zf} (h:UO C M nx i t o sl hp=some ce):vop C M sl hp (nx+64*i) o=some ce:=by
 unfold UO at h
 split at h
 ·exact h
 ·unfold Zgu at h
  obtain⟨c,h1,h⟩:=Za h
  unfold ZiA at h
  split at h
  ·cases h;exact h1
  ·cases h
theorem ZnC {C:Orc} {M:Zu} (hB:V1 C) {nx:Nat}:∀ (os:List CO) (i:Nat) (t:Bool) {sl:Sl} {hp:Hp} {r:Sl×Hp},Zai C M nx i t os sl hp=some r→XG hp r.2 nx
 | [],i,t,sl,hp,r,h=>by simp only[Zai] at h;cases h;exact XG.refl hp nx
 | o :: os,i,t,sl,hp,r,h=>by
  simp only[Zai] at h
  obtain⟨b,_,h⟩:=Za h
  split at h
  ·obtain⟨q,hq,h⟩:=Za h
   obtain⟨ce,hce,hok,rfl⟩:=Xn hq
   have h1:=(ZiD hB (ZeB hce)).keeps hok o.dst sl
   exact XG.trans (fun id cs hid hl=>h1 id cs (by omega) hl) (ZnC hB os (i+1) _ h)
  ·exact ZnC hB os (i+1) _ h
theorem Zzm (K:List Nat) (st:St):XG st.hp (J6 K st).hp st.m∧st.m≤(J6 K st).nx:=by
 refine⟨fun k cs hk hl=>?_,?_⟩
 ·show ∃ cs',lkp (UB 0 _) k=_
  rw[Ud]
  simp only[Nat.zero_le,if_true,Nat.sub_zero,List.getElem?_map,Zf6,ZjD hk,Option.map_some,hl,Zmi]
  exact⟨_,rfl⟩
 ·show st.m≤(Q0 _ _ _ _).length
  obtain⟨t,ht⟩:=ZbZ st.hp (XE st.hp) (Zqj (only K st.sl)++UJ st.hp (List.range st.m)) (List.range st.m)
  rw[ht]
  simp
theorem ZAr {C:Orc} {M:Zu} (hB:V1 C) {N:Nat}:∀ (c:Ze) (st st' : St) (e:Ex),ZK C M N c st=some (e,st')→st.m≤st.nx→XG st.hp st'.hp st.m∧st'.m=st.m∧st.m≤st'.nx:=by
 intro c
 induction c with
 | skip=>intro st st' e h hm;simp only[ZK] at h;cases h;exact⟨XG.refl _ _,rfl,hm⟩
 | region n d ops=>
  intro st st' e h hm
  cases d
  ·simp only[ZK,Zmv] at h
   obtain⟨r,h1,h⟩:=Za h
   cases h
   have h2:=Zqp hB _ _ h1
   exact⟨fun id cs hid hl=>h2 id cs (by omega) hl,rfl,by show st.m≤st.nx+64*n;omega⟩
  ·simp only[ZK,Zmv] at h
   obtain⟨r,h1,h⟩:=Za h
   cases h
   unfold Zqk at h1
   obtain⟨r',h3,h1⟩:=Za h1
   split at h1
   ·cases h1
    have h2:=ZnC hB _ _ _ h3
    exact⟨fun id cs hid hl=>h2 id cs (by omega) hl,rfl,by show st.m≤st.nx+64*n;omega⟩
   ·cases h1
 | seq x y ihx ihy=>
  intro st st' e h hm
  simp only[ZK] at h
  cases hx:ZK C M N x st with
  | none=>rw[hx] at h;cases h
  | some q=>
   obtain⟨e1,st1⟩:=q
   rw[hx] at h
   obtain⟨h1,h2,h3⟩:=ihx _ _ _ hx hm
   cases e1<;>simp only[andThen] at h
   ·obtain⟨h4,h5,h6⟩:=ihy _ _ _ h (by omega)
    rw[h2] at h4 h5 h6
    exact⟨h1.trans h4,h5,h6⟩
   ·cases h;exact⟨h1,h2,h3⟩
   ·cases h;exact⟨h1,h2,h3⟩
 | cond c x y ihx ihy=>
  intro st st' e h hm
  simp only[ZK] at h
  unfold ZjA at h
  split at h
  ·split at h
   ·exact ihx _ _ _ h hm
   ·exact ihy _ _ _ h hm
  ·cases h
 | block id c ih=>
  intro st st' e h hm
  simp only[ZK] at h
  cases hx:ZK C M N c st with
  | none=>rw[hx] at h;cases h
  | some q=>
   obtain⟨e1,st1⟩:=q
   rw[hx] at h
   have h1:=ih _ _ _ hx hm
   unfold ZiZ at h
   split at h
   ·rename_i j st2 hq
    cases hq
    split at h<;>(cases h;exact h1)
   ·cases h;exact h1
 | loop c ih=>
  intro st st' e h hm
  simp only[ZK] at h
  have key:∀ (K:List Nat) (n:Nat) (st:St),Zaj (ZK C M N c) K n st=some (e,st')→st.m≤st.nx→XG st.hp st'.hp st.m∧st'.m=st.m∧st.m≤st'.nx:=by
   intro K n
   induction n with
   | zero=>intro st h;simp only[Zaj] at h;cases h
   | succ n ihn=>
    intro st h hm
    simp only[Zaj] at h
    obtain⟨c1,c2⟩:=Zzm K st
    cases hx:ZK C M N c (J6 K st) with
    | none=>rw[hx] at h;cases h
    | some q=>
     obtain⟨e1,st1⟩:=q
     rw[hx] at h
     obtain⟨h1,h2,h3⟩:=ih _ _ _ hx c2
     have hcm:(J6 K st).m=st.m:=rfl
     rw[hcm] at h1 h2 h3
     cases e1 with
     | normal=>
      simp only at h
      obtain⟨h4,h5,h6⟩:=ihn _ h (by omega)
      rw[h2] at h4 h5 h6
      exact⟨(c1.trans h1).trans h4,h5,h6⟩
     | exit id=>simp only at h;cases h;exact⟨c1.trans h1,h2,h3⟩
     | ret=>simp only at h;cases h;exact⟨c1.trans h1,h2,h3⟩
  exact key _ N st h hm
 | exit id=>intro st st' e h hm;simp only[ZK] at h;cases h;exact⟨XG.refl _ _,rfl,hm⟩
 | ret=>intro st st' e h hm;simp only[ZK] at h;cases h;exact⟨XG.refl _ _,rfl,hm⟩
 | stuck=>intro st st' e h hm;simp only[ZK] at h;cases h
 | link id i j c ih=>
  intro st st' e h hm
  simp only[ZK] at h
  obtain⟨st1,h1,h⟩:=Za h
  unfold Zhs at h1
  obtain⟨n,_,h1⟩:=Za h1
  split at h1
  ·obtain⟨o,ho,h1⟩:=Za h1
   cases h1
   obtain⟨h2,h3,h4⟩:=ih _ _ _ h (by show st.m≤st.nx+64;omega)
   refine⟨XG.trans (fun k cs hk hl=>⟨cs,?_⟩) h2,h3,h4⟩
   show lkp (ins st.hp id o) k=_
   rw[Qs,if_neg (fun e=>by subst e;rw[hl] at ho;cases ho)]
   exact hl
  ·cases h1
 | melt c ih=>
  intro st st' e h hm
  simp only[ZK] at h
  obtain⟨h2,h3,h4⟩:=ih _ _ _ h hm
  refine⟨XG.trans (fun k cs hk hl=>⟨cs,?_⟩) h2,h3,h4⟩
  show lkp (ZkO Zgl st.hp) k=_
  rw[Zgw,hl];rfl
 | keep K c ih=>
  intro st st' e h hm
  simp only[ZK] at h
  cases hx:ZK C M N c st with
  | none=>rw[hx] at h;cases h
  | some q=>
   obtain⟨e1,st1⟩:=q
   rw[hx] at h
   simp only[Zom] at h
   cases h
   have h1:=ih _ _ _ hx hm
   exact⟨h1.1,h1.2.1,h1.2.2⟩
theorem Zzn {C:Orc} {M:Zu} (hB:V1 C) {N:Nat} {cf:Zz} {as:List AV} {h:List Zt} {r:AV} {hs:List Zt} (hv:Zmw C M N cf as h=some (r,hs)) (k:Nat) (cs:List AV) (hk:h[k]?=some (Zt.box cs)):∃ cs',hs[k]?=some (Zt.box cs'):=by
 unfold Zmw at hv
 split at hv
 ·cases hr:ZK C M N cf.body { sl:=UT 0 as,hp:=UB 0 h,nx:=h.length,m:=h.length } with
  | none=>rw[hr] at hv;simp[ZeX] at hv
  | some q=>
   obtain⟨ex,st'⟩:=q
   rw[hr] at hv
   obtain⟨h1,h2,h3⟩:=ZAr hB _ _ _ _ hr (Nat.le_refl _)
   have hkl:k<h.length:=(List.getElem?_eq_some_iff.1 hk).1
   obtain⟨cs',h4⟩:=h1 k cs hkl (by show lkp (UB 0 h) k=_;rw[Ud];simpa using hk)
   have fin:(bnd (QV (ZoH st') cf.res) fun vs=>some (Wp h.length st'.hp (Zff vs)))=some (r,hs)→∃ cs',hs[k]?=some (Zt.box cs'):=by
    intro hres
    obtain⟨vs,_,hres⟩:=Za hres
    simp only[Wp,Option.some.injEq,Prod.mk.injEq] at hres
    obtain⟨_,rfl⟩:=hres
    rw[List.getElem?_map,Zf6,ZjD hkl]
    simp only[Option.map_some,h4,Zmi]
    exact⟨_,rfl⟩
   cases ex with
   | normal=>exact fin (by simpa [ZeX] using hv)
   | ret=>exact fin (by simpa [ZeX] using hv)
   | exit id=>simp[ZeX] at hv
 ·cases hv
structure ZdN (P:Program) (X:Fns) (M:Zu):Prop where
 text:∀ f cf,X f=some (.text cf)→∃ fn,P.funcs[f]?=some fn∧(fn.name == "runtime.NumGoroutine")=false∧cFun P fn=some (Zny cf)
 prim:∀ f p,X f=some (.prim p)→∀ as h r hs,p as h=some (r,hs)→Zpq P f as h r hs∧∀ (k:Nat) (cs:List AV),h[k]?=some (Zt.box cs)→∃ cs',hs[k]?=some (Zt.box cs')
theorem ZlF {P:Program} {X:Fns} {M:Zu} (hX:ZdN P X M):∀ n,V1 (Qu X M n)
 | 0=>fun f as h r hs hv=>by simp only[Qu] at hv;cases hv
 | n+1=>fun f as h r hs hv k cs hk=>by
  simp only[Qu] at hv
  cases hf:X f with
  | none=>rw[hf] at hv;simp only[ZiB] at hv;cases hv
  | some g=>
   rw[hf] at hv
   cases g with
   | text cf=>simp only[ZiB] at hv;exact Zzn (ZlF hX n) hv k cs hk
   | prim p=>simp only[ZiB] at hv;exact(hX.prim f p hf as h r hs hv).2 k cs hk
theorem ZiG {P:Program} {X:Fns} {M:Zu} (hX:ZdN P X M) (hD:∀ C nt,Ql P C→V1 C→Vu P C M nt):∀ n,Ql P (Qu X M n)
 | 0=>fun f as h r hs hv=>by simp only[Qu] at hv;cases hv
 | n+1=>fun f as h r hs hv=>by
  simp only[Qu] at hv
  have hC:=ZiG hX hD n
  have hB:=ZlF hX n
  cases hf:X f with
  | none=>rw[hf] at hv;simp only[ZiB] at hv;cases hv
  | some g=>
   rw[hf] at hv
   cases g with
   | text cf=>
    simp only[ZiB] at hv
    obtain⟨fn,h1,h2,h3⟩:=hX.text f cf hf
    exact ZxC hC hB h1 h2 h3 (hD _ _ hC hB) hv
   | prim p=>simp only[ZiB] at hv;exact(hX.prim f p hf as h r hs hv).1
theorem Zon {P:Program} {X:Fns} {M:Zu} (hX:ZdN P X M) (hD:∀ C nt,Ql P C→V1 C→Vu P C M nt):Ql P (Zg X M):=fun f as h r hs hv=>by
 obtain⟨n,hn⟩:=ZjB hv
 exact ZiG hX hD n f as h r hs hn
end Go.Abs
