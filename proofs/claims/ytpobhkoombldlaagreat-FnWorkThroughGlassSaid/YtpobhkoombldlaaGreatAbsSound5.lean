/- The abstract semantics and the model: programs. Own text. -/
import Derived.Test.YtpobhkoombldlaaGreatAbsSound4
set_option linter.unusedVariables false
set_option linter.unusedSimpArgs false
namespace Go.Abs
open Go
theorem Zp5 {C:Orc} {M:Zu} (hB:WP C) {nx:Nat}:∀ (os:List CO) (i:Nat) {sl:Sl} {hp:Hp} {r:Sl×Hp},Zfx C M nx i os sl hp=some r→XN hp r.2 nx
 | [],i,sl,hp,r,h=>by simp only[Zfx] at h;cases h;exact XN.refl hp nx
 | o :: os,i,sl,hp,r,h=>by
  simp only[Zfx] at h
  obtain⟨b,_,h⟩:=Za h
  split at h
  ·obtain⟨q,hq,h⟩:=Za h
   obtain⟨ce,hce,hok,rfl⟩:=Xq hq
   have h1:=(Zgp hB hce).keeps hok o.dst sl
   exact XN.trans (fun id cs hid hl=>h1 id cs (by omega) hl) (Zp5 hB os (i+1) h)
  ·exact Zp5 hB os (i+1) h
theorem ZcA {C:Orc} {M:Zu} {nx i:Nat} {t:Bool} {o:COp} {sl:Sl} {hp:Hp} {ce:Zf} (h:UD C M nx i t o sl hp=some ce):vop C M sl hp (nx+64*i) o=some ce:=by
 unfold UD at h
 split at h
 ·exact h
 ·unfold Zd8 at h
  obtain⟨c,h1,h⟩:=Za h
  unfold Zgm at h
  split at h
  ·cases h;exact h1
  ·cases h
theorem Zm5 {C:Orc} {M:Zu} (hB:WP C) {nx:Nat}:∀ (os:List CO) (i:Nat) (t:Bool) {sl:Sl} {hp:Hp} {r:Sl×Hp},JX C M nx i t os sl hp=some r→XN hp r.2 nx
 | [],i,t,sl,hp,r,h=>by simp only[JX] at h;cases h;exact XN.refl hp nx
 | o :: os,i,t,sl,hp,r,h=>by
  simp only[JX] at h
  obtain⟨b,_,h⟩:=Za h
  split at h
  ·obtain⟨q,hq,h⟩:=Za h
   obtain⟨ce,hce,hok,rfl⟩:=Xq hq
   have h1:=(Zgp hB (ZcA hce)).keeps hok o.dst sl
   exact XN.trans (fun id cs hid hl=>h1 id cs (by omega) hl) (Zm5 hB os (i+1) _ h)
  ·exact Zm5 hB os (i+1) _ h
theorem Zzd (K:List Nat) (st:St):XN st.hp (JL K st).hp st.m∧st.m≤(JL K st).nx:=by
 refine⟨fun k cs hk hl=>?_,?_⟩
 ·show ∃ cs',lkp (Uu 0 _) k=_
  rw[W6]
  simp only[Nat.zero_le,if_true,Nat.sub_zero,List.getElem?_map,ZdL,ZhL hk,Option.map_some,hl,Zlv]
  exact⟨_,rfl⟩
 ·show st.m≤(Q0 _ _ _ _).length
  obtain⟨t,ht⟩:=Za6 st.hp (XL st.hp) (ZpZ (only K st.sl)++UC st.hp (List.range st.m)) (List.range st.m)
  rw[ht]
  simp
theorem ZAn {C:Orc} {M:Zu} (hB:WP C) {N:Nat}:∀ (c:Ze) (st st' : St) (e:Ex),ZM C M N c st=some (e,st')→st.m≤st.nx→XN st.hp st'.hp st.m∧st'.m=st.m∧st.m≤st'.nx:=by
 intro c
 induction c with
 | skip=>intro st st' e h hm;simp only[ZM] at h;cases h;exact⟨XN.refl _ _,rfl,hm⟩
 | region n d ops=>
  intro st st' e h hm
  cases d
  ·simp only[ZM,ZlG] at h
   obtain⟨r,h1,h⟩:=Za h
   cases h
   have h2:=Zp5 hB _ _ h1
   exact⟨fun id cs hid hl=>h2 id cs (by omega) hl,rfl,by show st.m≤st.nx+64*n;omega⟩
  ·simp only[ZM,ZlG] at h
   obtain⟨r,h1,h⟩:=Za h
   cases h
   unfold Zp0 at h1
   obtain⟨r',h3,h1⟩:=Za h1
   split at h1
   ·cases h1
    have h2:=Zm5 hB _ _ _ h3
    exact⟨fun id cs hid hl=>h2 id cs (by omega) hl,rfl,by show st.m≤st.nx+64*n;omega⟩
   ·cases h1
 | seq x y ihx ihy=>
  intro st st' e h hm
  simp only[ZM] at h
  cases hx:ZM C M N x st with
  | none=>rw[hx] at h;cases h
  | some q=>
   obtain⟨e1,st1⟩:=q
   rw[hx] at h
   obtain⟨h1,h2,h3⟩:=ihx _ _ _ hx hm
   cases e1<;>simp only[andThen] at h
   ·obtain⟨h4,h5,h6⟩:=ihy _ _ _ h (by omega)
    rw[h2] at h4 h5 h6
    exact⟨h1.trans h4,h5,h6⟩
   ·cases h;exact⟨h1,h2,h3⟩
   ·cases h;exact⟨h1,h2,h3⟩
 | cond c x y ihx ihy=>
  intro st st' e h hm
  simp only[ZM] at h
  unfold ZhI at h
  split at h
  ·split at h
   ·exact ihx _ _ _ h hm
   ·exact ihy _ _ _ h hm
  ·cases h
 | block id c ih=>
  intro st st' e h hm
  simp only[ZM] at h
  cases hx:ZM C M N c st with
  | none=>rw[hx] at h;cases h
  | some q=>
   obtain⟨e1,st1⟩:=q
   rw[hx] at h
   have h1:=ih _ _ _ hx hm
   unfold ZgF at h
   split at h
   ·rename_i j st2 hq
    cases hq
    split at h<;>(cases h;exact h1)
   ·cases h;exact h1
 | loop c ih=>
  intro st st' e h hm
  simp only[ZM] at h
  have key:∀ (K:List Nat) (n:Nat) (st:St),JY (ZM C M N c) K n st=some (e,st')→st.m≤st.nx→XN st.hp st'.hp st.m∧st'.m=st.m∧st.m≤st'.nx:=by
   intro K n
   induction n with
   | zero=>intro st h;simp only[JY] at h;cases h
   | succ n ihn=>
    intro st h hm
    simp only[JY] at h
    obtain⟨c1,c2⟩:=Zzd K st
    cases hx:ZM C M N c (JL K st) with
    | none=>rw[hx] at h;cases h
    | some q=>
     obtain⟨e1,st1⟩:=q
     rw[hx] at h
     obtain⟨h1,h2,h3⟩:=ih _ _ _ hx c2
     have hcm:(JL K st).m=st.m:=rfl
     rw[hcm] at h1 h2 h3
     cases e1 with
     | normal=>
      simp only at h
      obtain⟨h4,h5,h6⟩:=ihn _ h (by omega)
      rw[h2] at h4 h5 h6
      exact⟨(c1.trans h1).trans h4,h5,h6⟩
     | exit id=>simp only at h;cases h;exact⟨c1.trans h1,h2,h3⟩
     | ret=>simp only at h;cases h;exact⟨c1.trans h1,h2,h3⟩
  exact key _ N st h hm
 | exit id=>intro st st' e h hm;simp only[ZM] at h;cases h;exact⟨XN.refl _ _,rfl,hm⟩
 | ret=>intro st st' e h hm;simp only[ZM] at h;cases h;exact⟨XN.refl _ _,rfl,hm⟩
 | stuck=>intro st st' e h hm;simp only[ZM] at h;cases h
 | link id i j c ih=>
  intro st st' e h hm
  simp only[ZM] at h
  obtain⟨st1,h1,h⟩:=Za h
  unfold Ze0 at h1
  obtain⟨n,_,h1⟩:=Za h1
  split at h1
  ·obtain⟨o,ho,h1⟩:=Za h1
   cases h1
   obtain⟨h2,h3,h4⟩:=ih _ _ _ h (by show st.m≤st.nx+64;omega)
   refine⟨XN.trans (fun k cs hk hl=>⟨cs,?_⟩) h2,h3,h4⟩
   show lkp (ins st.hp id o) k=_
   rw[Qo,if_neg (fun e=>by subst e;rw[hl] at ho;cases ho)]
   exact hl
  ·cases h1
 | melt c ih=>
  intro st st' e h hm
  simp only[ZM] at h
  obtain⟨h2,h3,h4⟩:=ih _ _ _ h hm
  refine⟨XN.trans (fun k cs hk hl=>⟨cs,?_⟩) h2,h3,h4⟩
  show lkp (Zjn ZdZ st.hp) k=_
  rw[Zea,hl];rfl
 | keep K c ih=>
  intro st st' e h hm
  simp only[ZM] at h
  cases hx:ZM C M N c st with
  | none=>rw[hx] at h;cases h
  | some q=>
   obtain⟨e1,st1⟩:=q
   rw[hx] at h
   simp only[ZnS] at h
   cases h
   have h1:=ih _ _ _ hx hm
   exact⟨h1.1,h1.2.1,h1.2.2⟩
theorem Zze {C:Orc} {M:Zu} (hB:WP C) {N:Nat} {cf:Zz} {as:List AV} {h:List Zt} {r:AV} {hs:List Zt} (hv:ZlH C M N cf as h=some (r,hs)) (k:Nat) (cs:List AV) (hk:h[k]?=some (Zt.box cs)):∃ cs',hs[k]?=some (Zt.box cs'):=by
 unfold ZlH at hv
 split at hv
 ·cases hr:ZM C M N cf.body { sl:=UI 0 as,hp:=Uu 0 h,nx:=h.length,m:=h.length } with
  | none=>rw[hr] at hv;simp[Zc0] at hv
  | some q=>
   obtain⟨ex,st'⟩:=q
   rw[hr] at hv
   obtain⟨h1,h2,h3⟩:=ZAn hB _ _ _ _ hr (Nat.le_refl _)
   have hkl:k<h.length:=(List.getElem?_eq_some_iff.1 hk).1
   obtain⟨cs',h4⟩:=h1 k cs hkl (by show lkp (Uu 0 h) k=_;rw[W6];simpa using hk)
   have fin:(bnd (QV (Zok st') cf.res) fun vs=>some (Wp h.length st'.hp (Zdg vs)))=some (r,hs)→∃ cs',hs[k]?=some (Zt.box cs'):=by
    intro hres
    obtain⟨vs,_,hres⟩:=Za hres
    simp only[Wp,Option.some.injEq,Prod.mk.injEq] at hres
    obtain⟨_,rfl⟩:=hres
    rw[List.getElem?_map,ZdL,ZhL hkl]
    simp only[Option.map_some,h4,Zlv]
    exact⟨_,rfl⟩
   cases ex with
   | normal=>exact fin (by simpa [Zc0] using hv)
   | ret=>exact fin (by simpa [Zc0] using hv)
   | exit id=>simp[Zc0] at hv
 ·cases hv
structure ZeE (P:Program) (X:Fns) (M:Zu):Prop where
 text:∀ f cf,X f=some (.text cf)→∃ fn,P.funcs[f]?=some fn∧(fn.name == "runtime.NumGoroutine")=false∧cFun P fn=some (Zm1 cf)
 prim:∀ f p,X f=some (.prim p)→∀ as h r hs,p as h=some (r,hs)→Zo5 P f as h r hs∧∀ (k:Nat) (cs:List AV),h[k]?=some (Zt.box cs)→∃ cs',hs[k]?=some (Zt.box cs')
theorem ZkT {P:Program} {X:Fns} {M:Zu} (hX:ZeE P X M):∀ n,WP (Qq X M n)
 | 0=>fun f as h r hs hv=>by simp only[Qq] at hv;cases hv
 | n+1=>fun f as h r hs hv k cs hk=>by
  simp only[Qq] at hv
  cases hf:X f with
  | none=>rw[hf] at hv;simp only[Zgn] at hv;cases hv
  | some g=>
   rw[hf] at hv
   cases g with
   | text cf=>simp only[Zgn] at hv;exact Zze (ZkT hX n) hv k cs hk
   | prim p=>simp only[Zgn] at hv;exact(hX.prim f p hf as h r hs hv).2 k cs hk
theorem Zgs {P:Program} {X:Fns} {M:Zu} (hX:ZeE P X M) (hD:∀ C nt,QH P C→WP C→Ug P C M nt):∀ n,QH P (Qq X M n)
 | 0=>fun f as h r hs hv=>by simp only[Qq] at hv;cases hv
 | n+1=>fun f as h r hs hv=>by
  simp only[Qq] at hv
  have hC:=Zgs hX hD n
  have hB:=ZkT hX n
  cases hf:X f with
  | none=>rw[hf] at hv;simp only[Zgn] at hv;cases hv
  | some g=>
   rw[hf] at hv
   cases g with
   | text cf=>
    simp only[Zgn] at hv
    obtain⟨fn,h1,h2,h3⟩:=hX.text f cf hf
    exact Zxt hC hB h1 h2 h3 (hD _ _ hC hB) hv
   | prim p=>simp only[Zgn] at hv;exact(hX.prim f p hf as h r hs hv).1
theorem ZnT {P:Program} {X:Fns} {M:Zu} (hX:ZeE P X M) (hD:∀ C nt,QH P C→WP C→Ug P C M nt):QH P (Zg X M):=fun f as h r hs hv=>by
 obtain⟨n,hn⟩:=ZhJ hv
 exact Zgs hX hD n f as h r hs hn
end Go.Abs
