/- The abstract semantics and the model: programs. Own text. -/
import Derived.Test.YtpobhkoombldlaaGreatAbsSound4
set_option linter.unusedVariables false
set_option linter.unusedSimpArgs false
namespace Go.Abs
open Go
theorem ZoW {C : Orc} {M : Zq} (hB : VU C) {nx : Nat} : ∀ (os : List CO) (i : Nat) {sl : Sl} {hp : Hp} {r : Sl × Hp}, ZfX C M nx i os sl hp = some r → XG hp r.2 nx
 | [], i, sl, hp, r, h => by simp only [ZfX] at h; cases h; exact XG.refl hp nx
 | o :: os, i, sl, hp, r, h => by
  simp only [ZfX] at h
  obtain ⟨b, _, h⟩ := Za h
  split at h
  ·obtain ⟨q, hq, h⟩ := Za h
   obtain ⟨ce, hce, hok, rfl⟩ := Xa hq
   have h1 := (ZgU hB hce).keeps hok o.dst sl
   exact XG.trans (fun id cs hid hl => h1 id cs (by omega) hl) (ZoW hB os (i + 1) h)
  ·exact ZoW hB os (i + 1) h
theorem ZbT {C : Orc} {M : Zq} {nx i : Nat} {t : Bool} {o : COp} {sl : Sl} {hp : Hp} {ce : Zf} (h : W4 C M nx i t o sl hp = some ce) : vop C M sl hp (nx + 64 * i) o = some ce := by
 unfold W4 at h
 split at h
 ·exact h
 ·unfold Zd9 at h
  obtain ⟨c, h1, h⟩ := Za h
  unfold ZgR at h
  split at h
  ·cases h; exact h1
  ·cases h
theorem ZlQ {C : Orc} {M : Zq} (hB : VU C) {nx : Nat} : ∀ (os : List CO) (i : Nat) (t : Bool) {sl : Sl} {hp : Hp} {r : Sl × Hp}, JC C M nx i t os sl hp = some r → XG hp r.2 nx
 | [], i, t, sl, hp, r, h => by simp only [JC] at h; cases h; exact XG.refl hp nx
 | o :: os, i, t, sl, hp, r, h => by
  simp only [JC] at h
  obtain ⟨b, _, h⟩ := Za h
  split at h
  ·obtain ⟨q, hq, h⟩ := Za h
   obtain ⟨ce, hce, hok, rfl⟩ := Xa hq
   have h1 := (ZgU hB (ZbT hce)).keeps hok o.dst sl
   exact XG.trans (fun id cs hid hl => h1 id cs (by omega) hl) (ZlQ hB os (i + 1) _ h)
  ·exact ZlQ hB os (i + 1) _ h
theorem ZwK (K : List Nat) (st : St) : XG st.hp (U4 K st).hp st.m ∧ st.m ≤ (U4 K st).nx := by
 refine ⟨fun k cs hk hl => ?_, ?_⟩
 ·show ∃ cs', lkp (WU 0 _) k = _
  rw [Wv]
  simp only [Nat.zero_le, if_true, Nat.sub_zero, List.getElem?_map, ZdM, Zie hk, Option.map_some, hl, ZkC]
  exact ⟨_, rfl⟩
 ·show st.m ≤ (QT _ _ _ _).length
  obtain ⟨t, ht⟩ := ZaX st.hp (XE st.hp) (ZoQ (only K st.sl) ++ W3 st.hp (List.range st.m)) (List.range st.m)
  rw [ht]
  simp
theorem Zx7 {C : Orc} {M : Zq} (hB : VU C) {N : Nat} : ∀ (c : Zb) (st st' : St) (e : Ex), ZI C M N c st = some (e, st') → st.m ≤ st.nx → XG st.hp st'.hp st.m ∧ st'.m = st.m ∧ st.m ≤ st'.nx := by
 intro c
 induction c with
 | skip => intro st st' e h hm; simp only [ZI] at h; cases h; exact ⟨XG.refl _ _, rfl, hm⟩
 | region n d ops =>
  intro st st' e h hm
  cases d
  ·simp only [ZI, ZkN] at h
   obtain ⟨r, h1, h⟩ := Za h
   cases h
   have h2 := ZoW hB _ _ h1
   exact ⟨fun id cs hid hl => h2 id cs (by omega) hl, rfl, by show st.m ≤ st.nx + 64 * n; omega⟩
  ·simp only [ZI, ZkN] at h
   obtain ⟨r, h1, h⟩ := Za h
   cases h
   unfold ZoR at h1
   obtain ⟨r', h3, h1⟩ := Za h1
   split at h1
   ·cases h1
    have h2 := ZlQ hB _ _ _ h3
    exact ⟨fun id cs hid hl => h2 id cs (by omega) hl, rfl, by show st.m ≤ st.nx + 64 * n; omega⟩
   ·cases h1
 | seq x y ihx ihy =>
  intro st st' e h hm
  simp only [ZI] at h
  cases hx : ZI C M N x st with
  | none => rw [hx] at h; cases h
  | some q =>
   obtain ⟨e1, st1⟩ := q
   rw [hx] at h
   obtain ⟨h1, h2, h3⟩ := ihx _ _ _ hx hm
   cases e1 <;> simp only [andThen] at h
   ·obtain ⟨h4, h5, h6⟩ := ihy _ _ _ h (by omega)
    rw [h2] at h4 h5 h6
    exact ⟨h1.trans h4, h5, h6⟩
   ·cases h; exact ⟨h1, h2, h3⟩
   ·cases h; exact ⟨h1, h2, h3⟩
 | cond c x y ihx ihy =>
  intro st st' e h hm
  simp only [ZI] at h
  unfold Zib at h
  split at h
  ·split at h
   ·exact ihx _ _ _ h hm
   ·exact ihy _ _ _ h hm
  ·cases h
 | block id c ih =>
  intro st st' e h hm
  simp only [ZI] at h
  cases hx : ZI C M N c st with
  | none => rw [hx] at h; cases h
  | some q =>
   obtain ⟨e1, st1⟩ := q
   rw [hx] at h
   have h1 := ih _ _ _ hx hm
   unfold Zg8 at h
   split at h
   ·rename_i j st2 hq
    cases hq
    split at h <;> (cases h; exact h1)
   ·cases h; exact h1
 | loop c ih =>
  intro st st' e h hm
  simp only [ZI] at h
  have key : ∀ (K : List Nat) (n : Nat) (st : St), JD (ZI C M N c) K n st = some (e, st') → st.m ≤ st.nx → XG st.hp st'.hp st.m ∧ st'.m = st.m ∧ st.m ≤ st'.nx := by
   intro K n
   induction n with
   | zero => intro st h; simp only [JD] at h; cases h
   | succ n ihn =>
    intro st h hm
    simp only [JD] at h
    obtain ⟨c1, c2⟩ := ZwK K st
    cases hx : ZI C M N c (U4 K st) with
    | none => rw [hx] at h; cases h
    | some q =>
     obtain ⟨e1, st1⟩ := q
     rw [hx] at h
     obtain ⟨h1, h2, h3⟩ := ih _ _ _ hx c2
     have hcm : (U4 K st).m = st.m := rfl
     rw [hcm] at h1 h2 h3
     cases e1 with
     | normal =>
      simp only at h
      obtain ⟨h4, h5, h6⟩ := ihn _ h (by omega)
      rw [h2] at h4 h5 h6
      exact ⟨(c1.trans h1).trans h4, h5, h6⟩
     | exit id => simp only at h; cases h; exact ⟨c1.trans h1, h2, h3⟩
     | ret => simp only at h; cases h; exact ⟨c1.trans h1, h2, h3⟩
  exact key _ N st h hm
 | exit id => intro st st' e h hm; simp only [ZI] at h; cases h; exact ⟨XG.refl _ _, rfl, hm⟩
 | ret => intro st st' e h hm; simp only [ZI] at h; cases h; exact ⟨XG.refl _ _, rfl, hm⟩
 | stuck => intro st st' e h hm; simp only [ZI] at h; cases h
 | link id i j c ih =>
  intro st st' e h hm
  simp only [ZI] at h
  obtain ⟨st1, h1, h⟩ := Za h
  unfold Zfm at h1
  obtain ⟨n, _, h1⟩ := Za h1
  split at h1
  ·obtain ⟨o, ho, h1⟩ := Za h1
   cases h1
   obtain ⟨h2, h3, h4⟩ := ih _ _ _ h (by show st.m ≤ st.nx + 64; omega)
   refine ⟨XG.trans (fun k cs hk hl => ⟨cs, ?_⟩) h2, h3, h4⟩
   show lkp (ins st.hp id o) k = _
   rw [Qn, if_neg (fun e => by subst e; rw [hl] at ho; cases ho)]
   exact hl
  ·cases h1
 | melt c ih =>
  intro st st' e h hm
  simp only [ZI] at h
  obtain ⟨h2, h3, h4⟩ := ih _ _ _ h hm
  refine ⟨XG.trans (fun k cs hk hl => ⟨cs, ?_⟩) h2, h3, h4⟩
  show lkp (ZiS Zd0 st.hp) k = _
  rw [Zeb, hl]; rfl
 | keep K c ih =>
  intro st st' e h hm
  simp only [ZI] at h
  cases hx : ZI C M N c st with
  | none => rw [hx] at h; cases h
  | some q =>
   obtain ⟨e1, st1⟩ := q
   rw [hx] at h
   simp only [Zmn] at h
   cases h
   have h1 := ih _ _ _ hx hm
   exact ⟨h1.1, h1.2.1, h1.2.2⟩
theorem ZwL {C : Orc} {M : Zq} (hB : VU C) {N : Nat} {cf : ZC} {as : List AV} {h : List Zr} {r : AV} {hs : List Zr} (hv : ZkO C M N cf as h = some (r, hs)) (k : Nat) (cs : List AV) (hk : h[k]? = some (Zr.box cs)) : ∃ cs', hs[k]? = some (Zr.box cs') := by
 unfold ZkO at hv
 split at hv
 ·cases hr : ZI C M N cf.body { sl := Uu 0 as, hp := WU 0 h, nx := h.length, m := h.length } with
  | none => rw [hr] at hv; simp [Zcr] at hv
  | some q =>
   obtain ⟨ex, st'⟩ := q
   rw [hr] at hv
   obtain ⟨h1, h2, h3⟩ := Zx7 hB _ _ _ _ hr (Nat.le_refl _)
   have hkl : k < h.length := (List.getElem?_eq_some_iff.1 hk).1
   obtain ⟨cs', h4⟩ := h1 k cs hkl (by show lkp (WU 0 h) k = _; rw [Wv]; simpa using hk)
   have fin : (bnd (QP (ZmV st') cf.res) fun vs => some (VS h.length st'.hp (ZcA vs))) = some (r, hs) → ∃ cs', hs[k]? = some (Zr.box cs') := by
    intro hres
    obtain ⟨vs, _, hres⟩ := Za hres
    simp only [VS, Option.some.injEq, Prod.mk.injEq] at hres
    obtain ⟨_, rfl⟩ := hres
    rw [List.getElem?_map, ZdM, Zie hkl]
    simp only [Option.map_some, h4, ZkC]
    exact ⟨_, rfl⟩
   cases ex with
   | normal => exact fin (by simpa [Zcr] using hv)
   | ret => exact fin (by simpa [Zcr] using hv)
   | exit id => simp [Zcr] at hv
 ·cases hv
structure ZcQ (P : Program) (X : Fns) (M : Zq) : Prop where
 text : ∀ f cf, X f = some (.text cf) → ∃ fn, P.funcs[f]? = some fn ∧ (fn.name == "runtime.NumGoroutine") = false ∧ cFun P fn = some (ZlM cf)
 prim : ∀ f p, X f = some (.prim p) → ∀ as h r hs, p as h = some (r, hs) → ZnV P f as h r hs ∧ ∀ (k : Nat) (cs : List AV), h[k]? = some (Zr.box cs) → ∃ cs', hs[k]? = some (Zr.box cs')
theorem ZjR {P : Program} {X : Fns} {M : Zq} (hX : ZcQ P X M) : ∀ n, VU (Qp X M n)
 | 0 => fun f as h r hs hv => by simp only [Qp] at hv; cases hv
 | n + 1 => fun f as h r hs hv k cs hk => by
  simp only [Qp] at hv
  cases hf : X f with
  | none => rw [hf] at hv; simp only [ZgS] at hv; cases hv
  | some g =>
   rw [hf] at hv
   cases g with
   | text cf => simp only [ZgS] at hv; exact ZwL (ZjR hX n) hv k cs hk
   | prim p => simp only [ZgS] at hv; exact (hX.prim f p hf as h r hs hv).2 k cs hk
theorem ZgX {P : Program} {X : Fns} {M : Zq} (hX : ZcQ P X M) (hD : ∀ C nt, Qs P C → VU C → VV P C M nt) : ∀ n, Qs P (Qp X M n)
 | 0 => fun f as h r hs hv => by simp only [Qp] at hv; cases hv
 | n + 1 => fun f as h r hs hv => by
  simp only [Qp] at hv
  have hC := ZgX hX hD n
  have hB := ZjR hX n
  cases hf : X f with
  | none => rw [hf] at hv; simp only [ZgS] at hv; cases hv
  | some g =>
   rw [hf] at hv
   cases g with
   | text cf =>
    simp only [ZgS] at hv
    obtain ⟨fn, h1, h2, h3⟩ := hX.text f cf hf
    exact Zve hC hB h1 h2 h3 (hD _ _ hC hB) hv
   | prim p => simp only [ZgS] at hv; exact (hX.prim f p hf as h r hs hv).1
theorem Zmo {P : Program} {X : Fns} {M : Zq} (hX : ZcQ P X M) (hD : ∀ C nt, Qs P C → VU C → VV P C M nt) : Qs P (Zh X M) := fun f as h r hs hv => by
 obtain ⟨n, hn⟩ := Zic hv
 exact ZgX hX hD n f as h r hs hn
end Go.Abs
