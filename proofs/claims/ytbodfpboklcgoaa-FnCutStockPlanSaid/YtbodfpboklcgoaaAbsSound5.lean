/- The abstract semantics and the model: programs. Own text. -/
import Derived.Test.YtbodfpboklcgoaaAbsSound4
set_option linter.unusedVariables false
set_option linter.unusedSimpArgs false
namespace Go.Abs
open Go

theorem vops_box {C : Orc} {M : Modes} (hB : BoxOrc C) {nx : Nat} : ∀ (os : List CO) (i : Nat) {sl : Sl} {hp : Hp} {r : Sl × Hp}, vops C M nx i os sl hp = some r → BoxKept hp r.2 nx
  | [], i, sl, hp, r, h => by simp only [vops] at h; cases h; exact BoxKept.refl hp nx
  | o :: os, i, sl, hp, r, h => by
    simp only [vops] at h
    obtain ⟨b, _, h⟩ := bnd_eq_some h
    split at h
    · obtain ⟨q, hq, h⟩ := bnd_eq_some h
      obtain ⟨ce, hce, hok, rfl⟩ := stepE_some hq
      have h1 := (boxEff_all hB hce).keeps hok o.dst sl
      exact BoxKept.trans (fun id cs hid hl => h1 id cs (by omega) hl) (vops_box hB os (i + 1) h)
    · exact vops_box hB os (i + 1) h

theorem vopD_vop {C : Orc} {M : Modes} {nx i : Nat} {t : Bool} {o : COp} {sl : Sl} {hp : Hp} {ce : CallEff} (h : vopD C M nx i t o sl hp = some ce) : vop C M sl hp (nx + 64 * i) o = some ce := by
  unfold vopD at h
  split at h
  · exact h
  · unfold quietE at h
    obtain ⟨c, h1, h⟩ := bnd_eq_some h
    unfold quietC at h
    split at h
    · cases h; exact h1
    · cases h

theorem vopsD_box {C : Orc} {M : Modes} (hB : BoxOrc C) {nx : Nat} : ∀ (os : List CO) (i : Nat) (t : Bool) {sl : Sl} {hp : Hp} {r : Sl × Hp}, vopsD C M nx i t os sl hp = some r → BoxKept hp r.2 nx
  | [], i, t, sl, hp, r, h => by simp only [vopsD] at h; cases h; exact BoxKept.refl hp nx
  | o :: os, i, t, sl, hp, r, h => by
    simp only [vopsD] at h
    obtain ⟨b, _, h⟩ := bnd_eq_some h
    split at h
    · obtain ⟨q, hq, h⟩ := bnd_eq_some h
      obtain ⟨ce, hce, hok, rfl⟩ := stepE_some hq
      have h1 := (boxEff_all hB (vopD_vop hce)).keeps hok o.dst sl
      exact BoxKept.trans (fun id cs hid hl => h1 id cs (by omega) hl) (vopsD_box hB os (i + 1) _ h)
    · exact vopsD_box hB os (i + 1) _ h

theorem canon_box (K : List Nat) (st : St) : BoxKept st.hp (canon K st).hp st.m ∧ st.m ≤ (canon K st).nx := by
  refine ⟨fun k cs hk hl => ?_, ?_⟩
  · show ∃ cs', lkp (numb 0 _) k = _
    rw [lkp_numb]
    simp only [Nat.zero_le, if_true, Nat.sub_zero, List.getElem?_map, lkpL_get, reach_range hk, Option.map_some, hl, objOr]
    exact ⟨_, rfl⟩
  · show st.m ≤ (reach _ _ _ _).length
    obtain ⟨t, ht⟩ := reach_prefix st.hp (fuelOf st.hp) (refsS (only K st.sl) ++ orefsOf st.hp (List.range st.m)) (List.range st.m)
    rw [ht]
    simp

theorem vrun_box {C : Orc} {M : Modes} (hB : BoxOrc C) {N : Nat} : ∀ (c : CCode) (st st' : St) (e : Ex), vrun C M N c st = some (e, st') → st.m ≤ st.nx → BoxKept st.hp st'.hp st.m ∧ st'.m = st.m ∧ st.m ≤ st'.nx := by
  intro c
  induction c with
  | skip => intro st st' e h hm; simp only [vrun] at h; cases h; exact ⟨BoxKept.refl _ _, rfl, hm⟩
  | region n d ops =>
    intro st st' e h hm
    cases d
    · simp only [vrun, regK] at h
      obtain ⟨r, h1, h⟩ := bnd_eq_some h
      cases h
      have h2 := vops_box hB _ _ h1
      exact ⟨fun id cs hid hl => h2 id cs (by omega) hl, rfl, by show st.m ≤ st.nx + 64 * n; omega⟩
    · simp only [vrun, regK] at h
      obtain ⟨r, h1, h⟩ := bnd_eq_some h
      cases h
      unfold seenR at h1
      obtain ⟨r', h3, h1⟩ := bnd_eq_some h1
      split at h1
      · cases h1
        have h2 := vopsD_box hB _ _ _ h3
        exact ⟨fun id cs hid hl => h2 id cs (by omega) hl, rfl, by show st.m ≤ st.nx + 64 * n; omega⟩
      · cases h1
  | seq x y ihx ihy =>
    intro st st' e h hm
    simp only [vrun] at h
    cases hx : vrun C M N x st with
    | none => rw [hx] at h; cases h
    | some q =>
      obtain ⟨e1, st1⟩ := q
      rw [hx] at h
      obtain ⟨h1, h2, h3⟩ := ihx _ _ _ hx hm
      cases e1 <;> simp only [andThen] at h
      · obtain ⟨h4, h5, h6⟩ := ihy _ _ _ h (by omega)
        rw [h2] at h4 h5 h6
        exact ⟨h1.trans h4, h5, h6⟩
      · cases h; exact ⟨h1, h2, h3⟩
      · cases h; exact ⟨h1, h2, h3⟩
  | cond c x y ihx ihy =>
    intro st st' e h hm
    simp only [vrun] at h
    unfold condV at h
    split at h
    · split at h
      · exact ihx _ _ _ h hm
      · exact ihy _ _ _ h hm
    · cases h
  | block id c ih =>
    intro st st' e h hm
    simp only [vrun] at h
    cases hx : vrun C M N c st with
    | none => rw [hx] at h; cases h
    | some q =>
      obtain ⟨e1, st1⟩ := q
      rw [hx] at h
      have h1 := ih _ _ _ hx hm
      unfold inBlk at h
      split at h
      · rename_i j st2 hq
        cases hq
        split at h <;> (cases h; exact h1)
      · cases h; exact h1
  | loop c ih =>
    intro st st' e h hm
    simp only [vrun] at h
    have key : ∀ (K : List Nat) (n : Nat) (st : St), vloop (vrun C M N c) K n st = some (e, st') → st.m ≤ st.nx → BoxKept st.hp st'.hp st.m ∧ st'.m = st.m ∧ st.m ≤ st'.nx := by
      intro K n
      induction n with
      | zero => intro st h; simp only [vloop] at h; cases h
      | succ n ihn =>
        intro st h hm
        simp only [vloop] at h
        obtain ⟨c1, c2⟩ := canon_box K st
        cases hx : vrun C M N c (canon K st) with
        | none => rw [hx] at h; cases h
        | some q =>
          obtain ⟨e1, st1⟩ := q
          rw [hx] at h
          obtain ⟨h1, h2, h3⟩ := ih _ _ _ hx c2
          have hcm : (canon K st).m = st.m := rfl
          rw [hcm] at h1 h2 h3
          cases e1 with
          | normal =>
            simp only at h
            obtain ⟨h4, h5, h6⟩ := ihn _ h (by omega)
            rw [h2] at h4 h5 h6
            exact ⟨(c1.trans h1).trans h4, h5, h6⟩
          | exit id => simp only at h; cases h; exact ⟨c1.trans h1, h2, h3⟩
          | ret => simp only at h; cases h; exact ⟨c1.trans h1, h2, h3⟩
    exact key _ N st h hm
  | exit id => intro st st' e h hm; simp only [vrun] at h; cases h; exact ⟨BoxKept.refl _ _, rfl, hm⟩
  | ret => intro st st' e h hm; simp only [vrun] at h; cases h; exact ⟨BoxKept.refl _ _, rfl, hm⟩
  | keep K c ih =>
    intro st st' e h hm
    simp only [vrun] at h
    cases hx : vrun C M N c st with
    | none => rw [hx] at h; cases h
    | some q =>
      obtain ⟨e1, st1⟩ := q
      rw [hx] at h
      simp only [keepR] at h
      cases h
      have h1 := ih _ _ _ hx hm
      exact ⟨h1.1, h1.2.1, h1.2.2⟩

theorem vbody_box {C : Orc} {M : Modes} (hB : BoxOrc C) {N : Nat} {cf : CFun} {as : List AV} {h : List AObj} {r : AV} {hs : List AObj} (hv : vbody C M N cf as h = some (r, hs)) (k : Nat) (cs : List AV) (hk : h[k]? = some (AObj.box cs)) : ∃ cs', hs[k]? = some (AObj.box cs') := by
  unfold vbody at hv
  split at hv
  · cases hr : vrun C M N cf.body { sl := numbV 0 as, hp := numb 0 h, nx := h.length, m := h.length } with
    | none => rw [hr] at hv; simp [resK] at hv
    | some q =>
      obtain ⟨ex, st'⟩ := q
      rw [hr] at hv
      obtain ⟨h1, h2, h3⟩ := vrun_box hB _ _ _ _ hr (Nat.le_refl _)
      have hkl : k < h.length := (List.getElem?_eq_some_iff.1 hk).1
      obtain ⟨cs', h4⟩ := h1 k cs hkl (by show lkp (numb 0 h) k = _; rw [lkp_numb]; simpa using hk)
      have fin : (bnd (mapO (resv st') cf.res) fun vs => some (handBack h.length st'.hp (oneOf vs))) = some (r, hs) → ∃ cs', hs[k]? = some (AObj.box cs') := by
        intro hres
        obtain ⟨vs, _, hres⟩ := bnd_eq_some hres
        simp only [handBack, Option.some.injEq, Prod.mk.injEq] at hres
        obtain ⟨_, rfl⟩ := hres
        rw [List.getElem?_map, lkpL_get, reach_range hkl]
        simp only [Option.map_some, h4, objOr]
        exact ⟨_, rfl⟩
      cases ex with
      | normal => exact fin (by simpa [resK] using hv)
      | ret => exact fin (by simpa [resK] using hv)
      | exit id => simp [resK] at hv
  · cases hv

/-- A table of functions is true to a program: texts are compiled; other functions do what they are said to do. -/
structure TableOK (P : Program) (X : Fns) (M : Modes) : Prop where
  text : ∀ f cf, X f = some (.text cf) → ∃ fn, P.funcs[f]? = some fn ∧ (fn.name == "runtime.NumGoroutine") = false ∧ cFun P fn = some (stripF cf)
  prim : ∀ f p, X f = some (.prim p) → ∀ as h r hs, p as h = some (r, hs) → Sound P f as h r hs ∧ ∀ (k : Nat) (cs : List AV), h[k]? = some (AObj.box cs) → ∃ cs', hs[k]? = some (AObj.box cs')

theorem vcallN_box {P : Program} {X : Fns} {M : Modes} (hX : TableOK P X M) : ∀ n, BoxOrc (vcallN X M n)
  | 0 => fun f as h r hs hv => by simp only [vcallN] at hv; cases hv
  | n + 1 => fun f as h r hs hv k cs hk => by
    simp only [vcallN] at hv
    cases hf : X f with
    | none => rw [hf] at hv; simp only [callFn] at hv; cases hv
    | some g =>
      rw [hf] at hv
      cases g with
      | text cf => simp only [callFn] at hv; exact vbody_box (vcallN_box hX n) hv k cs hk
      | prim p => simp only [callFn] at hv; exact (hX.prim f p hf as h r hs hv).2 k cs hk

theorem vcallN_sound {P : Program} {X : Fns} {M : Modes} (hX : TableOK P X M) (hD : ∀ C nt, SoundOrc P C → BoxOrc C → DrawSound P C M nt) : ∀ n, SoundOrc P (vcallN X M n)
  | 0 => fun f as h r hs hv => by simp only [vcallN] at hv; cases hv
  | n + 1 => fun f as h r hs hv => by
    simp only [vcallN] at hv
    have hC := vcallN_sound hX hD n
    have hB := vcallN_box hX n
    cases hf : X f with
    | none => rw [hf] at hv; simp only [callFn] at hv; cases hv
    | some g =>
      rw [hf] at hv
      cases g with
      | text cf =>
        simp only [callFn] at hv
        obtain ⟨fn, h1, h2, h3⟩ := hX.text f cf hf
        exact text_sound hC hB h1 h2 h3 (hD _ _ hC hB) hv
      | prim p => simp only [callFn] at hv; exact (hX.prim f p hf as h r hs hv).1

/-- What a call comes to, so the model says. -/
theorem vcall_sound {P : Program} {X : Fns} {M : Modes} (hX : TableOK P X M) (hD : ∀ C nt, SoundOrc P C → BoxOrc C → DrawSound P C M nt) : SoundOrc P (vcall X M) := fun f as h r hs hv => by
  obtain ⟨n, hn⟩ := lim_some hv
  exact vcallN_sound hX hD n f as h r hs hn

end Go.Abs
