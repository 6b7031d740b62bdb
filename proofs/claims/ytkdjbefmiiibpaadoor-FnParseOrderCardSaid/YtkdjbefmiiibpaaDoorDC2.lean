/- Contracts of the functions, by the abstract semantics. -/
import Derived.Test.YtkdjbefmiiibpaaDoorDCode
import Derived.Test.YtkdjbefmiiibpaaDoorAbsParts
import Derived.Test.YtkdjbefmiiibpaaDoorDC1
namespace Go.Proofs.YtkdjbefmiiibpaaDoor
open Go Go.Abs Go.Abs.E Go.Abs.L
open Nat (reduceMul reduceSub reduceLeDiff reduceEqDiff)
open Int (reduceLE reduceEq reduceToNat reduceNeg)
set_option linter.unusedSimpArgs false
set_option linter.unusedVariables false
set_option maxRecDepth 20000
set_option maxHeartbeats 4000000
def ordG : List Pane → List Line → Prop
  | _, [] => True
  | q, x :: l => VP x.Pane ∧ x.Pane ∉ q ∧ 1 ≤ x.Count ∧ x.Count ≤ 24 ∧ ordG (q ++ [x.Pane]) l
instance ordGdec : ∀ (q : List Pane) (l : List Line), Decidable (ordG q l)
  | _, [] => .isTrue trivial
  | q, x :: l => by
    unfold ordG
    have := ordGdec (q ++ [x.Pane]) l
    infer_instance
def sumC : List Line → Int
  | [] => 0
  | x :: l => x.Count + sumC l
def VOrd (l : List Line) : Prop := l.length ≤ 8 ∧ ordG [] l ∧ sumC l ≤ 24
instance (l : List Line) : Decidable (VOrd l) := by unfold VOrd; infer_instance
theorem ordG_cons {l : List Line} {k : Nat} {x : Line} {q : List Pane} (hx : l[k]? = some x) : ordG q (l.drop k) ↔ VP x.Pane ∧ x.Pane ∉ q ∧ 1 ≤ x.Count ∧ x.Count ≤ 24 ∧ ordG (q ++ [x.Pane]) (l.drop (k + 1)) := by
  obtain ⟨h1, h2⟩ := List.getElem?_eq_some_iff.1 hx
  rw [List.drop_eq_getElem_cons h1, h2, ordG]
theorem ordG_end {l : List Line} {q : List Pane} : ordG q (l.drop l.length) := by simp [ordG]
theorem panes_take {l : List Line} {k : Nat} {x : Line} (hx : l[k]? = some x) : (l.take (k + 1)).map Line.Pane = (l.take k).map Line.Pane ++ [x.Pane] := by
  rw [List.take_add_one, hx]; simp
theorem sumC_append (a b : List Line) : sumC (a ++ b) = sumC a + sumC b := by
  induction a with
  | nil => simp [sumC]
  | cons c l ih => simp only [List.cons_append, sumC, ih]; omega
theorem sumC_take {l : List Line} {i : Nat} {x : Line} (hx : l[i]? = some x) : sumC (l.take (i + 1)) = sumC (l.take i) + x.Count := by
  rw [List.take_add_one, hx, sumC_append]; simp [sumC]
theorem ordG_all : ∀ {l : List Line} {q : List Pane}, ordG q l → ∀ x ∈ l, VP x.Pane ∧ 1 ≤ x.Count ∧ x.Count ≤ 24
  | [], _, _, x, hx => by simp at hx
  | y :: l, q, h, x, hx => by
    rcases List.mem_cons.1 hx with rfl | hx
    · exact ⟨h.1, h.2.2.1, h.2.2.2.1⟩
    · exact ordG_all h.2.2.2.2 x hx
theorem sumC_pos : ∀ {l : List Line}, (∀ x ∈ l, 1 ≤ x.Count) → 0 ≤ sumC l
  | [], _ => by simp [sumC]
  | x :: l, h => by
    have h1 := h x (by simp)
    have h2 := sumC_pos (l := l) fun y hy => h y (by simp [hy])
    simp only [sumC]; omega
theorem sumC_le_all {l : List Line} {i : Nat} (h : ∀ x ∈ l, 1 ≤ x.Count) : sumC (l.take i) ≤ sumC l := by
  have e : sumC l = sumC (l.take i) + sumC (l.drop i) := by rw [← sumC_append, List.take_append_drop]
  have := sumC_pos (l := l.drop i) fun y hy => h y (List.mem_of_mem_drop hy)
  omega
def fLine : Nat → List Line → Pane → Int
  | _, [], _ => -1
  | k, x :: l, p => if x.Pane = p then (k : Int) else fLine (k + 1) l p
theorem fLine_cons {l : List Line} {k : Nat} {x : Line} {p : Pane} (hx : l[k]? = some x) : fLine k (l.drop k) p = if x.Pane = p then (k : Int) else fLine (k + 1) (l.drop (k + 1)) p := by
  obtain ⟨h1, h2⟩ := List.getElem?_eq_some_iff.1 hx
  rw [List.drop_eq_getElem_cons h1, h2, fLine]
theorem fLine_at : ∀ (l : List Line) (k i : Nat) (x : Line), l[i]? = some x → (fLine k l x.Pane = ((k + i : Nat) : Int) ↔ x.Pane ∉ (l.take i).map Line.Pane)
  | [], k, i, x, h => by simp at h
  | y :: l, k, 0, x, h => by
    simp only [List.getElem?_cons_zero, Option.some.injEq] at h
    subst h
    simp [fLine]
  | y :: l, k, i + 1, x, h => by
    simp only [List.getElem?_cons_succ] at h
    have ih := fLine_at l (k + 1) i x h
    simp only [fLine, List.take_succ_cons, List.map_cons, List.mem_cons, not_or]
    split
    · rename_i e
      constructor
      · intro h; omega
      · intro h; exact absurd e.symm h.1
    · rename_i e
      rw [show k + 1 + i = k + (i + 1) by omega] at ih
      rw [ih]
      exact ⟨fun h => ⟨fun e' => e e'.symm, h⟩, fun h => h.2⟩
theorem VOrd_all {l : List Line} (h : VOrd l) : ∀ x ∈ l, VP x.Pane ∧ 1 ≤ x.Count ∧ x.Count ≤ 24 := ordG_all h.2.1
structure Event where
  kind : Int
  label : Int
  box : Box
  line : Line
  plan : Plan
def Event.enc (e : Event) : D := .agg ([J e.kind, J e.label, J e.box.X, J e.box.Y, J e.box.W, J e.box.H, J e.line.Pane.W, J e.line.Pane.H, .bool e.line.Pane.Turns, J e.line.Pane.Kind, J e.line.Count] ++ e.plan.enc.cells)
@[go_sem] theorem Event.enc_mk (k l x y w h pw ph pk c o a p : Int) (pt t : Bool) (ks : List Plan) : Event.enc (Event.mk k l (Box.mk x y w h) (Line.mk (Pane.mk pw ph pt pk) c) (Plan.mk o a p t ks)) =
    .agg [J k, J l, J x, J y, J w, J h, J pw, J ph, .bool pt, J pk, J c, J o, J a, J p, .bool t, .sl (ks.map Plan.enc)] := by
  simp only [Event.enc, Plan.enc_mk]; rfl
theorem Event.enc_len (e : Event) : (Event.enc e).cells.length = 16 := by
  show (_ ++ e.plan.enc.cells).length = 16
  rw [List.length_append, Plan.enc_len]; rfl
@[go_sem] theorem uni_Event (l : List Event) : uni 16 (l.map Event.enc) = True := eq_true (uni_map l Event.enc_len)
/-- The lines with some panes more. -/
def addL (p : Pane) (c : Int) : List Line → List Line
  | [] => [⟨p, c⟩]
  | x :: l => if x.Pane = p then ⟨x.Pane, x.Count + c⟩ :: l else x :: addL p c l
theorem addL_len (p : Pane) (c : Int) : ∀ (l : List Line), (addL p c l).length ≤ l.length + 1
  | [] => by simp [addL]
  | x :: l => by
    unfold addL
    split
    · simp
    · have := addL_len p c l
      simp; omega
theorem addL_at (p : Pane) (c : Int) : ∀ (l : List Line) (i : Nat) (x : Line), l[i]? = some x → x.Pane = p → p ∉ (l.take i).map Line.Pane → addL p c l = l.set i ⟨x.Pane, x.Count + c⟩
  | [], i, x, h, _, _ => by simp at h
  | y :: l, 0, x, h, e, _ => by
    simp only [List.getElem?_cons_zero, Option.some.injEq] at h
    subst h
    simp [addL, e]
  | y :: l, i + 1, x, h, e, hn => by
    simp only [List.getElem?_cons_succ] at h
    simp only [List.take_succ_cons, List.map_cons, List.mem_cons, not_or] at hn
    have ih := addL_at p c l i x h e hn.2
    simp only [addL, if_neg (fun e' : y.Pane = p => hn.1 e'.symm), List.set_cons_succ, ih]
theorem addL_no (p : Pane) (c : Int) : ∀ (l : List Line), p ∉ l.map Line.Pane → addL p c l = l ++ [⟨p, c⟩]
  | [], _ => rfl
  | y :: l, hn => by
    simp only [List.map_cons, List.mem_cons, not_or] at hn
    simp only [addL, if_neg (fun e' : y.Pane = p => hn.1 e'.symm), addL_no p c l hn.2, List.cons_append]

theorem i_findLine_1_ev (qW qH : Int) (qT : Bool) (qK qC : Int) (pW pH : Int) (pT : Bool) (pK : Int) : vcall Xs Ms n_i_findLine_1 [(.d (.agg [J qW, J qH, .bool qT, J qK, J qC])), .ptr 0 0] [.box [(.d (J pW)), (.d (J pH)), (.d (.bool pT)), (.d (J pK))]] = some ((.d (.bool (decide ((Pane.mk qW qH qT qK) = (Pane.mk pW pH pT pK))))), [.box [(.d (J pW)), (.d (J pH)), (.d (.bool pT)), (.d (J pK))]]) := by
  refine callE Xs Ms f_i_findLine_1 x_i_findLine_1 (by show 2 ≤ _; decide) ?_
  simp +contextual -implicitDefEqProofs (maxSteps := 10^7) only [go_sem, seval, ↓gZ, f_i_findLine_1]
  try exact fin_b (by simp only [Pane.mk.injEq, and_assoc])
theorem IndexFuncL_ev (l : List Line) (pW pH : Int) (pT : Bool) (pK : Int) (hl : l.length < 4611686018427387904) : vcall Xs Ms n_slices_IndexFunc_g [(.d (.sl (l.map Line.enc))), .clo n_i_findLine_1 [.ptr 0 0]] [.box [(.d (J pW)), (.d (J pH)), (.d (.bool pT)), (.d (J pK))]] = some ((.d (J (fLine 0 l (Pane.mk pW pH pT pK)))), [.box [(.d (J pW)), (.d (J pH)), (.d (.bool pT)), (.d (J pK))]]) := by
  refine callE Xs Ms f_slices_IndexFunc_g x_slices_IndexFunc_g (by show 2 ≤ _; decide) ?_
  simp +contextual -implicitDefEqProofs (maxSteps := 10^7) only [go_sem, seval, ↓gZ, f_slices_IndexFunc_g]
  refine LW_over Xs Ms (st0 := ?st0) (α := Nat) (fun k => [(8, .d (J (k : Int)))]) (fun _ => []) (fun k => k ≤ l.length ∧ fLine k (l.drop k) (Pane.mk pW pH pT pK) = fLine 0 l (Pane.mk pW pH pT pK)) (fun k => l.length - k) 0 ?hc ⟨by omega, rfl⟩ ?h0 ?step
  case hc => simp +contextual -implicitDefEqProofs (maxSteps := 10^7) only [go_sem, seval, ↓gZ] <;> exact rfl
  case h0 => rfl
  case step =>
    intro k ⟨hk, hp⟩ ih
    by_cases hlt : k < l.length
    · obtain ⟨x, hx⟩ := get_lt hlt
      rw [fLine_cons hx] at hp
      have hw := wrap_succ (k := k) (by omega)
      have e1 := i_findLine_1_ev x.Pane.W x.Pane.H x.Pane.Turns x.Pane.Kind x.Count pW pH pT pK
      obtain ⟨⟨W, H, T, K⟩, C⟩ := x
      simp only at hp e1
      by_cases h : (⟨W, H, T, K⟩ : Pane) = (Pane.mk pW pH pT pK)
      · rw [if_pos h] at hp
        rw [decide_eq_true h] at e1
        simp +contextual -implicitDefEqProofs (maxSteps := 10^7) only [go_sem, seval, ↓gZ, hx, hlt, hw, e1]
        rw [← hp]
      · rw [if_neg h] at hp
        rw [decide_eq_false h] at e1
        simp +contextual -implicitDefEqProofs (maxSteps := 10^7) only [go_sem, seval, ↓gZ, hx, hlt, hw, e1]
        refine ih (k + 1) _ ⟨by omega, hp⟩ (by omega) ?_
        simp +contextual -implicitDefEqProofs (maxSteps := 10^7) only [go_sem, seval, ↓gZ]
    · have : k = l.length := by omega
      subst this
      simp +contextual -implicitDefEqProofs (maxSteps := 10^7) only [go_sem, seval, ↓gZ]
      rw [← hp]
      simp [fLine]
theorem i_findLine_ev (l : List Line) (pW pH : Int) (pT : Bool) (pK : Int) (hl : l.length < 4611686018427387904) : vcall Xs Ms n_i_findLine [(.d (.sl (l.map Line.enc))), (.d (.agg [J pW, J pH, .bool pT, J pK]))] [] = some ((.d (J (fLine 0 l (Pane.mk pW pH pT pK)))), []) := by
  refine callE Xs Ms f_i_findLine x_i_findLine (by show 2 ≤ _; decide) ?_
  simp +contextual -implicitDefEqProofs (maxSteps := 10^7) only [go_sem, seval, ↓gZ, f_i_findLine, IndexFuncL_ev l pW pH pT pK hl]
theorem i_ValidOrder_ev (l : List Line) : vcall Xs Ms n_i_ValidOrder [(.d (.sl (l.map Line.enc)))] [] = some ((.d (.bool (decide (VOrd l)))), []) := by
  by_cases h8 : (8 : Int) < (l.length : Int)
  · have hn : ¬ VOrd l := fun h => by have := h.1; omega
    refine callE Xs Ms f_i_ValidOrder x_i_ValidOrder (by show 1 ≤ _; decide) ?_
    simp +contextual -implicitDefEqProofs (maxSteps := 10^7) only [go_sem, seval, ↓gZ, f_i_ValidOrder, h8, hn]
  · have hle : l.length ≤ 8 := by omega
    refine callE Xs Ms f_i_ValidOrder x_i_ValidOrder (by show 1 ≤ _; decide) ?_
    simp +contextual -implicitDefEqProofs (maxSteps := 10^7) only [go_sem, seval, ↓gZ, f_i_ValidOrder, h8]
    refine LW_over Xs Ms (st0 := ?st0) (α := Nat) (fun i => [(11, .d (J (i : Int))), (3, .d (J (24 - sumC (l.take i))))]) (fun _ => []) (fun i => i ≤ l.length ∧ (ordG [] l ↔ ordG ((l.take i).map Line.Pane) (l.drop i)) ∧ 0 ≤ sumC (l.take i) ∧ sumC (l.take i) ≤ 24) (fun i => l.length - i) 0 ?hc ⟨by simp, by simp, by simp [sumC], by simp [sumC]⟩ ?h0 ?step
    case hc => simp +contextual -implicitDefEqProofs (maxSteps := 10^7) only [go_sem, seval, ↓gZ] <;> exact rfl
    case h0 => rfl
    case step =>
      intro i ⟨hi, hp, hs0, hs1⟩ ih
      by_cases hlt : i < l.length
      · obtain ⟨x, hx⟩ := get_lt hlt
        have hw := wrap_succ (k := i) (by omega)
        rw [ordG_cons hx, ← panes_take hx] at hp
        have ev := i_ValidPane_ev x.Pane.W x.Pane.H x.Pane.Turns x.Pane.Kind
        have ef := i_findLine_ev l x.Pane.W x.Pane.H x.Pane.Turns x.Pane.Kind (by omega)
        have hfa := fLine_at l 0 i x hx
        have hsm := sumC_take hx
        obtain ⟨⟨W, H, T, K⟩, C⟩ := x
        simp only [Nat.zero_add] at hp ev ef hfa hsm
        by_cases hv : VP ⟨W, H, T, K⟩
        · rw [decide_eq_true hv] at ev
          by_cases hf : fLine 0 l ⟨W, H, T, K⟩ = (i : Int)
          · rw [hf] at ef
            by_cases hC1 : C < 1
            · have hn : ¬ VOrd l := fun h => by have := (hp.1 h.2.1).2.2.1; omega
              simp +contextual -implicitDefEqProofs (maxSteps := 10^7) only [go_sem, seval, ↓gZ, hx, hlt, hw, ev, ef, hC1, hn]
            · by_cases hC2 : 24 - sumC (l.take i) < C
              · have hn : ¬ VOrd l := fun h => by
                  have := sumC_le_all (l := l) (i := i + 1) (fun x hx => (ordG_all h.2.1 x hx).2.1)
                  have := h.2.2
                  omega
                simp +contextual -implicitDefEqProofs (maxSteps := 10^7) only [go_sem, seval, ↓gZ, hx, hlt, hw, ev, ef, hC1, hC2, hn]
              · have hw2 := wi (24 - sumC (l.take i) - C) (by omega) (by omega)
                simp +contextual -implicitDefEqProofs (maxSteps := 10^7) only [go_sem, seval, ↓gZ, hx, hlt, hw, ev, ef, hC1, hC2, hw2]
                refine ih (i + 1) _ ⟨by omega, ?_, by omega, by omega⟩ (by omega) ?_
                · rw [hp]; exact ⟨fun h => h.2.2.2.2, fun h => ⟨hv, hfa.1 hf, by omega, by omega, h⟩⟩
                · simp +contextual -implicitDefEqProofs (maxSteps := 10^7) only [go_sem, seval, ↓gZ, hsm]
                  try (simp; omega)
          · have hn : ¬ VOrd l := fun h => hf (hfa.2 (hp.1 h.2.1).2.1)
            simp +contextual -implicitDefEqProofs (maxSteps := 10^7) only [go_sem, seval, ↓gZ, hx, hlt, hw, ev, ef, hf, hn]
        · rw [decide_eq_false hv] at ev
          have hn : ¬ VOrd l := fun h => hv (hp.1 h.2.1).1
          simp +contextual -implicitDefEqProofs (maxSteps := 10^7) only [go_sem, seval, ↓gZ, hx, hlt, hw, ev, hn]
      · have : i = l.length := by omega
        subst this
        rw [List.take_of_length_le (Nat.le_refl _)] at hs1
        have hy : VOrd l := ⟨hle, hp.2 ordG_end, hs1⟩
        simp +contextual -implicitDefEqProofs (maxSteps := 10^7) only [go_sem, seval, ↓gZ, hy]
theorem s_validOrder_ev (l : List Line) (hl : l.length ≤ 1000000) : vcall Xs Ms n_s_validOrder [(.d (.sl (l.map Line.enc)))] [] = some ((.d (.bool (decide (VOrd l)))), []) := by
  refine callE Xs Ms f_s_validOrder x_s_validOrder (by show 1 ≤ _; decide) ?_
  simp +contextual -implicitDefEqProofs (maxSteps := 10^7) only [go_sem, seval, ↓gZ, f_s_validOrder]
  refine LW_over Xs Ms (st0 := ?st0) (α := Nat) (fun i => [(4, .d (J (i : Int))), (3, .d (J (sumC (l.take i))))]) (fun _ => []) (fun i => i ≤ l.length ∧ (ordG [] l ↔ ordG ((l.take i).map Line.Pane) (l.drop i)) ∧ 0 ≤ sumC (l.take i) ∧ sumC (l.take i) ≤ 24 * i) (fun i => l.length - i) 0 ?hc ⟨by simp, by simp, by simp [sumC], by simp [sumC]⟩ ?h0 ?step
  case hc => simp +contextual -implicitDefEqProofs (maxSteps := 10^7) only [go_sem, seval, ↓gZ] <;> exact rfl
  case h0 => rfl
  case step =>
    intro i ⟨hi, hp, hs0, hs1⟩ ih
    by_cases hlt : i < l.length
    · obtain ⟨x, hx⟩ := get_lt hlt
      have hw := wrap_succ (k := i) (by omega)
      rw [ordG_cons hx, ← panes_take hx] at hp
      have ev := s_validPane_ev x.Pane.W x.Pane.H x.Pane.Turns x.Pane.Kind
      have hsm := sumC_take hx
      obtain ⟨⟨W, H, T, K⟩, C⟩ := x
      simp only at hp ev hsm
      by_cases hv : VP ⟨W, H, T, K⟩
      · rw [decide_eq_true hv] at ev
        by_cases hC : 1 ≤ C ∧ C ≤ 24
        · have er := s_inRange_ev C 1 24
          rw [decide_eq_true hC] at er
          simp +contextual -implicitDefEqProofs (maxSteps := 10^7) only [go_sem, seval, ↓gZ, hx, hlt, hw, ev, er]
          refine LW_over Xs Ms (st0 := ?st1) (α := Nat) (fun k => [(5, .d (J (k : Int)))]) (fun _ => []) (fun k => k ≤ i ∧ (⟨W, H, T, K⟩ : Pane) ∉ (l.take k).map Line.Pane) (fun k => i - k) 0 ?hc2 ⟨by omega, by simp⟩ ?h02 ?step2
          case hc2 => simp +contextual -implicitDefEqProofs (maxSteps := 10^7) only [go_sem, seval, ↓gZ] <;> exact rfl
          case h02 => rfl
          case step2 =>
            intro k ⟨hk, hq⟩ ih2
            by_cases hki : k < i
            · obtain ⟨y, hy⟩ := get_lt (l := l) (k := k) (by omega)
              have hkl : k < l.length := by omega
              have hw2 := wrap_succ (k := k) (by omega)
              have hpt := panes_take hy
              obtain ⟨⟨W', H', T', K'⟩, C'⟩ := y
              simp only at hpt
              by_cases he : (⟨W', H', T', K'⟩ : Pane) = ⟨W, H, T, K⟩
              · have hmem : (⟨W, H, T, K⟩ : Pane) ∈ (l.take i).map Line.Pane := by
                  rw [← he]
                  have h3 : (l.take i)[k]? = some ⟨⟨W', H', T', K'⟩, C'⟩ := by rw [List.getElem?_take_of_lt hki]; exact hy
                  exact List.mem_map.2 ⟨_, List.mem_of_getElem? h3, rfl⟩
                have hn : ¬ VOrd l := fun h => (hp.1 h.2.1).2.1 hmem
                simp only [Pane.mk.injEq] at he
                simp +contextual -implicitDefEqProofs (maxSteps := 10^7) only [go_sem, seval, ↓gZ, hx, hlt, hw, hy, hki, hkl, hw2, he, hn]
              · have he' := he
                simp only [Pane.mk.injEq] at he
                simp +contextual -implicitDefEqProofs (maxSteps := 10^7) only [go_sem, seval, ↓gZ, hx, hlt, hw, hy, hki, hkl, hw2, he]
                refine ih2 (k + 1) _ ⟨by omega, ?_⟩ (by omega) ?_
                · rw [hpt, List.mem_append]
                  intro h
                  rcases h with h | h
                  · exact hq h
                  · exact he' (List.mem_singleton.1 h).symm
                · simp +contextual -implicitDefEqProofs (maxSteps := 10^7) only [go_sem, seval, ↓gZ]
            · have : k = i := by omega
              subst this
              have hw3 := wi (sumC (l.take k) + C) (by omega) (by omega)
              simp +contextual -implicitDefEqProofs (maxSteps := 10^7) only [go_sem, seval, ↓gZ, hx, hlt, hw, hki, hw3]
              refine ih (k + 1) _ ⟨by omega, ?_, by omega, by omega⟩ (by omega) ?_
              · rw [hp]; exact ⟨fun h => h.2.2.2.2, fun h => ⟨hv, hq, hC.1, hC.2, h⟩⟩
              · simp +contextual -implicitDefEqProofs (maxSteps := 10^7) only [go_sem, seval, ↓gZ, hsm]
        · have er := s_inRange_ev C 1 24
          rw [decide_eq_false hC] at er
          have hn : ¬ VOrd l := fun h => hC ⟨(hp.1 h.2.1).2.2.1, (hp.1 h.2.1).2.2.2.1⟩
          simp +contextual -implicitDefEqProofs (maxSteps := 10^7) only [go_sem, seval, ↓gZ, hx, hlt, hw, ev, er, hn]
      · rw [decide_eq_false hv] at ev
        have hn : ¬ VOrd l := fun h => hv (hp.1 h.2.1).1
        simp +contextual -implicitDefEqProofs (maxSteps := 10^7) only [go_sem, seval, ↓gZ, hx, hlt, hw, ev, hn]
    · have : i = l.length := by omega
      subst this
      have hs := hp.2 ordG_end
      rw [List.take_of_length_le (Nat.le_refl _)]
      simp +contextual -implicitDefEqProofs (maxSteps := 10^7) only [go_sem, seval, ↓gZ]
      exact fin_b (by simp only [VOrd]; constructor <;> (intro h; first | exact ⟨by omega, hs, by omega⟩ | (have := h.1; have := h.2.2; omega)))

theorem set_line (l : List Line) (i : Nat) (W H : Int) (T : Bool) (K C : Int) : (l.map Line.enc).set i (.agg [J W, J H, .bool T, J K, J C]) = (l.set i ⟨⟨W, H, T, K⟩, C⟩).map Line.enc := (List.map_set (f := Line.enc) (l := l) (i := i) (a := ⟨⟨W, H, T, K⟩, C⟩)).symm
theorem s_addPanes_ev (l : List Line) (pW pH : Int) (pT : Bool) (pK : Int) (c : Int) (hl : l.length ≤ 1000000) (hc : ∀ x ∈ l, R64 (x.Count + c)) : vcall Xs Ms n_s_addPanes [(.d (.sl (l.map Line.enc))), (.d (.agg [J pW, J pH, .bool pT, J pK])), (.d (J c))] [] =
    some (.own 0, [.row 5 ((addL (Pane.mk pW pH pT pK) c l).map Line.enc) true false]) := by
  have hr0 : l.length * 40 ≤ 140737488355328 ∧ l.length ≤ 140737488355328 := by omega
  have hr1 : (l.length + 1) * 40 ≤ 140737488355328 ∧ l.length ≤ 140737488355327 := by omega
  refine callE Xs Ms f_s_addPanes x_s_addPanes (by show 3 ≤ _; decide) ?_
  simp +contextual -implicitDefEqProofs (maxSteps := 10^7) only [go_sem, seval, ↓gZ, f_s_addPanes, hr0]
  refine LW_over Xs Ms (st0 := ?st0) (α := Nat) (fun k => [(8, .d (J (k : Int)))]) (fun _ => []) (fun k => k ≤ l.length ∧ (Pane.mk pW pH pT pK) ∉ (l.take k).map Line.Pane) (fun k => l.length - k) 0 ?hc ⟨by simp, by simp⟩ ?h0 ?step
  case hc => simp +contextual -implicitDefEqProofs (maxSteps := 10^7) only [go_sem, seval, ↓gZ] <;> exact rfl
  case h0 => rfl
  case step =>
    intro k ⟨hk, hp⟩ ih
    by_cases hlt : k < l.length
    · obtain ⟨x, hx⟩ := get_lt hlt
      have hw := wrap_succ (k := k) (by omega)
      have hcx := hc x (List.mem_of_getElem? hx)
      have hpt := panes_take hx
      have hat := addL_at (Pane.mk pW pH pT pK) c l k x hx
      obtain ⟨⟨W, H, T, K⟩, C⟩ := x
      simp only at hcx hpt hat
      have u0 := wi (C + c) hcx.1 hcx.2
      by_cases he : (⟨W, H, T, K⟩ : Pane) = (Pane.mk pW pH pT pK)
      · rw [hat he hp]
        have he' := he
        simp only [Pane.mk.injEq] at he
        simp +contextual -implicitDefEqProofs (maxSteps := 10^7) only [go_sem, seval, ↓gZ, hx, hlt, hw, he, u0, set_line]
        try (simp [he]; done)
      · have he' := he
        simp only [Pane.mk.injEq] at he
        simp +contextual -implicitDefEqProofs (maxSteps := 10^7) only [go_sem, seval, ↓gZ, hx, hlt, hw, he]
        refine ih (k + 1) _ ⟨by omega, ?_⟩ (by omega) ?_
        · rw [hpt, List.mem_append]
          intro h
          rcases h with h | h
          · exact hp h
          · exact he' (List.mem_singleton.1 h).symm
        · simp +contextual -implicitDefEqProofs (maxSteps := 10^7) only [go_sem, seval, ↓gZ]
    · have : k = l.length := by omega
      subst this
      rw [List.take_of_length_le (Nat.le_refl _)] at hp
      rw [addL_no (Pane.mk pW pH pT pK) c l hp]
      simp +contextual -implicitDefEqProofs (maxSteps := 10^7) only [go_sem, seval, ↓gZ, hr1]
      try (simp [Line.enc]; done)
theorem addL_cnt {p : Pane} {c hi : Int} (hc : 0 ≤ c) (hh : 0 ≤ hi) : ∀ {l : List Line}, (∀ x ∈ l, 0 ≤ x.Count ∧ x.Count ≤ hi) → ∀ y ∈ addL p c l, 0 ≤ y.Count ∧ y.Count ≤ hi + c
  | [], h, y, hy => by simp [addL] at hy; subst hy; simp only; omega
  | x :: l, h, y, hy => by
    have h1 := h x (by simp)
    unfold addL at hy
    split at hy
    · rcases List.mem_cons.1 hy with rfl | hy
      · simp only; omega
      · have := h y (by simp [hy]); omega
    · rcases List.mem_cons.1 hy with rfl | hy
      · omega
      · exact addL_cnt hc hh (fun z hz => h z (by simp [hz])) y hy
theorem s_somePane_ev (bs : List UInt8) (hb : bs.length ≤ 2000) (p : Nat) (hp : p < 900000000) : ∃ (W H : Int) (T : Bool) (K : Int), vcall Xs Ms n_s_somePane [.ptr 0 0] [.box [.d (.sl (bs.map encU)), (.d (J p))]] = some (.d (.agg [J W, J H, .bool T, J K]), [.box [.d (.sl (bs.map encU)), (.d (J ((p + 4 : Nat))))]]) := by
  have p1 := s_pick_ev bs p 8 hb (by omega)
  have p2 := s_pick_ev bs (p + 1) 8 hb (by omega)
  have p3 := s_pick_ev bs (p + 2) 2 hb (by omega)
  have p4 := s_pick_ev bs (p + 3) 3 hb (by omega)
  generalize s_pick bs p 8 = a1 at p1
  generalize s_pick bs (p + 1) 8 = a2 at p2
  generalize s_pick bs (p + 2) 2 = a3 at p3
  generalize s_pick bs (p + 3) 3 = a4 at p4
  refine ⟨IntKind.i64.wrap (1 + a1), IntKind.i64.wrap (1 + a2), decide (a3 = 0), a4, ?_⟩
  refine callE Xs Ms f_s_somePane x_s_somePane (by show 1 ≤ _; decide) ?_
  simp +contextual -implicitDefEqProofs (maxSteps := 10^7) only [go_sem, seval, ↓gZ, f_s_somePane, p1, p2, p3, p4]
theorem l_equalOrder_same (a : List Line) (ha : a.length < 4611686018427387904) : vcall Xs Ms n_l_equalOrder [(.d (.sl (a.map Line.enc))), (.d (.sl (a.map Line.enc)))] [] = some ((.d (.bool true)), []) := by
  refine callE Xs Ms f_l_equalOrder x_l_equalOrder (by show 2 ≤ _; decide) ?_
  simp +contextual -implicitDefEqProofs (maxSteps := 10^7) only [go_sem, seval, ↓gZ, f_l_equalOrder]
  refine LW_over Xs Ms (st0 := ?st0) (α := Nat) (fun k => [(5, .d (J (k : Int)))]) (fun _ => []) (fun k => k ≤ a.length) (fun k => a.length - k) 0 ?hc (by omega) ?h0 ?step
  case hc => simp +contextual -implicitDefEqProofs (maxSteps := 10^7) only [go_sem, seval, ↓gZ] <;> exact rfl
  case h0 => rfl
  case step =>
    intro k hk ih
    by_cases hlt : k < a.length
    · obtain ⟨x, hx⟩ := get_lt hlt
      have hw := wrap_succ (k := k) (by omega)
      simp +contextual -implicitDefEqProofs (maxSteps := 10^7) only [go_sem, seval, ↓gZ, hx, hlt, hw]
      refine ih (k + 1) _ (by omega) (by omega) ?_
      simp +contextual -implicitDefEqProofs (maxSteps := 10^7) only [go_sem, seval, ↓gZ]
    · have : k = a.length := by omega
      subst this
      simp +contextual -implicitDefEqProofs (maxSteps := 10^7) only [go_sem, seval, ↓gZ]
end Go.Proofs.YtkdjbefmiiibpaaDoor
