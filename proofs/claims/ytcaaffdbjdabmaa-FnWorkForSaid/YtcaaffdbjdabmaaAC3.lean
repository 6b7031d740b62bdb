/- Contracts of the functions, by the abstract semantics. -/
import Derived.Test.YtcaaffdbjdabmaaACode
import Derived.Test.YtcaaffdbjdabmaaAbsParts
import Derived.Test.YtcaaffdbjdabmaaAC2
namespace Go.Proofs.Ytcaaffdbjdabmaa
open Go Go.Abs Go.Abs.E Go.Abs.L
open Nat (reduceMul reduceSub reduceLeDiff reduceEqDiff)
open Int (reduceLE reduceEq reduceToNat reduceNeg)
set_option linter.unusedSimpArgs false
set_option linter.unusedVariables false
set_option maxRecDepth 20000
set_option maxHeartbeats 4000000
def ordG : List Pane → List Line → Prop
  | _, [] => True
  | q, x :: l => VP x.Pane ∧ x.Pane ∉ q ∧ 1 ≤ x.Count ∧ x.Count ≤ 24 ∧ ordG (q ++ [x.Pane]) l
instance ordGdec : ∀ (q : List Pane) (l : List Line), Decidable (ordG q l)
  | _, [] => .isTrue trivial
  | q, x :: l => by
    unfold ordG
    have := ordGdec (q ++ [x.Pane]) l
    infer_instance
def sumC : List Line → Int
  | [] => 0
  | x :: l => x.Count + sumC l
def VOrd (l : List Line) : Prop := l.length ≤ 8 ∧ ordG [] l ∧ sumC l ≤ 24
instance (l : List Line) : Decidable (VOrd l) := by unfold VOrd; infer_instance
theorem ordG_cons {l : List Line} {k : Nat} {x : Line} {q : List Pane} (hx : l[k]? = some x) : ordG q (l.drop k) ↔ VP x.Pane ∧ x.Pane ∉ q ∧ 1 ≤ x.Count ∧ x.Count ≤ 24 ∧ ordG (q ++ [x.Pane]) (l.drop (k + 1)) := by
  obtain ⟨h1, h2⟩ := List.getElem?_eq_some_iff.1 hx
  rw [List.drop_eq_getElem_cons h1, h2, ordG]
theorem ordG_end {l : List Line} {q : List Pane} : ordG q (l.drop l.length) := by simp [ordG]
theorem panes_take {l : List Line} {k : Nat} {x : Line} (hx : l[k]? = some x) : (l.take (k + 1)).map Line.Pane = (l.take k).map Line.Pane ++ [x.Pane] := by
  rw [List.take_add_one, hx]; simp
theorem sumC_append (a b : List Line) : sumC (a ++ b) = sumC a + sumC b := by
  induction a with
  | nil => simp [sumC]
  | cons c l ih => simp only [List.cons_append, sumC, ih]; omega
theorem sumC_take {l : List Line} {i : Nat} {x : Line} (hx : l[i]? = some x) : sumC (l.take (i + 1)) = sumC (l.take i) + x.Count := by
  rw [List.take_add_one, hx, sumC_append]; simp [sumC]
theorem ordG_all : ∀ {l : List Line} {q : List Pane}, ordG q l → ∀ x ∈ l, VP x.Pane ∧ 1 ≤ x.Count ∧ x.Count ≤ 24
  | [], _, _, x, hx => by simp at hx
  | y :: l, q, h, x, hx => by
    rcases List.mem_cons.1 hx with rfl | hx
    · exact ⟨h.1, h.2.2.1, h.2.2.2.1⟩
    · exact ordG_all h.2.2.2.2 x hx
theorem sumC_pos : ∀ {l : List Line}, (∀ x ∈ l, 1 ≤ x.Count) → 0 ≤ sumC l
  | [], _ => by simp [sumC]
  | x :: l, h => by
    have h1 := h x (by simp)
    have h2 := sumC_pos (l := l) fun y hy => h y (by simp [hy])
    simp only [sumC]; omega
theorem sumC_le_all {l : List Line} {i : Nat} (h : ∀ x ∈ l, 1 ≤ x.Count) : sumC (l.take i) ≤ sumC l := by
  have e : sumC l = sumC (l.take i) + sumC (l.drop i) := by rw [← sumC_append, List.take_append_drop]
  have := sumC_pos (l := l.drop i) fun y hy => h y (List.mem_of_mem_drop hy)
  omega
def fLine : Nat → List Line → Pane → Int
  | _, [], _ => -1
  | k, x :: l, p => if x.Pane = p then (k : Int) else fLine (k + 1) l p
theorem fLine_cons {l : List Line} {k : Nat} {x : Line} {p : Pane} (hx : l[k]? = some x) : fLine k (l.drop k) p = if x.Pane = p then (k : Int) else fLine (k + 1) (l.drop (k + 1)) p := by
  obtain ⟨h1, h2⟩ := List.getElem?_eq_some_iff.1 hx
  rw [List.drop_eq_getElem_cons h1, h2, fLine]
theorem fLine_at : ∀ (l : List Line) (k i : Nat) (x : Line), l[i]? = some x → (fLine k l x.Pane = ((k + i : Nat) : Int) ↔ x.Pane ∉ (l.take i).map Line.Pane)
  | [], k, i, x, h => by simp at h
  | y :: l, k, 0, x, h => by
    simp only [List.getElem?_cons_zero, Option.some.injEq] at h
    subst h
    simp [fLine]
  | y :: l, k, i + 1, x, h => by
    simp only [List.getElem?_cons_succ] at h
    have ih := fLine_at l (k + 1) i x h
    simp only [fLine, List.take_succ_cons, List.map_cons, List.mem_cons, not_or]
    split
    · rename_i e
      constructor
      · intro h; omega
      · intro h; exact absurd e.symm h.1
    · rename_i e
      rw [show k + 1 + i = k + (i + 1) by omega] at ih
      rw [ih]
      exact ⟨fun h => ⟨fun e' => e e'.symm, h⟩, fun h => h.2⟩
def sumA : List Line → Int
  | [] => 0
  | x :: l => x.Count * x.Pane.W * x.Pane.H + sumA l
theorem sumA_append (a b : List Line) : sumA (a ++ b) = sumA a + sumA b := by
  induction a with
  | nil => simp [sumA]
  | cons c l ih => simp only [List.cons_append, sumA, ih]; omega
theorem sumA_take {l : List Line} {i : Nat} {x : Line} (hx : l[i]? = some x) : sumA (l.take (i + 1)) = sumA (l.take i) + x.Count * x.Pane.W * x.Pane.H := by
  rw [List.take_add_one, hx, sumA_append]; simp [sumA]
theorem line_area {x : Line} (h : VP x.Pane ∧ 1 ≤ x.Count ∧ x.Count ≤ 24) : 0 ≤ x.Count * x.Pane.W ∧ x.Count * x.Pane.W ≤ 4800 ∧ 0 ≤ x.Count * x.Pane.W * x.Pane.H ∧ x.Count * x.Pane.W * x.Pane.H ≤ 960000 := by
  obtain ⟨h1, h2, h3⟩ := h
  simp only [VP] at h1
  have a1 : 0 ≤ x.Count * x.Pane.W := Int.mul_nonneg (by omega) (by omega)
  have a2 : x.Count * x.Pane.W ≤ 24 * 200 := Int.mul_le_mul (by omega) (by omega) (by omega) (by omega)
  have a3 : 0 ≤ x.Count * x.Pane.W * x.Pane.H := Int.mul_nonneg (by omega) (by omega)
  have a4 : x.Count * x.Pane.W * x.Pane.H ≤ 4800 * 200 := Int.mul_le_mul (by omega) (by omega) (by omega) (by omega)
  omega
theorem sumA_bound : ∀ {l : List Line}, (∀ x ∈ l, VP x.Pane ∧ 1 ≤ x.Count ∧ x.Count ≤ 24) → 0 ≤ sumA l ∧ sumA l ≤ 960000 * l.length
  | [], _ => by simp [sumA]
  | x :: l, h => by
    have h1 := line_area (h x (by simp))
    have h2 := sumA_bound (l := l) fun y hy => h y (by simp [hy])
    simp only [sumA, List.length_cons]; omega
theorem VOrd_all {l : List Line} (h : VOrd l) : ∀ x ∈ l, VP x.Pane ∧ 1 ≤ x.Count ∧ x.Count ≤ 24 := ordG_all h.2.1
theorem sumA_small {l : List Line} (h : VOrd l) : 0 ≤ sumA l ∧ sumA l ≤ 7680000 := by
  have h1 := sumA_bound (VOrd_all h)
  have := h.1
  omega

structure Event where
  kind : Int
  label : Int
  box : Box
  line : Line
  plan : Plan
def Event.enc (e : Event) : D := .agg ([.int .i64 e.kind, .int .i64 e.label, .int .i64 e.box.X, .int .i64 e.box.Y, .int .i64 e.box.W, .int .i64 e.box.H, .int .i64 e.line.Pane.W, .int .i64 e.line.Pane.H, .bool e.line.Pane.Turns, .int .i64 e.line.Pane.Kind, .int .i64 e.line.Count] ++ e.plan.enc.cells)
@[go_sem] theorem Event.enc_mk (k l x y w h pw ph pk c o a p : Int) (pt t : Bool) (ks : List Plan) : Event.enc (Event.mk k l (Box.mk x y w h) (Line.mk (Pane.mk pw ph pt pk) c) (Plan.mk o a p t ks)) =
    .agg [.int .i64 k, .int .i64 l, .int .i64 x, .int .i64 y, .int .i64 w, .int .i64 h, .int .i64 pw, .int .i64 ph, .bool pt, .int .i64 pk, .int .i64 c, .int .i64 o, .int .i64 a, .int .i64 p, .bool t, .sl (ks.map Plan.enc)] := by
  simp only [Event.enc, Plan.enc_mk]; rfl
theorem Event.enc_len (e : Event) : (Event.enc e).cells.length = 16 := by
  show (_ ++ e.plan.enc.cells).length = 16
  rw [List.length_append, Plan.enc_len]; rfl
@[go_sem] theorem uni_Event (l : List Event) : uni 16 (l.map Event.enc) = True := eq_true (uni_map l Event.enc_len)
def VShop (s : Shop) : Prop := VSt s.Stock ∧ VOrd s.Opn ∧ VOrd s.Done ∧ 0 ≤ s.Lost ∧ s.Lost ≤ 900000 ∧ 0 ≤ s.Came ∧ s.Came ≤ 900000 ∧ sumWH s.Stock + sumA s.Done + s.Lost = s.Came
instance (s : Shop) : Decidable (VShop s) := by unfold VShop; infer_instance
/-- A stock with one more piece. -/
def addPc (p : Piece) : List Piece → List Piece
  | [] => [p]
  | x :: l => if p.Label < x.Label then p :: x :: l else x :: addPc p l
theorem addPc_cons {l : List Piece} {k : Nat} {x p : Piece} (hx : l[k]? = some x) : addPc p (l.drop k) = if p.Label < x.Label then p :: l.drop k else x :: addPc p (l.drop (k + 1)) := by
  obtain ⟨h1, h2⟩ := List.getElem?_eq_some_iff.1 hx
  rw [List.drop_eq_getElem_cons h1, h2, addPc]
theorem addPc_len (p : Piece) : ∀ (l : List Piece), (addPc p l).length = l.length + 1
  | [] => rfl
  | x :: l => by
    unfold addPc
    split
    · simp
    · simp [addPc_len p l]
theorem addPc_mem (p : Piece) : ∀ (l : List Piece) (y : Piece), y ∈ addPc p l → y = p ∨ y ∈ l
  | [], y, h => by simpa [addPc] using h
  | x :: l, y, h => by
    unfold addPc at h
    split at h
    · simpa using h
    · rcases List.mem_cons.1 h with rfl | h
      · exact .inr (by simp)
      · rcases addPc_mem p l y h with h | h
        · exact .inl h
        · exact .inr (by simp [h])
/-- The lines with some panes less. -/
def takeB (p : Pane) (c : Int) (x : Line) : Option Line :=
  if x.Pane = p then (if 0 < x.Count - c then some ⟨x.Pane, x.Count - c⟩ else none) else (if 0 < x.Count then some x else none)
def takeL (l : List Line) (p : Pane) (c : Int) : List Line := l.filterMap (takeB p c)
def takeOk (p : Pane) (c : Int) : Bool → List Line → Bool
  | b, [] => b
  | b, x :: l => takeOk p c (if x.Pane = p then decide (0 ≤ x.Count - c) else b) l
theorem takeOk_cons {l : List Line} {k : Nat} {x : Line} {p : Pane} {c : Int} {b : Bool} (hx : l[k]? = some x) : takeOk p c b (l.drop k) = takeOk p c (if x.Pane = p then decide (0 ≤ x.Count - c) else b) (l.drop (k + 1)) := by
  obtain ⟨h1, h2⟩ := List.getElem?_eq_some_iff.1 hx
  rw [List.drop_eq_getElem_cons h1, h2, takeOk]
theorem takeOk_end {l : List Line} {p : Pane} {c : Int} {b : Bool} : takeOk p c b (l.drop l.length) = b := by simp [takeOk]
theorem takeL_take {l : List Line} {i : Nat} {x : Line} (p : Pane) (c : Int) (hx : l[i]? = some x) : takeL (l.take (i + 1)) p c = takeL (l.take i) p c ++ (takeB p c x).toList := by
  unfold takeL
  rw [List.take_add_one, hx, List.filterMap_append]
  simp only [Option.toList_some, List.filterMap_cons, List.filterMap_nil]
  cases takeB p c x <;> rfl
/-- The lines with some panes more. -/
def addL (p : Pane) (c : Int) : List Line → List Line
  | [] => [⟨p, c⟩]
  | x :: l => if x.Pane = p then ⟨x.Pane, x.Count + c⟩ :: l else x :: addL p c l
theorem addL_len (p : Pane) (c : Int) : ∀ (l : List Line), (addL p c l).length ≤ l.length + 1
  | [] => by simp [addL]
  | x :: l => by
    unfold addL
    split
    · simp
    · have := addL_len p c l
      simp; omega
theorem addL_at (p : Pane) (c : Int) : ∀ (l : List Line) (i : Nat) (x : Line), l[i]? = some x → x.Pane = p → p ∉ (l.take i).map Line.Pane → addL p c l = l.set i ⟨x.Pane, x.Count + c⟩
  | [], i, x, h, _, _ => by simp at h
  | y :: l, 0, x, h, e, _ => by
    simp only [List.getElem?_cons_zero, Option.some.injEq] at h
    subst h
    simp [addL, e]
  | y :: l, i + 1, x, h, e, hn => by
    simp only [List.getElem?_cons_succ] at h
    simp only [List.take_succ_cons, List.map_cons, List.mem_cons, not_or] at hn
    have ih := addL_at p c l i x h e hn.2
    simp only [addL, if_neg (fun e' : y.Pane = p => hn.1 e'.symm), List.set_cons_succ, ih]
theorem addL_no (p : Pane) (c : Int) : ∀ (l : List Line), p ∉ l.map Line.Pane → addL p c l = l ++ [⟨p, c⟩]
  | [], _ => rfl
  | y :: l, hn => by
    simp only [List.map_cons, List.mem_cons, not_or] at hn
    simp only [addL, if_neg (fun e' : y.Pane = p => hn.1 e'.symm), addL_no p c l hn.2, List.cons_append]

theorem i_findLine_1_ev (qW : Int) (qH : Int) (qT : Bool) (qK : Int) (qC : Int) (pW : Int) (pH : Int) (pT : Bool) (pK : Int) : vcall Xs Ms n_i_findLine_1 [(.d (.agg [.int .i64 qW, .int .i64 qH, .bool qT, .int .i64 qK, .int .i64 qC])), .ptr 0 0] [.box [(.d (.int .i64 (pW))), (.d (.int .i64 (pH))), (.d (.bool (pT))), (.d (.int .i64 (pK)))]] = some ((.d (.bool (decide ((Pane.mk qW qH qT qK) = (Pane.mk pW pH pT pK))))), [.box [(.d (.int .i64 (pW))), (.d (.int .i64 (pH))), (.d (.bool (pT))), (.d (.int .i64 (pK)))]]) := by
  refine callE Xs Ms f_i_findLine_1 x_i_findLine_1 (by show 2 ≤ _; decide) ?_
  simp +contextual -implicitDefEqProofs (maxSteps := 10000000) only [go_sem, seval, ↓gA, ↓gB, ↓gC, ↓gD, ↓gE, ↓gF, f_i_findLine_1]
  try exact fin_b (by simp only [Pane.mk.injEq, and_assoc])
theorem IndexFuncL_ev (l : List Line) (pW : Int) (pH : Int) (pT : Bool) (pK : Int) (hl : l.length < 4611686018427387904) : vcall Xs Ms n_slices_IndexFunc_g2 [(.d (.sl (l.map Line.enc))), .clo n_i_findLine_1 [.ptr 0 0]] [.box [(.d (.int .i64 (pW))), (.d (.int .i64 (pH))), (.d (.bool (pT))), (.d (.int .i64 (pK)))]] = some ((.d (.int .i64 (fLine 0 l (Pane.mk pW pH pT pK)))), [.box [(.d (.int .i64 (pW))), (.d (.int .i64 (pH))), (.d (.bool (pT))), (.d (.int .i64 (pK)))]]) := by
  refine callE Xs Ms f_slices_IndexFunc_g2 x_slices_IndexFunc_g2 (by show 2 ≤ _; decide) ?_
  simp +contextual -implicitDefEqProofs (maxSteps := 10000000) only [go_sem, seval, ↓gA, ↓gB, ↓gC, ↓gD, ↓gE, ↓gF, f_slices_IndexFunc_g2]
  refine LW_over Xs Ms (st0 := ?st0) (α := Nat) (fun k => [(8, .d (.int .i64 (k : Int)))]) (fun _ => []) (fun k => k ≤ l.length ∧ fLine k (l.drop k) (Pane.mk pW pH pT pK) = fLine 0 l (Pane.mk pW pH pT pK)) (fun k => l.length - k) 0 ?hc ⟨by omega, rfl⟩ ?h0 ?step
  case hc => simp +contextual -implicitDefEqProofs (maxSteps := 10000000) only [go_sem, seval, ↓gA, ↓gB, ↓gC, ↓gD, ↓gE, ↓gF] <;> exact rfl
  case h0 => rfl
  case step =>
    intro k ⟨hk, hp⟩ ih
    by_cases hlt : k < l.length
    · obtain ⟨x, hx⟩ := get_lt hlt
      rw [fLine_cons hx] at hp
      have hw := wrap_succ (k := k) (by omega)
      have e1 := i_findLine_1_ev x.Pane.W x.Pane.H x.Pane.Turns x.Pane.Kind x.Count pW pH pT pK
      obtain ⟨⟨W, H, T, K⟩, C⟩ := x
      simp only at hp e1
      by_cases h : (⟨W, H, T, K⟩ : Pane) = (Pane.mk pW pH pT pK)
      · rw [if_pos h] at hp
        rw [decide_eq_true h] at e1
        simp +contextual -implicitDefEqProofs (maxSteps := 10000000) only [go_sem, seval, ↓gA, ↓gB, ↓gC, ↓gD, ↓gE, ↓gF, hx, hlt, hw, e1]
        rw [← hp]
      · rw [if_neg h] at hp
        rw [decide_eq_false h] at e1
        simp +contextual -implicitDefEqProofs (maxSteps := 10000000) only [go_sem, seval, ↓gA, ↓gB, ↓gC, ↓gD, ↓gE, ↓gF, hx, hlt, hw, e1]
        refine ih (k + 1) _ ⟨by omega, hp⟩ (by omega) ?_
        simp +contextual -implicitDefEqProofs (maxSteps := 10000000) only [go_sem, seval, ↓gA, ↓gB, ↓gC, ↓gD, ↓gE, ↓gF]
    · have : k = l.length := by omega
      subst this
      simp +contextual -implicitDefEqProofs (maxSteps := 10000000) only [go_sem, seval, ↓gA, ↓gB, ↓gC, ↓gD, ↓gE, ↓gF]
      rw [← hp]
      simp [fLine]
theorem i_findLine_ev (l : List Line) (pW : Int) (pH : Int) (pT : Bool) (pK : Int) (hl : l.length < 4611686018427387904) : vcall Xs Ms n_i_findLine [(.d (.sl (l.map Line.enc))), (.d (.agg [.int .i64 pW, .int .i64 pH, .bool pT, .int .i64 pK]))] [] = some ((.d (.int .i64 (fLine 0 l (Pane.mk pW pH pT pK)))), []) := by
  refine callE Xs Ms f_i_findLine x_i_findLine (by show 2 ≤ _; decide) ?_
  simp +contextual -implicitDefEqProofs (maxSteps := 10000000) only [go_sem, seval, ↓gA, ↓gB, ↓gC, ↓gD, ↓gE, ↓gF, f_i_findLine, IndexFuncL_ev l pW pH pT pK hl]
theorem i_ValidOrder_ev (l : List Line) : vcall Xs Ms n_i_ValidOrder [(.d (.sl (l.map Line.enc)))] [] = some ((.d (.bool (decide (VOrd l)))), []) := by
  by_cases h8 : (8 : Int) < (l.length : Int)
  · have hn : ¬ VOrd l := fun h => by have := h.1; omega
    refine callE Xs Ms f_i_ValidOrder x_i_ValidOrder (by show 1 ≤ _; decide) ?_
    simp +contextual -implicitDefEqProofs (maxSteps := 10000000) only [go_sem, seval, ↓gA, ↓gB, ↓gC, ↓gD, ↓gE, ↓gF, f_i_ValidOrder, h8, hn]
  · have hle : l.length ≤ 8 := by omega
    refine callE Xs Ms f_i_ValidOrder x_i_ValidOrder (by show 1 ≤ _; decide) ?_
    simp +contextual -implicitDefEqProofs (maxSteps := 10000000) only [go_sem, seval, ↓gA, ↓gB, ↓gC, ↓gD, ↓gE, ↓gF, f_i_ValidOrder, h8]
    refine LW_over Xs Ms (st0 := ?st0) (α := Nat) (fun i => [(11, .d (.int .i64 (i : Int))), (3, .d (.int .i64 (24 - sumC (l.take i))))]) (fun _ => []) (fun i => i ≤ l.length ∧ (ordG [] l ↔ ordG ((l.take i).map Line.Pane) (l.drop i)) ∧ 0 ≤ sumC (l.take i) ∧ sumC (l.take i) ≤ 24) (fun i => l.length - i) 0 ?hc ⟨by simp, by simp, by simp [sumC], by simp [sumC]⟩ ?h0 ?step
    case hc => simp +contextual -implicitDefEqProofs (maxSteps := 10000000) only [go_sem, seval, ↓gA, ↓gB, ↓gC, ↓gD, ↓gE, ↓gF] <;> exact rfl
    case h0 => rfl
    case step =>
      intro i ⟨hi, hp, hs0, hs1⟩ ih
      by_cases hlt : i < l.length
      · obtain ⟨x, hx⟩ := get_lt hlt
        have hw := wrap_succ (k := i) (by omega)
        rw [ordG_cons hx, ← panes_take hx] at hp
        have ev := i_ValidPane_ev x.Pane.W x.Pane.H x.Pane.Turns x.Pane.Kind
        have ef := i_findLine_ev l x.Pane.W x.Pane.H x.Pane.Turns x.Pane.Kind (by omega)
        have hfa := fLine_at l 0 i x hx
        have hsm := sumC_take hx
        obtain ⟨⟨W, H, T, K⟩, C⟩ := x
        simp only [Nat.zero_add] at hp ev ef hfa hsm
        by_cases hv : VP ⟨W, H, T, K⟩
        · rw [decide_eq_true hv] at ev
          by_cases hf : fLine 0 l ⟨W, H, T, K⟩ = (i : Int)
          · rw [hf] at ef
            by_cases hC1 : C < 1
            · have hn : ¬ VOrd l := fun h => by have := (hp.1 h.2.1).2.2.1; omega
              simp +contextual -implicitDefEqProofs (maxSteps := 10000000) only [go_sem, seval, ↓gA, ↓gB, ↓gC, ↓gD, ↓gE, ↓gF, hx, hlt, hw, ev, ef, hC1, hn]
            · by_cases hC2 : 24 - sumC (l.take i) < C
              · have hn : ¬ VOrd l := fun h => by
                  have := sumC_le_all (l := l) (i := i + 1) (fun x hx => (ordG_all h.2.1 x hx).2.1)
                  have := h.2.2
                  omega
                simp +contextual -implicitDefEqProofs (maxSteps := 10000000) only [go_sem, seval, ↓gA, ↓gB, ↓gC, ↓gD, ↓gE, ↓gF, hx, hlt, hw, ev, ef, hC1, hC2, hn]
              · have hw2 := wi (24 - sumC (l.take i) - C) (by omega) (by omega)
                simp +contextual -implicitDefEqProofs (maxSteps := 10000000) only [go_sem, seval, ↓gA, ↓gB, ↓gC, ↓gD, ↓gE, ↓gF, hx, hlt, hw, ev, ef, hC1, hC2, hw2]
                refine ih (i + 1) _ ⟨by omega, ?_, by omega, by omega⟩ (by omega) ?_
                · rw [hp]; exact ⟨fun h => h.2.2.2.2, fun h => ⟨hv, hfa.1 hf, by omega, by omega, h⟩⟩
                · simp +contextual -implicitDefEqProofs (maxSteps := 10000000) only [go_sem, seval, ↓gA, ↓gB, ↓gC, ↓gD, ↓gE, ↓gF, hsm]
                  try (simp; omega)
          · have hn : ¬ VOrd l := fun h => hf (hfa.2 (hp.1 h.2.1).2.1)
            simp +contextual -implicitDefEqProofs (maxSteps := 10000000) only [go_sem, seval, ↓gA, ↓gB, ↓gC, ↓gD, ↓gE, ↓gF, hx, hlt, hw, ev, ef, hf, hn]
        · rw [decide_eq_false hv] at ev
          have hn : ¬ VOrd l := fun h => hv (hp.1 h.2.1).1
          simp +contextual -implicitDefEqProofs (maxSteps := 10000000) only [go_sem, seval, ↓gA, ↓gB, ↓gC, ↓gD, ↓gE, ↓gF, hx, hlt, hw, ev, hn]
      · have : i = l.length := by omega
        subst this
        rw [List.take_of_length_le (Nat.le_refl _)] at hs1
        have hy : VOrd l := ⟨hle, hp.2 ordG_end, hs1⟩
        simp +contextual -implicitDefEqProofs (maxSteps := 10000000) only [go_sem, seval, ↓gA, ↓gB, ↓gC, ↓gD, ↓gE, ↓gF, hy]
theorem i_OrderArea_ev (l : List Line) (hv : VOrd l) : vcall Xs Ms n_i_OrderArea [(.d (.sl (l.map Line.enc)))] [] = some ((.d (.int .i64 (sumA l))), []) := by
  have ev := i_ValidOrder_ev l
  rw [decide_eq_true hv] at ev
  have h8 := hv.1
  have hval := VOrd_all hv
  clear hv
  refine callE Xs Ms f_i_OrderArea x_i_OrderArea (by show 1 ≤ _; decide) ?_
  simp +contextual -implicitDefEqProofs (maxSteps := 10000000) only [go_sem, seval, ↓gA, ↓gB, ↓gC, ↓gD, ↓gE, ↓gF, f_i_OrderArea, ev]
  refine LW_over Xs Ms (st0 := ?st0) (α := Nat) (fun i => [(11, .d (.int .i64 (i : Int))), (3, .d (.int .i64 (sumA (l.take i))))]) (fun _ => []) (fun i => i ≤ l.length) (fun i => l.length - i) 0 ?hc (by omega) ?h0 ?step
  case hc => simp +contextual -implicitDefEqProofs (maxSteps := 10000000) only [go_sem, seval, ↓gA, ↓gB, ↓gC, ↓gD, ↓gE, ↓gF] <;> exact rfl
  case h0 => rfl
  case step =>
    intro i hi ih
    by_cases hlt : i < l.length
    · obtain ⟨x, hx⟩ := get_lt hlt
      have hw := wrap_succ (k := i) (by omega)
      have hm := sumA_take hx
      have hst := sumA_bound (l := l.take i) (fun y hy => hval y (List.mem_of_mem_take hy))
      have hlk : (l.take i).length ≤ i := by simp; omega
      have g5 := line_area (hval x (List.mem_of_getElem? hx))
      obtain ⟨⟨W, H, T, K⟩, C⟩ := x
      simp only at g5 hm
      have u0 := wi (C * W) (by omega) (by omega)
      have u1 := wi (C * W * H) (by omega) (by omega)
      have u2 := wi (sumA (l.take i) + C * W * H) (by omega) (by omega)
      simp +contextual -implicitDefEqProofs (maxSteps := 10000000) only [go_sem, seval, ↓gA, ↓gB, ↓gC, ↓gD, ↓gE, ↓gF, hx, hlt, hw, u0, u1, u2]
      refine ih (i + 1) _ (by omega) (by omega) ?_
      simp +contextual -implicitDefEqProofs (maxSteps := 10000000) only [go_sem, seval, ↓gA, ↓gB, ↓gC, ↓gD, ↓gE, ↓gF, hm]
    · have : i = l.length := by omega
      subst this
      simp +contextual -implicitDefEqProofs (maxSteps := 10000000) only [go_sem, seval, ↓gA, ↓gB, ↓gC, ↓gD, ↓gE, ↓gF]
      simp
theorem s_validOrder_ev (l : List Line) (hl : l.length ≤ 1000000) : vcall Xs Ms n_s_validOrder [(.d (.sl (l.map Line.enc)))] [] = some ((.d (.bool (decide (VOrd l)))), []) := by
  refine callE Xs Ms f_s_validOrder x_s_validOrder (by show 1 ≤ _; decide) ?_
  simp +contextual -implicitDefEqProofs (maxSteps := 10000000) only [go_sem, seval, ↓gA, ↓gB, ↓gC, ↓gD, ↓gE, ↓gF, f_s_validOrder]
  refine LW_over Xs Ms (st0 := ?st0) (α := Nat) (fun i => [(4, .d (.int .i64 (i : Int))), (3, .d (.int .i64 (sumC (l.take i))))]) (fun _ => []) (fun i => i ≤ l.length ∧ (ordG [] l ↔ ordG ((l.take i).map Line.Pane) (l.drop i)) ∧ 0 ≤ sumC (l.take i) ∧ sumC (l.take i) ≤ 24 * i) (fun i => l.length - i) 0 ?hc ⟨by simp, by simp, by simp [sumC], by simp [sumC]⟩ ?h0 ?step
  case hc => simp +contextual -implicitDefEqProofs (maxSteps := 10000000) only [go_sem, seval, ↓gA, ↓gB, ↓gC, ↓gD, ↓gE, ↓gF] <;> exact rfl
  case h0 => rfl
  case step =>
    intro i ⟨hi, hp, hs0, hs1⟩ ih
    by_cases hlt : i < l.length
    · obtain ⟨x, hx⟩ := get_lt hlt
      have hw := wrap_succ (k := i) (by omega)
      rw [ordG_cons hx, ← panes_take hx] at hp
      have ev := s_validPane_ev x.Pane.W x.Pane.H x.Pane.Turns x.Pane.Kind
      have hsm := sumC_take hx
      obtain ⟨⟨W, H, T, K⟩, C⟩ := x
      simp only at hp ev hsm
      by_cases hv : VP ⟨W, H, T, K⟩
      · rw [decide_eq_true hv] at ev
        by_cases hC : 1 ≤ C ∧ C ≤ 24
        · have er := s_inRange_ev C 1 24
          rw [decide_eq_true hC] at er
          simp +contextual -implicitDefEqProofs (maxSteps := 10000000) only [go_sem, seval, ↓gA, ↓gB, ↓gC, ↓gD, ↓gE, ↓gF, hx, hlt, hw, ev, er]
          refine LW_over Xs Ms (st0 := ?st1) (α := Nat) (fun k => [(5, .d (.int .i64 (k : Int)))]) (fun _ => []) (fun k => k ≤ i ∧ (⟨W, H, T, K⟩ : Pane) ∉ (l.take k).map Line.Pane) (fun k => i - k) 0 ?hc2 ⟨by omega, by simp⟩ ?h02 ?step2
          case hc2 => simp +contextual -implicitDefEqProofs (maxSteps := 10000000) only [go_sem, seval, ↓gA, ↓gB, ↓gC, ↓gD, ↓gE, ↓gF] <;> exact rfl
          case h02 => rfl
          case step2 =>
            intro k ⟨hk, hq⟩ ih2
            by_cases hki : k < i
            · obtain ⟨y, hy⟩ := get_lt (l := l) (k := k) (by omega)
              have hkl : k < l.length := by omega
              have hw2 := wrap_succ (k := k) (by omega)
              have hpt := panes_take hy
              obtain ⟨⟨W', H', T', K'⟩, C'⟩ := y
              simp only at hpt
              by_cases he : (⟨W', H', T', K'⟩ : Pane) = ⟨W, H, T, K⟩
              · have hmem : (⟨W, H, T, K⟩ : Pane) ∈ (l.take i).map Line.Pane := by
                  rw [← he]
                  have h3 : (l.take i)[k]? = some ⟨⟨W', H', T', K'⟩, C'⟩ := by rw [List.getElem?_take_of_lt hki]; exact hy
                  exact List.mem_map.2 ⟨_, List.mem_of_getElem? h3, rfl⟩
                have hn : ¬ VOrd l := fun h => (hp.1 h.2.1).2.1 hmem
                simp only [Pane.mk.injEq] at he
                simp +contextual -implicitDefEqProofs (maxSteps := 10000000) only [go_sem, seval, ↓gA, ↓gB, ↓gC, ↓gD, ↓gE, ↓gF, hx, hlt, hw, hy, hki, hkl, hw2, he, hn]
              · have he' := he
                simp only [Pane.mk.injEq] at he
                simp +contextual -implicitDefEqProofs (maxSteps := 10000000) only [go_sem, seval, ↓gA, ↓gB, ↓gC, ↓gD, ↓gE, ↓gF, hx, hlt, hw, hy, hki, hkl, hw2, he]
                refine ih2 (k + 1) _ ⟨by omega, ?_⟩ (by omega) ?_
                · rw [hpt, List.mem_append]
                  intro h
                  rcases h with h | h
                  · exact hq h
                  · exact he' (List.mem_singleton.1 h).symm
                · simp +contextual -implicitDefEqProofs (maxSteps := 10000000) only [go_sem, seval, ↓gA, ↓gB, ↓gC, ↓gD, ↓gE, ↓gF]
            · have : k = i := by omega
              subst this
              have hw3 := wi (sumC (l.take k) + C) (by omega) (by omega)
              simp +contextual -implicitDefEqProofs (maxSteps := 10000000) only [go_sem, seval, ↓gA, ↓gB, ↓gC, ↓gD, ↓gE, ↓gF, hx, hlt, hw, hki, hw3]
              refine ih (k + 1) _ ⟨by omega, ?_, by omega, by omega⟩ (by omega) ?_
              · rw [hp]; exact ⟨fun h => h.2.2.2.2, fun h => ⟨hv, hq, hC.1, hC.2, h⟩⟩
              · simp +contextual -implicitDefEqProofs (maxSteps := 10000000) only [go_sem, seval, ↓gA, ↓gB, ↓gC, ↓gD, ↓gE, ↓gF, hsm]
        · have er := s_inRange_ev C 1 24
          rw [decide_eq_false hC] at er
          have hn : ¬ VOrd l := fun h => hC ⟨(hp.1 h.2.1).2.2.1, (hp.1 h.2.1).2.2.2.1⟩
          simp +contextual -implicitDefEqProofs (maxSteps := 10000000) only [go_sem, seval, ↓gA, ↓gB, ↓gC, ↓gD, ↓gE, ↓gF, hx, hlt, hw, ev, er, hn]
      · rw [decide_eq_false hv] at ev
        have hn : ¬ VOrd l := fun h => hv (hp.1 h.2.1).1
        simp +contextual -implicitDefEqProofs (maxSteps := 10000000) only [go_sem, seval, ↓gA, ↓gB, ↓gC, ↓gD, ↓gE, ↓gF, hx, hlt, hw, ev, hn]
    · have : i = l.length := by omega
      subst this
      have hs := hp.2 ordG_end
      rw [List.take_of_length_le (Nat.le_refl _)]
      simp +contextual -implicitDefEqProofs (maxSteps := 10000000) only [go_sem, seval, ↓gA, ↓gB, ↓gC, ↓gD, ↓gE, ↓gF]
      exact fin_b (by simp only [VOrd]; constructor <;> (intro h; first | exact ⟨by omega, hs, by omega⟩ | (have := h.1; have := h.2.2; omega)))

theorem VSt_vals {l : List Piece} (hv : VSt l) : ∀ x ∈ l, 1 ≤ x.W ∧ x.W ≤ 200 ∧ 1 ≤ x.H ∧ x.H ≤ 200 := fun x hx => by
  have := (sortF_all hv.2 x hx).1; omega
theorem sumWH_small {l : List Piece} (hv : VSt l) : 0 ≤ sumWH l ∧ sumWH l ≤ 800000 := by
  have h1 := sumWH_nonneg (VSt_vals hv)
  have := hv.1
  omega
theorem s_stockArea_ev (l : List Piece) (hv : VSt l) : vcall Xs Ms n_s_stockArea [(.d (.sl (l.map Piece.enc)))] [] = some ((.d (.int .i64 (sumWH l))), []) := by
  have h20 := hv.1
  have hval := VSt_vals hv
  clear hv
  refine callE Xs Ms f_s_stockArea x_s_stockArea (by show 1 ≤ _; decide) ?_
  simp +contextual -implicitDefEqProofs (maxSteps := 10000000) only [go_sem, seval, ↓gA, ↓gB, ↓gC, ↓gD, ↓gE, ↓gF, f_s_stockArea]
  refine LW_over Xs Ms (st0 := ?st0) (α := Nat) (fun i => [(4, .d (.int .i64 (i : Int))), (3, .d (.int .i64 (sumWH (l.take i))))]) (fun _ => []) (fun i => i ≤ l.length) (fun i => l.length - i) 0 ?hc (by omega) ?h0 ?step
  case hc => simp +contextual -implicitDefEqProofs (maxSteps := 10000000) only [go_sem, seval, ↓gA, ↓gB, ↓gC, ↓gD, ↓gE, ↓gF] <;> exact rfl
  case h0 => rfl
  case step =>
    intro i hi ih
    by_cases hlt : i < l.length
    · obtain ⟨x, hx⟩ := get_lt hlt
      have hw := wrap_succ (k := i) (by omega)
      have hm := sumWH_take hx
      have hst := sumWH_nonneg (l := l.take i) (fun y hy => hval y (List.mem_of_mem_take hy))
      have hlk : (l.take i).length ≤ i := by simp; omega
      have g5 := hval x (List.mem_of_getElem? hx)
      have hxx : x.W * x.H ≤ 200 * 200 := Int.mul_le_mul (by omega) (by omega) (by omega) (by omega)
      have hx0 : 0 ≤ x.W * x.H := Int.mul_nonneg (by omega) (by omega)
      obtain ⟨xL, xW, xH, xF⟩ := x
      simp only at g5 hm hxx hx0
      have u0 := wi (xW * xH) (by omega) (by omega)
      have u1 := wi (sumWH (l.take i) + xW * xH) (by omega) (by omega)
      simp +contextual -implicitDefEqProofs (maxSteps := 10000000) only [go_sem, seval, ↓gA, ↓gB, ↓gC, ↓gD, ↓gE, ↓gF, hx, hlt, hw, u0, u1]
      refine ih (i + 1) _ (by omega) (by omega) ?_
      simp +contextual -implicitDefEqProofs (maxSteps := 10000000) only [go_sem, seval, ↓gA, ↓gB, ↓gC, ↓gD, ↓gE, ↓gF, hm]
    · have : i = l.length := by omega
      subst this
      simp +contextual -implicitDefEqProofs (maxSteps := 10000000) only [go_sem, seval, ↓gA, ↓gB, ↓gC, ↓gD, ↓gE, ↓gF]
      simp
theorem s_orderArea_ev (l : List Line) (hv : VOrd l) : vcall Xs Ms n_s_orderArea [(.d (.sl (l.map Line.enc)))] [] = some ((.d (.int .i64 (sumA l))), []) := by
  have h8 := hv.1
  have hval := VOrd_all hv
  clear hv
  refine callE Xs Ms f_s_orderArea x_s_orderArea (by show 1 ≤ _; decide) ?_
  simp +contextual -implicitDefEqProofs (maxSteps := 10000000) only [go_sem, seval, ↓gA, ↓gB, ↓gC, ↓gD, ↓gE, ↓gF, f_s_orderArea]
  refine LW_over Xs Ms (st0 := ?st0) (α := Nat) (fun i => [(4, .d (.int .i64 (i : Int))), (3, .d (.int .i64 (sumA (l.take i))))]) (fun _ => []) (fun i => i ≤ l.length) (fun i => l.length - i) 0 ?hc (by omega) ?h0 ?step
  case hc => simp +contextual -implicitDefEqProofs (maxSteps := 10000000) only [go_sem, seval, ↓gA, ↓gB, ↓gC, ↓gD, ↓gE, ↓gF] <;> exact rfl
  case h0 => rfl
  case step =>
    intro i hi ih
    by_cases hlt : i < l.length
    · obtain ⟨x, hx⟩ := get_lt hlt
      have hw := wrap_succ (k := i) (by omega)
      have hm := sumA_take hx
      have hst := sumA_bound (l := l.take i) (fun y hy => hval y (List.mem_of_mem_take hy))
      have hlk : (l.take i).length ≤ i := by simp; omega
      have g5 := line_area (hval x (List.mem_of_getElem? hx))
      obtain ⟨⟨W, H, T, K⟩, C⟩ := x
      simp only at g5 hm
      have u0 := wi (C * W) (by omega) (by omega)
      have u1 := wi (C * W * H) (by omega) (by omega)
      have u2 := wi (sumA (l.take i) + C * W * H) (by omega) (by omega)
      simp +contextual -implicitDefEqProofs (maxSteps := 10000000) only [go_sem, seval, ↓gA, ↓gB, ↓gC, ↓gD, ↓gE, ↓gF, hx, hlt, hw, u0, u1, u2]
      refine ih (i + 1) _ (by omega) (by omega) ?_
      simp +contextual -implicitDefEqProofs (maxSteps := 10000000) only [go_sem, seval, ↓gA, ↓gB, ↓gC, ↓gD, ↓gE, ↓gF, hm]
    · have : i = l.length := by omega
      subst this
      simp +contextual -implicitDefEqProofs (maxSteps := 10000000) only [go_sem, seval, ↓gA, ↓gB, ↓gC, ↓gD, ↓gE, ↓gF]
      simp
theorem s_shopArea_ev (sS : List Piece) (sO : List Line) (sD : List Line) (sL : Int) (sC : Int) (h1 : VSt sS) (h2 : VOrd sD) (h3 : 0 ≤ sL ∧ sL ≤ 100000000) : vcall Xs Ms n_s_shopArea [(.d (.agg [.sl (sS.map Piece.enc), .sl (sO.map Line.enc), .sl (sD.map Line.enc), .int .i64 sL, .int .i64 sC]))] [] = some ((.d (.int .i64 (sumWH sS + sumA sD + sL))), []) := by
  have e1 := s_stockArea_ev sS h1
  have e2 := s_orderArea_ev sD h2
  have b1 := sumWH_small h1
  have b2 := sumA_small h2
  have u0 := wi (sumWH sS + sumA sD) (by omega) (by omega)
  have u1 := wi (sumWH sS + sumA sD + sL) (by omega) (by omega)
  refine callE Xs Ms f_s_shopArea x_s_shopArea (by show 1 ≤ _; decide) ?_
  simp +contextual -implicitDefEqProofs (maxSteps := 10000000) only [go_sem, seval, ↓gA, ↓gB, ↓gC, ↓gD, ↓gE, ↓gF, f_s_shopArea, e1, e2, u0, u1]
def SmShop (s : Shop) : Prop := s.Stock.length ≤ 1000000 ∧ (∀ x ∈ s.Stock, x.Flaws.length ≤ 1000000 ∧ R64 x.W ∧ R64 x.H) ∧ s.Opn.length ≤ 1000000 ∧ s.Done.length ≤ 1000000
theorem VPc_R64 {x : Piece} (h : VPc x) : R64 x.W ∧ R64 x.H := by
  have := h.1
  unfold R64
  omega
theorem VShop_sm {s : Shop} (h : VShop s) : SmShop s :=
  ⟨by have := h.1.1; omega, fun x hx => ⟨(VSt_small h.1).2 x hx, VPc_R64 (sortF_all h.1.2 x hx)⟩, by have := h.2.1.1; omega, by have := h.2.2.1.1; omega⟩
theorem s_validShop_ev (sS : List Piece) (sO : List Line) (sD : List Line) (sL : Int) (sC : Int) (hs : SmShop (Shop.mk sS sO sD sL sC)) : vcall Xs Ms n_s_validShop [(.d (.agg [.sl (sS.map Piece.enc), .sl (sO.map Line.enc), .sl (sD.map Line.enc), .int .i64 sL, .int .i64 sC]))] [] = some ((.d (.bool (decide (VShop (Shop.mk sS sO sD sL sC))))), []) := by
  obtain ⟨h1, h2, h3, h4⟩ := hs
  simp only at h1 h2 h3 h4
  have e1 := s_validStock_ev sS (by omega) (fun x hx => ⟨by have := (h2 x hx).1; omega, (h2 x hx).2⟩)
  have e2 := s_validOrder_ev sO h3
  have e3 := s_validOrder_ev sD h4
  have e4 := s_inRange_ev sL 0 900000
  have e5 := s_inRange_ev sC 0 900000
  refine callE Xs Ms f_s_validShop x_s_validShop (by show 1 ≤ _; decide) ?_
  by_cases v1 : VSt sS
  · rw [decide_eq_true v1] at e1
    by_cases v2 : VOrd sO
    · rw [decide_eq_true v2] at e2
      by_cases v3 : VOrd sD
      · rw [decide_eq_true v3] at e3
        by_cases v4 : 0 ≤ sL ∧ sL ≤ 900000
        · rw [decide_eq_true v4] at e4
          by_cases v5 : 0 ≤ sC ∧ sC ≤ 900000
          · rw [decide_eq_true v5] at e5
            have e6 := s_shopArea_ev sS sO sD sL sC v1 v3 (by omega)
            simp +contextual -implicitDefEqProofs (maxSteps := 10000000) only [go_sem, seval, ↓gA, ↓gB, ↓gC, ↓gD, ↓gE, ↓gF, f_s_validShop, e1, e2, e3, e4, e5, e6]
            exact fin_b ⟨fun h => ⟨v1, v2, v3, v4.1, v4.2, v5.1, v5.2, h⟩, fun h => h.2.2.2.2.2.2.2⟩
          · rw [decide_eq_false v5] at e5
            have hn : ¬ VShop (Shop.mk sS sO sD sL sC) := fun h => v5 ⟨h.2.2.2.2.2.1, h.2.2.2.2.2.2.1⟩
            simp +contextual -implicitDefEqProofs (maxSteps := 10000000) only [go_sem, seval, ↓gA, ↓gB, ↓gC, ↓gD, ↓gE, ↓gF, f_s_validShop, e1, e2, e3, e4, e5, hn]
        · rw [decide_eq_false v4] at e4
          have hn : ¬ VShop (Shop.mk sS sO sD sL sC) := fun h => v4 ⟨h.2.2.2.1, h.2.2.2.2.1⟩
          simp +contextual -implicitDefEqProofs (maxSteps := 10000000) only [go_sem, seval, ↓gA, ↓gB, ↓gC, ↓gD, ↓gE, ↓gF, f_s_validShop, e1, e2, e3, e4, hn]
      · rw [decide_eq_false v3] at e3
        have hn : ¬ VShop (Shop.mk sS sO sD sL sC) := fun h => v3 h.2.2.1
        simp +contextual -implicitDefEqProofs (maxSteps := 10000000) only [go_sem, seval, ↓gA, ↓gB, ↓gC, ↓gD, ↓gE, ↓gF, f_s_validShop, e1, e2, e3, hn]
    · rw [decide_eq_false v2] at e2
      have hn : ¬ VShop (Shop.mk sS sO sD sL sC) := fun h => v2 h.2.1
      simp +contextual -implicitDefEqProofs (maxSteps := 10000000) only [go_sem, seval, ↓gA, ↓gB, ↓gC, ↓gD, ↓gE, ↓gF, f_s_validShop, e1, e2, hn]
  · rw [decide_eq_false v1] at e1
    have hn : ¬ VShop (Shop.mk sS sO sD sL sC) := fun h => v1 h.1
    simp +contextual -implicitDefEqProofs (maxSteps := 10000000) only [go_sem, seval, ↓gA, ↓gB, ↓gC, ↓gD, ↓gE, ↓gF, f_s_validShop, e1, hn]
theorem i_ValidShop_ev (sS : List Piece) (sO : List Line) (sD : List Line) (sL : Int) (sC : Int) : vcall Xs Ms n_i_ValidShop [(.d (.agg [.sl (sS.map Piece.enc), .sl (sO.map Line.enc), .sl (sD.map Line.enc), .int .i64 sL, .int .i64 sC]))] [] = some ((.d (.bool (decide (VShop (Shop.mk sS sO sD sL sC))))), []) := by
  have e1 := i_ValidStock_ev sS
  have e2 := i_ValidOrder_ev sO
  have e3 := i_ValidOrder_ev sD
  refine callE Xs Ms f_i_ValidShop x_i_ValidShop (by show 1 ≤ _; decide) ?_
  by_cases v1 : VSt sS
  · rw [decide_eq_true v1] at e1
    by_cases v2 : VOrd sO
    · rw [decide_eq_true v2] at e2
      by_cases v3 : VOrd sD
      · rw [decide_eq_true v3] at e3
        by_cases v4 : ((sL < 0 ∨ 900000 < sL) ∨ sC < 0) ∨ 900000 < sC
        · have hn : ¬ VShop (Shop.mk sS sO sD sL sC) := fun h => by
            obtain ⟨_, _, _, h1, h2, h3, h4, _⟩ := h
            simp only at h1 h2 h3 h4
            omega
          simp +contextual -implicitDefEqProofs (maxSteps := 10000000) only [go_sem, seval, ↓gA, ↓gB, ↓gC, ↓gD, ↓gE, ↓gF, f_i_ValidShop, e1, e2, e3, v4, hn, ← Bool.decide_or]
        · have e4 := i_StockArea_ev sS v1
          have e5 := i_OrderArea_ev sD v3
          have b1 := sumWH_small v1
          have b2 := sumA_small v3
          have u0 := wi (sumWH sS + sumA sD) (by omega) (by omega)
          have u1 := wi (sumWH sS + sumA sD + sL) (by omega) (by omega)
          simp +contextual -implicitDefEqProofs (maxSteps := 10000000) only [go_sem, seval, ↓gA, ↓gB, ↓gC, ↓gD, ↓gE, ↓gF, f_i_ValidShop, e1, e2, e3, v4, e4, e5, u0, u1, ← Bool.decide_or]
          exact fin_b ⟨fun h => ⟨v1, v2, v3, by simp only; omega, by simp only; omega, by simp only; omega, by simp only; omega, h⟩, fun h => h.2.2.2.2.2.2.2⟩
      · rw [decide_eq_false v3] at e3
        have hn : ¬ VShop (Shop.mk sS sO sD sL sC) := fun h => v3 h.2.2.1
        simp +contextual -implicitDefEqProofs (maxSteps := 10000000) only [go_sem, seval, ↓gA, ↓gB, ↓gC, ↓gD, ↓gE, ↓gF, f_i_ValidShop, e1, e2, e3, hn]
    · rw [decide_eq_false v2] at e2
      have hn : ¬ VShop (Shop.mk sS sO sD sL sC) := fun h => v2 h.2.1
      simp +contextual -implicitDefEqProofs (maxSteps := 10000000) only [go_sem, seval, ↓gA, ↓gB, ↓gC, ↓gD, ↓gE, ↓gF, f_i_ValidShop, e1, e2, hn]
  · rw [decide_eq_false v1] at e1
    have hn : ¬ VShop (Shop.mk sS sO sD sL sC) := fun h => v1 h.1
    simp +contextual -implicitDefEqProofs (maxSteps := 10000000) only [go_sem, seval, ↓gA, ↓gB, ↓gC, ↓gD, ↓gE, ↓gF, f_i_ValidShop, e1, hn]
def shA (s : Shop) : Int := if VShop s then s.Came else -1
theorem i_ShopArea_ev (sS : List Piece) (sO : List Line) (sD : List Line) (sL : Int) (sC : Int) : vcall Xs Ms n_i_ShopArea [(.d (.agg [.sl (sS.map Piece.enc), .sl (sO.map Line.enc), .sl (sD.map Line.enc), .int .i64 sL, .int .i64 sC]))] [] = some ((.d (.int .i64 (shA (Shop.mk sS sO sD sL sC)))), []) := by
  have e1 := i_ValidShop_ev sS sO sD sL sC
  unfold shA
  by_cases v : VShop (Shop.mk sS sO sD sL sC)
  · rw [decide_eq_true v] at e1
    rw [if_pos v]
    obtain ⟨v1, v2, v3, h1, h2, h3, h4, h5⟩ := v
    simp only at v1 v2 v3 h1 h2 h3 h4 h5
    have e4 := i_StockArea_ev sS v1
    have e5 := i_OrderArea_ev sD v3
    have b1 := sumWH_small v1
    have b2 := sumA_small v3
    have u0 := wi (sumWH sS + sumA sD) (by omega) (by omega)
    have u1 := wi sC (by omega) (by omega)
    refine callE Xs Ms f_i_ShopArea x_i_ShopArea (by show 1 ≤ _; decide) ?_
    simp +contextual -implicitDefEqProofs (maxSteps := 10000000) only [go_sem, seval, ↓gA, ↓gB, ↓gC, ↓gD, ↓gE, ↓gF, f_i_ShopArea, e1, e4, e5, u0, u1, h5]
  · rw [decide_eq_false v] at e1
    rw [if_neg v]
    refine callE Xs Ms f_i_ShopArea x_i_ShopArea (by show 1 ≤ _; decide) ?_
    simp +contextual -implicitDefEqProofs (maxSteps := 10000000) only [go_sem, seval, ↓gA, ↓gB, ↓gC, ↓gD, ↓gE, ↓gF, f_i_ShopArea, e1]
theorem s_ShopArea_ev (sS : List Piece) (sO : List Line) (sD : List Line) (sL : Int) (sC : Int) (hs : SmShop (Shop.mk sS sO sD sL sC)) : vcall Xs Ms n_s_ShopArea [(.d (.agg [.sl (sS.map Piece.enc), .sl (sO.map Line.enc), .sl (sD.map Line.enc), .int .i64 sL, .int .i64 sC]))] [] = some ((.d (.int .i64 (shA (Shop.mk sS sO sD sL sC)))), []) := by
  have e1 := s_validShop_ev sS sO sD sL sC hs
  unfold shA
  by_cases v : VShop (Shop.mk sS sO sD sL sC)
  · rw [decide_eq_true v] at e1
    rw [if_pos v]
    obtain ⟨v1, v2, v3, h1, h2, h3, h4, h5⟩ := v
    simp only at v1 v2 v3 h1 h2 h3 h4 h5
    have e6 := s_shopArea_ev sS sO sD sL sC v1 v3 (by omega)
    refine callE Xs Ms f_s_ShopArea x_s_ShopArea (by show 1 ≤ _; decide) ?_
    simp +contextual -implicitDefEqProofs (maxSteps := 10000000) only [go_sem, seval, ↓gA, ↓gB, ↓gC, ↓gD, ↓gE, ↓gF, f_s_ShopArea, e1, e6, h5]
  · rw [decide_eq_false v] at e1
    rw [if_neg v]
    refine callE Xs Ms f_s_ShopArea x_s_ShopArea (by show 1 ≤ _; decide) ?_
    simp +contextual -implicitDefEqProofs (maxSteps := 10000000) only [go_sem, seval, ↓gA, ↓gB, ↓gC, ↓gD, ↓gE, ↓gF, f_s_ShopArea, e1]
theorem s_ValidShop_ev (sS : List Piece) (sO : List Line) (sD : List Line) (sL : Int) (sC : Int) (hs : SmShop (Shop.mk sS sO sD sL sC)) : vcall Xs Ms n_s_ValidShop [(.d (.agg [.sl (sS.map Piece.enc), .sl (sO.map Line.enc), .sl (sD.map Line.enc), .int .i64 sL, .int .i64 sC]))] [] = some ((.d (.bool (decide (VShop (Shop.mk sS sO sD sL sC))))), []) := by
  refine callE Xs Ms f_s_ValidShop x_s_ValidShop (by show 1 ≤ _; decide) ?_
  simp +contextual -implicitDefEqProofs (maxSteps := 10000000) only [go_sem, seval, ↓gA, ↓gB, ↓gC, ↓gD, ↓gE, ↓gF, f_s_ValidShop, s_validShop_ev sS sO sD sL sC hs]

theorem s_takePanes_ev (l : List Line) (pW : Int) (pH : Int) (pT : Bool) (pK : Int) (c : Int) (hl : l.length ≤ 1000000) (hc : ∀ x ∈ l, R64 (x.Count - c)) : vcall Xs Ms n_s_takePanes [(.d (.sl (l.map Line.enc))), (.d (.agg [.int .i64 pW, .int .i64 pH, .bool pT, .int .i64 pK])), (.d (.int .i64 (c)))] [] =
    some (.tup [.own 0, (.d (.bool (takeOk (Pane.mk pW pH pT pK) c false l)))], [.row 5 ((takeL l (Pane.mk pW pH pT pK) c).map Line.enc) true false]) := by
  refine callE Xs Ms f_s_takePanes x_s_takePanes (by show 3 ≤ _; decide) ?_
  simp +contextual -implicitDefEqProofs (maxSteps := 10000000) only [go_sem, seval, ↓gA, ↓gB, ↓gC, ↓gD, ↓gE, ↓gF, f_s_takePanes]
  refine LW_over Xs Ms (st0 := ?st0) (α := Nat × Bool) (fun s => [(10, .d (.int .i64 (s.1 : Int))), (9, .d (.bool s.2))]) (fun s => [(0, .row 5 ((takeL (l.take s.1) (Pane.mk pW pH pT pK) c).map Line.enc) true false)]) (fun s => s.1 ≤ l.length ∧ takeOk (Pane.mk pW pH pT pK) c s.2 (l.drop s.1) = takeOk (Pane.mk pW pH pT pK) c false l) (fun s => l.length - s.1) (0, false) ?hc ⟨by simp, by simp⟩ ?h0 ?step
  case hc => simp +contextual -implicitDefEqProofs (maxSteps := 10000000) only [go_sem, seval, ↓gA, ↓gB, ↓gC, ↓gD, ↓gE, ↓gF] <;> exact rfl
  case h0 => rfl
  case step =>
    intro ⟨i, b⟩ ⟨hi, hp⟩ ih
    simp only at hi hp
    by_cases hlt : i < l.length
    · obtain ⟨x, hx⟩ := get_lt hlt
      have hw := wrap_succ (k := i) (by omega)
      have hm := takeL_take (Pane.mk pW pH pT pK) c hx
      have hlk : (takeL (l.take i) (Pane.mk pW pH pT pK) c).length ≤ i := Nat.le_trans (List.length_filterMap_le _ _) (by simp; omega)
      have hr : ((takeL (l.take i) (Pane.mk pW pH pT pK) c).length + 1) * 40 ≤ 140737488355328 ∧ (takeL (l.take i) (Pane.mk pW pH pT pK) c).length ≤ 140737488355327 := by omega
      have hcx := hc x (List.mem_of_getElem? hx)
      rw [takeOk_cons hx] at hp
      obtain ⟨⟨W, H, T, K⟩, C⟩ := x
      simp only [takeB] at hm hp hcx
      have u0 := wi (C - c) hcx.1 hcx.2
      by_cases he : (⟨W, H, T, K⟩ : Pane) = (Pane.mk pW pH pT pK)
      · rw [if_pos he] at hm hp
        have he' := he
        simp only [Pane.mk.injEq] at he
        by_cases h0 : 0 < C - c
        · have h1 : 0 ≤ C - c := by omega
          rw [if_pos h0] at hm
          rw [decide_eq_true h1] at hp
          simp +contextual -implicitDefEqProofs (maxSteps := 10000000) only [go_sem, seval, ↓gA, ↓gB, ↓gC, ↓gD, ↓gE, ↓gF, hx, hlt, hw, he, u0, h0, h1, hr]
          refine ih (i + 1, true) _ ⟨by simp only; omega, hp⟩ (by simp only; omega) ?_
          simp +contextual -implicitDefEqProofs (maxSteps := 10000000) only [go_sem, seval, ↓gA, ↓gB, ↓gC, ↓gD, ↓gE, ↓gF, hm, Option.toList_some]
          try (simp [Line.enc, he]; done)
        · rw [if_neg h0] at hm
          by_cases h1 : 0 ≤ C - c
          · rw [decide_eq_true h1] at hp
            simp +contextual -implicitDefEqProofs (maxSteps := 10000000) only [go_sem, seval, ↓gA, ↓gB, ↓gC, ↓gD, ↓gE, ↓gF, hx, hlt, hw, he, u0, h0, h1, hr]
            refine ih (i + 1, true) _ ⟨by simp only; omega, hp⟩ (by simp only; omega) ?_
            simp +contextual -implicitDefEqProofs (maxSteps := 10000000) only [go_sem, seval, ↓gA, ↓gB, ↓gC, ↓gD, ↓gE, ↓gF, hm, Option.toList_none, List.append_nil]
          · rw [decide_eq_false h1] at hp
            simp +contextual -implicitDefEqProofs (maxSteps := 10000000) only [go_sem, seval, ↓gA, ↓gB, ↓gC, ↓gD, ↓gE, ↓gF, hx, hlt, hw, he, u0, h0, h1, hr]
            refine ih (i + 1, false) _ ⟨by simp only; omega, hp⟩ (by simp only; omega) ?_
            simp +contextual -implicitDefEqProofs (maxSteps := 10000000) only [go_sem, seval, ↓gA, ↓gB, ↓gC, ↓gD, ↓gE, ↓gF, hm, Option.toList_none, List.append_nil]
      · rw [if_neg he] at hm hp
        simp only [Pane.mk.injEq] at he
        by_cases h0 : 0 < C
        · rw [if_pos h0] at hm
          simp +contextual -implicitDefEqProofs (maxSteps := 10000000) only [go_sem, seval, ↓gA, ↓gB, ↓gC, ↓gD, ↓gE, ↓gF, hx, hlt, hw, he, h0, hr]
          refine ih (i + 1, b) _ ⟨by simp only; omega, hp⟩ (by simp only; omega) ?_
          simp +contextual -implicitDefEqProofs (maxSteps := 10000000) only [go_sem, seval, ↓gA, ↓gB, ↓gC, ↓gD, ↓gE, ↓gF, hm, Option.toList_some]
          try (simp [Line.enc]; done)
        · rw [if_neg h0] at hm
          simp +contextual -implicitDefEqProofs (maxSteps := 10000000) only [go_sem, seval, ↓gA, ↓gB, ↓gC, ↓gD, ↓gE, ↓gF, hx, hlt, hw, he, h0, hr]
          refine ih (i + 1, b) _ ⟨by simp only; omega, hp⟩ (by simp only; omega) ?_
          simp +contextual -implicitDefEqProofs (maxSteps := 10000000) only [go_sem, seval, ↓gA, ↓gB, ↓gC, ↓gD, ↓gE, ↓gF, hm, Option.toList_none, List.append_nil]
    · have : i = l.length := by omega
      subst this
      rw [takeOk_end] at hp
      simp +contextual -implicitDefEqProofs (maxSteps := 10000000) only [go_sem, seval, ↓gA, ↓gB, ↓gC, ↓gD, ↓gE, ↓gF, hp]
      simp
theorem set_line (l : List Line) (i : Nat) (W H : Int) (T : Bool) (K C : Int) : (l.map Line.enc).set i (.agg [.int .i64 W, .int .i64 H, .bool T, .int .i64 K, .int .i64 C]) = (l.set i ⟨⟨W, H, T, K⟩, C⟩).map Line.enc := (List.map_set (f := Line.enc) (l := l) (i := i) (a := ⟨⟨W, H, T, K⟩, C⟩)).symm
theorem s_addPanes_ev (l : List Line) (pW : Int) (pH : Int) (pT : Bool) (pK : Int) (c : Int) (hl : l.length ≤ 1000000) (hc : ∀ x ∈ l, R64 (x.Count + c)) : vcall Xs Ms n_s_addPanes [(.d (.sl (l.map Line.enc))), (.d (.agg [.int .i64 pW, .int .i64 pH, .bool pT, .int .i64 pK])), (.d (.int .i64 (c)))] [] =
    some (.own 0, [.row 5 ((addL (Pane.mk pW pH pT pK) c l).map Line.enc) true false]) := by
  have hr0 : l.length * 40 ≤ 140737488355328 ∧ l.length ≤ 140737488355328 := by omega
  have hr1 : (l.length + 1) * 40 ≤ 140737488355328 ∧ l.length ≤ 140737488355327 := by omega
  refine callE Xs Ms f_s_addPanes x_s_addPanes (by show 3 ≤ _; decide) ?_
  simp +contextual -implicitDefEqProofs (maxSteps := 10000000) only [go_sem, seval, ↓gA, ↓gB, ↓gC, ↓gD, ↓gE, ↓gF, f_s_addPanes, hr0]
  refine LW_over Xs Ms (st0 := ?st0) (α := Nat) (fun k => [(8, .d (.int .i64 (k : Int)))]) (fun _ => []) (fun k => k ≤ l.length ∧ (Pane.mk pW pH pT pK) ∉ (l.take k).map Line.Pane) (fun k => l.length - k) 0 ?hc ⟨by simp, by simp⟩ ?h0 ?step
  case hc => simp +contextual -implicitDefEqProofs (maxSteps := 10000000) only [go_sem, seval, ↓gA, ↓gB, ↓gC, ↓gD, ↓gE, ↓gF] <;> exact rfl
  case h0 => rfl
  case step =>
    intro k ⟨hk, hp⟩ ih
    by_cases hlt : k < l.length
    · obtain ⟨x, hx⟩ := get_lt hlt
      have hw := wrap_succ (k := k) (by omega)
      have hcx := hc x (List.mem_of_getElem? hx)
      have hpt := panes_take hx
      have hat := addL_at (Pane.mk pW pH pT pK) c l k x hx
      obtain ⟨⟨W, H, T, K⟩, C⟩ := x
      simp only at hcx hpt hat
      have u0 := wi (C + c) hcx.1 hcx.2
      by_cases he : (⟨W, H, T, K⟩ : Pane) = (Pane.mk pW pH pT pK)
      · rw [hat he hp]
        have he' := he
        simp only [Pane.mk.injEq] at he
        simp +contextual -implicitDefEqProofs (maxSteps := 10000000) only [go_sem, seval, ↓gA, ↓gB, ↓gC, ↓gD, ↓gE, ↓gF, hx, hlt, hw, he, u0, set_line]
        try (simp [he]; done)
      · have he' := he
        simp only [Pane.mk.injEq] at he
        simp +contextual -implicitDefEqProofs (maxSteps := 10000000) only [go_sem, seval, ↓gA, ↓gB, ↓gC, ↓gD, ↓gE, ↓gF, hx, hlt, hw, he]
        refine ih (k + 1) _ ⟨by omega, ?_⟩ (by omega) ?_
        · rw [hpt, List.mem_append]
          intro h
          rcases h with h | h
          · exact hp h
          · exact he' (List.mem_singleton.1 h).symm
        · simp +contextual -implicitDefEqProofs (maxSteps := 10000000) only [go_sem, seval, ↓gA, ↓gB, ↓gC, ↓gD, ↓gE, ↓gF]
    · have : k = l.length := by omega
      subst this
      rw [List.take_of_length_le (Nat.le_refl _)] at hp
      rw [addL_no (Pane.mk pW pH pT pK) c l hp]
      simp +contextual -implicitDefEqProofs (maxSteps := 10000000) only [go_sem, seval, ↓gA, ↓gB, ↓gC, ↓gD, ↓gE, ↓gF, hr1]
      try (simp [Line.enc]; done)
theorem s_addPiece_ev (l : List Piece) (qL : Int) (qW : Int) (qH : Int) (qF : List Box) (hl : l.length ≤ 100000) (hF : ∀ x ∈ l, x.Flaws.length ≤ 1000000) (hq : qF.length ≤ 1000000) : vcall Xs Ms n_s_addPiece [(.d (.sl (l.map Piece.enc))), (.d (.agg [.int .i64 qL, .int .i64 qW, .int .i64 qH, .sl (qF.map Box.enc)]))] [] =
    some (.own 0, [.row 4 ((addPc (Piece.mk qL qW qH qF) l).map Piece.enc) true false]) := by
  have eq := s_copyPiece_ev qL qW qH qF hq
  refine callE Xs Ms f_s_addPiece x_s_addPiece (by show 2 ≤ _; decide) ?_
  simp +contextual -implicitDefEqProofs (maxSteps := 10000000) only [go_sem, seval, ↓gA, ↓gB, ↓gC, ↓gD, ↓gE, ↓gF, f_s_addPiece]
  refine LW_over Xs Ms (st0 := ?st0) (α := Nat × Bool × List Piece) (fun s => [(7, .d (.int .i64 (s.1 : Int))), (6, .d (.bool s.2.1))]) (fun s => [(0, .row 4 (s.2.2.map Piece.enc) true false)]) (fun s => s.1 ≤ l.length ∧ s.2.2 ++ (if s.2.1 then l.drop s.1 else addPc (Piece.mk qL qW qH qF) (l.drop s.1)) = addPc (Piece.mk qL qW qH qF) l ∧ s.2.2.length ≤ s.1 + s.2.1.toNat) (fun s => l.length - s.1) (0, false, []) ?hc ⟨by simp, by simp, by simp⟩ ?h0 ?step
  case hc => simp +contextual -implicitDefEqProofs (maxSteps := 10000000) only [go_sem, seval, ↓gA, ↓gB, ↓gC, ↓gD, ↓gE, ↓gF] <;> exact rfl
  case h0 => rfl
  case step =>
    intro ⟨i, b, o⟩ ⟨hi, hp, ho⟩ ih
    simp only at hi hp ho
    have hb := Bool.toNat_le b
    by_cases hlt : i < l.length
    · obtain ⟨x, hx⟩ := get_lt hlt
      have hw := wrap_succ (k := i) (by omega)
      have hr : (o.length + 1) * 48 ≤ 140737488355328 ∧ o.length ≤ 140737488355327 := by omega
      have hr2 : ∀ n : Nat, n = o.length + 1 → (n + 1) * 48 ≤ 140737488355328 ∧ n ≤ 140737488355327 := fun n hn => by omega
      have hr2 := hr2 _ rfl
      have hr3 : o.length ≤ 140737488355326 := by omega
      have e := s_copyPiece_ev x.Label x.W x.H x.Flaws (hF x (List.mem_of_getElem? hx))
      rw [addPc_cons hx] at hp
      have hd : l.drop i = x :: l.drop (i + 1) := by
        obtain ⟨h1, h2⟩ := List.getElem?_eq_some_iff.1 hx
        rw [List.drop_eq_getElem_cons h1, h2]
      obtain ⟨L, W, H, F⟩ := x
      simp only at e hp
      cases b with
      | true =>
        simp only [Bool.toNat_true] at ho
        rw [if_pos rfl] at hp
        simp +contextual -implicitDefEqProofs (maxSteps := 10000000) only [go_sem, seval, ↓gA, ↓gB, ↓gC, ↓gD, ↓gE, ↓gF, hx, hlt, hw, e, hr]
        refine ih (i + 1, true, o ++ [⟨L, W, H, F⟩]) _ ⟨by simp only; omega, ?_, by simp; omega⟩ (by simp only; omega) ?_
        · rw [← hp, hd]; simp
        · simp +contextual -implicitDefEqProofs (maxSteps := 10000000) only [go_sem, seval, ↓gA, ↓gB, ↓gC, ↓gD, ↓gE, ↓gF]
          try (simp [Piece.enc]; done)
      | false =>
        simp only [Bool.toNat_false] at ho
        rw [if_neg (by simp)] at hp
        by_cases hc : qL < L
        · rw [if_pos hc] at hp
          simp +contextual -implicitDefEqProofs (maxSteps := 10000000) only [go_sem, seval, ↓gA, ↓gB, ↓gC, ↓gD, ↓gE, ↓gF, hx, hlt, hw, e, eq, hc, hr, hr2, hr3]
          refine ih (i + 1, true, o ++ [(Piece.mk qL qW qH qF), ⟨L, W, H, F⟩]) _ ⟨by simp only; omega, ?_, by simp; omega⟩ (by simp only; omega) ?_
          · rw [← hp, hd]; simp
          · simp +contextual -implicitDefEqProofs (maxSteps := 10000000) only [go_sem, seval, ↓gA, ↓gB, ↓gC, ↓gD, ↓gE, ↓gF]
            try (simp [Piece.enc]; done)
        · rw [if_neg hc] at hp
          simp +contextual -implicitDefEqProofs (maxSteps := 10000000) only [go_sem, seval, ↓gA, ↓gB, ↓gC, ↓gD, ↓gE, ↓gF, hx, hlt, hw, e, hc, hr]
          refine ih (i + 1, false, o ++ [⟨L, W, H, F⟩]) _ ⟨by simp only; omega, ?_, by simp; omega⟩ (by simp only; omega) ?_
          · rw [← hp]; simp
          · simp +contextual -implicitDefEqProofs (maxSteps := 10000000) only [go_sem, seval, ↓gA, ↓gB, ↓gC, ↓gD, ↓gE, ↓gF]
            try (simp [Piece.enc]; done)
    · have : i = l.length := by omega
      subst this
      have hr : (o.length + 1) * 48 ≤ 140737488355328 ∧ o.length ≤ 140737488355327 := by omega
      cases b with
      | true =>
        simp at hp
        simp +contextual -implicitDefEqProofs (maxSteps := 10000000) only [go_sem, seval, ↓gA, ↓gB, ↓gC, ↓gD, ↓gE, ↓gF]
        rw [hp]
      | false =>
        simp [addPc] at hp
        simp +contextual -implicitDefEqProofs (maxSteps := 10000000) only [go_sem, seval, ↓gA, ↓gB, ↓gC, ↓gD, ↓gE, ↓gF, eq, hr]
        rw [← hp]
        try (simp [Piece.enc]; done)
def addR (p : Piece) (l : List Piece) : Prop := (VSt l ∧ VPc p) ∧ VSt (addPc p l)
instance (p : Piece) (l : List Piece) : Decidable (addR p l) := by unfold addR; infer_instance
theorem s_AddPiece_ev (l : List Piece) (qL : Int) (qW : Int) (qH : Int) (qF : List Box) (hl : l.length ≤ 100000) (hS : ∀ x ∈ l, x.Flaws.length ≤ 1000000 ∧ R64 x.W ∧ R64 x.H) (hq : qF.length ≤ 1000000 ∧ R64 qW ∧ R64 qH) : vcall Xs Ms n_s_AddPiece [(.d (.sl (l.map Piece.enc))), (.d (.agg [.int .i64 qL, .int .i64 qW, .int .i64 qH, .sl (qF.map Box.enc)]))] [] =
    some (.tup [.own 0, (.d (.bool (decide (addR (Piece.mk qL qW qH qF) l))))], [.row 4 ((if addR (Piece.mk qL qW qH qF) l then addPc (Piece.mk qL qW qH qF) l else []).map Piece.enc) true false]) := by
  have e1 := s_validStock_ev l (by omega) (fun x hx => ⟨by have := (hS x hx).1; omega, (hS x hx).2⟩)
  have e2 := s_validPiece_ev qL qW qH qF (by omega) hq.2.1 hq.2.2
  have e3 := s_addPiece_ev l qL qW qH qF hl (fun x hx => (hS x hx).1) hq.1
  have e4 := s_validStock_ev (addPc (Piece.mk qL qW qH qF) l) (by rw [addPc_len]; omega) (fun x hx => by
    rcases addPc_mem _ _ _ hx with rfl | hx
    · exact ⟨by simp only; omega, hq.2⟩
    · exact ⟨by have := (hS x hx).1; omega, (hS x hx).2⟩)
  refine callE Xs Ms f_s_AddPiece x_s_AddPiece (by show 2 ≤ _; decide) ?_
  by_cases v1 : VSt l
  · rw [decide_eq_true v1] at e1
    by_cases v2 : VPc (Piece.mk qL qW qH qF)
    · rw [decide_eq_true v2] at e2
      by_cases v3 : VSt (addPc (Piece.mk qL qW qH qF) l)
      · rw [decide_eq_true v3] at e4
        have h : addR (Piece.mk qL qW qH qF) l := ⟨⟨v1, v2⟩, v3⟩
        rw [decide_eq_true h, if_pos h]
        simp +contextual -implicitDefEqProofs (maxSteps := 10000000) only [go_sem, seval, ↓gA, ↓gB, ↓gC, ↓gD, ↓gE, ↓gF, f_s_AddPiece, e1, e2, e3, e4]
      · rw [decide_eq_false v3] at e4
        have h : ¬ addR (Piece.mk qL qW qH qF) l := fun h => v3 h.2
        rw [decide_eq_false h, if_neg h]
        simp +contextual -implicitDefEqProofs (maxSteps := 10000000) only [go_sem, seval, ↓gA, ↓gB, ↓gC, ↓gD, ↓gE, ↓gF, f_s_AddPiece, e1, e2, e3, e4]
    · rw [decide_eq_false v2] at e2
      have h : ¬ addR (Piece.mk qL qW qH qF) l := fun h => v2 h.1.2
      rw [decide_eq_false h, if_neg h]
      simp +contextual -implicitDefEqProofs (maxSteps := 10000000) only [go_sem, seval, ↓gA, ↓gB, ↓gC, ↓gD, ↓gE, ↓gF, f_s_AddPiece, e1, e2]
  · rw [decide_eq_false v1] at e1
    have h : ¬ addR (Piece.mk qL qW qH qF) l := fun h => v1 h.1.1
    rw [decide_eq_false h, if_neg h]
    simp +contextual -implicitDefEqProofs (maxSteps := 10000000) only [go_sem, seval, ↓gA, ↓gB, ↓gC, ↓gD, ↓gE, ↓gF, f_s_AddPiece, e1]
theorem s_without_no (l : List Piece) (hl : l.length ≤ 1000000) (hF : ∀ x ∈ l, x.Flaws.length ≤ 1000000) : vcall Xs Ms n_s_without [(.d (.sl (l.map Piece.enc))), (.d (.int .i64 ((-1))))] [] = some (.own 0, [.row 4 (l.map Piece.enc) true false]) := by
  refine callE Xs Ms f_s_without x_s_without (by show 2 ≤ _; decide) ?_
  simp +contextual -implicitDefEqProofs (maxSteps := 10000000) only [go_sem, seval, ↓gA, ↓gB, ↓gC, ↓gD, ↓gE, ↓gF, f_s_without]
  refine LW_over Xs Ms (st0 := ?st0) (α := Nat) (fun i => [(6, .d (.int .i64 (i : Int)))]) (fun i => [(0, .row 4 ((l.take i).map Piece.enc) true false)]) (fun i => i ≤ l.length) (fun i => l.length - i) 0 ?hc (by omega) ?h0 ?step
  case hc => simp +contextual -implicitDefEqProofs (maxSteps := 10000000) only [go_sem, seval, ↓gA, ↓gB, ↓gC, ↓gD, ↓gE, ↓gF] <;> exact rfl
  case h0 => rfl
  case step =>
    intro i hi ih
    by_cases hlt : i < l.length
    · obtain ⟨x, hx⟩ := get_lt hlt
      have hw := wrap_succ (k := i) (by omega)
      have hia : ¬ (i : Int) = -1 := by omega
      have hm : l.take (i + 1) = l.take i ++ [x] := by rw [List.take_add_one, hx]; simp
      have hlk : (l.take i).length ≤ i := by simp; omega
      have hr : ((l.take i).length + 1) * 48 ≤ 140737488355328 ∧ (l.take i).length ≤ 140737488355327 := by omega
      have e := s_copyPiece_ev x.Label x.W x.H x.Flaws (hF x (List.mem_of_getElem? hx))
      obtain ⟨L, W, H, F⟩ := x
      simp only at e
      simp +contextual -implicitDefEqProofs (maxSteps := 10000000) only [go_sem, seval, ↓gA, ↓gB, ↓gC, ↓gD, ↓gE, ↓gF, hx, hlt, hw, hia, e, hr]
      refine ih (i + 1) _ (by omega) (by omega) ?_
      simp +contextual -implicitDefEqProofs (maxSteps := 10000000) only [go_sem, seval, ↓gA, ↓gB, ↓gC, ↓gD, ↓gE, ↓gF, hm]
      first | rfl | (simp; done) | (simp; rfl)
    · have : i = l.length := by omega
      subst this
      simp +contextual -implicitDefEqProofs (maxSteps := 10000000) only [go_sem, seval, ↓gA, ↓gB, ↓gC, ↓gD, ↓gE, ↓gF]
      simp
theorem s_copyShop_ev (sS : List Piece) (sO : List Line) (sD : List Line) (sL : Int) (sC : Int) (hs : SmShop (Shop.mk sS sO sD sL sC)) : vcall Xs Ms n_s_copyShop [(.d (.agg [.sl (sS.map Piece.enc), .sl (sO.map Line.enc), .sl (sD.map Line.enc), .int .i64 sL, .int .i64 sC]))] [] = some (.agg [.own 0, .own 1, .own 2, (.d (.int .i64 (sL))), (.d (.int .i64 (sC)))], [.row 4 (sS.map Piece.enc) true false, .row 5 (sO.map Line.enc) true false, .row 5 (sD.map Line.enc) true false]) := by
  obtain ⟨h1, h2, h3, h4⟩ := hs
  simp only at h1 h2 h3 h4
  have e1 := s_without_no sS h1 (fun x hx => (h2 x hx).1)
  have r1 : sO.length * 40 ≤ 140737488355328 ∧ sO.length ≤ 140737488355328 := by omega
  have r2 : sD.length * 40 ≤ 140737488355328 ∧ sD.length ≤ 140737488355328 := by omega
  refine callE Xs Ms f_s_copyShop x_s_copyShop (by show 1 ≤ _; decide) ?_
  simp +contextual -implicitDefEqProofs (maxSteps := 10000000) only [go_sem, seval, ↓gA, ↓gB, ↓gC, ↓gD, ↓gE, ↓gF, f_s_copyShop, optL, e1, r1, r2]
theorem s_workOf_ev (sS : List Piece) (sO : List Line) (sD : List Line) (sL : Int) (sC : Int) (a : Nat) (qL : Int) (qW : Int) (qH : Int) (qF : List Box) (hx : sS[a]? = some (Piece.mk qL qW qH qF)) (hl : sO.length ≤ 1000000) (hS : sS.length ≤ 1000000) : vcall Xs Ms n_s_workOf [(.d (.agg [.sl (sS.map Piece.enc), .sl (sO.map Line.enc), .sl (sD.map Line.enc), .int .i64 sL, .int .i64 sC])), (.d (.int .i64 (a)))] [] = some (.agg [(.d (.int .i64 (qW))), (.d (.int .i64 (qH))), .own 0], [.row 4 ((sO.map Line.Pane).map Pane.enc) true false]) := by
  have hlt := (List.getElem?_eq_some_iff.1 hx).1
  refine callE Xs Ms f_s_workOf x_s_workOf (by show 2 ≤ _; decide) ?_
  simp +contextual -implicitDefEqProofs (maxSteps := 10000000) only [go_sem, seval, ↓gA, ↓gB, ↓gC, ↓gD, ↓gE, ↓gF, f_s_workOf, hx, hlt]
  refine LW_over Xs Ms (st0 := ?st0) (α := Nat) (fun i => [(6, .d (.int .i64 (i : Int)))]) (fun i => [(3, .row 4 (((sO.take i).map Line.Pane).map Pane.enc) true false)]) (fun i => i ≤ sO.length) (fun i => sO.length - i) 0 ?hc (by omega) ?h0 ?step
  case hc => simp +contextual -implicitDefEqProofs (maxSteps := 10000000) only [go_sem, seval, ↓gA, ↓gB, ↓gC, ↓gD, ↓gE, ↓gF] <;> exact rfl
  case h0 => rfl
  case step =>
    intro i hi ih
    by_cases hlt : i < sO.length
    · obtain ⟨x, hx⟩ := get_lt hlt
      have hw := wrap_succ (k := i) (by omega)
      have hm := panes_take hx
      have hlk : (sO.take i).length ≤ i := by simp; omega
      have hr : ((sO.take i).length + 1) * 32 ≤ 140737488355328 ∧ (sO.take i).length ≤ 140737488355327 := by omega
      obtain ⟨⟨W, H, T, K⟩, C⟩ := x
      simp only at hm
      simp +contextual -implicitDefEqProofs (maxSteps := 10000000) only [go_sem, seval, ↓gA, ↓gB, ↓gC, ↓gD, ↓gE, ↓gF, hx, hlt, hw, hr]
      refine ih (i + 1) _ (by omega) (by omega) ?_
      simp +contextual -implicitDefEqProofs (maxSteps := 10000000) only [go_sem, seval, ↓gA, ↓gB, ↓gC, ↓gD, ↓gE, ↓gF, hm]
      first | rfl | (simp; done) | (simp; rfl)
    · have : i = sO.length := by omega
      subst this
      simp +contextual -implicitDefEqProofs (maxSteps := 10000000) only [go_sem, seval, ↓gA, ↓gB, ↓gC, ↓gD, ↓gE, ↓gF]
      simp

def SmS (s : Shop) : Prop := SmShop s ∧ s.Stock.length ≤ 100000 ∧ -1000000000 ≤ s.Lost ∧ s.Lost ≤ 1000000000 ∧ -1000000000 ≤ s.Came ∧ s.Came ≤ 1000000000
theorem VShop_SmS {s : Shop} (h : VShop s) : SmS s := ⟨VShop_sm h, by have := h.1.1; omega, by have := h.2.2.2.1; omega, by have := h.2.2.2.2.1; omega, by have := h.2.2.2.2.2.1; omega, by have := h.2.2.2.2.2.2.1; omega⟩
def I5 (n : Int) : Prop := -100000 ≤ n ∧ n ≤ 100000
theorem I5_mul {a b : Int} (ha : I5 a) (hb : I5 b) : -10000000000 ≤ a * b ∧ a * b ≤ 10000000000 := by
  unfold I5 at ha hb
  have h1 : a.natAbs ≤ 100000 := by omega
  have h2 : b.natAbs ≤ 100000 := by omega
  have h3 : (a * b).natAbs ≤ 100000 * 100000 := by rw [Int.natAbs_mul]; exact Nat.mul_le_mul h1 h2
  omega
theorem I5_R64 {a : Int} (h : I5 a) : R64 a := by unfold I5 at h; unfold R64; omega
theorem s_pieceEvent_sheet (sS : List Piece) (sO : List Line) (sD : List Line) (sL : Int) (sC : Int) (eK : Int) (eL : Int) (eX : Int) (eY : Int) (eW : Int) (eH : Int) (epW : Int) (epH : Int) (epT : Bool) (epK : Int) (eC : Int) (eo : Int) (ea : Int) (ep : Int) (et : Bool) (ek : List Plan) (hs : SmS (Shop.mk sS sO sD sL sC)) (hk : eK = 0) (hW : I5 eW) (hH : I5 eH) : vcall Xs Ms n_s_pieceEvent [(.d (.agg [.sl (sS.map Piece.enc), .sl (sO.map Line.enc), .sl (sD.map Line.enc), .int .i64 sL, .int .i64 sC])), (.d (.agg [.int .i64 eK, .int .i64 eL, .int .i64 eX, .int .i64 eY, .int .i64 eW, .int .i64 eH, .int .i64 epW, .int .i64 epH, .bool epT, .int .i64 epK, .int .i64 eC, .int .i64 eo, .int .i64 ea, .int .i64 ep, .bool et, .sl (ek.map Plan.enc)]))] [] =
    some (.tup [.agg [.own 0, .d (.sl (sO.map Line.enc)), .d (.sl (sD.map Line.enc)), (.d (.int .i64 (sL))), (.d (.int .i64 (sC + eW * eH)))], (.d (.bool (decide ((addR ⟨eL, eW, eH, []⟩ sS ∧ eX = 0) ∧ eY = 0))))], [.row 4 ((if addR ⟨eL, eW, eH, []⟩ sS then addPc ⟨eL, eW, eH, []⟩ sS else []).map Piece.enc) true false]) := by
  obtain ⟨⟨h1, h2, h3, h4⟩, h5, h6, h7, h8, h9⟩ := hs
  simp only at h1 h2 h3 h4 h5 h6 h7 h8 h9
  subst hk
  have hm := I5_mul hW hH
  have e1 := s_findLabel_ev sS eL (by omega)
  have e2 := s_AddPiece_ev sS eL eW eH [] h5 h2 ⟨by simp, I5_R64 hW, I5_R64 hH⟩
  have u1 := wi (eW * eH) (by omega) (by omega)
  have u2 := wi (sC + eW * eH) (by omega) (by omega)
  simp only [List.map_nil] at e2
  generalize (if addR ⟨eL, eW, eH, []⟩ sS then addPc ⟨eL, eW, eH, []⟩ sS else []) = R at e2 ⊢
  by_cases v1 : addR ⟨eL, eW, eH, []⟩ sS
  · rw [decide_eq_true v1] at e2
    refine callE Xs Ms f_s_pieceEvent x_s_pieceEvent (by show 2 ≤ _; decide) ?_
    by_cases v2 : eX = 0
    · simp +contextual -implicitDefEqProofs (maxSteps := 10000000) only [go_sem, seval, ↓gA, ↓gB, ↓gC, ↓gD, ↓gE, ↓gF, f_s_pieceEvent, e1, e2, u1, u2, v2]
      all_goals simp [v1]
    · simp +contextual -implicitDefEqProofs (maxSteps := 10000000) only [go_sem, seval, ↓gA, ↓gB, ↓gC, ↓gD, ↓gE, ↓gF, f_s_pieceEvent, e1, e2, u1, u2, v2]
      all_goals simp
  · rw [decide_eq_false v1] at e2
    refine callE Xs Ms f_s_pieceEvent x_s_pieceEvent (by show 2 ≤ _; decide) ?_
    simp +contextual -implicitDefEqProofs (maxSteps := 10000000) only [go_sem, seval, ↓gA, ↓gB, ↓gC, ↓gD, ↓gE, ↓gF, f_s_pieceEvent, e1, e2, u1, u2, v1]
theorem s_pieceEvent_no (sS : List Piece) (sO : List Line) (sD : List Line) (sL : Int) (sC : Int) (eK : Int) (eL : Int) (eX : Int) (eY : Int) (eW : Int) (eH : Int) (epW : Int) (epH : Int) (epT : Bool) (epK : Int) (eC : Int) (eo : Int) (ea : Int) (ep : Int) (et : Bool) (ek : List Plan) (hs : SmS (Shop.mk sS sO sD sL sC)) (hk : ¬ eK = 0) (hf : fLab 0 sS eL < 0) : vcall Xs Ms n_s_pieceEvent [(.d (.agg [.sl (sS.map Piece.enc), .sl (sO.map Line.enc), .sl (sD.map Line.enc), .int .i64 sL, .int .i64 sC])), (.d (.agg [.int .i64 eK, .int .i64 eL, .int .i64 eX, .int .i64 eY, .int .i64 eW, .int .i64 eH, .int .i64 epW, .int .i64 epH, .bool epT, .int .i64 epK, .int .i64 eC, .int .i64 eo, .int .i64 ea, .int .i64 ep, .bool et, .sl (ek.map Plan.enc)]))] [] =
    some (.tup [.agg [.own 0, .own 1, .own 2, (.d (.int .i64 (0))), (.d (.int .i64 (0)))], (.d (.bool (false)))], [.row 4 [] true false, .row 5 [] true false, .row 5 [] true false]) := by
  have e1 := s_findLabel_ev sS eL (by have := hs.2.1; simp only at this; omega)
  refine callE Xs Ms f_s_pieceEvent x_s_pieceEvent (by show 2 ≤ _; decide) ?_
  simp +contextual -implicitDefEqProofs (maxSteps := 10000000) only [go_sem, seval, ↓gA, ↓gB, ↓gC, ↓gD, ↓gE, ↓gF, f_s_pieceEvent, e1, hk, hf]
theorem s_pieceEvent_scrap (sS : List Piece) (sO : List Line) (sD : List Line) (sL : Int) (sC : Int) (eK : Int) (eL : Int) (eX : Int) (eY : Int) (eW : Int) (eH : Int) (epW : Int) (epH : Int) (epT : Bool) (epK : Int) (eC : Int) (eo : Int) (ea : Int) (ep : Int) (et : Bool) (ek : List Plan) (hs : SmS (Shop.mk sS sO sD sL sC)) (hk : eK = 5) (a : Nat) (hf : fLab 0 sS eL = (a : Int)) (qL : Int) (qW : Int) (qH : Int) (qF : List Box) (hx : sS[a]? = some (Piece.mk qL qW qH qF)) (hW : I5 qW) (hH : I5 qH) : vcall Xs Ms n_s_pieceEvent [(.d (.agg [.sl (sS.map Piece.enc), .sl (sO.map Line.enc), .sl (sD.map Line.enc), .int .i64 sL, .int .i64 sC])), (.d (.agg [.int .i64 eK, .int .i64 eL, .int .i64 eX, .int .i64 eY, .int .i64 eW, .int .i64 eH, .int .i64 epW, .int .i64 epH, .bool epT, .int .i64 epK, .int .i64 eC, .int .i64 eo, .int .i64 ea, .int .i64 ep, .bool et, .sl (ek.map Plan.enc)]))] [] =
    some (.tup [.agg [.own 0, .d (.sl (sO.map Line.enc)), .d (.sl (sD.map Line.enc)), (.d (.int .i64 (sL + qW * qH))), (.d (.int .i64 (sC)))], (.d (.bool (true)))], [.row 4 ((sS.eraseIdx a).map Piece.enc) true false]) := by
  obtain ⟨⟨h1, h2, h3, h4⟩, h5, h6, h7, h8, h9⟩ := hs
  simp only at h1 h2 h3 h4 h5 h6 h7 h8 h9
  subst hk
  have hm := I5_mul hW hH
  have e1 := s_findLabel_ev sS eL (by omega)
  rw [hf] at e1
  have hlt := (List.getElem?_eq_some_iff.1 hx).1
  have h0 : ¬ (a : Int) < 0 := by omega
  have e2 := s_copyPiece_ev qL qW qH qF (h2 _ (List.mem_of_getElem? hx)).1
  have e3 := s_without_ev sS a h1 (fun x hx => (h2 x hx).1)
  have u1 := wi (qW * qH) (by omega) (by omega)
  have u2 := wi (sL + qW * qH) (by omega) (by omega)
  refine callE Xs Ms f_s_pieceEvent x_s_pieceEvent (by show 2 ≤ _; decide) ?_
  simp +contextual -implicitDefEqProofs (maxSteps := 10000000) only [go_sem, seval, ↓gA, ↓gB, ↓gC, ↓gD, ↓gE, ↓gF, f_s_pieceEvent, e1, e2, e3, h0, hlt, hx, u1, u2]
theorem s_pieceEvent_flaw (sS : List Piece) (sO : List Line) (sD : List Line) (sL : Int) (sC : Int) (eK : Int) (eL : Int) (eX : Int) (eY : Int) (eW : Int) (eH : Int) (epW : Int) (epH : Int) (epT : Bool) (epK : Int) (eC : Int) (eo : Int) (ea : Int) (ep : Int) (et : Bool) (ek : List Plan) (hv : VShop (Shop.mk sS sO sD sL sC)) (hk : eK = 1) (a : Nat) (hf : fLab 0 sS eL = (a : Int)) (qL : Int) (qW : Int) (qH : Int) (qF : List Box) (hx : sS[a]? = some (Piece.mk qL qW qH qF)) : vcall Xs Ms n_s_pieceEvent [(.d (.agg [.sl (sS.map Piece.enc), .sl (sO.map Line.enc), .sl (sD.map Line.enc), .int .i64 sL, .int .i64 sC])), (.d (.agg [.int .i64 eK, .int .i64 eL, .int .i64 eX, .int .i64 eY, .int .i64 eW, .int .i64 eH, .int .i64 epW, .int .i64 epH, .bool epT, .int .i64 epK, .int .i64 eC, .int .i64 eo, .int .i64 ea, .int .i64 ep, .bool et, .sl (ek.map Plan.enc)]))] [] =
    some (.tup [.agg [.own 0, .d (.sl (sO.map Line.enc)), .d (.sl (sD.map Line.enc)), (.d (.int .i64 (sL))), (.d (.int .i64 (sC)))], (.d (.bool (decide (addR ⟨qL, qW, qH, qF ++ [⟨eX, eY, eW, eH⟩]⟩ (sS.eraseIdx a)))))], [.row 4 ((if addR ⟨qL, qW, qH, qF ++ [⟨eX, eY, eW, eH⟩]⟩ (sS.eraseIdx a) then addPc ⟨qL, qW, qH, qF ++ [⟨eX, eY, eW, eH⟩]⟩ (sS.eraseIdx a) else []).map Piece.enc) true false]) := by
  obtain ⟨⟨h1, h2, h3, h4⟩, h5, h6, h7, h8, h9⟩ := VShop_SmS hv
  simp only at h1 h2 h3 h4 h5 h6 h7 h8 h9
  subst hk
  have e1 := s_findLabel_ev sS eL (by omega)
  rw [hf] at e1
  have hlt := (List.getElem?_eq_some_iff.1 hx).1
  have h0 : ¬ (a : Int) < 0 := by omega
  have hqF := h2 _ (List.mem_of_getElem? hx)
  simp only at hqF
  have hel := er_len sS a
  have e2 := s_copyPiece_ev qL qW qH qF hqF.1
  have e3 := s_without_ev sS a h1 (fun x hx => (h2 x hx).1)
  have hr : (qF.length + 1) * 32 ≤ 140737488355328 ∧ qF.length ≤ 140737488355327 := by omega
  have hq6 := (sortF_all hv.1.2 _ (List.mem_of_getElem? hx)).1.2.2.2.2.2.2
  simp only at hq6
  have e4 := s_AddPiece_ev (sS.eraseIdx a) qL qW qH (qF ++ [⟨eX, eY, eW, eH⟩]) (by omega) (fun x hx => h2 x (List.mem_of_mem_eraseIdx hx)) ⟨by simp; omega, hqF.2⟩
  rw [List.map_append] at e4
  simp only [List.map_cons, List.map_nil, Box.enc] at e4
  generalize (if addR ⟨qL, qW, qH, qF ++ [⟨eX, eY, eW, eH⟩]⟩ (sS.eraseIdx a) then addPc ⟨qL, qW, qH, qF ++ [⟨eX, eY, eW, eH⟩]⟩ (sS.eraseIdx a) else []) = R at e4 ⊢
  generalize decide (addR ⟨qL, qW, qH, qF ++ [⟨eX, eY, eW, eH⟩]⟩ (sS.eraseIdx a)) = V at e4 ⊢
  refine callE Xs Ms f_s_pieceEvent x_s_pieceEvent (by show 2 ≤ _; decide) ?_
  simp +contextual -implicitDefEqProofs (maxSteps := 10000000) only [go_sem, seval, ↓gA, ↓gB, ↓gC, ↓gD, ↓gE, ↓gF, f_s_pieceEvent, e1, e2, e3, e4, h0, hlt, hx, hr]
def lineV (l : Line) : Prop := VP l.Pane ∧ 1 ≤ l.Count ∧ l.Count ≤ 24
instance (l : Line) : Decidable (lineV l) := by unfold lineV; infer_instance
theorem s_lineEvent_bad (sS : List Piece) (sO : List Line) (sD : List Line) (sL : Int) (sC : Int) (eK : Int) (eL : Int) (eX : Int) (eY : Int) (eW : Int) (eH : Int) (epW : Int) (epH : Int) (epT : Bool) (epK : Int) (eC : Int) (eo : Int) (ea : Int) (ep : Int) (et : Bool) (ek : List Plan) (hl : ¬ lineV ⟨⟨epW, epH, epT, epK⟩, eC⟩) : vcall Xs Ms n_s_lineEvent [(.d (.agg [.sl (sS.map Piece.enc), .sl (sO.map Line.enc), .sl (sD.map Line.enc), .int .i64 sL, .int .i64 sC])), (.d (.agg [.int .i64 eK, .int .i64 eL, .int .i64 eX, .int .i64 eY, .int .i64 eW, .int .i64 eH, .int .i64 epW, .int .i64 epH, .bool epT, .int .i64 epK, .int .i64 eC, .int .i64 eo, .int .i64 ea, .int .i64 ep, .bool et, .sl (ek.map Plan.enc)]))] [] =
    some (.tup [.agg [.own 0, .own 1, .own 2, (.d (.int .i64 (0))), (.d (.int .i64 (0)))], (.d (.bool (false)))], [.row 4 [] true false, .row 5 [] true false, .row 5 [] true false]) := by
  have e1 := s_validPane_ev epW epH epT epK
  have e2 := s_inRange_ev eC 1 24
  refine callE Xs Ms f_s_lineEvent x_s_lineEvent (by show 2 ≤ _; decide) ?_
  by_cases v1 : VP ⟨epW, epH, epT, epK⟩
  · have v2 : ¬ (1 ≤ eC ∧ eC ≤ 24) := fun h => hl ⟨v1, h⟩
    rw [decide_eq_true v1] at e1
    rw [decide_eq_false v2] at e2
    simp +contextual -implicitDefEqProofs (maxSteps := 10000000) only [go_sem, seval, ↓gA, ↓gB, ↓gC, ↓gD, ↓gE, ↓gF, f_s_lineEvent, e1, e2]
  · rw [decide_eq_false v1] at e1
    simp +contextual -implicitDefEqProofs (maxSteps := 10000000) only [go_sem, seval, ↓gA, ↓gB, ↓gC, ↓gD, ↓gE, ↓gF, f_s_lineEvent, e1]
theorem s_lineEvent_order (sS : List Piece) (sO : List Line) (sD : List Line) (sL : Int) (sC : Int) (eK : Int) (eL : Int) (eX : Int) (eY : Int) (eW : Int) (eH : Int) (epW : Int) (epH : Int) (epT : Bool) (epK : Int) (eC : Int) (eo : Int) (ea : Int) (ep : Int) (et : Bool) (ek : List Plan) (hv : VShop (Shop.mk sS sO sD sL sC)) (hl : lineV ⟨⟨epW, epH, epT, epK⟩, eC⟩) (hk : eK = 2) : vcall Xs Ms n_s_lineEvent [(.d (.agg [.sl (sS.map Piece.enc), .sl (sO.map Line.enc), .sl (sD.map Line.enc), .int .i64 sL, .int .i64 sC])), (.d (.agg [.int .i64 eK, .int .i64 eL, .int .i64 eX, .int .i64 eY, .int .i64 eW, .int .i64 eH, .int .i64 epW, .int .i64 epH, .bool epT, .int .i64 epK, .int .i64 eC, .int .i64 eo, .int .i64 ea, .int .i64 ep, .bool et, .sl (ek.map Plan.enc)]))] [] =
    some (.tup [.agg [.d (.sl (sS.map Piece.enc)), .own 0, .d (.sl (sD.map Line.enc)), (.d (.int .i64 (sL))), (.d (.int .i64 (sC)))], (.d (.bool (true)))], [.row 5 ((addL ⟨epW, epH, epT, epK⟩ eC sO).map Line.enc) true false]) := by
  have e1 := s_validPane_ev epW epH epT epK
  have e2 := s_inRange_ev eC 1 24
  rw [decide_eq_true hl.1] at e1
  rw [decide_eq_true hl.2] at e2
  subst hk
  have e3 := s_addPanes_ev sO epW epH epT epK eC (by have := hv.2.1.1; simp only at this; omega) (fun x hx => by have := (VOrd_all hv.2.1 x hx).2; have := hl.2; simp only at this; unfold R64; omega)
  refine callE Xs Ms f_s_lineEvent x_s_lineEvent (by show 2 ≤ _; decide) ?_
  simp +contextual -implicitDefEqProofs (maxSteps := 10000000) only [go_sem, seval, ↓gA, ↓gB, ↓gC, ↓gD, ↓gE, ↓gF, f_s_lineEvent, e1, e2, e3]
theorem s_lineEvent_break (sS : List Piece) (sO : List Line) (sD : List Line) (sL : Int) (sC : Int) (eK : Int) (eL : Int) (eX : Int) (eY : Int) (eW : Int) (eH : Int) (epW : Int) (epH : Int) (epT : Bool) (epK : Int) (eC : Int) (eo : Int) (ea : Int) (ep : Int) (et : Bool) (ek : List Plan) (hv : VShop (Shop.mk sS sO sD sL sC)) (hl : lineV ⟨⟨epW, epH, epT, epK⟩, eC⟩) (hk : ¬ eK = 2) : vcall Xs Ms n_s_lineEvent [(.d (.agg [.sl (sS.map Piece.enc), .sl (sO.map Line.enc), .sl (sD.map Line.enc), .int .i64 sL, .int .i64 sC])), (.d (.agg [.int .i64 eK, .int .i64 eL, .int .i64 eX, .int .i64 eY, .int .i64 eW, .int .i64 eH, .int .i64 epW, .int .i64 epH, .bool epT, .int .i64 epK, .int .i64 eC, .int .i64 eo, .int .i64 ea, .int .i64 ep, .bool et, .sl (ek.map Plan.enc)]))] [] =
    some (.tup [.agg [.d (.sl (sS.map Piece.enc)), .own 0, .own 1, (.d (.int .i64 (sL + eC * epW * epH))), (.d (.int .i64 (sC)))], (.d (.bool (takeOk ⟨epW, epH, epT, epK⟩ eC false sD)))], [.row 5 ((addL ⟨epW, epH, epT, epK⟩ eC sO).map Line.enc) true false, .row 5 ((takeL sD ⟨epW, epH, epT, epK⟩ eC).map Line.enc) true false]) := by
  have e1 := s_validPane_ev epW epH epT epK
  have e2 := s_inRange_ev eC 1 24
  rw [decide_eq_true hl.1] at e1
  rw [decide_eq_true hl.2] at e2
  have hla := line_area hl
  have h6 := hv.2.2.2
  simp only at hla h6
  have e3 := s_addPanes_ev sO epW epH epT epK eC (by have := hv.2.1.1; simp only at this; omega) (fun x hx => by have := (VOrd_all hv.2.1 x hx).2; have := hl.2; simp only at this; unfold R64; omega)
  have e4 := s_takePanes_ev sD epW epH epT epK eC (by have := hv.2.2.1.1; simp only at this; omega) (fun x hx => by have := (VOrd_all hv.2.2.1 x hx).2; have := hl.2; simp only at this; unfold R64; omega)
  have u0 := wi (eC * epW) (by omega) (by omega)
  have u1 := wi (eC * epW * epH) (by omega) (by omega)
  have u2 := wi (sL + eC * epW * epH) (by omega) (by omega)
  refine callE Xs Ms f_s_lineEvent x_s_lineEvent (by show 2 ≤ _; decide) ?_
  simp +contextual -implicitDefEqProofs (maxSteps := 10000000) only [go_sem, seval, ↓gA, ↓gB, ↓gC, ↓gD, ↓gE, ↓gF, f_s_lineEvent, e1, e2, e3, e4, hk, u0, u1, u2]

theorem plc_pane {ps : List Pane} : ∀ {b : BT} {x y w h : Int}, fits ps b w h = true → ∀ c ∈ plc b x y w h, ∃ n : Nat, c.Pane = (n : Int) ∧ n < ps.length
  | .waste, x, y, w, h, hf, c, hc => by simp [plc] at hc
  | .pane i t, x, y, w, h, hf, c, hc => by
    simp only [plc, List.mem_singleton] at hc
    subst hc
    simp only [fits, paneFits, Bool.and_eq_true, decide_eq_true_eq] at hf
    refine ⟨i.toNat, by simp only; omega, ?_⟩
    rcases Nat.lt_or_ge i.toNat ps.length with h1 | h1
    · exact h1
    · rw [List.getElem?_eq_none h1] at hf; exact absurd hf.2 (by simp)
  | .cut d a l r, x, y, w, h, hf, c, hc => by
    cases d
    · simp only [fits, Bool.and_eq_true, Bool.false_eq_true, if_false] at hf
      simp only [plc, Bool.false_eq_true, if_false, List.mem_append] at hc
      rcases hc with hc | hc
      · exact plc_pane hf.1.2 c hc
      · exact plc_pane hf.2 c hc
    · simp only [fits, Bool.and_eq_true, if_true] at hf
      simp only [plc, if_true, List.mem_append] at hc
      rcases hc with hc | hc
      · exact plc_pane hf.1.2 c hc
      · exact plc_pane hf.2 c hc
def usedF : List Int → List L.Place → List Int
  | u, [] => u
  | u, x :: l => usedF (u.set x.Pane.toNat (u[x.Pane.toNat]?.getD 0 + 1)) l
theorem usedF_cons {u : List Int} {l : List L.Place} {k : Nat} {x : L.Place} (hx : l[k]? = some x) : usedF u (l.drop k) = usedF (u.set x.Pane.toNat (u[x.Pane.toNat]?.getD 0 + 1)) (l.drop (k + 1)) := by
  obtain ⟨h1, h2⟩ := List.getElem?_eq_some_iff.1 hx
  rw [List.drop_eq_getElem_cons h1, h2, usedF]
theorem usedF_end {u : List Int} {l : List L.Place} : usedF u (l.drop l.length) = u := by simp [usedF]
theorem usedF_len : ∀ (l : List L.Place) (u : List Int), (usedF u l).length = u.length
  | [], u => rfl
  | x :: l, u => by rw [usedF, usedF_len l]; simp
theorem usedF_val : ∀ (l : List L.Place) (u : List Int) (m : Int), (∀ v ∈ u, 0 ≤ v ∧ v ≤ m) → ∀ v ∈ usedF u l, 0 ≤ v ∧ v ≤ m + l.length
  | [], u, m, h, v, hv => by have := h v hv; simp; omega
  | x :: l, u, m, h, v, hv => by
    have := usedF_val l _ (m + 1) (fun w hw => by
      rcases List.mem_or_eq_of_mem_set hw with h1 | rfl
      · have := h w h1; omega
      · cases hg : u[x.Pane.toNat]? with
        | none => simp; have h0 : ∀ z : Int, 0 ≤ z → 1 ≤ z + 1 := by omega
                  by_cases hu : u = []
                  · subst hu; simp at hw
                  · obtain ⟨z, hz⟩ := List.exists_mem_of_ne_nil u hu
                    have := h z hz; omega
        | some z => have := h z (List.mem_of_getElem? hg); simp; omega) v hv
    simp only [List.length_cons]
    omega
theorem set_int (u : List Int) (i : Nat) (v : Int) : (u.map encI).set i (.int .i64 v) = (u.set i v).map encI := (List.map_set (f := encI) (l := u) (i := i) (a := v)).symm
theorem rep_int (n : Nat) : List.replicate n (D.int .i64 0) = (List.replicate n (0 : Int)).map encI := by simp [encI]
def usedL (k : Work) (p : Plan) : List Int := usedF (List.replicate k.Panes.length 0) ((partsL k p).filterMap asPlace)
theorem usedL_facts {k : Work} {p : Plan} (hv : vplan k p = true) : (usedL k p).length = k.Panes.length ∧ ∀ v ∈ usedL k p, 0 ≤ v ∧ v ≤ 255 := by
  obtain ⟨b, hb, hpb, hvw, hcnt, hfit, hpt⟩ := vplan_some hv
  have hl : ((partsL k p).filterMap asPlace).length ≤ 255 := by
    have := List.length_filterMap_le asPlace (partsL k p)
    rw [hpt, pt_len] at this
    rw [hpt]
    omega
  refine ⟨by unfold usedL; rw [usedF_len]; simp, fun v h => ?_⟩
  have := usedF_val _ _ 0 (fun w hw => by rw [List.eq_of_mem_replicate hw]; omega) v h
  omega
theorem s_usedOf_ev (kW : Int) (kH : Int) (kP : List Pane) (p : Plan) (hv : vplan (Work.mk kW kH kP) p = true) : vcall Xs Ms n_s_usedOf [(.d (.agg [.int .i64 kW, .int .i64 kH, .sl (kP.map Pane.enc)])), .d p.enc] [] = some (.own 0, [.row 1 ((usedL (Work.mk kW kH kP) p).map encI) true false]) := by
  obtain ⟨b, hb, hpb, hvw, hcnt, hfit, hpt⟩ := vplan_some hv
  simp only at hfit hpt
  have e := s_placesOf_ev kW kH kP p b hpb (by simp only [VW, inB] at hvw ⊢; omega) hfit (by omega)
  have hpn := plc_pane (x := 0) (y := 0) hfit
  have hkl : kP.length ≤ 24 := hvw.2.2.2.2.1
  have hln : (plc b 0 0 kW kH).length ≤ 255 := by
    have := List.length_filterMap_le asPlace (partsL (Work.mk kW kH kP) p)
    rw [hpt, pt_len, pt_places] at this
    omega
  unfold usedL
  rw [hpt, pt_places]
  generalize plc b 0 0 kW kH = L at e hpn hln ⊢
  have hmk : (kP.length : Int) * ((8 : Nat) : Int) ≤ ((140737488355328 : Nat) : Int) ∧ kP.length ≤ 140737488355328 := by omega
  have hmk2 : (kP.length : Int) * 8 ≤ 140737488355328 ∧ (kP.length : Int) ≤ 140737488355328 := by omega
  clear hv hb hpb hvw hpt hfit
  obtain ⟨o, a, q, t, ks⟩ := p
  rw [Plan.enc_mk] at e ⊢
  refine callE Xs Ms f_s_usedOf x_s_usedOf (by show 2 ≤ _; decide) ?_
  simp +contextual -implicitDefEqProofs (maxSteps := 10000000) only [go_sem, seval, ↓gA, ↓gB, ↓gC, ↓gD, ↓gE, ↓gF, f_s_usedOf, e, rep_int, hmk, hmk2]
  refine LW_over Xs Ms (st0 := ?st0) (α := Nat × List Int) (fun s => [(7, .d (.int .i64 (s.1 : Int)))]) (fun s => [(1, .row 1 (s.2.map encI) true false)]) (fun s => s.1 ≤ L.length ∧ s.2.length = kP.length ∧ (∀ v ∈ s.2, 0 ≤ v ∧ v ≤ s.1) ∧ usedF s.2 (L.drop s.1) = usedF (List.replicate kP.length 0) L) (fun s => L.length - s.1) (0, List.replicate kP.length 0) ?hc ⟨by simp, by simp, fun w hw => by rw [List.eq_of_mem_replicate hw]; simp, by simp⟩ ?h0 ?step
  case hc => simp +contextual -implicitDefEqProofs (maxSteps := 10000000) only [go_sem, seval, ↓gA, ↓gB, ↓gC, ↓gD, ↓gE, ↓gF] <;> exact rfl
  case h0 => rfl
  case step =>
    intro ⟨i, u⟩ ⟨hi, hul, huv, hp⟩ ih
    simp only at hi hul huv hp
    by_cases hlt : i < L.length
    · obtain ⟨x, hx⟩ := get_lt hlt
      have hw := wrap_succ (k := i) (by omega)
      obtain ⟨n, hn, hnl⟩ := hpn x (List.mem_of_getElem? hx)
      rw [usedF_cons hx, hn] at hp
      obtain ⟨q', t', ⟨X, Y, W, H⟩⟩ := x
      simp only at hn
      subst hn
      have hnu : n < u.length := by omega
      obtain ⟨z, hz⟩ := get_lt hnu
      have hzb := huv z (List.mem_of_getElem? hz)
      have u1 := wi (z + 1) (by omega) (by omega)
      rw [Int.toNat_natCast, hz] at hp
      simp +contextual -implicitDefEqProofs (maxSteps := 10000000) only [go_sem, seval, ↓gA, ↓gB, ↓gC, ↓gD, ↓gE, ↓gF, hx, hlt, hw, hnl, hnu, hz, u1, set_int, hul]
      refine ih (i + 1, u.set n (z + 1)) _ ⟨by simp only; omega, by simpa using hul, fun v hv => ?_, hp⟩ (by simp only; omega) ?_
      · simp only
        rcases List.mem_or_eq_of_mem_set hv with h1 | rfl
        · have := huv v h1; omega
        · omega
      · simp +contextual -implicitDefEqProofs (maxSteps := 10000000) only [go_sem, seval, ↓gA, ↓gB, ↓gC, ↓gD, ↓gE, ↓gF, List.headD_cons, set_int]
    · have : i = L.length := by omega
      subst this
      rw [usedF_end] at hp
      simp +contextual -implicitDefEqProofs (maxSteps := 10000000) only [go_sem, seval, ↓gA, ↓gB, ↓gC, ↓gD, ↓gE, ↓gF, hp]
def hasB : BT → Bool
  | .waste => false
  | .pane _ _ => true
  | .cut _ _ l r => hasB l || hasB r
theorem s_hasPane_ev : ∀ (b : BT), vcall Xs Ms n_s_hasPane [.d b.plan.enc] [] = some ((.d (.bool (hasB b))), [])
  | .waste => by
    simp only [BT.plan, Plan.enc_mk]
    refine callE Xs Ms f_s_hasPane x_s_hasPane (by show 1 ≤ _; decide) ?_
    simp +contextual -implicitDefEqProofs (maxSteps := 10000000) only [go_sem, seval, ↓gA, ↓gB, ↓gC, ↓gD, ↓gE, ↓gF, f_s_hasPane, s_isCut_ev, hasB]
  | .pane i t => by
    simp only [BT.plan, Plan.enc_mk]
    refine callE Xs Ms f_s_hasPane x_s_hasPane (by show 1 ≤ _; decide) ?_
    simp +contextual -implicitDefEqProofs (maxSteps := 10000000) only [go_sem, seval, ↓gA, ↓gB, ↓gC, ↓gD, ↓gE, ↓gF, f_s_hasPane, s_isCut_ev, hasB]
  | .cut d a l r => by
    have e1 := s_hasPane_ev l
    have e2 := s_hasPane_ev r
    simp only [BT.plan, Plan.enc_mk]
    cases hb : hasB l <;> rw [hb] at e1 <;> cases d <;>
    · refine callE Xs Ms f_s_hasPane x_s_hasPane (by show 1 ≤ _; decide) ?_
      simp +contextual -implicitDefEqProofs (maxSteps := 10000000) only [go_sem, seval, ↓gA, ↓gB, ↓gC, ↓gD, ↓gE, ↓gF, f_s_hasPane, s_isCut_ev, hasB, opOf, e1, e2, hb, Bool.or_eq_true, Bool.true_or, Bool.false_or]
theorem s_LostArea_ev (kW : Int) (kH : Int) (kP : List Pane) (p : Plan) (least : Int) (hv : vplan (Work.mk kW kH kP) p = true) (h1 : 1 ≤ least) (h2 : least ≤ 200) : vcall Xs Ms n_s_LostArea [(.d (.agg [.int .i64 kW, .int .i64 kH, .sl (kP.map Pane.enc)])), .d p.enc, (.d (.int .i64 (least)))] [] =
    some ((.d (.int .i64 (areaL (lostL (Work.mk kW kH kP) p least)))), []) := by
  obtain ⟨b, hb, hpb, hvw, hcnt, hfit, hpt⟩ := vplan_some hv
  have hkl : kP.length ≤ 24 := hvw.2.2.2.2.1
  have ev := s_validPlan_ev kW kH kP p (by omega)
  rw [hv] at ev
  have er := s_inRange_ev least 1 200
  rw [decide_eq_true (show 1 ≤ least ∧ least ≤ 200 from ⟨h1, h2⟩)] at er
  simp only at hfit hpt
  have ep := s_wastesOf_ev kW kH kP p b hpb (by simp only [VW, inB] at hvw ⊢; omega) hfit (by omega)
  have hbox := wastes_VB hv
  have hlen : ((partsL (Work.mk kW kH kP) p).filterMap asWaste).length ≤ 255 := by
    have := List.length_filterMap_le asWaste (partsL (Work.mk kW kH kP) p)
    rw [hpt, pt_len] at this
    rw [hpt]
    omega
  rw [← pt_wastes, ← hpt] at ep
  unfold lostL
  generalize (partsL (Work.mk kW kH kP) p).filterMap asWaste = L at ep hbox hlen ⊢
  clear hv hb hpb hvw hpt hfit
  obtain ⟨o, a, n, t, ks⟩ := p
  rw [Plan.enc_mk] at ev ep ⊢
  refine callE Xs Ms f_s_LostArea x_s_LostArea (by show 3 ≤ _; decide) ?_
  simp +contextual -implicitDefEqProofs (maxSteps := 10000000) only [go_sem, seval, ↓gA, ↓gB, ↓gC, ↓gD, ↓gE, ↓gF, f_s_LostArea, ev, ep, er]
  refine LW_over Xs Ms (st0 := ?st0) (α := Nat) (fun i => [(9, .d (.int .i64 (i : Int))), (7, .d (.int .i64 (areaL ((L.take i).filterMap (lostB least)))))]) (fun _ => []) (fun i => i ≤ L.length) (fun i => L.length - i) 0 ?hc (by omega) ?h0 ?step
  case hc => simp +contextual -implicitDefEqProofs (maxSteps := 10000000) only [go_sem, seval, ↓gA, ↓gB, ↓gC, ↓gD, ↓gE, ↓gF]; exact rfl
  case h0 => rfl
  case step =>
    intro i hi ih
    by_cases hlt : i < L.length
    · obtain ⟨x, hx⟩ := get_lt hlt
      have hw := wrap_succ (k := i) (by omega)
      have hm := fm_take (f := lostB least) hx
      have hbx := hbox x (List.mem_of_getElem? hx)
      have ha := areaL_VB (l := (L.take i).filterMap (lostB least)) (fun c hc => by
        obtain ⟨d, hd, hdc⟩ := List.mem_filterMap.1 hc
        unfold lostB at hdc
        split at hdc
        · cases hdc; exact hbox c (List.mem_of_mem_take hd)
        · cases hdc)
      have hlk : ((L.take i).filterMap (lostB least)).length ≤ i := Nat.le_trans (List.length_filterMap_le _ _) (by simp; omega)
      have hax := area_VB hbx
      obtain ⟨X, Y, W, H⟩ := x
      simp only at hax
      have w0 := wi (W * H) (by omega) (by omega)
      have w1 := wi (areaL ((L.take i).filterMap (lostB least)) + W * H) (by omega) (by omega)
      have es := s_isRemnant_ev X Y W H least
      simp only [lostB] at hm
      by_cases ho : W < least ∨ H < least
      · rw [if_pos ho] at hm
        rw [decide_eq_false (show ¬ (least ≤ W ∧ least ≤ H) by omega)] at es
        simp +contextual -implicitDefEqProofs (maxSteps := 10000000) only [go_sem, seval, ↓gA, ↓gB, ↓gC, ↓gD, ↓gE, ↓gF, hx, hlt, hw, es, w0, w1]
        refine ih (i + 1) _ (by omega) (by omega) ?_
        simp +contextual -implicitDefEqProofs (maxSteps := 10000000) only [go_sem, seval, ↓gA, ↓gB, ↓gC, ↓gD, ↓gE, ↓gF, hm, areaL_append, Option.toList, areaL]
        first | rfl | (simp; done) | (simp; rfl)
      · rw [if_neg ho] at hm
        rw [decide_eq_true (show least ≤ W ∧ least ≤ H by omega)] at es
        simp +contextual -implicitDefEqProofs (maxSteps := 10000000) only [go_sem, seval, ↓gA, ↓gB, ↓gC, ↓gD, ↓gE, ↓gF, hx, hlt, hw, es]
        refine ih (i + 1) _ (by omega) (by omega) ?_
        simp +contextual -implicitDefEqProofs (maxSteps := 10000000) only [go_sem, seval, ↓gA, ↓gB, ↓gC, ↓gD, ↓gE, ↓gF, hm, Option.toList, List.append_nil]
    · have : i = L.length := by omega
      subst this
      simp +contextual -implicitDefEqProofs (maxSteps := 10000000) only [go_sem, seval, ↓gA, ↓gB, ↓gC, ↓gD, ↓gE, ↓gF]
      simp

def cutGo : List Pane → List Int → List Line → List Line → Option (List Line × List Line)
  | p :: ps, c :: us, o, d => if c = 0 then cutGo ps us o d else if takeOk p c false o = true then cutGo ps us (takeL o p c) (addL p c d) else none
  | [], _, o, d => some (o, d)
  | _, [], o, d => some (o, d)
theorem cutGo_cons {ps : List Pane} {us : List Int} {o d : List Line} {k : Nat} {p : Pane} {c : Int} (hp : ps[k]? = some p) (hu : us[k]? = some c) : cutGo (ps.drop k) (us.drop k) o d = if c = 0 then cutGo (ps.drop (k + 1)) (us.drop (k + 1)) o d else if takeOk p c false o = true then cutGo (ps.drop (k + 1)) (us.drop (k + 1)) (takeL o p c) (addL p c d) else none := by
  obtain ⟨h1, h2⟩ := List.getElem?_eq_some_iff.1 hp
  obtain ⟨h3, h4⟩ := List.getElem?_eq_some_iff.1 hu
  rw [List.drop_eq_getElem_cons h1, h2, List.drop_eq_getElem_cons h3, h4, cutGo]
theorem cutGo_end {ps : List Pane} {us : List Int} {o d : List Line} : cutGo (ps.drop ps.length) us o d = some (o, d) := by
  rw [List.drop_length]; unfold cutGo; rfl
theorem takeL_cnt {l : List Line} {p : Pane} {c hi : Int} (hc : 0 ≤ c) (h : ∀ x ∈ l, x.Count ≤ hi) : ∀ y ∈ takeL l p c, 0 ≤ y.Count ∧ y.Count ≤ hi := fun y hy => by
  obtain ⟨x, hx, e⟩ := List.mem_filterMap.1 hy
  have := h x hx
  unfold takeB at e
  split at e
  · split at e
    · cases e; simp only; omega
    · cases e
  · split at e
    · cases e; omega
    · cases e
theorem addL_cnt {p : Pane} {c hi : Int} (hc : 0 ≤ c) (hh : 0 ≤ hi) : ∀ {l : List Line}, (∀ x ∈ l, 0 ≤ x.Count ∧ x.Count ≤ hi) → ∀ y ∈ addL p c l, 0 ≤ y.Count ∧ y.Count ≤ hi + c
  | [], h, y, hy => by simp [addL] at hy; subst hy; simp only; omega
  | x :: l, h, y, hy => by
    have h1 := h x (by simp)
    unfold addL at hy
    split at hy
    · rcases List.mem_cons.1 hy with rfl | hy
      · simp only; omega
      · have := h y (by simp [hy]); omega
    · rcases List.mem_cons.1 hy with rfl | hy
      · omega
      · exact addL_cnt hc hh (fun z hz => h z (by simp [hz])) y hy
def hasP (p : Plan) : Bool := match toBT p with
  | some b => hasB b
  | none => false
def cutS (s : Shop) (e : Event) : Option Shop :=
  match s.Stock[(fLab 0 s.Stock e.label).toNat]? with
  | none => none
  | some x => match cutSt s.Stock e.label ⟨x.W, x.H, s.Opn.map Line.Pane⟩ e.plan 5 with
    | none => none
    | some R => if hasP e.plan = true then
        match cutGo (s.Opn.map Line.Pane) (usedL ⟨x.W, x.H, s.Opn.map Line.Pane⟩ e.plan) s.Opn s.Done with
        | none => none
        | some (o, d) => some ⟨R, o, d, s.Lost + areaL (lostL ⟨x.W, x.H, s.Opn.map Line.Pane⟩ e.plan 5), s.Came⟩
      else none
def shV : Option Shop → AV × List AObj
  | some s => (.tup [.agg [.own 0, .own 1, .own 2, (.d (.int .i64 (s.Lost))), (.d (.int .i64 (s.Came)))], (.d (.bool (true)))], [.row 4 (s.Stock.map Piece.enc) true false, .row 5 (s.Opn.map Line.enc) true false, .row 5 (s.Done.map Line.enc) true false])
  | none => (.tup [.agg [.own 0, .own 1, .own 2, (.d (.int .i64 (0))), (.d (.int .i64 (0)))], (.d (.bool (false)))], [.row 4 [] true false, .row 5 [] true false, .row 5 [] true false])
theorem cutSt_neg {l : List Piece} {n : Int} {k : Work} {p : Plan} {least : Int} (h : fLab 0 l n < 0) : cutSt l n k p least = none := by
  unfold cutSt
  rw [if_neg (fun h' => by omega)]
theorem cutSt_vp {l : List Piece} {n : Int} {k : Work} {p : Plan} {least : Int} {R : List Piece} (h : cutSt l n k p least = some R) : vplan k p = true ∧ VSt R ∧ VSt l := by
  unfold cutSt at h
  split at h
  · rename_i hc
    split at h
    · rename_i x hx
      split at h
      · rename_i hg
        cases h
        exact ⟨hg.1.1, hg.2, hc.1⟩
      · cases h
    · cases h
  · cases h
theorem s_cutEvent_ev (sS : List Piece) (sO : List Line) (sD : List Line) (sL : Int) (sC : Int) (eK : Int) (eL : Int) (eX : Int) (eY : Int) (eW : Int) (eH : Int) (epW : Int) (epH : Int) (epT : Bool) (epK : Int) (eC : Int) (eo : Int) (ea : Int) (ep : Int) (et : Bool) (ek : List Plan) (hv : VShop (Shop.mk sS sO sD sL sC)) : vcall Xs Ms n_s_cutEvent [(.d (.agg [.sl (sS.map Piece.enc), .sl (sO.map Line.enc), .sl (sD.map Line.enc), .int .i64 sL, .int .i64 sC])), (.d (.agg [.int .i64 eK, .int .i64 eL, .int .i64 eX, .int .i64 eY, .int .i64 eW, .int .i64 eH, .int .i64 epW, .int .i64 epH, .bool epT, .int .i64 epK, .int .i64 eC, .int .i64 eo, .int .i64 ea, .int .i64 ep, .bool et, .sl (ek.map Plan.enc)]))] [] = some (shV (cutS (Shop.mk sS sO sD sL sC) (Event.mk eK eL (Box.mk eX eY eW eH) (Line.mk (Pane.mk epW epH epT epK) eC) (Plan.mk eo ea ep et ek)))) := by
  obtain ⟨⟨h1, h2, h3, h4⟩, h5, h6, h7, h8, h9⟩ := VShop_SmS hv
  simp only at h1 h2 h3 h4 h5 h6 h7 h8 h9
  have hO := hv.2.1
  have hD := hv.2.2.1
  simp only at hO hD
  have hO8 := hO.1
  have hD8 := hD.1
  have e1 := s_findLabel_ev sS eL (by omega)
  by_cases hf : fLab 0 sS eL < 0
  · have ec : cutS (Shop.mk sS sO sD sL sC) (Event.mk eK eL (Box.mk eX eY eW eH) (Line.mk (Pane.mk epW epH epT epK) eC) (Plan.mk eo ea ep et ek)) = none := by
      unfold cutS
      simp only
      split
      · rfl
      · rw [cutSt_neg hf]
    rw [ec]
    unfold shV
    refine callE Xs Ms f_s_cutEvent x_s_cutEvent (by show 2 ≤ _; decide) ?_
    simp +contextual -implicitDefEqProofs (maxSteps := 10000000) only [go_sem, seval, ↓gA, ↓gB, ↓gC, ↓gD, ↓gE, ↓gF, f_s_cutEvent, e1, hf]
  · obtain ⟨a, x, ha, hx⟩ := fLab_get (by omega : 0 ≤ fLab 0 sS eL)
    rw [ha] at e1
    have ha0 : ¬ (a : Int) < 0 := by omega
    have hlt := (List.getElem?_eq_some_iff.1 hx).1
    have e3 := s_CutStock_ev sS eL x.W x.H (sO.map Line.Pane) (.mk eo ea ep et ek) 5 (by have := hv.1.1; simp only at this; omega) (fun y hy => by
      have := sortF_all hv.1.2 y hy
      exact ⟨this.1.2.2.2.2.2.2, VPc_R64 this⟩) (by simp; omega)
    have ecs : cutS (Shop.mk sS sO sD sL sC) (Event.mk eK eL (Box.mk eX eY eW eH) (Line.mk (Pane.mk epW epH epT epK) eC) (Plan.mk eo ea ep et ek)) = match cutSt sS eL ⟨x.W, x.H, sO.map Line.Pane⟩ (.mk eo ea ep et ek) 5 with
      | none => none
      | some R => if hasP (.mk eo ea ep et ek) = true then
          match cutGo (sO.map Line.Pane) (usedL ⟨x.W, x.H, sO.map Line.Pane⟩ (.mk eo ea ep et ek)) sO sD with
          | none => none
          | some (o, d) => some ⟨R, o, d, sL + areaL (lostL ⟨x.W, x.H, sO.map Line.Pane⟩ (.mk eo ea ep et ek) 5), sC⟩
        else none := by
      unfold cutS
      simp only [ha, Int.toNat_natCast, hx]
    rw [ecs]
    clear ecs
    obtain ⟨xL, xW, xH, xF⟩ := x
    simp only at e3 ⊢
    have e2 := s_workOf_ev sS sO sD sL sC a xL xW xH xF hx h3 h1
    cases hcs : cutSt sS eL ⟨xW, xH, sO.map Line.Pane⟩ (.mk eo ea ep et ek) 5 with
    | none =>
      rw [hcs] at e3
      unfold cutR at e3
      simp only
      unfold shV
      rw [Plan.enc_mk] at e3
      refine callE Xs Ms f_s_cutEvent x_s_cutEvent (by show 2 ≤ _; decide) ?_
      simp +contextual -implicitDefEqProofs (maxSteps := 10000000) only [go_sem, seval, ↓gA, ↓gB, ↓gC, ↓gD, ↓gE, ↓gF, f_s_cutEvent, e1, ha0, e2, e3]
    | some R =>
      obtain ⟨hvp, hvR, _⟩ := cutSt_vp hcs
      rw [hcs] at e3
      unfold cutR at e3
      simp only
      obtain ⟨b, hb, hpb, hvw, hcnt, hfit, hpt⟩ := vplan_some hvp
      have e4 := s_hasPane_ev b
      rw [← hpb] at e4
      have hh : hasP (.mk eo ea ep et ek) = hasB b := by unfold hasP; rw [hb]
      rw [hh]
      have e5 := s_LostArea_ev xW xH (sO.map Line.Pane) (.mk eo ea ep et ek) 5 hvp (by omega) (by omega)
      have e6 := s_usedOf_ev xW xH (sO.map Line.Pane) (.mk eo ea ep et ek) hvp
      have hu := usedL_facts hvp
      have hla := areaL_VB (l := lostL ⟨xW, xH, sO.map Line.Pane⟩ (.mk eo ea ep et ek) 5) (fun c hc => by
        obtain ⟨z, hz, hzc⟩ := List.mem_filterMap.1 hc
        unfold lostB at hzc
        split at hzc
        · cases hzc; exact wastes_VB hvp c hz
        · cases hzc)
      have hll : (lostL ⟨xW, xH, sO.map Line.Pane⟩ (.mk eo ea ep et ek) 5).length ≤ 255 := by
        refine Nat.le_trans (List.length_filterMap_le _ _) (Nat.le_trans (List.length_filterMap_le _ _) ?_)
        rw [hpt, pt_len]; exact hcnt
      generalize areaL (lostL ⟨xW, xH, sO.map Line.Pane⟩ (.mk eo ea ep et ek) 5) = A at e5 hla ⊢
      generalize usedL ⟨xW, xH, sO.map Line.Pane⟩ (.mk eo ea ep et ek) = us at e6 hu ⊢
      rw [Plan.enc_mk] at e3 e4 e5 e6
      simp only [List.length_map] at hu
      have u1 := wi (sL + A) (by omega) (by omega)
      have r1 : sO.length * 40 ≤ 140737488355328 ∧ sO.length ≤ 140737488355328 := by omega
      have r2 : sD.length * 40 ≤ 140737488355328 ∧ sD.length ≤ 140737488355328 := by omega
      cases hhb : hasB b with
      | false =>
        rw [hhb] at e4
        rw [if_neg (by simp)]
        unfold shV
        refine callE Xs Ms f_s_cutEvent x_s_cutEvent (by show 2 ≤ _; decide) ?_
        simp +contextual -implicitDefEqProofs (maxSteps := 10000000) only [go_sem, seval, ↓gA, ↓gB, ↓gC, ↓gD, ↓gE, ↓gF, f_s_cutEvent, e1, ha0, e2, e3, e4]
      | true =>
        rw [hhb] at e4
        rw [if_pos rfl]
        refine callE Xs Ms f_s_cutEvent x_s_cutEvent (by show 2 ≤ _; decide) ?_
        simp +contextual -implicitDefEqProofs (maxSteps := 10000000) only [go_sem, seval, ↓gA, ↓gB, ↓gC, ↓gD, ↓gE, ↓gF, f_s_cutEvent, optL, e1, ha0, e2, e3, e4, e5, e6, u1, r1, r2]
        refine LW_over Xs Ms (st0 := ?st0) (α := Nat × List Line × List Line) (fun s => [(12, .d (.int .i64 (s.1 : Int)))]) (fun s => [(5, .row 5 (s.2.1.map Line.enc) true false), (6, .row 5 (s.2.2.map Line.enc) true false)]) (fun s => s.1 ≤ us.length ∧ cutGo ((sO.map Line.Pane).drop s.1) (us.drop s.1) s.2.1 s.2.2 = cutGo (sO.map Line.Pane) us sO sD ∧ s.2.1.length ≤ 8 ∧ s.2.2.length ≤ 8 + s.1 ∧ (∀ x ∈ s.2.1, 0 ≤ x.Count ∧ x.Count ≤ 24) ∧ (∀ x ∈ s.2.2, 0 ≤ x.Count ∧ x.Count ≤ 24 + 255 * (s.1 : Int))) (fun s => us.length - s.1) (0, sO, sD) ?hc ⟨by simp, by simp, hO8, by simp only; omega, fun x hx => by have := VOrd_all hO x hx; omega, fun x hx => by have := VOrd_all hD x hx; simp only; omega⟩ ?h0 ?step
        case hc => simp +contextual -implicitDefEqProofs (maxSteps := 10000000) only [go_sem, seval, ↓gA, ↓gB, ↓gC, ↓gD, ↓gE, ↓gF] <;> exact rfl
        case h0 => rfl
        case step =>
          intro ⟨i, o, d⟩ ⟨hi, hp, ho8, hd8, hoc, hdc⟩ ih
          simp only at hi hp ho8 hd8 hoc hdc
          by_cases hil : i < us.length
          · obtain ⟨c, hc⟩ := get_lt hil
            have hiO : i < sO.length := by omega
            obtain ⟨y, hy⟩ := get_lt hiO
            have hw := wrap_succ (k := i) (by omega)
            have hcb := hu.2 c (List.mem_of_getElem? hc)
            have hpy : (sO.map Line.Pane)[i]? = some y.Pane := by rw [List.getElem?_map, hy]; rfl
            rw [cutGo_cons hpy hc] at hp
            obtain ⟨⟨W, H, T, K⟩, C⟩ := y
            simp only at hp hpy
            by_cases hc0 : c = 0
            · rw [if_pos hc0] at hp
              simp +contextual -implicitDefEqProofs (maxSteps := 10000000) only [go_sem, seval, ↓gA, ↓gB, ↓gC, ↓gD, ↓gE, ↓gF, hil, hc, hc0, hw]
              refine ih (i + 1, o, d) _ ⟨by simp only; omega, hp, ho8, by simp only; omega, hoc, fun x hx => by have := hdc x hx; simp only; omega⟩ (by simp only; omega) ?_
              simp +contextual -implicitDefEqProofs (maxSteps := 10000000) only [go_sem, seval, ↓gA, ↓gB, ↓gC, ↓gD, ↓gE, ↓gF]
            · rw [if_neg hc0] at hp
              have et := s_takePanes_ev o W H T K c (by omega) (fun x hx => by have := hoc x hx; unfold R64; omega)
              have ea := s_addPanes_ev d W H T K c (by omega) (fun x hx => by have := hdc x hx; unfold R64; omega)
              by_cases hto : takeOk ⟨W, H, T, K⟩ c false o = true
              · rw [if_pos hto] at hp
                rw [hto] at et
                simp +contextual -implicitDefEqProofs (maxSteps := 10000000) only [go_sem, seval, ↓gA, ↓gB, ↓gC, ↓gD, ↓gE, ↓gF, hil, hc, hc0, hw, hiO, hy, hpy, et, ea]
                refine ih (i + 1, takeL o ⟨W, H, T, K⟩ c, addL ⟨W, H, T, K⟩ c d) _ ⟨by simp only; omega, hp, Nat.le_trans (List.length_filterMap_le _ _) ho8, Nat.le_trans (addL_len _ _ _) (by simp only; omega), takeL_cnt hcb.1 (fun x hx => (hoc x hx).2), fun x hx => ?_⟩ (by simp only; omega) ?_
                · have := addL_cnt hcb.1 (by omega) hdc x hx
                  simp only
                  omega
                · simp +contextual -implicitDefEqProofs (maxSteps := 10000000) only [go_sem, seval, ↓gA, ↓gB, ↓gC, ↓gD, ↓gE, ↓gF]
              · rw [if_neg hto] at hp
                simp only [Bool.not_eq_true] at hto
                rw [hto] at et
                simp +contextual -implicitDefEqProofs (maxSteps := 10000000) only [go_sem, seval, ↓gA, ↓gB, ↓gC, ↓gD, ↓gE, ↓gF, hil, hc, hc0, hw, hiO, hy, hpy, et, ea]
                rw [← hp]
                rfl
          · have : i = sO.length := by omega
            subst this
            have hce := @cutGo_end (sO.map Line.Pane) (us.drop sO.length) o d
            rw [List.length_map] at hce
            rw [hce] at hp
            rw [← hp]
            simp +contextual -implicitDefEqProofs (maxSteps := 10000000) only [go_sem, seval, ↓gA, ↓gB, ↓gC, ↓gD, ↓gE, ↓gF, hil]
            rfl

end Go.Proofs.Ytcaaffdbjdabmaa
