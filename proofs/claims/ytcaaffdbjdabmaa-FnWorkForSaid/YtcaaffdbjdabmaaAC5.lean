/- Contracts of the functions, by the abstract semantics. -/
import Derived.Test.YtcaaffdbjdabmaaACode
import Derived.Test.YtcaaffdbjdabmaaAbsParts
import Derived.Test.YtcaaffdbjdabmaaAC4
namespace Go.Proofs.Ytcaaffdbjdabmaa
open Go Go.Abs Go.Abs.E Go.Abs.L
open Nat (reduceMul reduceSub reduceLeDiff reduceEqDiff)
open Int (reduceLE reduceEq reduceToNat reduceNeg)
set_option linter.unusedSimpArgs false
set_option linter.unusedVariables false
set_option maxRecDepth 20000
set_option maxHeartbeats 4000000
theorem s_planFor_step (cP : Int) (cT : Bool) (cX : Int) (cY : Int) (cW : Int) (cH : Int) (bX : Int) (bY : Int) (bW : Int) (bH : Int) (d : Bool) (x : Int) (r : List Int) (P : Plan) (hc : 0 ≤ cX ∧ cX ≤ 1000 ∧ 0 ≤ cY ∧ cY ≤ 1000 ∧ 1 ≤ cW ∧ cW ≤ 1000 ∧ 1 ≤ cH ∧ cH ≤ 1000) (hb : 0 ≤ bX ∧ 0 ≤ bY ∧ 1 ≤ bW ∧ 1 ≤ bH ∧ bX + bW ≤ 1000 ∧ bY + bH ≤ 1000) (hne : ¬ (cX = bX ∧ cY = bY ∧ cW = bW ∧ cH = bH))
    (h2 : d = false → edgeL cX (cX + cW) bX (bX + bW) = [])
    (he : (if d then edgeL cX (cX + cW) bX (bX + bW) else edgeL cY (cY + cH) bY (bY + bH)) = x :: r)
    (hn : if d then ¬ (cX < x ∧ x < cX + cW) else ¬ (cY < x ∧ x < cY + cH)) (hx : if d then bX < x ∧ x < bX + bW else bY < x ∧ x < bY + bH)
    (hp : vcall Xs Ms n_s_bothSides [.d (.sl (if true = decide ((if d then cX + cW else cY + cH) ≤ x) then [.agg [.int .i64 cP, .bool cT, .int .i64 cX, .int .i64 cY, .int .i64 cW, .int .i64 cH]] else [])), .d (.sl (if false = decide ((if d then cX + cW else cY + cH) ≤ x) then [.agg [.int .i64 cP, .bool cT, .int .i64 cX, .int .i64 cY, .int .i64 cW, .int .i64 cH]] else [])), (.d (.agg [.int .i64 bX, .int .i64 bY, .int .i64 bW, .int .i64 bH])), (.d (.int .i64 (opOf d))), (.d (.int .i64 (x - (if d then bX else bY))))] [] = some (planV P)) :
    vcall Xs Ms n_s_planFor [.d (.sl [.agg [.int .i64 cP, .bool cT, .int .i64 cX, .int .i64 cY, .int .i64 cW, .int .i64 cH]]), (.d (.agg [.int .i64 bX, .int .i64 bY, .int .i64 bW, .int .i64 bH]))] [] = some (planV P) := by
  have w1 := wi (bX + bW) (by omega) (by omega)
  have w2 := wi (bY + bH) (by omega) (by omega)
  have c2 : (0 : Int) < ((2 : Nat) : Int) := by omega
  obtain ⟨o, a, q, t, ks⟩ := P
  simp only [planV] at hp ⊢
  have e2 := s_edges_ev cP cT cX cY cW cH 2 cX cW bX (bX + bW) (.inl ⟨rfl, rfl, rfl⟩) hc hb.1 (by omega) (by omega)
  have e3 := s_edges_ev cP cT cX cY cW cH 3 cY cH bY (bY + bH) (.inr ⟨rfl, rfl, rfl⟩) hc hb.2.1 (by omega) (by omega)
  have hrl : r = [] ∨ ∃ y, r = [y] := by
    have h1 : (x :: r).length ≤ 2 := by
      rw [← he]
      cases d
      · exact edgeL_len _ _ _ _
      · exact edgeL_len _ _ _ _
    match r, h1 with
    | [], _ => exact .inl rfl
    | [y], _ => exact .inr ⟨y, rfl⟩
    | y :: z :: r, h1 => simp at h1
  cases d with
  | true =>
    simp only [if_true, opOf] at he hn hx hp
    rw [he] at e2
    have w3 := wi (x - bX) (by omega) (by omega)
    have p1 := s_part_ev cP cT cX cY cW cH 2 cX cW x true (.inl ⟨rfl, rfl, rfl⟩) hc hn
    have p2 := s_part_ev cP cT cX cY cW cH 2 cX cW x false (.inl ⟨rfl, rfl, rfl⟩) hc hn
    generalize hAe : (if true = decide (cX + cW ≤ x) then [D.agg [.int .i64 cP, .bool cT, .int .i64 cX, .int .i64 cY, .int .i64 cW, .int .i64 cH]] else []) = A at p1 hp
    have hA : uni 6 A := by rw [← hAe]; split <;> simp [uni, D.cells]
    generalize hBe : (if false = decide (cX + cW ≤ x) then [D.agg [.int .i64 cP, .bool cT, .int .i64 cX, .int .i64 cY, .int .i64 cW, .int .i64 cH]] else []) = B at p2 hp
    have hB : uni 6 B := by rw [← hBe]; split <;> simp [uni, D.cells]
    refine callE Xs Ms f_s_planFor x_s_planFor (by show 2 ≤ _; decide) ?_
    simp +contextual -implicitDefEqProofs (maxSteps := 10000000) only [go_sem, seval, ↓gA, ↓gB, ↓gC, ↓gD, ↓gE, ↓gF, f_s_planFor, hne, ← Bool.decide_and]
    refine LW_round Xs Ms ?_
    rcases hrl with rfl | ⟨y, rfl⟩
    · simp only [List.map_cons, List.map_nil, encI] at e2
      simp +contextual -implicitDefEqProofs (maxSteps := 10000000) only [go_sem, seval, ↓gA, ↓gB, ↓gC, ↓gD, ↓gE, ↓gF, w1, e2]
      refine LW_round Xs Ms ?_
      simp +contextual -implicitDefEqProofs (maxSteps := 10000000) only [go_sem, seval, ↓gA, ↓gB, ↓gC, ↓gD, ↓gE, ↓gF, p1, p2, w3, hp, hA, hB, c2]
    · simp only [List.map_cons, List.map_nil, encI] at e2
      simp +contextual -implicitDefEqProofs (maxSteps := 10000000) only [go_sem, seval, ↓gA, ↓gB, ↓gC, ↓gD, ↓gE, ↓gF, w1, e2]
      refine LW_round Xs Ms ?_
      simp +contextual -implicitDefEqProofs (maxSteps := 10000000) only [go_sem, seval, ↓gA, ↓gB, ↓gC, ↓gD, ↓gE, ↓gF, p1, p2, w3, hp, hA, hB, c2]
  | false =>
    simp only [Bool.false_eq_true, if_false, opOf] at he hn hx hp
    rw [h2 rfl] at e2
    rw [he] at e3
    simp only [List.map_nil] at e2
    have w3 := wi (x - bY) (by omega) (by omega)
    have p1 := s_part_ev cP cT cX cY cW cH 3 cY cH x true (.inr ⟨rfl, rfl, rfl⟩) hc hn
    have p2 := s_part_ev cP cT cX cY cW cH 3 cY cH x false (.inr ⟨rfl, rfl, rfl⟩) hc hn
    generalize hAe : (if true = decide (cY + cH ≤ x) then [D.agg [.int .i64 cP, .bool cT, .int .i64 cX, .int .i64 cY, .int .i64 cW, .int .i64 cH]] else []) = A at p1 hp
    have hA : uni 6 A := by rw [← hAe]; split <;> simp [uni, D.cells]
    generalize hBe : (if false = decide (cY + cH ≤ x) then [D.agg [.int .i64 cP, .bool cT, .int .i64 cX, .int .i64 cY, .int .i64 cW, .int .i64 cH]] else []) = B at p2 hp
    have hB : uni 6 B := by rw [← hBe]; split <;> simp [uni, D.cells]
    refine callE Xs Ms f_s_planFor x_s_planFor (by show 2 ≤ _; decide) ?_
    simp +contextual -implicitDefEqProofs (maxSteps := 10000000) only [go_sem, seval, ↓gA, ↓gB, ↓gC, ↓gD, ↓gE, ↓gF, f_s_planFor, hne, ← Bool.decide_and]
    refine LW_round Xs Ms ?_
    simp +contextual -implicitDefEqProofs (maxSteps := 10000000) only [go_sem, seval, ↓gA, ↓gB, ↓gC, ↓gD, ↓gE, ↓gF, w1, e2]
    refine LW_round Xs Ms ?_
    simp +contextual -implicitDefEqProofs (maxSteps := 10000000) only [go_sem, seval, ↓gA, ↓gB, ↓gC, ↓gD, ↓gE, ↓gF]
    refine LW_round Xs Ms ?_
    rcases hrl with rfl | ⟨y, rfl⟩
    · simp only [List.map_cons, List.map_nil, encI] at e3
      simp +contextual -implicitDefEqProofs (maxSteps := 10000000) only [go_sem, seval, ↓gA, ↓gB, ↓gC, ↓gD, ↓gE, ↓gF, w1, w2, e3]
      refine LW_round Xs Ms ?_
      simp +contextual -implicitDefEqProofs (maxSteps := 10000000) only [go_sem, seval, ↓gA, ↓gB, ↓gC, ↓gD, ↓gE, ↓gF, p1, p2, w3, hp, hA, hB, c2]
    · simp only [List.map_cons, List.map_nil, encI] at e3
      simp +contextual -implicitDefEqProofs (maxSteps := 10000000) only [go_sem, seval, ↓gA, ↓gB, ↓gC, ↓gD, ↓gE, ↓gF, w1, w2, e3]
      refine LW_round Xs Ms ?_
      simp +contextual -implicitDefEqProofs (maxSteps := 10000000) only [go_sem, seval, ↓gA, ↓gB, ↓gC, ↓gD, ↓gE, ↓gF, p1, p2, w3, hp, hA, hB, c2]
def onePlan (i : Int) (t : Bool) (X Y W H bX bY bW bH : Int) : BT :=
  let t4 := if Y + H < bY + bH then BT.cut false H (.pane i t) .waste else .pane i t
  let t3 := if bY < Y then BT.cut false (Y - bY) .waste t4 else t4
  let t2 := if X + W < bX + bW then BT.cut true W t3 .waste else t3
  if bX < X then BT.cut true (X - bX) .waste t2 else t2
def inBx (X Y W H bX bY bW bH : Int) : Prop := 0 ≤ bX ∧ bX ≤ X ∧ 0 ≤ bY ∧ bY ≤ Y ∧ 1 ≤ W ∧ 1 ≤ H ∧ X + W ≤ bX + bW ∧ Y + H ≤ bY + bH ∧ bX + bW ≤ 1000 ∧ bY + bH ≤ 1000
theorem s_planFor_one4 (cP : Int) (cT : Bool) (cX : Int) (cY : Int) (cW : Int) (cH : Int) (bH : Int) (h : inBx cX cY cW cH cX cY cW bH) : vcall Xs Ms n_s_planFor [.d (.sl [.agg [.int .i64 cP, .bool cT, .int .i64 cX, .int .i64 cY, .int .i64 cW, .int .i64 cH]]), .d (.agg [.int .i64 cX, .int .i64 cY, .int .i64 cW, .int .i64 bH])] [] = some (planV (onePlan cP cT cX cY cW cH cX cY cW bH).plan) := by
  have hh := h
  unfold inBx at h
  unfold onePlan
  rw [if_neg (show ¬ cX < cX by omega), if_neg (show ¬ cX + cW < cX + cW by omega), if_neg (show ¬ cY < cY by omega)]
  by_cases hl : cY + cH < cY + bH
  · rw [if_pos hl]
    have hb := s_bothSides_ev [D.agg [.int .i64 cP, .bool cT, .int .i64 cX, .int .i64 cY, .int .i64 cW, .int .i64 cH]] [] cX cY cW bH false cH (.pane cP cT) .waste (by simp [uni, D.cells]) (by simp [uni]) (by unfold R64; omega) (by unfold R64; omega) (by unfold R64; omega) (by unfold R64; omega) (s_planFor_fill _ _ _ _ _ _) (s_planFor_nil _ _ _ _)
    refine s_planFor_step cP cT cX cY cW cH cX cY cW bH false (cY + cH) [] _ (by omega) (by omega) (by omega) (fun _ => ?_) ?_ ?_ ?_ ?_
    · unfold edgeL; rw [if_neg (by omega), if_neg (by omega)]; rfl
    · simp only [Bool.false_eq_true, if_false]
      unfold edgeL; rw [if_neg (by omega), if_pos (by omega)]; rfl
    · simp only [Bool.false_eq_true, if_false]; omega
    · simp only [Bool.false_eq_true, if_false]; omega
    · simp only [Bool.false_eq_true, if_false, Int.le_refl, decide_true, if_true]
      rw [show cY + cH - cY = cH by omega]
      exact hb
  · rw [if_neg hl]
    have : bH = cH := by omega
    subst this
    exact s_planFor_fill _ _ _ _ _ _
theorem s_planFor_one3 (cP : Int) (cT : Bool) (cX : Int) (cY : Int) (cW : Int) (cH : Int) (bY bH : Int) (h : inBx cX cY cW cH cX bY cW bH) : vcall Xs Ms n_s_planFor [.d (.sl [.agg [.int .i64 cP, .bool cT, .int .i64 cX, .int .i64 cY, .int .i64 cW, .int .i64 cH]]), .d (.agg [.int .i64 cX, .int .i64 bY, .int .i64 cW, .int .i64 bH])] [] = some (planV (onePlan cP cT cX cY cW cH cX bY cW bH).plan) := by
  by_cases hl : bY < cY
  · have h4 := s_planFor_one4 cP cT cX cY cW cH (bY + bH - cY) (by unfold inBx at h ⊢; omega)
    unfold inBx at h
    have e : onePlan cP cT cX cY cW cH cX bY cW bH = .cut false (cY - bY) .waste (onePlan cP cT cX cY cW cH cX cY cW (bY + bH - cY)) := by
      unfold onePlan
      rw [if_neg (show ¬ cX < cX by omega), if_neg (show ¬ cX + cW < cX + cW by omega), if_pos hl, if_neg (show ¬ cX < cX by omega), if_neg (show ¬ cX + cW < cX + cW by omega), if_neg (show ¬ cY < cY by omega), show cY + (bY + bH - cY) = bY + bH by omega]
    rw [e]
    generalize onePlan cP cT cX cY cW cH cX cY cW (bY + bH - cY) = Q at h4 ⊢
    have hb := s_bothSides_ev [] [D.agg [.int .i64 cP, .bool cT, .int .i64 cX, .int .i64 cY, .int .i64 cW, .int .i64 cH]] cX bY cW bH false (cY - bY) .waste Q (by simp [uni]) (by simp [uni, D.cells]) (by unfold R64; omega) (by unfold R64; omega) (by unfold R64; omega) (by unfold R64; omega) (s_planFor_nil _ _ _ _) (by
      simp only [Bool.false_eq_true, if_false]
      rw [show bY + (cY - bY) = cY by omega, show bH - (cY - bY) = bY + bH - cY by omega]
      exact h4)
    refine s_planFor_step cP cT cX cY cW cH cX bY cW bH false cY (if cY + cH < bY + bH then [cY + cH] else []) _ (by omega) (by omega) (by omega) (fun _ => ?_) ?_ ?_ ?_ ?_
    · unfold edgeL; rw [if_neg (by omega), if_neg (by omega)]; rfl
    · simp only [Bool.false_eq_true, if_false]
      unfold edgeL; rw [if_pos (by omega)]
      by_cases h5 : cY + cH < bY + bH
      · rw [if_pos (by omega), if_pos h5]; rfl
      · rw [if_neg (by omega), if_neg h5]; rfl
    · simp only [Bool.false_eq_true, if_false]; omega
    · simp only [Bool.false_eq_true, if_false]; omega
    · simp only [Bool.false_eq_true, if_false]
      rw [decide_eq_false (show ¬ cY + cH ≤ cY by omega)]
      simp only [Bool.true_eq_false, if_false, if_true]
      exact hb
  · unfold inBx at h
    have : bY = cY := by omega
    subst this
    exact s_planFor_one4 cP cT cX bY cW cH bH (by unfold inBx; omega)
theorem s_planFor_one2 (cP : Int) (cT : Bool) (cX : Int) (cY : Int) (cW : Int) (cH : Int) (bY bW bH : Int) (h : inBx cX cY cW cH cX bY bW bH) : vcall Xs Ms n_s_planFor [.d (.sl [.agg [.int .i64 cP, .bool cT, .int .i64 cX, .int .i64 cY, .int .i64 cW, .int .i64 cH]]), .d (.agg [.int .i64 cX, .int .i64 bY, .int .i64 bW, .int .i64 bH])] [] = some (planV (onePlan cP cT cX cY cW cH cX bY bW bH).plan) := by
  by_cases hl : cX + cW < cX + bW
  · have h3 := s_planFor_one3 cP cT cX cY cW cH bY bH (by unfold inBx at h ⊢; omega)
    unfold inBx at h
    have e : onePlan cP cT cX cY cW cH cX bY bW bH = .cut true cW (onePlan cP cT cX cY cW cH cX bY cW bH) .waste := by
      unfold onePlan
      rw [if_neg (show ¬ cX < cX by omega), if_pos hl, if_neg (show ¬ cX < cX by omega), if_neg (show ¬ cX + cW < cX + cW by omega)]
    rw [e]
    generalize onePlan cP cT cX cY cW cH cX bY cW bH = Q at h3 ⊢
    have hb := s_bothSides_ev [D.agg [.int .i64 cP, .bool cT, .int .i64 cX, .int .i64 cY, .int .i64 cW, .int .i64 cH]] [] cX bY bW bH true cW Q .waste (by simp [uni, D.cells]) (by simp [uni]) (by unfold R64; omega) (by unfold R64; omega) (by unfold R64; omega) (by unfold R64; omega) (by simp only [if_true]; exact h3) (s_planFor_nil _ _ _ _)
    refine s_planFor_step cP cT cX cY cW cH cX bY bW bH true (cX + cW) [] _ (by omega) (by omega) (by omega) (fun e => by cases e) ?_ ?_ ?_ ?_
    · simp only [if_true]
      unfold edgeL; rw [if_neg (by omega), if_pos (by omega)]; rfl
    · simp only [if_true]; omega
    · simp only [if_true]; omega
    · simp only [if_true, Int.le_refl, decide_true, Bool.false_eq_true, if_false]
      rw [show cX + cW - cX = cW by omega]
      exact hb
  · unfold inBx at h
    have : bW = cW := by omega
    subst this
    exact s_planFor_one3 cP cT cX cY bW cH bY bH (by unfold inBx; omega)
theorem s_planFor_one (cP : Int) (cT : Bool) (cX : Int) (cY : Int) (cW : Int) (cH : Int) (bX : Int) (bY : Int) (bW : Int) (bH : Int) (h : inBx cX cY cW cH bX bY bW bH) : vcall Xs Ms n_s_planFor [.d (.sl [.agg [.int .i64 cP, .bool cT, .int .i64 cX, .int .i64 cY, .int .i64 cW, .int .i64 cH]]), .d (.agg [.int .i64 bX, .int .i64 bY, .int .i64 bW, .int .i64 bH])] [] = some (planV (onePlan cP cT cX cY cW cH bX bY bW bH).plan) := by
  by_cases hl : bX < cX
  · have h2 := s_planFor_one2 cP cT cX cY cW cH bY (bX + bW - cX) bH (by unfold inBx at h ⊢; omega)
    unfold inBx at h
    have e : onePlan cP cT cX cY cW cH bX bY bW bH = .cut true (cX - bX) .waste (onePlan cP cT cX cY cW cH cX bY (bX + bW - cX) bH) := by
      unfold onePlan
      rw [if_pos hl, if_neg (show ¬ cX < cX by omega), show cX + (bX + bW - cX) = bX + bW by omega]
    rw [e]
    generalize onePlan cP cT cX cY cW cH cX bY (bX + bW - cX) bH = Q at h2 ⊢
    have hb := s_bothSides_ev [] [D.agg [.int .i64 cP, .bool cT, .int .i64 cX, .int .i64 cY, .int .i64 cW, .int .i64 cH]] bX bY bW bH true (cX - bX) .waste Q (by simp [uni]) (by simp [uni, D.cells]) (by unfold R64; omega) (by unfold R64; omega) (by unfold R64; omega) (by unfold R64; omega) (s_planFor_nil _ _ _ _) (by
      simp only [if_true]
      rw [show bX + (cX - bX) = cX by omega, show bW - (cX - bX) = bX + bW - cX by omega]
      exact h2)
    refine s_planFor_step cP cT cX cY cW cH bX bY bW bH true cX (if cX + cW < bX + bW then [cX + cW] else []) _ (by omega) (by omega) (by omega) (fun e => by cases e) ?_ ?_ ?_ ?_
    · simp only [if_true]
      unfold edgeL; rw [if_pos (by omega)]
      by_cases h5 : cX + cW < bX + bW
      · rw [if_pos (by omega), if_pos h5]; rfl
      · rw [if_neg (by omega), if_neg h5]; rfl
    · simp only [if_true]; omega
    · simp only [if_true]; omega
    · simp only [if_true]
      rw [decide_eq_false (show ¬ cX + cW ≤ cX by omega)]
      simp only [Bool.true_eq_false, if_false, if_true]
      exact hb
  · unfold inBx at h
    have : bX = cX := by omega
    subst this
    exact s_planFor_one2 cP cT bX cY cW cH bY bW bH (by unfold inBx; omega)

@[go_sem] theorem rep_5 {α : Type} (a : α) : List.replicate 5 a = [a, a, a, a, a] := rfl
@[go_sem] theorem rep_8 {α : Type} (a : α) : List.replicate 8 a = [a, a, a, a, a, a, a, a] := rfl
@[go_sem] theorem rep_15 {α : Type} (a : α) : List.replicate 15 a = [a, a, a, a, a, a, a, a, a, a, a, a, a, a, a] := rfl
theorem sortF_gt : ∀ {l : List Piece} {b : Int}, sortF b l → ∀ x ∈ l, b < x.Label
  | [], _, _, x, hx => by simp at hx
  | y :: l, b, h, x, hx => by
    rcases List.mem_cons.1 hx with rfl | hx
    · exact h.2.1
    · have := sortF_gt h.2.2 x hx
      have := h.2.1
      omega
theorem fLab_of : ∀ {l : List Piece} {b : Int} {k j : Nat} {x : Piece}, sortF b l → l[j]? = some x → fLab k l x.Label = ((k + j : Nat) : Int)
  | [], _, k, j, x, _, hx => by simp at hx
  | y :: l, b, k, 0, x, h, hx => by
    simp only [List.getElem?_cons_zero, Option.some.injEq] at hx
    subst hx
    simp [fLab]
  | y :: l, b, k, j + 1, x, h, hx => by
    simp only [List.getElem?_cons_succ] at hx
    have h1 := sortF_gt h.2.2 x (List.mem_of_getElem? hx)
    unfold fLab
    rw [if_neg (by omega), fLab_of (k := k + 1) h.2.2 hx]
    congr 1
    omega
def cutE (i : Nat) (t : Bool) (b : Box) (q : Piece) : Event := ⟨3, q.Label, ⟨0, 0, 0, 0⟩, ⟨⟨0, 0, false, 0⟩, 0⟩, (onePlan i t b.X b.Y b.W b.H 0 0 q.W q.H).plan⟩
def cutEv (s : Shop) (i : Nat) (x : Line) : Option Event :=
  if findI s.Stock x.Pane < 0 then none else match s.Stock[(findI s.Stock x.Pane).toNat]? with
  | none => none
  | some q => match firstC q x.Pane.W x.Pane.H with
    | some b => some (cutE i false b q)
    | none => match firstC q x.Pane.H x.Pane.W with
      | some b => some (cutE i true b q)
      | none => none
def nextGo (s : Shop) : List Line → Nat → Option Event
  | [], _ => none
  | x :: r, i => match cutEv s i x with
    | some e => if (appE s e).isSome = true then some e else nextGo s r (i + 1)
    | none => nextGo s r (i + 1)
def nextC (s : Shop) : Option Event := nextGo s s.Opn 0
theorem nextGo_cons {s : Shop} {l : List Line} {k i : Nat} {x : Line} (hx : l[k]? = some x) : nextGo s (l.drop k) i = match cutEv s i x with
    | some e => if (appE s e).isSome = true then some e else nextGo s (l.drop (k + 1)) (i + 1)
    | none => nextGo s (l.drop (k + 1)) (i + 1) := by
  obtain ⟨h1, h2⟩ := List.getElem?_eq_some_iff.1 hx
  rw [List.drop_eq_getElem_cons h1, h2, nextGo]
theorem nextGo_end {s : Shop} {l : List Line} {i : Nat} : nextGo s (l.drop l.length) i = none := by simp [nextGo]
def nxV : Option Event → AV × List AObj
  | some ⟨k, l, ⟨x, y, w, h⟩, ⟨⟨pw, ph, pt, pk⟩, c⟩, .mk o a q t ks⟩ => (.tup [.agg [(.d (.int .i64 (k))), (.d (.int .i64 (l))), (.d (.int .i64 (x))), (.d (.int .i64 (y))), (.d (.int .i64 (w))), (.d (.int .i64 (h))), (.d (.int .i64 (pw))), (.d (.int .i64 (ph))), (.d (.bool (pt))), (.d (.int .i64 (pk))), (.d (.int .i64 (c))), (.d (.int .i64 (o))), (.d (.int .i64 (a))), (.d (.int .i64 (q))), (.d (.bool (t))), .own 0], (.d (.bool (true)))], [.row 5 (ks.map Plan.enc) true false])
  | none => (.tup [.agg [(.d (.int .i64 (0))), (.d (.int .i64 (0))), (.d (.int .i64 (0))), (.d (.int .i64 (0))), (.d (.int .i64 (0))), (.d (.int .i64 (0))), (.d (.int .i64 (0))), (.d (.int .i64 (0))), (.d (.bool (false))), (.d (.int .i64 (0))), (.d (.int .i64 (0))), (.d (.int .i64 (0))), (.d (.int .i64 (0))), (.d (.int .i64 (0))), (.d (.bool (false))), .own 0], (.d (.bool (false)))], [.row 5 [] true false])
theorem s_nextCut_ev (sS : List Piece) (sO : List Line) (sD : List Line) (sL : Int) (sC : Int) (hv : VShop (Shop.mk sS sO sD sL sC)) : vcall Xs Ms n_s_nextCut [(.d (.agg [.sl (sS.map Piece.enc), .sl (sO.map Line.enc), .sl (sD.map Line.enc), .int .i64 sL, .int .i64 sC]))] [] = some (nxV (nextC (Shop.mk sS sO sD sL sC))) := by
  have hO8 := hv.2.1.1
  have hS20 := hv.1.1
  simp only at hO8 hS20
  refine callE Xs Ms f_s_nextCut x_s_nextCut (by show 1 ≤ _; decide) ?_
  simp +contextual -implicitDefEqProofs (maxSteps := 10000000) only [go_sem, seval, ↓gA, ↓gB, ↓gC, ↓gD, ↓gE, ↓gF, f_s_nextCut]
  refine LW_over Xs Ms (st0 := ?st0) (α := Nat) (fun i => [(4, .d (.int .i64 (i : Int)))]) (fun _ => []) (fun i => i ≤ sO.length ∧ nextGo (Shop.mk sS sO sD sL sC) (sO.drop i) i = nextC (Shop.mk sS sO sD sL sC)) (fun i => sO.length - i) 0 ?hc ⟨by omega, by simp [nextC]⟩ ?h0 ?step
  case hc => simp +contextual -implicitDefEqProofs (maxSteps := 10000000) only [go_sem, seval, ↓gA, ↓gB, ↓gC, ↓gD, ↓gE, ↓gF] <;> exact rfl
  case h0 => rfl
  case step =>
    intro i ⟨hi, hp⟩ ih
    by_cases hlt : i < sO.length
    · obtain ⟨x, hx⟩ := get_lt hlt
      have hw := wrap_succ (k := i) (by omega)
      rw [nextGo_cons hx] at hp
      have hxv := VOrd_all hv.2.1 x (List.mem_of_getElem? hx)
      obtain ⟨⟨W, H, T, K⟩, C⟩ := x
      simp only at hxv
      have hWH : 1 ≤ W ∧ W ≤ 200 ∧ 1 ≤ H ∧ H ≤ 200 := ⟨hxv.1.1, hxv.1.2.1, hxv.1.2.2.1, hxv.1.2.2.2.1⟩
      have ef := s_FindPiece_ev sS W H T K hv.1 hxv.1
      unfold findP at ef
      rw [if_pos ⟨hv.1, hxv.1⟩] at ef
      unfold cutEv at hp
      simp only at hp
      rcases findI_ok sS ⟨W, H, T, K⟩ with h0 | ⟨j, q, hj, hq, hok⟩
      · rw [if_pos h0] at ef hp
        simp only at hp
        simp +contextual -implicitDefEqProofs (maxSteps := 10000000) only [go_sem, seval, ↓gA, ↓gB, ↓gC, ↓gD, ↓gE, ↓gF, hx, hlt, hw, ef]
        refine ih (i + 1) _ ⟨by omega, hp⟩ (by omega) ?_
        simp +contextual -implicitDefEqProofs (maxSteps := 10000000) only [go_sem, seval, ↓gA, ↓gB, ↓gC, ↓gD, ↓gE, ↓gF]
      · have hj0 : ¬ (j : Int) < 0 := by omega
        rw [hj, if_neg hj0, Int.toNat_natCast, hq] at ef hp
        simp only at hp ef
        have hqv := sortF_all hv.1.2 q (List.mem_of_getElem? hq)
        have hjl := (List.getElem?_eq_some_iff.1 hq).1
        have el := s_findLabel_ev sS q.Label (by omega)
        rw [fLab_of hv.1.2 hq, Nat.zero_add] at el
        have f1 := s_firstClear_ev q.Label q.W q.H q.Flaws W H hqv ⟨hWH.1, hWH.2.1⟩ hWH.2.2
        have f2 := s_firstClear_ev q.Label q.W q.H q.Flaws H W hqv hWH.2.2 ⟨hWH.1, hWH.2.1⟩
        have hqb := hqv.1
        have hpl : ∀ (t : Bool) (w h : Int) (b : Box), 1 ≤ w → 1 ≤ h → firstC q w h = some b → ∃ (o a p : Int) (t' : Bool) (ks : List Plan), (onePlan i t b.X b.Y b.W b.H 0 0 q.W q.H).plan = .mk o a p t' ks ∧ vcall Xs Ms n_s_planFor [.d (.sl [.agg [.int .i64 i, .bool t, .int .i64 b.X, .int .i64 b.Y, .int .i64 b.W, .int .i64 b.H]]), .d (.agg [.int .i64 0, .int .i64 0, .int .i64 q.W, .int .i64 q.H])] [] = some (.tup [.agg [(.d (.int .i64 (o))), (.d (.int .i64 (a))), (.d (.int .i64 (p))), (.d (.bool (t'))), .own 0], (.d (.bool (true)))], [.row 5 (ks.map Plan.enc) true false]) := fun t w h b hw1 hh1 hb => by
          obtain ⟨g1, g2, g3, g4, g5, g6, _⟩ := firstC_some hb
          have e := s_planFor_one i t b.X b.Y b.W b.H 0 0 q.W q.H (by unfold inBx; omega)
          cases hpp : (onePlan i t b.X b.Y b.W b.H 0 0 q.W q.H).plan with
          | mk o a p t' ks =>
            rw [hpp] at e
            exact ⟨o, a, p, t', ks, rfl, e⟩
        have hl1 : ¬ q.Label = 0 := by omega
        obtain ⟨qL, qW, qH, qF⟩ := q
        simp only at ef el f1 f2 hpl hl1 hp
        cases h1 : firstC ⟨qL, qW, qH, qF⟩ W H with
        | some b =>
          obtain ⟨o, a, p, t', ks, e1, e2⟩ := hpl false W H b (by omega) (by omega) h1
          rw [h1] at f1 hp
          unfold cutE at hp
          simp only [e1] at hp
          have ea := s_applyEvent_ev sS sO sD sL sC 3 qL 0 0 0 0 0 0 false 0 0 o a p t' ks hv (fun e => by cases e) (fun e => by cases e)
          obtain ⟨bX, bY, bW, bH⟩ := b
          unfold fcV at f1
          simp only at f1 e2 hp
          cases hap : appE (Shop.mk sS sO sD sL sC) ⟨3, qL, ⟨0, 0, 0, 0⟩, ⟨⟨0, 0, false, 0⟩, 0⟩, .mk o a p t' ks⟩ with
          | none =>
            rw [hap] at ea hp
            simp only [Option.isSome_none, Bool.false_eq_true, if_false] at hp
            unfold shV at ea
            simp +contextual -implicitDefEqProofs (maxSteps := 10000000) only [go_sem, seval, ↓gA, ↓gB, ↓gC, ↓gD, ↓gE, ↓gF, hx, hlt, hw, ef, el, f1, e2, ea, hl1, hjl, hq]
            refine ih (i + 1) _ ⟨by omega, hp⟩ (by omega) ?_
            simp +contextual -implicitDefEqProofs (maxSteps := 10000000) only [go_sem, seval, ↓gA, ↓gB, ↓gC, ↓gD, ↓gE, ↓gF]
          | some u =>
            rw [hap] at ea hp
            simp only [Option.isSome_some, if_true] at hp
            rw [← hp]
            unfold shV at ea
            unfold nxV
            simp +contextual -implicitDefEqProofs (maxSteps := 10000000) only [go_sem, seval, ↓gA, ↓gB, ↓gC, ↓gD, ↓gE, ↓gF, hx, hlt, hw, ef, el, f1, e2, ea, hl1, hjl, hq]
        | none =>
          rw [h1] at f1 hp
          unfold fcV at f1
          simp only at hp
          cases h2 : firstC ⟨qL, qW, qH, qF⟩ H W with
          | none =>
            exfalso
            unfold okP at hok
            simp only [h1, h2] at hok
            simp at hok
          | some b =>
            obtain ⟨o, a, p, t', ks, e1, e2⟩ := hpl true H W b (by omega) (by omega) h2
            rw [h2] at f2 hp
            unfold cutE at hp
            simp only [e1] at hp
            have ea := s_applyEvent_ev sS sO sD sL sC 3 qL 0 0 0 0 0 0 false 0 0 o a p t' ks hv (fun e => by cases e) (fun e => by cases e)
            obtain ⟨bX, bY, bW, bH⟩ := b
            unfold fcV at f2
            simp only at f2 e2 hp
            cases hap : appE (Shop.mk sS sO sD sL sC) ⟨3, qL, ⟨0, 0, 0, 0⟩, ⟨⟨0, 0, false, 0⟩, 0⟩, .mk o a p t' ks⟩ with
            | none =>
              rw [hap] at ea hp
              simp only [Option.isSome_none, Bool.false_eq_true, if_false] at hp
              unfold shV at ea
              simp +contextual -implicitDefEqProofs (maxSteps := 10000000) only [go_sem, seval, ↓gA, ↓gB, ↓gC, ↓gD, ↓gE, ↓gF, hx, hlt, hw, ef, el, f1, f2, e2, ea, hl1, hjl, hq]
              refine ih (i + 1) _ ⟨by omega, hp⟩ (by omega) ?_
              simp +contextual -implicitDefEqProofs (maxSteps := 10000000) only [go_sem, seval, ↓gA, ↓gB, ↓gC, ↓gD, ↓gE, ↓gF]
            | some u =>
              rw [hap] at ea hp
              simp only [Option.isSome_some, if_true] at hp
              rw [← hp]
              unfold shV at ea
              unfold nxV
              simp +contextual -implicitDefEqProofs (maxSteps := 10000000) only [go_sem, seval, ↓gA, ↓gB, ↓gC, ↓gD, ↓gE, ↓gF, hx, hlt, hw, ef, el, f1, f2, e2, ea, hl1, hjl, hq]
    · have : i = sO.length := by omega
      subst this
      rw [nextGo_end] at hp
      rw [← hp]
      unfold nxV
      simp +contextual -implicitDefEqProofs (maxSteps := 10000000) only [go_sem, seval, ↓gA, ↓gB, ↓gC, ↓gD, ↓gE, ↓gF]

theorem cutEv_kind {s : Shop} {i : Nat} {x : Line} {e : Event} (h : cutEv s i x = some e) : e.kind = 3 := by
  unfold cutEv at h
  split at h
  · cases h
  · split at h
    · cases h
    · split at h
      · cases h; rfl
      · split at h
        · cases h; rfl
        · cases h
theorem nextGo_kind {s : Shop} : ∀ {l : List Line} {i : Nat} {e : Event}, nextGo s l i = some e → e.kind = 3
  | [], i, e, h => by simp [nextGo] at h
  | x :: l, i, e, h => by
    unfold nextGo at h
    split at h
    · split at h
      · cases h; exact cutEv_kind (by assumption)
      · exact nextGo_kind h
    · exact nextGo_kind h
theorem s_somePane_ev (bs : List UInt8) (hb : bs.length ≤ 2000) (p : Nat) (hp : p < 900000000) : ∃ (W H : Int) (T : Bool) (K : Int), vcall Xs Ms n_s_somePane [.ptr 0 0] [.box [.d (.sl (bs.map encU)), (.d (.int .i64 (p)))]] = some (.d (.agg [.int .i64 W, .int .i64 H, .bool T, .int .i64 K]), [.box [.d (.sl (bs.map encU)), (.d (.int .i64 ((p + 4 : Nat))))]]) := by
  have p1 := s_pick_ev bs p 8 hb (by omega)
  have p2 := s_pick_ev bs (p + 1) 8 hb (by omega)
  have p3 := s_pick_ev bs (p + 2) 2 hb (by omega)
  have p4 := s_pick_ev bs (p + 3) 3 hb (by omega)
  generalize s_pick bs p 8 = a1 at p1
  generalize s_pick bs (p + 1) 8 = a2 at p2
  generalize s_pick bs (p + 2) 2 = a3 at p3
  generalize s_pick bs (p + 3) 3 = a4 at p4
  refine ⟨IntKind.i64.wrap (1 + a1), IntKind.i64.wrap (1 + a2), decide (a3 = 0), a4, ?_⟩
  refine callE Xs Ms f_s_somePane x_s_somePane (by show 1 ≤ _; decide) ?_
  simp +contextual -implicitDefEqProofs (maxSteps := 10000000) only [go_sem, seval, ↓gA, ↓gB, ↓gC, ↓gD, ↓gE, ↓gF, f_s_somePane, p1, p2, p3, p4]
def PEv (bs : List UInt8) (p : Nat) (r : AV × List AObj) : Prop := ∃ (K L X Y W H pW pH : Int) (pT : Bool) (pK C o a q : Int) (t : Bool) (ks : List Plan) (p' : Nat), (K = 0 → I5 W ∧ I5 H) ∧ p ≤ p' ∧ p' ≤ p + 10 ∧
  r = (.agg [(.d (.int .i64 (K))), (.d (.int .i64 (L))), (.d (.int .i64 (X))), (.d (.int .i64 (Y))), (.d (.int .i64 (W))), (.d (.int .i64 (H))), (.d (.int .i64 (pW))), (.d (.int .i64 (pH))), (.d (.bool (pT))), (.d (.int .i64 (pK))), (.d (.int .i64 (C))), (.d (.int .i64 (o))), (.d (.int .i64 (a))), (.d (.int .i64 (q))), (.d (.bool (t))), .own 1], [.box [.d (.sl (bs.map encU)), (.d (.int .i64 (p')))], .row 5 (ks.map Plan.enc) true false])
theorem s_someEvent_ev (bs : List UInt8) (hb : bs.length ≤ 2000) (p : Nat) (hp : p < 800000000) (sS : List Piece) (sO : List Line) (sD : List Line) (sL : Int) (sC : Int) (hv : VShop (Shop.mk sS sO sD sL sC)) : ∃ r, vcall Xs Ms n_s_someEvent [.ptr 0 0, (.d (.agg [.sl (sS.map Piece.enc), .sl (sO.map Line.enc), .sl (sD.map Line.enc), .int .i64 sL, .int .i64 sC]))] [.box [.d (.sl (bs.map encU)), (.d (.int .i64 (p)))]] = some r ∧ PEv bs p r := by
  have h20 := hv.1.1
  have h8 := hv.2.2.1.1
  simp only at h20 h8
  have eL := s_lastLabel_ev sS (by omega)
  have eN := s_nextCut_ev sS sO sD sL sC hv
  have hnk := fun e => @nextGo_kind (Shop.mk sS sO sD sL sC) sO 0 e
  generalize lastL sS = ll at eL
  refine callW Xs Ms f_s_someEvent x_s_someEvent (by show 2 ≤ _; decide) ?_
  by_cases h0 : (0 : Int) < (sS.length : Int)
  · have u0 := s_pick_ev bs p sS.length hb (by omega)
    have u1 := s_pick_nonneg bs p sS.length
    have u2 := s_pick_lt bs p sS.length (by omega)
    obtain ⟨i, hi⟩ : ∃ i : Nat, s_pick bs p (sS.length : Int) = (i : Int) := ⟨(s_pick bs p (sS.length : Int)).toNat, by omega⟩
    rw [hi] at u0 u2
    have hil : i < sS.length := by omega
    obtain ⟨x, hx⟩ := get_lt hil
    obtain ⟨lb, qW, qH, qF⟩ := x
    obtain ⟨p1, hp1⟩ : ∃ p1, p1 = p + 1 := ⟨_, rfl⟩
    rw [← hp1] at u0
    have c0 := s_pick_ev bs p1 9 hb (by omega)
    generalize s_pick bs p1 9 = c at c0
    by_cases k01 : c = 0 ∨ c = 1
    · obtain ⟨W, hW, eW⟩ := s_one_ev bs (p1 + 1) [20, 12, 30, 8] hb (by omega) (by decide)
      obtain ⟨H, hH, eH⟩ := s_one_ev bs (p1 + 2) [16, 10, 24, 8] hb (by omega) (by decide)
      have iW : I5 W := by simp only [List.mem_cons, List.not_mem_nil, or_false] at hW; unfold I5; omega
      have iH : I5 H := by simp only [List.mem_cons, List.not_mem_nil, or_false] at hH; unfold I5; omega
      simp only [List.map_cons, List.map_nil, encI] at eW eH
      rcases k01 with rfl | rfl
      · simp +contextual -implicitDefEqProofs (maxSteps := 10000000) only [go_sem, seval, ↓gA, ↓gB, ↓gC, ↓gD, ↓gE, ↓gF, f_s_someEvent, h0, u0, hil, hx, c0, eL, eW, eH]
        exact ⟨0, (IntKind.i64.wrap (ll + 1)), 0, 0, W, H, 0, 0, false, 0, 0, 0, 0, 0, false, [], (p1 + 3), fun _ => ⟨iW, iH⟩, by omega, by omega, rfl⟩
      · simp +contextual -implicitDefEqProofs (maxSteps := 10000000) only [go_sem, seval, ↓gA, ↓gB, ↓gC, ↓gD, ↓gE, ↓gF, f_s_someEvent, h0, u0, hil, hx, c0, eL, eW, eH]
        exact ⟨0, (IntKind.i64.wrap (ll + 1)), 0, 0, W, H, 0, 0, false, 0, 0, 0, 0, 0, false, [], (p1 + 3), fun _ => ⟨iW, iH⟩, by omega, by omega, rfl⟩
    · have k0 : ¬ c = 0 := fun h => k01 (.inl h)
      have k1 : ¬ c = 1 := fun h => k01 (.inr h)
      by_cases k2 : c = 2
      · obtain ⟨X, Y, W, H, eB⟩ := s_someBox_ev bs hb (p1 + 1) (by omega) 8 8
        subst k2
        simp +contextual -implicitDefEqProofs (maxSteps := 10000000) only [go_sem, seval, ↓gA, ↓gB, ↓gC, ↓gD, ↓gE, ↓gF, f_s_someEvent, h0, u0, hil, hx, c0, eB]
        exact ⟨1, lb, X, Y, W, H, 0, 0, false, 0, 0, 0, 0, 0, false, [], (p1 + 5), (fun e => by cases e), by omega, by omega, rfl⟩
      · by_cases k34 : c = 3 ∨ c = 4
        · obtain ⟨W, H, T, K, eP⟩ := s_somePane_ev bs hb (p1 + 1) (by omega)
          have c5 := s_pick_ev bs (p1 + 5) 3 hb (by omega)
          generalize s_pick bs (p1 + 5) 3 = v at c5
          rcases k34 with rfl | rfl
          · simp +contextual -implicitDefEqProofs (maxSteps := 10000000) only [go_sem, seval, ↓gA, ↓gB, ↓gC, ↓gD, ↓gE, ↓gF, f_s_someEvent, h0, u0, hil, hx, c0, eP, c5]
            exact ⟨2, 0, 0, 0, 0, 0, W, H, T, K, (IntKind.i64.wrap (1 + v)), 0, 0, 0, false, [], (p1 + 6), (fun e => by cases e), by omega, by omega, rfl⟩
          · simp +contextual -implicitDefEqProofs (maxSteps := 10000000) only [go_sem, seval, ↓gA, ↓gB, ↓gC, ↓gD, ↓gE, ↓gF, f_s_someEvent, h0, u0, hil, hx, c0, eP, c5]
            exact ⟨2, 0, 0, 0, 0, 0, W, H, T, K, (IntKind.i64.wrap (1 + v)), 0, 0, 0, false, [], (p1 + 6), (fun e => by cases e), by omega, by omega, rfl⟩
        · have k3 : ¬ c = 3 := fun h => k34 (.inl h)
          have k4 : ¬ c = 4 := fun h => k34 (.inr h)
          by_cases k5 : c = 5
          · subst k5
            by_cases hd : (0 : Int) < (sD.length : Int)
            · have d0 := s_pick_ev bs (p1 + 1) sD.length hb (by omega)
              have d1 := s_pick_nonneg bs (p1 + 1) sD.length
              have d2 := s_pick_lt bs (p1 + 1) sD.length (by omega)
              obtain ⟨j, hj⟩ : ∃ j : Nat, s_pick bs (p1 + 1) (sD.length : Int) = (j : Int) := ⟨(s_pick bs (p1 + 1) (sD.length : Int)).toNat, by omega⟩
              rw [hj] at d0 d2
              have hjl : j < sD.length := by omega
              obtain ⟨z, hz⟩ := get_lt hjl
              obtain ⟨⟨W, H, T, K⟩, C⟩ := z
              have d3 := s_pick_ev bs (p1 + 2) C hb (by omega)
              generalize s_pick bs (p1 + 2) C = v at d3
              simp +contextual -implicitDefEqProofs (maxSteps := 10000000) only [go_sem, seval, ↓gA, ↓gB, ↓gC, ↓gD, ↓gE, ↓gF, f_s_someEvent, h0, u0, hil, hx, c0, hd, d0, hjl, hz, d3]
              exact ⟨4, 0, 0, 0, 0, 0, W, H, T, K, (IntKind.i64.wrap (1 + v)), 0, 0, 0, false, [], (p1 + 3), (fun e => by cases e), by omega, by omega, rfl⟩
            · skip
              cases hN : nextC (Shop.mk sS sO sD sL sC) with
              | none =>
                rw [hN] at eN
                unfold nxV at eN
                simp +contextual -implicitDefEqProofs (maxSteps := 10000000) only [go_sem, seval, ↓gA, ↓gB, ↓gC, ↓gD, ↓gE, ↓gF, f_s_someEvent, h0, u0, hil, hx, c0, hd, eN, eL]
                exact ⟨0, (IntKind.i64.wrap (ll + 2)), 0, 0, 15, 11, 0, 0, false, 0, 0, 0, 0, 0, false, [], (p1 + 1), fun _ => ⟨by unfold I5; omega, by unfold I5; omega⟩, by omega, by omega, rfl⟩
              | some e =>
                have hk := hnk e hN
                rw [hN] at eN
                obtain ⟨k, l, ⟨x, y, w, h⟩, ⟨⟨pw, ph, pt, pk⟩, c9⟩, ⟨o, a, q, t, ks⟩⟩ := e
                unfold nxV at eN
                simp only at eN hk
                simp +contextual -implicitDefEqProofs (maxSteps := 10000000) only [go_sem, seval, ↓gA, ↓gB, ↓gC, ↓gD, ↓gE, ↓gF, f_s_someEvent, h0, u0, hil, hx, c0, hd, eN]
                exact ⟨k, l, x, y, w, h, pw, ph, pt, pk, c9, o, a, q, t, ks, (p1 + 1), fun e => by omega, by omega, by omega, rfl⟩
          · by_cases k6 : c = 6
            · subst k6
              have d3 := s_pick_ev bs (p1 + 1) 3 hb (by omega)
              generalize s_pick bs (p1 + 1) 3 = v at d3
              by_cases hv0 : v = 0
              · subst hv0
                simp +contextual -implicitDefEqProofs (maxSteps := 10000000) only [go_sem, seval, ↓gA, ↓gB, ↓gC, ↓gD, ↓gE, ↓gF, f_s_someEvent, h0, u0, hil, hx, c0, d3]
                exact ⟨5, lb, 0, 0, 0, 0, 0, 0, false, 0, 0, 0, 0, 0, false, [], (p1 + 2), (fun e => by cases e), by omega, by omega, rfl⟩
              · skip
                cases hN : nextC (Shop.mk sS sO sD sL sC) with
                | none =>
                  rw [hN] at eN
                  unfold nxV at eN
                  simp +contextual -implicitDefEqProofs (maxSteps := 10000000) only [go_sem, seval, ↓gA, ↓gB, ↓gC, ↓gD, ↓gE, ↓gF, f_s_someEvent, h0, u0, hil, hx, c0, d3, hv0, eN, eL]
                  exact ⟨0, (IntKind.i64.wrap (ll + 2)), 0, 0, 15, 11, 0, 0, false, 0, 0, 0, 0, 0, false, [], (p1 + 2), fun _ => ⟨by unfold I5; omega, by unfold I5; omega⟩, by omega, by omega, rfl⟩
                | some e =>
                  have hk := hnk e hN
                  rw [hN] at eN
                  obtain ⟨k, l, ⟨x, y, w, h⟩, ⟨⟨pw, ph, pt, pk⟩, c9⟩, ⟨o, a, q, t, ks⟩⟩ := e
                  unfold nxV at eN
                  simp only at eN hk
                  simp +contextual -implicitDefEqProofs (maxSteps := 10000000) only [go_sem, seval, ↓gA, ↓gB, ↓gC, ↓gD, ↓gE, ↓gF, f_s_someEvent, h0, u0, hil, hx, c0, d3, hv0, eN]
                  exact ⟨k, l, x, y, w, h, pw, ph, pt, pk, c9, o, a, q, t, ks, (p1 + 2), fun e => by omega, by omega, by omega, rfl⟩
            · skip
              cases hN : nextC (Shop.mk sS sO sD sL sC) with
              | none =>
                rw [hN] at eN
                unfold nxV at eN
                simp +contextual -implicitDefEqProofs (maxSteps := 10000000) only [go_sem, seval, ↓gA, ↓gB, ↓gC, ↓gD, ↓gE, ↓gF, f_s_someEvent, h0, u0, hil, hx, c0, k0, k1, k2, k3, k4, k5, k6, eN, eL]
                exact ⟨0, (IntKind.i64.wrap (ll + 2)), 0, 0, 15, 11, 0, 0, false, 0, 0, 0, 0, 0, false, [], (p1 + 1), fun _ => ⟨by unfold I5; omega, by unfold I5; omega⟩, by omega, by omega, rfl⟩
              | some e =>
                have hk := hnk e hN
                rw [hN] at eN
                obtain ⟨k, l, ⟨x, y, w, h⟩, ⟨⟨pw, ph, pt, pk⟩, c9⟩, ⟨o, a, q, t, ks⟩⟩ := e
                unfold nxV at eN
                simp only at eN hk
                simp +contextual -implicitDefEqProofs (maxSteps := 10000000) only [go_sem, seval, ↓gA, ↓gB, ↓gC, ↓gD, ↓gE, ↓gF, f_s_someEvent, h0, u0, hil, hx, c0, k0, k1, k2, k3, k4, k5, k6, eN]
                exact ⟨k, l, x, y, w, h, pw, ph, pt, pk, c9, o, a, q, t, ks, (p1 + 1), fun e => by omega, by omega, by omega, rfl⟩
  · skip
    have c0 := s_pick_ev bs p 9 hb (by omega)
    generalize s_pick bs p 9 = c at c0
    by_cases k01 : c = 0 ∨ c = 1
    · obtain ⟨W, hW, eW⟩ := s_one_ev bs (p + 1) [20, 12, 30, 8] hb (by omega) (by decide)
      obtain ⟨H, hH, eH⟩ := s_one_ev bs (p + 2) [16, 10, 24, 8] hb (by omega) (by decide)
      have iW : I5 W := by simp only [List.mem_cons, List.not_mem_nil, or_false] at hW; unfold I5; omega
      have iH : I5 H := by simp only [List.mem_cons, List.not_mem_nil, or_false] at hH; unfold I5; omega
      simp only [List.map_cons, List.map_nil, encI] at eW eH
      rcases k01 with rfl | rfl
      · simp +contextual -implicitDefEqProofs (maxSteps := 10000000) only [go_sem, seval, ↓gA, ↓gB, ↓gC, ↓gD, ↓gE, ↓gF, f_s_someEvent, h0, c0, eL, eW, eH]
        exact ⟨0, (IntKind.i64.wrap (ll + 1)), 0, 0, W, H, 0, 0, false, 0, 0, 0, 0, 0, false, [], (p + 3), fun _ => ⟨iW, iH⟩, by omega, by omega, rfl⟩
      · simp +contextual -implicitDefEqProofs (maxSteps := 10000000) only [go_sem, seval, ↓gA, ↓gB, ↓gC, ↓gD, ↓gE, ↓gF, f_s_someEvent, h0, c0, eL, eW, eH]
        exact ⟨0, (IntKind.i64.wrap (ll + 1)), 0, 0, W, H, 0, 0, false, 0, 0, 0, 0, 0, false, [], (p + 3), fun _ => ⟨iW, iH⟩, by omega, by omega, rfl⟩
    · have k0 : ¬ c = 0 := fun h => k01 (.inl h)
      have k1 : ¬ c = 1 := fun h => k01 (.inr h)
      by_cases k2 : c = 2
      · obtain ⟨X, Y, W, H, eB⟩ := s_someBox_ev bs hb (p + 1) (by omega) 8 8
        subst k2
        simp +contextual -implicitDefEqProofs (maxSteps := 10000000) only [go_sem, seval, ↓gA, ↓gB, ↓gC, ↓gD, ↓gE, ↓gF, f_s_someEvent, h0, c0, eB]
        exact ⟨1, 1, X, Y, W, H, 0, 0, false, 0, 0, 0, 0, 0, false, [], (p + 5), (fun e => by cases e), by omega, by omega, rfl⟩
      · by_cases k34 : c = 3 ∨ c = 4
        · obtain ⟨W, H, T, K, eP⟩ := s_somePane_ev bs hb (p + 1) (by omega)
          have c5 := s_pick_ev bs (p + 5) 3 hb (by omega)
          generalize s_pick bs (p + 5) 3 = v at c5
          rcases k34 with rfl | rfl
          · simp +contextual -implicitDefEqProofs (maxSteps := 10000000) only [go_sem, seval, ↓gA, ↓gB, ↓gC, ↓gD, ↓gE, ↓gF, f_s_someEvent, h0, c0, eP, c5]
            exact ⟨2, 0, 0, 0, 0, 0, W, H, T, K, (IntKind.i64.wrap (1 + v)), 0, 0, 0, false, [], (p + 6), (fun e => by cases e), by omega, by omega, rfl⟩
          · simp +contextual -implicitDefEqProofs (maxSteps := 10000000) only [go_sem, seval, ↓gA, ↓gB, ↓gC, ↓gD, ↓gE, ↓gF, f_s_someEvent, h0, c0, eP, c5]
            exact ⟨2, 0, 0, 0, 0, 0, W, H, T, K, (IntKind.i64.wrap (1 + v)), 0, 0, 0, false, [], (p + 6), (fun e => by cases e), by omega, by omega, rfl⟩
        · have k3 : ¬ c = 3 := fun h => k34 (.inl h)
          have k4 : ¬ c = 4 := fun h => k34 (.inr h)
          by_cases k5 : c = 5
          · subst k5
            by_cases hd : (0 : Int) < (sD.length : Int)
            · have d0 := s_pick_ev bs (p + 1) sD.length hb (by omega)
              have d1 := s_pick_nonneg bs (p + 1) sD.length
              have d2 := s_pick_lt bs (p + 1) sD.length (by omega)
              obtain ⟨j, hj⟩ : ∃ j : Nat, s_pick bs (p + 1) (sD.length : Int) = (j : Int) := ⟨(s_pick bs (p + 1) (sD.length : Int)).toNat, by omega⟩
              rw [hj] at d0 d2
              have hjl : j < sD.length := by omega
              obtain ⟨z, hz⟩ := get_lt hjl
              obtain ⟨⟨W, H, T, K⟩, C⟩ := z
              have d3 := s_pick_ev bs (p + 2) C hb (by omega)
              generalize s_pick bs (p + 2) C = v at d3
              simp +contextual -implicitDefEqProofs (maxSteps := 10000000) only [go_sem, seval, ↓gA, ↓gB, ↓gC, ↓gD, ↓gE, ↓gF, f_s_someEvent, h0, c0, hd, d0, hjl, hz, d3]
              exact ⟨4, 0, 0, 0, 0, 0, W, H, T, K, (IntKind.i64.wrap (1 + v)), 0, 0, 0, false, [], (p + 3), (fun e => by cases e), by omega, by omega, rfl⟩
            · skip
              cases hN : nextC (Shop.mk sS sO sD sL sC) with
              | none =>
                rw [hN] at eN
                unfold nxV at eN
                simp +contextual -implicitDefEqProofs (maxSteps := 10000000) only [go_sem, seval, ↓gA, ↓gB, ↓gC, ↓gD, ↓gE, ↓gF, f_s_someEvent, h0, c0, hd, eN, eL]
                exact ⟨0, (IntKind.i64.wrap (ll + 2)), 0, 0, 15, 11, 0, 0, false, 0, 0, 0, 0, 0, false, [], (p + 1), fun _ => ⟨by unfold I5; omega, by unfold I5; omega⟩, by omega, by omega, rfl⟩
              | some e =>
                have hk := hnk e hN
                rw [hN] at eN
                obtain ⟨k, l, ⟨x, y, w, h⟩, ⟨⟨pw, ph, pt, pk⟩, c9⟩, ⟨o, a, q, t, ks⟩⟩ := e
                unfold nxV at eN
                simp only at eN hk
                simp +contextual -implicitDefEqProofs (maxSteps := 10000000) only [go_sem, seval, ↓gA, ↓gB, ↓gC, ↓gD, ↓gE, ↓gF, f_s_someEvent, h0, c0, hd, eN]
                exact ⟨k, l, x, y, w, h, pw, ph, pt, pk, c9, o, a, q, t, ks, (p + 1), fun e => by omega, by omega, by omega, rfl⟩
          · by_cases k6 : c = 6
            · subst k6
              have d3 := s_pick_ev bs (p + 1) 3 hb (by omega)
              generalize s_pick bs (p + 1) 3 = v at d3
              by_cases hv0 : v = 0
              · subst hv0
                simp +contextual -implicitDefEqProofs (maxSteps := 10000000) only [go_sem, seval, ↓gA, ↓gB, ↓gC, ↓gD, ↓gE, ↓gF, f_s_someEvent, h0, c0, d3]
                exact ⟨5, 1, 0, 0, 0, 0, 0, 0, false, 0, 0, 0, 0, 0, false, [], (p + 2), (fun e => by cases e), by omega, by omega, rfl⟩
              · skip
                cases hN : nextC (Shop.mk sS sO sD sL sC) with
                | none =>
                  rw [hN] at eN
                  unfold nxV at eN
                  simp +contextual -implicitDefEqProofs (maxSteps := 10000000) only [go_sem, seval, ↓gA, ↓gB, ↓gC, ↓gD, ↓gE, ↓gF, f_s_someEvent, h0, c0, d3, hv0, eN, eL]
                  exact ⟨0, (IntKind.i64.wrap (ll + 2)), 0, 0, 15, 11, 0, 0, false, 0, 0, 0, 0, 0, false, [], (p + 2), fun _ => ⟨by unfold I5; omega, by unfold I5; omega⟩, by omega, by omega, rfl⟩
                | some e =>
                  have hk := hnk e hN
                  rw [hN] at eN
                  obtain ⟨k, l, ⟨x, y, w, h⟩, ⟨⟨pw, ph, pt, pk⟩, c9⟩, ⟨o, a, q, t, ks⟩⟩ := e
                  unfold nxV at eN
                  simp only at eN hk
                  simp +contextual -implicitDefEqProofs (maxSteps := 10000000) only [go_sem, seval, ↓gA, ↓gB, ↓gC, ↓gD, ↓gE, ↓gF, f_s_someEvent, h0, c0, d3, hv0, eN]
                  exact ⟨k, l, x, y, w, h, pw, ph, pt, pk, c9, o, a, q, t, ks, (p + 2), fun e => by omega, by omega, by omega, rfl⟩
            · skip
              cases hN : nextC (Shop.mk sS sO sD sL sC) with
              | none =>
                rw [hN] at eN
                unfold nxV at eN
                simp +contextual -implicitDefEqProofs (maxSteps := 10000000) only [go_sem, seval, ↓gA, ↓gB, ↓gC, ↓gD, ↓gE, ↓gF, f_s_someEvent, h0, c0, k0, k1, k2, k3, k4, k5, k6, eN, eL]
                exact ⟨0, (IntKind.i64.wrap (ll + 2)), 0, 0, 15, 11, 0, 0, false, 0, 0, 0, 0, 0, false, [], (p + 1), fun _ => ⟨by unfold I5; omega, by unfold I5; omega⟩, by omega, by omega, rfl⟩
              | some e =>
                have hk := hnk e hN
                rw [hN] at eN
                obtain ⟨k, l, ⟨x, y, w, h⟩, ⟨⟨pw, ph, pt, pk⟩, c9⟩, ⟨o, a, q, t, ks⟩⟩ := e
                unfold nxV at eN
                simp only at eN hk
                simp +contextual -implicitDefEqProofs (maxSteps := 10000000) only [go_sem, seval, ↓gA, ↓gB, ↓gC, ↓gD, ↓gE, ↓gF, f_s_someEvent, h0, c0, k0, k1, k2, k3, k4, k5, k6, eN]
                exact ⟨k, l, x, y, w, h, pw, ph, pt, pk, c9, o, a, q, t, ks, (p + 1), fun e => by omega, by omega, by omega, rfl⟩

theorem VShop_zero : VShop ⟨[], [], [], 0, 0⟩ := by
  refine ⟨⟨by simp, trivial⟩, ⟨by simp, trivial, by simp [sumC]⟩, ⟨by simp, trivial, by simp [sumC]⟩, ?_⟩
  simp [sumWH, sumA]
def PBook (bs : List UInt8) (p : Nat) (r : AV × List AObj) : Prop := ∃ (out : List Event) (S : List Piece) (O D : List Line) (L C : Int) (f : Bool) (p' : Nat), VShop ⟨S, O, D, L, C⟩ ∧ out.length ≤ 16 ∧ p ≤ p' ∧ p' ≤ p + 200 ∧
  r = (.tup [.own 1, .agg [.own 2, .own 3, .own 4, (.d (.int .i64 (L))), (.d (.int .i64 (C)))]], [.box [.d (.sl (bs.map encU)), (.d (.int .i64 (p')))], .row 16 (out.map Event.enc) true false, .row 4 (S.map Piece.enc) true f, .row 5 (O.map Line.enc) true f, .row 5 (D.map Line.enc) true f])
theorem s_someBook_ev (bs : List UInt8) (hb : bs.length ≤ 2000) (p : Nat) (hp : p < 700000000) (most : Int) : ∃ r, vcall Xs Ms n_s_someBook [.ptr 0 0, (.d (.int .i64 (most)))] [.box [.d (.sl (bs.map encU)), (.d (.int .i64 (p)))]] = some r ∧ PBook bs p r := by
  obtain ⟨n, hn, eN⟩ := s_one_ev bs p [8, 12, 5, 16, 0, 2] hb (by omega) (by decide)
  have hn' : 0 ≤ n ∧ n ≤ 16 := by simp only [List.mem_cons, List.not_mem_nil, or_false] at hn; omega
  simp only [List.map_cons, List.map_nil, encI] at eN
  refine callW Xs Ms f_s_someBook x_s_someBook (by show 2 ≤ _; decide) ?_
  simp +contextual -implicitDefEqProofs (maxSteps := 10000000) only [go_sem, seval, ↓gA, ↓gB, ↓gC, ↓gD, ↓gE, ↓gF, f_s_someBook, eN]
  refine LW_over Xs Ms (st0 := ?st0) (α := Int × List Event × Shop × Nat × Bool) (fun s => [(8, .d (.int .i64 s.1))]) (fun s => [(0, .box [.d (.sl (bs.map encU)), (.d (.int .i64 (s.2.2.2.1)))]), (1, .row 16 (s.2.1.map Event.enc) true false), (2, .box [.own 4, .own 5, .own 6, (.d (.int .i64 (s.2.2.1.Lost))), (.d (.int .i64 (s.2.2.1.Came)))]), (4, .row 4 (s.2.2.1.Stock.map Piece.enc) true s.2.2.2.2), (5, .row 5 (s.2.2.1.Opn.map Line.enc) true s.2.2.2.2), (6, .row 5 (s.2.2.1.Done.map Line.enc) true s.2.2.2.2)]) (fun s => 0 ≤ s.1 ∧ s.1 ≤ 16 ∧ (s.2.1.length : Int) ≤ 16 - s.1 ∧ VShop s.2.2.1 ∧ p + 1 ≤ s.2.2.2.1 ∧ (s.2.2.2.1 : Int) ≤ p + 1 + 10 * (16 - s.1)) (fun s => s.1.toNat) (n, [], ⟨[], [], [], 0, 0⟩, p + 1, false) ?hc ⟨hn'.1, hn'.2, by simp; omega, VShop_zero, by simp, by simp; omega⟩ ?h0 ?step
  case hc => simp +contextual -implicitDefEqProofs (maxSteps := 10000000) only [go_sem, seval, ↓gA, ↓gB, ↓gC, ↓gD, ↓gE, ↓gF] <;> exact rfl
  case h0 => rfl
  case step =>
    intro ⟨m, out, ⟨S, O, D, L, C⟩, pp, f⟩ ⟨i1, i2, i3, i4, i5, i6⟩ ih
    simp only at i1 i2 i3 i4 i5 i6
    by_cases hm : 0 < m
    · by_cases ho : (out.length : Int) < most
      · obtain ⟨r, eE, K, Lb, X, Y, W, H, pW, pH, pT, pK, Ct, o, a, q, t, ks, p', g1, g2, g3, rfl⟩ := s_someEvent_ev bs hb pp (by omega) S O D L C i4
        have ea := s_applyEvent_ev S O D L C K Lb X Y W H pW pH pT pK Ct o a q t ks i4 (fun e => (g1 e).1) (fun e => (g1 e).2)
        have hw := wi (m - 1) (by omega) (by omega)
        have hr : (out.length + 1) * 144 ≤ 140737488355328 ∧ out.length ≤ 140737488355327 := by omega
        cases hap : appE ⟨S, O, D, L, C⟩ ⟨K, Lb, ⟨X, Y, W, H⟩, ⟨⟨pW, pH, pT, pK⟩, Ct⟩, .mk o a q t ks⟩ with
        | none =>
          rw [hap] at ea
          unfold shV at ea
          simp +contextual -implicitDefEqProofs (maxSteps := 10000000) only [go_sem, seval, ↓gA, ↓gB, ↓gC, ↓gD, ↓gE, ↓gF, hm, ho, eE, ea, hw, hr]
          refine ih (m - 1, out, ⟨S, O, D, L, C⟩, p', true) _ ⟨by simp only; omega, by simp only; omega, by simp only; omega, i4, by simp only; omega, by simp only; omega⟩ (by simp only; omega) ?_
          simp +contextual -implicitDefEqProofs (maxSteps := 10000000) only [go_sem, seval, ↓gA, ↓gB, ↓gC, ↓gD, ↓gE, ↓gF]
        | some u =>
          have hvu := appE_valid hap
          rw [hap] at ea
          obtain ⟨S', O', D', L', C'⟩ := u
          unfold shV at ea
          simp only at ea
          simp +contextual -implicitDefEqProofs (maxSteps := 10000000) only [go_sem, seval, ↓gA, ↓gB, ↓gC, ↓gD, ↓gE, ↓gF, hm, ho, eE, ea, hw, hr]
          refine ih (m - 1, out ++ [⟨K, Lb, ⟨X, Y, W, H⟩, ⟨⟨pW, pH, pT, pK⟩, Ct⟩, .mk o a q t ks⟩], ⟨S', O', D', L', C'⟩, p', false) _ ⟨by simp only; omega, by simp only; omega, by simp only [List.length_append, List.length_cons, List.length_nil]; omega, hvu, by simp only; omega, by simp only; omega⟩ (by simp only; omega) ?_
          simp +contextual -implicitDefEqProofs (maxSteps := 10000000) only [go_sem, seval, ↓gA, ↓gB, ↓gC, ↓gD, ↓gE, ↓gF, List.map_append]
      · simp +contextual -implicitDefEqProofs (maxSteps := 10000000) only [go_sem, seval, ↓gA, ↓gB, ↓gC, ↓gD, ↓gE, ↓gF, hm, ho]
        exact ⟨out, S, O, D, L, C, f, pp, i4, by omega, by omega, by omega, rfl⟩
    · simp +contextual -implicitDefEqProofs (maxSteps := 10000000) only [go_sem, seval, ↓gA, ↓gB, ↓gC, ↓gD, ↓gE, ↓gF, hm]
      exact ⟨out, S, O, D, L, C, f, pp, i4, by omega, by omega, by omega, rfl⟩
def AnyS (s : Shop) : Prop := VSt s.Stock ∧ s.Opn.length ≤ 9 ∧ s.Done.length ≤ 8 ∧ -1 ≤ s.Lost ∧ s.Lost ≤ 900001 ∧ -1 ≤ s.Came ∧ s.Came ≤ 900001
theorem AnyS_SmS {s : Shop} (h : AnyS s) : SmS s := by
  obtain ⟨h1, h2, h3, h4, h5, h6, h7⟩ := h
  exact ⟨⟨by have := h1.1; omega, fun x hx => ⟨(VSt_small h1).2 x hx, VPc_R64 (sortF_all h1.2 x hx)⟩, by omega, by omega⟩, by have := h1.1; omega, by omega, by omega, by omega, by omega⟩
theorem VShop_any {s : Shop} (h : VShop s) : AnyS s := by
  obtain ⟨h1, h2, h3, h4, h5, h6, h7, h8⟩ := h
  exact ⟨h1, by have := h2.1; omega, h3.1, by omega, by omega, by omega, by omega⟩
def PAny (bs : List UInt8) (p : Nat) (r : AV × List AObj) : Prop := ∃ (S : List Piece) (O D : List Line) (L C : Int) (f g h : Bool) (p' : Nat), AnyS ⟨S, O, D, L, C⟩ ∧ p ≤ p' ∧ p' ≤ p + 300 ∧
  r = (.agg [.own 1, .own 2, .own 3, (.d (.int .i64 (L))), (.d (.int .i64 (C)))], [.box [.d (.sl (bs.map encU)), (.d (.int .i64 (p')))], .row 4 (S.map Piece.enc) true f, .row 5 (O.map Line.enc) true g, .row 5 (D.map Line.enc) true h])
theorem s_anyShop_ev (bs : List UInt8) (hb : bs.length ≤ 2000) (p : Nat) (hp : p < 600000000) : ∃ r, vcall Xs Ms n_s_anyShop [.ptr 0 0] [.box [.d (.sl (bs.map encU)), (.d (.int .i64 (p)))]] = some r ∧ PAny bs p r := by
  obtain ⟨r, eB, out, S, O, D, L, C, f, p', hv, h1, h2, h3, rfl⟩ := s_someBook_ev bs hb p (by omega) 20
  have hany := VShop_any hv
  obtain ⟨_, hO, _, hL1, hL2, hC1, hC2, _⟩ := hv
  have hO8 := hO.1
  obtain ⟨a1, a2, a3, a4, a5, a6, a7⟩ := hany
  simp only at a1 a2 a3 a4 a5 a6 a7 hO8 hL2
  have c0 := s_pick_ev bs p' 20 hb (by omega)
  generalize s_pick bs p' 20 = c at c0
  refine callW Xs Ms f_s_anyShop x_s_anyShop (by show 1 ≤ _; decide) ?_
  by_cases k0 : c = 0
  · subst k0
    have w := wi (L + 1) (by omega) (by omega)
    simp +contextual -implicitDefEqProofs (maxSteps := 10000000) only [go_sem, seval, ↓gA, ↓gB, ↓gC, ↓gD, ↓gE, ↓gF, f_s_anyShop, eB, c0, w]
    exact ⟨S, O, D, L + 1, C, _, _, _, p' + 1, ⟨a1, a2, a3, by simp only; omega, by simp only; omega, a6, a7⟩, by omega, by omega, rfl⟩
  · by_cases k1 : c = 1
    · subst k1
      obtain ⟨v, hv1, eV⟩ := s_one_ev bs (p' + 1) [-1, 900001, 0] hb (by omega) (by decide)
      have hvb : -1 ≤ v ∧ v ≤ 900001 := by simp only [List.mem_cons, List.not_mem_nil, or_false] at hv1; omega
      simp only [List.map_cons, List.map_nil, encI] at eV
      simp +contextual -implicitDefEqProofs (maxSteps := 10000000) only [go_sem, seval, ↓gA, ↓gB, ↓gC, ↓gD, ↓gE, ↓gF, f_s_anyShop, eB, c0, eV]
      exact ⟨S, O, D, L, v, _, _, _, p' + 2, ⟨a1, a2, a3, a4, a5, hvb.1, hvb.2⟩, by omega, by omega, rfl⟩
    · by_cases k2 : c = 2
      · subst k2
        have r1 : O.length * 40 ≤ 140737488355328 ∧ O.length ≤ 140737488355328 := by omega
        have r2 : (O.length + 1) * 40 ≤ 140737488355328 ∧ O.length ≤ 140737488355327 := by omega
        simp +contextual -implicitDefEqProofs (maxSteps := 10000000) only [go_sem, seval, ↓gA, ↓gB, ↓gC, ↓gD, ↓gE, ↓gF, f_s_anyShop, optL, eB, c0, r1, r2]
        refine ⟨S, O ++ [⟨⟨1, 1, false, 0⟩, 0⟩], D, L, C, f, false, f, p' + 1, ⟨a1, by simp only [List.length_append, List.length_cons, List.length_nil]; omega, a3, a4, a5, a6, a7⟩, by omega, by omega, ?_⟩
        simp [Line.enc]
      · simp +contextual -implicitDefEqProofs (maxSteps := 10000000) only [go_sem, seval, ↓gA, ↓gB, ↓gC, ↓gD, ↓gE, ↓gF, f_s_anyShop, eB, c0, k0, k1, k2]
        exact ⟨S, O, D, L, C, _, _, _, p' + 1, ⟨a1, a2, a3, a4, a5, a6, a7⟩, by omega, by omega, rfl⟩
def PDrS (r : AV × List AObj) : Prop := ∃ (S : List Piece) (O D : List Line) (L C : Int) (f g h : Bool), AnyS ⟨S, O, D, L, C⟩ ∧
  r = (.agg [.own 0, .own 1, .own 2, (.d (.int .i64 (L))), (.d (.int .i64 (C)))], [.row 4 (S.map Piece.enc) true f, .row 5 (O.map Line.enc) true g, .row 5 (D.map Line.enc) true h])
theorem s_DrawShopArea_ev (code : List UInt8) : ∃ r, vcall Xs Ms n_s_DrawShopArea [.d (.sl (code.map encU))] [] = some r ∧ PDrS r := by
  have hb : (code.take 2000).length ≤ 2000 := by simp; omega
  have en := s_newReader_ev code
  obtain ⟨r, e1, S, O, D, L, C, f, g, h, p', h1, h2, h3, rfl⟩ := s_anyShop_ev (code.take 2000) hb 0 (by omega)
  simp only [cast0] at e1
  generalize code.take 2000 = bs at *
  refine callW Xs Ms f_s_DrawShopArea x_s_DrawShopArea (by show 1 ≤ _; decide) ?_
  simp +contextual -implicitDefEqProofs (maxSteps := 10000000) only [go_sem, seval, ↓gA, ↓gB, ↓gC, ↓gD, ↓gE, ↓gF, f_s_DrawShopArea, en, e1]
  exact ⟨S, O, D, L, C, _, _, _, h1, rfl⟩
theorem s_DrawValidShop_ev (code : List UInt8) : ∃ r, vcall Xs Ms n_s_DrawValidShop [.d (.sl (code.map encU))] [] = some r ∧ PDrS r := by
  have hb : (code.take 2000).length ≤ 2000 := by simp; omega
  have en := s_newReader_ev code
  obtain ⟨r, e1, S, O, D, L, C, f, g, h, p', h1, h2, h3, rfl⟩ := s_anyShop_ev (code.take 2000) hb 0 (by omega)
  simp only [cast0] at e1
  generalize code.take 2000 = bs at *
  refine callW Xs Ms f_s_DrawValidShop x_s_DrawValidShop (by show 1 ≤ _; decide) ?_
  simp +contextual -implicitDefEqProofs (maxSteps := 10000000) only [go_sem, seval, ↓gA, ↓gB, ↓gC, ↓gD, ↓gE, ↓gF, f_s_DrawValidShop, en, e1]
  exact ⟨S, O, D, L, C, _, _, _, h1, rfl⟩
theorem l_FnShopArea_ev (code : List UInt8) : vcall Xs Ms n_l_FnShopArea [.d (.sl (code.map encU))] [] = some ((.d (.bool (true))), []) := by
  by_cases hlen : (1048576 : Int) < code.length
  · refine callE Xs Ms f_l_FnShopArea x_l_FnShopArea (by show 1 ≤ _; decide) ?_
    simp +contextual -implicitDefEqProofs (maxSteps := 10000000) only [go_sem, seval, ↓gA, ↓gB, ↓gC, ↓gD, ↓gE, ↓gF, f_l_FnShopArea, hlen]
  · obtain ⟨r, ed, S, O, D, L, C, f, g, h, hA, rfl⟩ := s_DrawShopArea_ev code
    have e1 := i_ShopArea_ev S O D L C
    have e2 := s_ShopArea_ev S O D L C (AnyS_SmS hA).1
    by_cases hv : VShop ⟨S, O, D, L, C⟩
    · have hsh : shA ⟨S, O, D, L, C⟩ = C := by unfold shA; rw [if_pos hv]
      rw [hsh] at e1 e2
      obtain ⟨v1, v2, v3, h1, h2, h3, h4, h5⟩ := hv
      simp only at v1 v2 v3 h1 h2 h3 h4 h5
      have e4 := i_StockArea_ev S v1
      have e5 := i_OrderArea_ev D v3
      have b1 := sumWH_small v1
      have b2 := sumA_small v3
      have u0 := wi (sumWH S + sumA D) (by omega) (by omega)
      have u1 := wi C (by omega) (by omega)
      have n0 : ¬ C < 0 := by omega
      refine callE Xs Ms f_l_FnShopArea x_l_FnShopArea (by show 1 ≤ _; decide) ?_
      simp +contextual -implicitDefEqProofs (maxSteps := 10000000) only [go_sem, seval, ↓gA, ↓gB, ↓gC, ↓gD, ↓gE, ↓gF, f_l_FnShopArea, hlen, ed, e1, e2, e4, e5, n0, u0, u1, h5]
    · have hsh : shA ⟨S, O, D, L, C⟩ = -1 := by unfold shA; rw [if_neg hv]
      rw [hsh] at e1 e2
      refine callE Xs Ms f_l_FnShopArea x_l_FnShopArea (by show 1 ≤ _; decide) ?_
      simp +contextual -implicitDefEqProofs (maxSteps := 10000000) only [go_sem, seval, ↓gA, ↓gB, ↓gC, ↓gD, ↓gE, ↓gF, f_l_FnShopArea, hlen, ed, e1, e2]
theorem i_ValidShop_zero : vcall Xs Ms n_i_ValidShop [.d (.agg [.sl [], .sl [], .sl [], .int .i64 0, .int .i64 0])] [] = some ((.d (.bool (true))), []) := by
  have e := i_ValidShop_ev [] [] [] 0 0
  rw [decide_eq_true VShop_zero] at e
  simpa using e
theorem l_FnValidShop_ev (code : List UInt8) : vcall Xs Ms n_l_FnValidShop [.d (.sl (code.map encU))] [] = some ((.d (.bool (true))), []) := by
  have nb : ∀ a b : Bool, binV .neq true (.d (.bool a)) (.d (.bool b)) = only1 (.d (.bool (!(a == b)))) := fun _ _ => rfl
  have bb : ∀ a b : Bool, binV .eql true (.d (.bool a)) (.d (.bool b)) = only1 (.d (.bool (a == b))) := fun _ _ => rfl
  by_cases hlen : (1048576 : Int) < code.length
  · refine callE Xs Ms f_l_FnValidShop x_l_FnValidShop (by show 1 ≤ _; decide) ?_
    simp +contextual -implicitDefEqProofs (maxSteps := 10000000) only [go_sem, seval, ↓gA, ↓gB, ↓gC, ↓gD, ↓gE, ↓gF, f_l_FnValidShop, hlen]
  · obtain ⟨r, ed, S, O, D, L, C, f, g, h, hA, rfl⟩ := s_DrawValidShop_ev code
    have e1 := i_ValidShop_ev S O D L C
    have e2 := s_ValidShop_ev S O D L C (AnyS_SmS hA).1
    by_cases hv : VShop ⟨S, O, D, L, C⟩
    · rw [decide_eq_true hv] at e1 e2
      have hv2 : VShop ⟨S, [], D, L, C⟩ := ⟨hv.1, VShop_zero.2.1, hv.2.2⟩
      have e3 := i_ValidShop_ev S [] D L C
      rw [decide_eq_true hv2] at e3
      have e4 := i_ShopArea_ev S O D L C
      have hsh : shA ⟨S, O, D, L, C⟩ = C := by unfold shA; rw [if_pos hv]
      rw [hsh] at e4
      have e5 := i_ValidShop_zero
      simp only [List.map_nil] at e3
      refine callE Xs Ms f_l_FnValidShop x_l_FnValidShop (by show 1 ≤ _; decide) ?_
      simp +contextual -implicitDefEqProofs (maxSteps := 10000000) only [go_sem, seval, ↓gA, ↓gB, ↓gC, ↓gD, ↓gE, ↓gF, f_l_FnValidShop, nb, bb, hlen, ed, e1, e2, e3, e4, e5]
    · rw [decide_eq_false hv] at e1 e2
      refine callE Xs Ms f_l_FnValidShop x_l_FnValidShop (by show 1 ≤ _; decide) ?_
      simp +contextual -implicitDefEqProofs (maxSteps := 10000000) only [go_sem, seval, ↓gA, ↓gB, ↓gC, ↓gD, ↓gE, ↓gF, f_l_FnValidShop, nb, bb, hlen, ed, e1, e2]

theorem l_equalPanes_ev (a b : List Pane) (ha : a.length < 4611686018427387904) : vcall Xs Ms n_l_equalPanes [(.d (.sl (a.map Pane.enc))), (.d (.sl (b.map Pane.enc)))] [] = some ((.d (.bool (decide (a = b)))), []) := by
  refine callE Xs Ms f_l_equalPanes x_l_equalPanes (by show 2 ≤ _; decide) ?_
  by_cases hl : a.length = b.length
  · simp +contextual -implicitDefEqProofs (maxSteps := 10000000) only [go_sem, seval, ↓gA, ↓gB, ↓gC, ↓gD, ↓gE, ↓gF, f_l_equalPanes, hl]
    refine LW_over Xs Ms (st0 := ?st0) (α := Nat) (fun k => [(5, .d (.int .i64 (k : Int)))]) (fun _ => []) (fun k => k ≤ b.length ∧ a.take k = b.take k) (fun k => b.length - k) 0 ?hc ⟨by omega, rfl⟩ ?h0 ?step
    case hc => simp +contextual -implicitDefEqProofs (maxSteps := 10000000) only [go_sem, seval, ↓gA, ↓gB, ↓gC, ↓gD, ↓gE, ↓gF, hl]; exact rfl
    case h0 => rfl
    case step =>
      intro k ⟨hk, hp⟩ ih
      by_cases hlt : k < b.length
      · obtain ⟨x, hx⟩ : ∃ x, a[k]? = some x := get_lt (by omega)
        obtain ⟨y, hy⟩ : ∃ y, b[k]? = some y := get_lt hlt
        have hw := wrap_succ (k := k) (by omega)
        have ht := take_succ_eq hx hy hp
        by_cases he : x = y
        · subst he
          obtain ⟨W, H, T, K⟩ := x
          simp +contextual -implicitDefEqProofs (maxSteps := 10000000) only [go_sem, seval, ↓gA, ↓gB, ↓gC, ↓gD, ↓gE, ↓gF, hx, hy, hlt, hl, hw]
          refine ih (k + 1) _ ⟨by omega, ht.2 rfl⟩ (by omega) ?_
          simp +contextual -implicitDefEqProofs (maxSteps := 10000000) only [go_sem, seval, ↓gA, ↓gB, ↓gC, ↓gD, ↓gE, ↓gF, hl]
        · have hne : ¬ a = b := fun e => he (ht.1 (by rw [e]))
          obtain ⟨W, H, T, K⟩ := x
          obtain ⟨W', H', T', K'⟩ := y
          simp only [Pane.mk.injEq] at he
          simp +contextual -implicitDefEqProofs (maxSteps := 10000000) only [go_sem, seval, ↓gA, ↓gB, ↓gC, ↓gD, ↓gE, ↓gF, hx, hy, hlt, hl, hw, he, hne]
      · have : a = b := by
          have h1 := hp
          rw [List.take_of_length_le (by omega), List.take_of_length_le (by omega)] at h1
          exact h1
        simp +contextual -implicitDefEqProofs (maxSteps := 10000000) only [go_sem, seval, ↓gA, ↓gB, ↓gC, ↓gD, ↓gE, ↓gF, hlt, hl, this]
  · have hne : ¬ a = b := fun e => hl (by rw [e])
    simp +contextual -implicitDefEqProofs (maxSteps := 10000000) only [go_sem, seval, ↓gA, ↓gB, ↓gC, ↓gD, ↓gE, ↓gF, f_l_equalPanes, hl, hne]
theorem l_equalWork_same (aW : Int) (aH : Int) (aP : List Pane) (hl : aP.length < 4611686018427387904) : vcall Xs Ms n_l_equalWork [(.d (.agg [.int .i64 aW, .int .i64 aH, .sl (aP.map Pane.enc)])), (.d (.agg [.int .i64 aW, .int .i64 aH, .sl (aP.map Pane.enc)]))] [] = some ((.d (.bool (true))), []) := by
  have e := l_equalPanes_ev aP aP hl
  simp only [decide_true] at e
  refine callE Xs Ms f_l_equalWork x_l_equalWork (by show 2 ≤ _; decide) ?_
  simp +contextual -implicitDefEqProofs (maxSteps := 10000000) only [go_sem, seval, ↓gA, ↓gB, ↓gC, ↓gD, ↓gE, ↓gF, f_l_equalWork, e]
def workE (s : Shop) (n : Int) : Option Work := if VShop s then (match pcAt s.Stock n with
  | some (_, q) => some ⟨q.W, q.H, s.Opn.map Line.Pane⟩
  | none => none) else none
def wkV : Option Work → AV × List AObj
  | some k => (.tup [.agg [(.d (.int .i64 (k.W))), (.d (.int .i64 (k.H))), .own 0], (.d (.bool (true)))], [.row 4 (k.Panes.map Pane.enc) true false])
  | none => (.tup [.agg [(.d (.int .i64 (0))), (.d (.int .i64 (0))), .own 0], (.d (.bool (false)))], [.row 4 [] true false])
theorem i_WorkFor_ev (sS : List Piece) (sO : List Line) (sD : List Line) (sL : Int) (sC : Int) (n : Int) : vcall Xs Ms n_i_WorkFor [(.d (.agg [.sl (sS.map Piece.enc), .sl (sO.map Line.enc), .sl (sD.map Line.enc), .int .i64 sL, .int .i64 sC])), (.d (.int .i64 (n)))] [] = some (wkV (workE (Shop.mk sS sO sD sL sC) n)) := by
  have e1 := i_ValidShop_ev sS sO sD sL sC
  unfold workE
  by_cases hv : VShop (Shop.mk sS sO sD sL sC)
  · rw [decide_eq_true hv] at e1
    rw [if_pos hv]
    have h20 := hv.1.1
    have h8 := hv.2.1.1
    simp only at h20 h8
    have e2 := i_findLabel_ev sS n (by omega)
    by_cases hf : fLab 0 sS n < 0
    · rw [pcAt_none hf]
      unfold wkV
      refine callE Xs Ms f_i_WorkFor x_i_WorkFor (by show 2 ≤ _; decide) ?_
      simp +contextual -implicitDefEqProofs (maxSteps := 10000000) only [go_sem, seval, ↓gA, ↓gB, ↓gC, ↓gD, ↓gE, ↓gF, f_i_WorkFor, e1, e2, hf]
    · obtain ⟨a, x, ha, hx⟩ := fLab_get (by omega : 0 ≤ fLab 0 sS n)
      rw [pcAt_some ha hx]
      rw [ha] at e2
      have ha0 : ¬ (a : Int) < 0 := by omega
      have hlt := (List.getElem?_eq_some_iff.1 hx).1
      obtain ⟨xL, xW, xH, xF⟩ := x
      unfold wkV
      refine callE Xs Ms f_i_WorkFor x_i_WorkFor (by show 2 ≤ _; decide) ?_
      simp +contextual -implicitDefEqProofs (maxSteps := 10000000) only [go_sem, seval, ↓gA, ↓gB, ↓gC, ↓gD, ↓gE, ↓gF, f_i_WorkFor, e1, e2, ha0, hlt, hx]
      refine LW_over Xs Ms (st0 := ?st0) (α := Nat) (fun i => [(37, .d (.int .i64 (i : Int)))]) (fun i => [(2, .row 4 (((sO.take i).map Line.Pane).map Pane.enc) true false)]) (fun i => i ≤ sO.length) (fun i => sO.length - i) 0 ?hc (by omega) ?h0 ?step
      case hc => simp +contextual -implicitDefEqProofs (maxSteps := 10000000) only [go_sem, seval, ↓gA, ↓gB, ↓gC, ↓gD, ↓gE, ↓gF] <;> exact rfl
      case h0 => rfl
      case step =>
        intro i hi ih
        by_cases hlt : i < sO.length
        · obtain ⟨x, hx⟩ := get_lt hlt
          have hw := wrap_succ (k := i) (by omega)
          have hm := panes_take hx
          have hlk : (sO.take i).length ≤ i := by simp; omega
          have hr : ((sO.take i).length + 1) * 32 ≤ 140737488355328 ∧ (sO.take i).length ≤ 140737488355327 := by omega
          obtain ⟨⟨W, H, T, K⟩, C⟩ := x
          simp only at hm
          simp +contextual -implicitDefEqProofs (maxSteps := 10000000) only [go_sem, seval, ↓gA, ↓gB, ↓gC, ↓gD, ↓gE, ↓gF, hx, hlt, hw, hr]
          refine ih (i + 1) _ (by omega) (by omega) ?_
          simp +contextual -implicitDefEqProofs (maxSteps := 10000000) only [go_sem, seval, ↓gA, ↓gB, ↓gC, ↓gD, ↓gE, ↓gF, hm]
          first | rfl | (simp; done) | (simp; rfl)
        · have : i = sO.length := by omega
          subst this
          simp +contextual -implicitDefEqProofs (maxSteps := 10000000) only [go_sem, seval, ↓gA, ↓gB, ↓gC, ↓gD, ↓gE, ↓gF]
          simp
  · rw [decide_eq_false hv] at e1
    rw [if_neg hv]
    unfold wkV
    refine callE Xs Ms f_i_WorkFor x_i_WorkFor (by show 2 ≤ _; decide) ?_
    simp +contextual -implicitDefEqProofs (maxSteps := 10000000) only [go_sem, seval, ↓gA, ↓gB, ↓gC, ↓gD, ↓gE, ↓gF, f_i_WorkFor, e1]
theorem s_WorkFor_ev (sS : List Piece) (sO : List Line) (sD : List Line) (sL : Int) (sC : Int) (n : Int) (hs : SmShop (Shop.mk sS sO sD sL sC)) : vcall Xs Ms n_s_WorkFor [(.d (.agg [.sl (sS.map Piece.enc), .sl (sO.map Line.enc), .sl (sD.map Line.enc), .int .i64 sL, .int .i64 sC])), (.d (.int .i64 (n)))] [] = some (wkV (workE (Shop.mk sS sO sD sL sC) n)) := by
  have e1 := s_validShop_ev sS sO sD sL sC hs
  unfold workE
  by_cases hv : VShop (Shop.mk sS sO sD sL sC)
  · rw [decide_eq_true hv] at e1
    rw [if_pos hv]
    have h20 := hv.1.1
    have h8 := hv.2.1.1
    simp only at h20 h8
    have e2 := s_findLabel_ev sS n (by omega)
    by_cases hf : fLab 0 sS n < 0
    · rw [pcAt_none hf]
      unfold wkV
      refine callE Xs Ms f_s_WorkFor x_s_WorkFor (by show 2 ≤ _; decide) ?_
      simp +contextual -implicitDefEqProofs (maxSteps := 10000000) only [go_sem, seval, ↓gA, ↓gB, ↓gC, ↓gD, ↓gE, ↓gF, f_s_WorkFor, e1, e2, hf]
    · obtain ⟨a, x, ha, hx⟩ := fLab_get (by omega : 0 ≤ fLab 0 sS n)
      rw [pcAt_some ha hx]
      rw [ha] at e2
      have ha0 : ¬ (a : Int) < 0 := by omega
      obtain ⟨xL, xW, xH, xF⟩ := x
      have e3 := s_workOf_ev sS sO sD sL sC a xL xW xH xF hx (by omega) (by omega)
      unfold wkV
      refine callE Xs Ms f_s_WorkFor x_s_WorkFor (by show 2 ≤ _; decide) ?_
      simp +contextual -implicitDefEqProofs (maxSteps := 10000000) only [go_sem, seval, ↓gA, ↓gB, ↓gC, ↓gD, ↓gE, ↓gF, f_s_WorkFor, e1, e2, ha0, e3]
  · rw [decide_eq_false hv] at e1
    rw [if_neg hv]
    unfold wkV
    refine callE Xs Ms f_s_WorkFor x_s_WorkFor (by show 2 ≤ _; decide) ?_
    simp +contextual -implicitDefEqProofs (maxSteps := 10000000) only [go_sem, seval, ↓gA, ↓gB, ↓gC, ↓gD, ↓gE, ↓gF, f_s_WorkFor, e1]
def PDrW (r : AV × List AObj) : Prop := ∃ (S : List Piece) (O D : List Line) (L C : Int) (f g h : Bool) (n : Int), AnyS ⟨S, O, D, L, C⟩ ∧
  r = (.tup [.agg [.own 0, .own 1, .own 2, (.d (.int .i64 (L))), (.d (.int .i64 (C)))], (.d (.int .i64 (n)))], [.row 4 (S.map Piece.enc) true f, .row 5 (O.map Line.enc) true g, .row 5 (D.map Line.enc) true h])
theorem s_DrawWorkFor_ev (code : List UInt8) : ∃ r, vcall Xs Ms n_s_DrawWorkFor [.d (.sl (code.map encU))] [] = some r ∧ PDrW r := by
  have hb : (code.take 2000).length ≤ 2000 := by simp; omega
  have en := s_newReader_ev code
  obtain ⟨r, e1, S, O, D, L, C, f, g, h, p', h1, h2, h3, rfl⟩ := s_anyShop_ev (code.take 2000) hb 0 (by omega)
  simp only [cast0] at e1
  generalize code.take 2000 = bs at *
  obtain ⟨n, _, eN⟩ := s_one_ev bs p' [1, 2, 3, 0, 99] hb (by omega) (by decide)
  simp only [List.map_cons, List.map_nil, encI] at eN
  have h20 := h1.1.1
  simp only at h20
  refine callW Xs Ms f_s_DrawWorkFor x_s_DrawWorkFor (by show 1 ≤ _; decide) ?_
  by_cases h0 : (0 : Int) < (S.length : Int)
  · have c0 := s_pick_ev bs (p' + 1) 3 hb (by omega)
    generalize s_pick bs (p' + 1) 3 = c at c0
    by_cases hc : 0 < c
    · have u0 := s_pick_ev bs (p' + 2) S.length hb (by omega)
      have u1 := s_pick_nonneg bs (p' + 2) S.length
      have u2 := s_pick_lt bs (p' + 2) S.length (by omega)
      obtain ⟨i, hi⟩ : ∃ i : Nat, s_pick bs (p' + 2) (S.length : Int) = (i : Int) := ⟨(s_pick bs (p' + 2) (S.length : Int)).toNat, by omega⟩
      rw [hi] at u0 u2
      have hil : i < S.length := by omega
      obtain ⟨x, hx⟩ := get_lt hil
      obtain ⟨lb, qW, qH, qF⟩ := x
      simp +contextual -implicitDefEqProofs (maxSteps := 10000000) only [go_sem, seval, ↓gA, ↓gB, ↓gC, ↓gD, ↓gE, ↓gF, f_s_DrawWorkFor, en, e1, eN, h0, c0, hc, u0, hil, hx]
      exact ⟨S, O, D, L, C, _, _, _, lb, h1, rfl⟩
    · simp +contextual -implicitDefEqProofs (maxSteps := 10000000) only [go_sem, seval, ↓gA, ↓gB, ↓gC, ↓gD, ↓gE, ↓gF, f_s_DrawWorkFor, en, e1, eN, h0, c0, hc]
      exact ⟨S, O, D, L, C, _, _, _, n, h1, rfl⟩
  · simp +contextual -implicitDefEqProofs (maxSteps := 10000000) only [go_sem, seval, ↓gA, ↓gB, ↓gC, ↓gD, ↓gE, ↓gF, f_s_DrawWorkFor, en, e1, eN, h0]
    exact ⟨S, O, D, L, C, _, _, _, n, h1, rfl⟩
theorem l_FnWorkFor_ev (code : List UInt8) : vcall Xs Ms n_l_FnWorkFor [.d (.sl (code.map encU))] [] = some ((.d (.bool (true))), []) := by
  have nb : ∀ a b : Bool, binV .neq true (.d (.bool a)) (.d (.bool b)) = only1 (.d (.bool (!(a == b)))) := fun _ _ => rfl
  have bb : ∀ a b : Bool, binV .eql true (.d (.bool a)) (.d (.bool b)) = only1 (.d (.bool (a == b))) := fun _ _ => rfl
  by_cases hlen : (1048576 : Int) < code.length
  · refine callE Xs Ms f_l_FnWorkFor x_l_FnWorkFor (by show 1 ≤ _; decide) ?_
    simp +contextual -implicitDefEqProofs (maxSteps := 10000000) only [go_sem, seval, ↓gA, ↓gB, ↓gC, ↓gD, ↓gE, ↓gF, f_l_FnWorkFor, hlen]
  · obtain ⟨r, ed, S, O, D, L, C, f, g, h, n, hA, rfl⟩ := s_DrawWorkFor_ev code
    have e1 := i_WorkFor_ev S O D L C n
    have e2 := s_WorkFor_ev S O D L C n (AnyS_SmS hA).1
    cases hw : workE ⟨S, O, D, L, C⟩ n with
    | none =>
      rw [hw] at e1 e2
      unfold wkV at e1 e2
      have e3 := l_equalWork_same 0 0 [] (by simp)
      simp only [List.map_nil] at e3
      refine callE Xs Ms f_l_FnWorkFor x_l_FnWorkFor (by show 1 ≤ _; decide) ?_
      simp +contextual -implicitDefEqProofs (maxSteps := 10000000) only [go_sem, seval, ↓gA, ↓gB, ↓gC, ↓gD, ↓gE, ↓gF, f_l_FnWorkFor, nb, bb, hlen, ed, e1, e2, e3]
    | some k =>
      have hk := hw
      rw [hw] at e1 e2
      unfold workE at hk
      by_cases hv : VShop ⟨S, O, D, L, C⟩
      · rw [if_pos hv] at hk
        have h8 := hv.2.1.1
        have h20 := hv.1.1
        simp only at h8 h20
        by_cases hf : fLab 0 S n < 0
        · simp only [pcAt_none hf] at hk
          cases hk
        · obtain ⟨a, x, ha, hx⟩ := fLab_get (by omega : 0 ≤ fLab 0 S n)
          simp only [pcAt_some ha hx] at hk
          cases hk
          have hxv := (sortF_all hv.1.2 x (List.mem_of_getElem? hx)).1
          obtain ⟨xL, xW, xH, xF⟩ := x
          simp only at hxv
          unfold wkV at e1 e2
          simp only at e1 e2
          have e3 := l_equalWork_same xW xH (O.map Line.Pane) (by simp; omega)
          have e4 := i_TakePiece_yes S n hv.1 a ha xL xW xH xF hx
          have e5 := i_ValidWork_ev xW xH (O.map Line.Pane)
          have hvw : VW ⟨xW, xH, O.map Line.Pane⟩ := by
            refine ⟨by simp only; omega, by simp only; omega, by simp only; omega, by simp only; omega, by simp; omega, fun q hq => ?_⟩
            obtain ⟨y, hy, rfl⟩ := List.mem_map.1 hq
            exact (VOrd_all hv.2.1 y hy).1
          rw [decide_eq_true hvw] at e5
          refine callE Xs Ms f_l_FnWorkFor x_l_FnWorkFor (by show 1 ≤ _; decide) ?_
          simp +contextual -implicitDefEqProofs (maxSteps := 10000000) only [go_sem, seval, ↓gA, ↓gB, ↓gC, ↓gD, ↓gE, ↓gF, f_l_FnWorkFor, nb, bb, hlen, ed, e1, e2, e3, e4]
          refine LW_over Xs Ms (st0 := ?st0) (α := Nat) (fun i => [(12, .d (.int .i64 (i : Int)))]) (fun _ => []) (fun i => i ≤ O.length) (fun i => O.length - i) 0 ?hc (by omega) ?h0 ?step
          case hc => simp +contextual -implicitDefEqProofs (maxSteps := 10000000) only [go_sem, seval, ↓gA, ↓gB, ↓gC, ↓gD, ↓gE, ↓gF] <;> exact rfl
          case h0 => rfl
          case step =>
            intro i hi ih
            by_cases hlt : i < O.length
            · obtain ⟨y, hy⟩ := get_lt hlt
              have hw := wrap_succ (k := i) (by omega)
              have hy2 : (O.map Line.Pane)[i]? = some y.Pane := by rw [List.getElem?_map, hy]; rfl
              obtain ⟨⟨W, H, T, K⟩, Ct⟩ := y
              simp only at hy2
              simp +contextual -implicitDefEqProofs (maxSteps := 10000000) only [go_sem, seval, ↓gA, ↓gB, ↓gC, ↓gD, ↓gE, ↓gF, hlt, hw, hy, hy2, List.length_map]
              refine ih (i + 1) _ (by omega) (by omega) ?_
              simp +contextual -implicitDefEqProofs (maxSteps := 10000000) only [go_sem, seval, ↓gA, ↓gB, ↓gC, ↓gD, ↓gE, ↓gF]
            · have : i = O.length := by omega
              subst this
              simp +contextual -implicitDefEqProofs (maxSteps := 10000000) only [go_sem, seval, ↓gA, ↓gB, ↓gC, ↓gD, ↓gE, ↓gF, List.length_map, e5]
      · rw [if_neg hv] at hk
        cases hk

end Go.Proofs.Ytcaaffdbjdabmaa
