/- Contracts of the functions, by the abstract semantics. -/
import Derived.Test.YtbodfpboklcgoaaECode
import Derived.Test.YtbodfpboklcgoaaAbsParts
import Derived.Test.YtbodfpboklcgoaaEC1
namespace Go.Proofs.Ytbodfpboklcgoaa
open Go Go.Abs Go.Abs.E Go.Abs.L
open Nat (reduceMul reduceSub reduceLeDiff reduceEqDiff)
open Int (reduceLE reduceEq reduceToNat reduceNeg)
set_option linter.unusedSimpArgs false
set_option linter.unusedVariables false
set_option maxRecDepth 20000
set_option maxHeartbeats 4000000
theorem i_addParts_own (ps : List Pane) : ∀ (b : BT) (gX : Int) (gY : Int) (gW : Int) (gH : Int) (xs : List D) (ex : Bool), inB (Box.mk gX gY gW gH) → fits ps b gW gH = true → xs.length + b.cnt ≤ 1000 →
    vcall Xs Ms n_i_addParts [.own 0, .d b.plan.enc, (.d (.agg [.int .i64 gX, .int .i64 gY, .int .i64 gW, .int .i64 gH]))] [.row 9 xs ex false] = some (.own 1, [.row 0 [] true false, .row 9 (xs ++ (pt b gX gY gW gH).map Part.enc) false false])
  | .waste, gX, gY, gW, gH, xs, ex, hg, hf, hl => by
    simp only [BT.cnt] at hl
    have h1 : (xs.length + 1) * 88 ≤ 140737488355328 ∧ xs.length ≤ 140737488355327 := by omega
    simp only [BT.plan, Plan.enc_mk, pt]
    refine callE Xs Ms f_i_addParts x_i_addParts (by show 3 ≤ _; decide) ?_
    simp +contextual -implicitDefEqProofs (maxSteps := 10000000) only [go_sem, seval, ↓gA, ↓gB, ↓gC, ↓gD, ↓gE, ↓gF, f_i_addParts, i_isCut_ev, h1]
  | .pane i t, gX, gY, gW, gH, xs, ex, hg, hf, hl => by
    simp only [BT.cnt] at hl
    have h1 : (xs.length + 1) * 88 ≤ 140737488355328 ∧ xs.length ≤ 140737488355327 := by omega
    simp only [BT.plan, Plan.enc_mk, pt]
    refine callE Xs Ms f_i_addParts x_i_addParts (by show 3 ≤ _; decide) ?_
    simp +contextual -implicitDefEqProofs (maxSteps := 10000000) only [go_sem, seval, ↓gA, ↓gB, ↓gC, ↓gD, ↓gE, ↓gF, f_i_addParts, i_isCut_ev, h1]
  | .cut d a l r, gX, gY, gW, gH, xs, ex, hg, hf, hl => by
    simp only [BT.cnt] at hl
    have h1 : (xs.length + 1) * 88 ≤ 140737488355328 ∧ xs.length ≤ 140737488355327 := by omega
    simp only [inB] at hg
    simp only [BT.plan, Plan.enc_mk]
    cases d with
    | true =>
      simp only [fits, Bool.and_eq_true, decide_eq_true_eq, if_true] at hf
      have e0 := i_splitBox_down 2 a 0 false [l.plan.enc, r.plan.enc] gX gY gW gH rfl ⟨by omega, by omega⟩ ⟨by omega, by omega⟩
      have e1 := i_addParts_own ps l gX gY a gH (xs ++ [.agg [.int .i64 2, .int .i64 a, .int .i64 0, .bool false, .sl [l.plan.enc, r.plan.enc], .int .i64 gX, .int .i64 gY, .int .i64 gW, .int .i64 gH]]) false (by simp only [inB]; omega) hf.1.2 (by simp only [List.length_append, List.length_cons, List.length_nil]; omega)
      have e2 := i_addParts_own ps r (gX + a) gY (gW - a) gH (xs ++ [.agg [.int .i64 2, .int .i64 a, .int .i64 0, .bool false, .sl [l.plan.enc, r.plan.enc], .int .i64 gX, .int .i64 gY, .int .i64 gW, .int .i64 gH]] ++ (pt l gX gY a gH).map Part.enc) false (by simp only [inB]; omega) hf.2 (by simp only [List.length_append, List.length_cons, List.length_nil, List.length_map, pt_len]; omega)
      refine callE Xs Ms f_i_addParts x_i_addParts (by show 3 ≤ _; decide) ?_
      simp +contextual -implicitDefEqProofs (maxSteps := 10000000) only [go_sem, seval, ↓gA, ↓gB, ↓gC, ↓gD, ↓gE, ↓gF, f_i_addParts, i_isCut_ev, h1, opOf, e0, e1, e2]
      simp [pt, opOf, BT.plan, Part.enc_mk]
    | false =>
      simp only [fits, Bool.and_eq_true, decide_eq_true_eq, Bool.false_eq_true, if_false] at hf
      have e0 := i_splitBox_across 3 a 0 false [l.plan.enc, r.plan.enc] gX gY gW gH (by decide) ⟨by omega, by omega⟩ ⟨by omega, by omega⟩
      have e1 := i_addParts_own ps l gX gY gW a (xs ++ [.agg [.int .i64 3, .int .i64 a, .int .i64 0, .bool false, .sl [l.plan.enc, r.plan.enc], .int .i64 gX, .int .i64 gY, .int .i64 gW, .int .i64 gH]]) false (by simp only [inB]; omega) hf.1.2 (by simp only [List.length_append, List.length_cons, List.length_nil]; omega)
      have e2 := i_addParts_own ps r gX (gY + a) gW (gH - a) (xs ++ [.agg [.int .i64 3, .int .i64 a, .int .i64 0, .bool false, .sl [l.plan.enc, r.plan.enc], .int .i64 gX, .int .i64 gY, .int .i64 gW, .int .i64 gH]] ++ (pt l gX gY gW a).map Part.enc) false (by simp only [inB]; omega) hf.2 (by simp only [List.length_append, List.length_cons, List.length_nil, List.length_map, pt_len]; omega)
      refine callE Xs Ms f_i_addParts x_i_addParts (by show 3 ≤ _; decide) ?_
      simp +contextual -implicitDefEqProofs (maxSteps := 10000000) only [go_sem, seval, ↓gA, ↓gB, ↓gC, ↓gD, ↓gE, ↓gF, f_i_addParts, i_isCut_ev, h1, opOf, e0, e1, e2]
      simp [pt, opOf, BT.plan, Part.enc_mk]
theorem i_addParts_nil (ps : List Pane) : ∀ (b : BT) (gX : Int) (gY : Int) (gW : Int) (gH : Int), inB (Box.mk gX gY gW gH) → fits ps b gW gH = true → b.cnt ≤ 1000 →
    vcall Xs Ms n_i_addParts [.nil, .d b.plan.enc, (.d (.agg [.int .i64 gX, .int .i64 gY, .int .i64 gW, .int .i64 gH]))] [] = some (.own 0, [.row 9 ((pt b gX gY gW gH).map Part.enc) false false])
  | .waste, gX, gY, gW, gH, hg, hf, hl => by
    have h1 : 1 * 88 ≤ roomMax ∧ 1 ≤ roomMax := by unfold roomMax; omega
    simp only [BT.plan, Plan.enc_mk, pt]
    refine callE Xs Ms f_i_addParts x_i_addParts (by show 3 ≤ _; decide) ?_
    simp +contextual -implicitDefEqProofs (maxSteps := 10000000) only [go_sem, seval, ↓gA, ↓gB, ↓gC, ↓gD, ↓gE, ↓gF, f_i_addParts, i_isCut_ev, h1]
  | .pane i t, gX, gY, gW, gH, hg, hf, hl => by
    have h1 : 1 * 88 ≤ roomMax ∧ 1 ≤ roomMax := by unfold roomMax; omega
    simp only [BT.plan, Plan.enc_mk, pt]
    refine callE Xs Ms f_i_addParts x_i_addParts (by show 3 ≤ _; decide) ?_
    simp +contextual -implicitDefEqProofs (maxSteps := 10000000) only [go_sem, seval, ↓gA, ↓gB, ↓gC, ↓gD, ↓gE, ↓gF, f_i_addParts, i_isCut_ev, h1]
  | .cut d a l r, gX, gY, gW, gH, hg, hf, hl => by
    simp only [BT.cnt] at hl
    have h1 : 1 * 88 ≤ roomMax ∧ 1 ≤ roomMax := by unfold roomMax; omega
    simp only [inB] at hg
    simp only [BT.plan, Plan.enc_mk]
    cases d with
    | true =>
      simp only [fits, Bool.and_eq_true, decide_eq_true_eq, if_true] at hf
      have e0 := i_splitBox_down 2 a 0 false [l.plan.enc, r.plan.enc] gX gY gW gH rfl ⟨by omega, by omega⟩ ⟨by omega, by omega⟩
      have e1 := i_addParts_own ps l gX gY a gH [.agg [.int .i64 2, .int .i64 a, .int .i64 0, .bool false, .sl [l.plan.enc, r.plan.enc], .int .i64 gX, .int .i64 gY, .int .i64 gW, .int .i64 gH]] false (by simp only [inB]; omega) hf.1.2 (by simp only [List.length_append, List.length_cons, List.length_nil]; omega)
      have e2 := i_addParts_own ps r (gX + a) gY (gW - a) gH (.agg [.int .i64 2, .int .i64 a, .int .i64 0, .bool false, .sl [l.plan.enc, r.plan.enc], .int .i64 gX, .int .i64 gY, .int .i64 gW, .int .i64 gH] :: (pt l gX gY a gH).map Part.enc) false (by simp only [inB]; omega) hf.2 (by simp only [List.length_append, List.length_cons, List.length_nil, List.length_map, pt_len]; omega)
      refine callE Xs Ms f_i_addParts x_i_addParts (by show 3 ≤ _; decide) ?_
      simp +contextual -implicitDefEqProofs (maxSteps := 10000000) only [go_sem, seval, ↓gA, ↓gB, ↓gC, ↓gD, ↓gE, ↓gF, f_i_addParts, i_isCut_ev, h1, opOf, e0, e1, e2]
      simp [pt, opOf, BT.plan, Part.enc_mk]
    | false =>
      simp only [fits, Bool.and_eq_true, decide_eq_true_eq, Bool.false_eq_true, if_false] at hf
      have e0 := i_splitBox_across 3 a 0 false [l.plan.enc, r.plan.enc] gX gY gW gH (by decide) ⟨by omega, by omega⟩ ⟨by omega, by omega⟩
      have e1 := i_addParts_own ps l gX gY gW a [.agg [.int .i64 3, .int .i64 a, .int .i64 0, .bool false, .sl [l.plan.enc, r.plan.enc], .int .i64 gX, .int .i64 gY, .int .i64 gW, .int .i64 gH]] false (by simp only [inB]; omega) hf.1.2 (by simp only [List.length_append, List.length_cons, List.length_nil]; omega)
      have e2 := i_addParts_own ps r gX (gY + a) gW (gH - a) (.agg [.int .i64 3, .int .i64 a, .int .i64 0, .bool false, .sl [l.plan.enc, r.plan.enc], .int .i64 gX, .int .i64 gY, .int .i64 gW, .int .i64 gH] :: (pt l gX gY gW a).map Part.enc) false (by simp only [inB]; omega) hf.2 (by simp only [List.length_append, List.length_cons, List.length_nil, List.length_map, pt_len]; omega)
      refine callE Xs Ms f_i_addParts x_i_addParts (by show 3 ≤ _; decide) ?_
      simp +contextual -implicitDefEqProofs (maxSteps := 10000000) only [go_sem, seval, ↓gA, ↓gB, ↓gC, ↓gD, ↓gE, ↓gF, f_i_addParts, i_isCut_ev, h1, opOf, e0, e1, e2]
      simp [pt, opOf, BT.plan, Part.enc_mk]

theorem i_partsOf_ev (kW : Int) (kH : Int) (kP : List Pane) (p : Plan) : vcall Xs Ms n_i_partsOf [(.d (.agg [.int .i64 kW, .int .i64 kH, .sl (kP.map Pane.enc)])), .d p.enc] [] = some (.own 0, [.row 9 ((partsL (Work.mk kW kH kP) p).map Part.enc) (!vplan (Work.mk kW kH kP) p) false]) := by
  have hv := i_ValidPlan_ev kW kH kP p
  unfold vplan at hv
  unfold partsL vplan
  cases hb : toBT p with
  | none =>
    rw [hb] at hv
    obtain ⟨o, a, q, t, ks⟩ := p
    rw [Plan.enc_mk] at hv ⊢
    refine callE Xs Ms f_i_partsOf x_i_partsOf (by show 2 ≤ _; decide) ?_
    simp +contextual -implicitDefEqProofs (maxSteps := 10000000) only [go_sem, seval, ↓gA, ↓gB, ↓gC, ↓gD, ↓gE, ↓gF, f_i_partsOf, hv]
    try rfl
  | some b =>
    have hp := toBT_some hb
    rw [hb] at hv
    dsimp only at hv ⊢
    by_cases hh : (decide (VW (Work.mk kW kH kP)) && decide (b.cnt ≤ 255) && fits kP b kW kH) = true
    · have hh' := hh
      simp only [Bool.and_eq_true, decide_eq_true_eq] at hh'
      have hw := hh'.1.1
      simp only [VW] at hw
      have hpt := i_addParts_nil kP b 0 0 kW kH (by simp only [inB]; omega) hh'.2 (by omega)
      rw [← hp] at hpt
      rw [hh] at hv ⊢
      obtain ⟨o, a, q, t, ks⟩ := p
      rw [Plan.enc_mk] at hv hpt ⊢
      refine callE Xs Ms f_i_partsOf x_i_partsOf (by show 2 ≤ _; decide) ?_
      simp +contextual -implicitDefEqProofs (maxSteps := 10000000) only [go_sem, seval, ↓gA, ↓gB, ↓gC, ↓gD, ↓gE, ↓gF, f_i_partsOf, i_sheetOf_ev, hv, hpt]
      try rfl
    · have hf := (Bool.not_eq_true _).mp hh
      rw [hf] at hv ⊢
      obtain ⟨o, a, q, t, ks⟩ := p
      rw [Plan.enc_mk] at hv ⊢
      refine callE Xs Ms f_i_partsOf x_i_partsOf (by show 2 ≤ _; decide) ?_
      simp +contextual -implicitDefEqProofs (maxSteps := 10000000) only [go_sem, seval, ↓gA, ↓gB, ↓gC, ↓gD, ↓gE, ↓gF, f_i_partsOf, hv]
      try rfl

theorem partsL_len (k : Work) (p : Plan) : (partsL k p).length ≤ 255 := by
  unfold partsL
  split
  · split
    · rename_i h
      simp only [Bool.and_eq_true, decide_eq_true_eq] at h
      rw [pt_len]; exact h.1.2
    · simp
  · simp
theorem i_PlacesOf_ev (kW : Int) (kH : Int) (kP : List Pane) (p : Plan) : vcall Xs Ms n_i_PlacesOf [(.d (.agg [.int .i64 kW, .int .i64 kH, .sl (kP.map Pane.enc)])), .d p.enc] [] = some (.own 0, [.row 6 (((partsL (Work.mk kW kH kP) p).filterMap asPlace).map Place.enc) true false]) := by
  have hv := i_partsOf_ev kW kH kP p
  have hn := partsL_len (Work.mk kW kH kP) p
  generalize (!vplan (Work.mk kW kH kP) p) = e at hv
  generalize partsL (Work.mk kW kH kP) p = ps at hv hn ⊢
  obtain ⟨o, a, q, t, ks⟩ := p
  rw [Plan.enc_mk] at hv ⊢
  refine callE Xs Ms f_i_PlacesOf x_i_PlacesOf (by show 2 ≤ _; decide) ?_
  simp +contextual -implicitDefEqProofs (maxSteps := 10000000) only [go_sem, seval, ↓gA, ↓gB, ↓gC, ↓gD, ↓gE, ↓gF, f_i_PlacesOf, hv]
  refine LW_over Xs Ms (st0 := ?st0) (α := Nat) (fun k => [(12, .d (.int .i64 (k : Int)))]) (fun k => [(1, .row 6 (((ps.take k).filterMap asPlace).map Place.enc) true false)]) (fun k => k ≤ ps.length) (fun k => ps.length - k) 0 ?hc (by omega) ?h0 ?step
  case hc => simp +contextual -implicitDefEqProofs (maxSteps := 10000000) only [go_sem, seval, ↓gA, ↓gB, ↓gC, ↓gD, ↓gE, ↓gF]; exact rfl
  case h0 => rfl
  case step =>
    intro k hk ih
    by_cases hlt : k < ps.length
    · obtain ⟨x, hx⟩ := get_lt hlt
      have hw := wrap_succ (k := k) (by omega)
      have hm := fm_take (f := asPlace) hx
      have hfl : ((ps.take k).filterMap asPlace).length ≤ k := Nat.le_trans (List.length_filterMap_le _ _) (by simp; omega)
      have hr : (((ps.take k).filterMap asPlace).length + 1) * 48 ≤ 140737488355328 ∧ ((ps.take k).filterMap asPlace).length ≤ 140737488355327 := by omega
      obtain ⟨⟨o', a', q', t', ks'⟩, ⟨X, Y, W, H⟩⟩ := x
      simp only [asPlace] at hm
      by_cases ho : o' = 1
      · rw [if_pos ho] at hm
        simp +contextual -implicitDefEqProofs (maxSteps := 10000000) only [go_sem, seval, ↓gA, ↓gB, ↓gC, ↓gD, ↓gE, ↓gF, hx, hlt, hw, ho, hr]
        refine ih (k + 1) _ (by omega) (by omega) ?_
        simp +contextual -implicitDefEqProofs (maxSteps := 10000000) only [go_sem, seval, ↓gA, ↓gB, ↓gC, ↓gD, ↓gE, ↓gF, hm]
        first | rfl | (simp; done) | (simp; rfl)
      · rw [if_neg ho] at hm
        simp +contextual -implicitDefEqProofs (maxSteps := 10000000) only [go_sem, seval, ↓gA, ↓gB, ↓gC, ↓gD, ↓gE, ↓gF, hx, hlt, hw, ho, hr]
        refine ih (k + 1) _ (by omega) (by omega) ?_
        simp +contextual -implicitDefEqProofs (maxSteps := 10000000) only [go_sem, seval, ↓gA, ↓gB, ↓gC, ↓gD, ↓gE, ↓gF, hm]
        first | rfl | (simp; done) | (simp; rfl)
    · have : k = ps.length := by omega
      subst this
      simp +contextual -implicitDefEqProofs (maxSteps := 10000000) only [go_sem, seval, ↓gA, ↓gB, ↓gC, ↓gD, ↓gE, ↓gF]
      simp
theorem i_WastesOf_ev (kW : Int) (kH : Int) (kP : List Pane) (p : Plan) : vcall Xs Ms n_i_WastesOf [(.d (.agg [.int .i64 kW, .int .i64 kH, .sl (kP.map Pane.enc)])), .d p.enc] [] = some (.own 0, [.row 4 (((partsL (Work.mk kW kH kP) p).filterMap asWaste).map Box.enc) true false]) := by
  have hv := i_partsOf_ev kW kH kP p
  have hn := partsL_len (Work.mk kW kH kP) p
  generalize (!vplan (Work.mk kW kH kP) p) = e at hv
  generalize partsL (Work.mk kW kH kP) p = ps at hv hn ⊢
  obtain ⟨o, a, q, t, ks⟩ := p
  rw [Plan.enc_mk] at hv ⊢
  refine callE Xs Ms f_i_WastesOf x_i_WastesOf (by show 2 ≤ _; decide) ?_
  simp +contextual -implicitDefEqProofs (maxSteps := 10000000) only [go_sem, seval, ↓gA, ↓gB, ↓gC, ↓gD, ↓gE, ↓gF, f_i_WastesOf, hv]
  refine LW_over Xs Ms (st0 := ?st0) (α := Nat) (fun k => [(12, .d (.int .i64 (k : Int)))]) (fun k => [(1, .row 4 (((ps.take k).filterMap asWaste).map Box.enc) true false)]) (fun k => k ≤ ps.length) (fun k => ps.length - k) 0 ?hc (by omega) ?h0 ?step
  case hc => simp +contextual -implicitDefEqProofs (maxSteps := 10000000) only [go_sem, seval, ↓gA, ↓gB, ↓gC, ↓gD, ↓gE, ↓gF]; exact rfl
  case h0 => rfl
  case step =>
    intro k hk ih
    by_cases hlt : k < ps.length
    · obtain ⟨x, hx⟩ := get_lt hlt
      have hw := wrap_succ (k := k) (by omega)
      have hm := fm_take (f := asWaste) hx
      have hfl : ((ps.take k).filterMap asWaste).length ≤ k := Nat.le_trans (List.length_filterMap_le _ _) (by simp; omega)
      have hr : (((ps.take k).filterMap asWaste).length + 1) * 32 ≤ 140737488355328 ∧ ((ps.take k).filterMap asWaste).length ≤ 140737488355327 := by omega
      obtain ⟨⟨o', a', q', t', ks'⟩, ⟨X, Y, W, H⟩⟩ := x
      simp only [asWaste] at hm
      by_cases ho : o' = 0
      · rw [if_pos ho] at hm
        simp +contextual -implicitDefEqProofs (maxSteps := 10000000) only [go_sem, seval, ↓gA, ↓gB, ↓gC, ↓gD, ↓gE, ↓gF, hx, hlt, hw, ho, hr]
        refine ih (k + 1) _ (by omega) (by omega) ?_
        simp +contextual -implicitDefEqProofs (maxSteps := 10000000) only [go_sem, seval, ↓gA, ↓gB, ↓gC, ↓gD, ↓gE, ↓gF, hm]
        first | rfl | (simp; done) | (simp; rfl)
      · rw [if_neg ho] at hm
        simp +contextual -implicitDefEqProofs (maxSteps := 10000000) only [go_sem, seval, ↓gA, ↓gB, ↓gC, ↓gD, ↓gE, ↓gF, hx, hlt, hw, ho, hr]
        refine ih (k + 1) _ (by omega) (by omega) ?_
        simp +contextual -implicitDefEqProofs (maxSteps := 10000000) only [go_sem, seval, ↓gA, ↓gB, ↓gC, ↓gD, ↓gE, ↓gF, hm]
        first | rfl | (simp; done) | (simp; rfl)
    · have : k = ps.length := by omega
      subst this
      simp +contextual -implicitDefEqProofs (maxSteps := 10000000) only [go_sem, seval, ↓gA, ↓gB, ↓gC, ↓gD, ↓gE, ↓gF]
      simp
theorem s_spread_ev (ps : List Pane) : ∀ (b : BT) (gX : Int) (gY : Int) (gW : Int) (gH : Int), inB (Box.mk gX gY gW gH) → fits ps b gW gH = true → b.cnt ≤ 1000 →
    vcall Xs Ms n_s_spread [.d b.plan.enc, (.d (.agg [.int .i64 gX, .int .i64 gY, .int .i64 gW, .int .i64 gH]))] [] = some (.own 0, [.row 6 ((sp b gX gY gW gH).map Place.enc) true false])
  | .waste, gX, gY, gW, gH, hg, hf, hl => by
    simp only [BT.plan, Plan.enc_mk, sp]
    refine callE Xs Ms f_s_spread x_s_spread (by show 2 ≤ _; decide) ?_
    simp +contextual -implicitDefEqProofs (maxSteps := 10000000) only [go_sem, seval, ↓gA, ↓gB, ↓gC, ↓gD, ↓gE, ↓gF, f_s_spread]
    try rfl
  | .pane i t, gX, gY, gW, gH, hg, hf, hl => by
    simp only [BT.plan, Plan.enc_mk, sp]
    refine callE Xs Ms f_s_spread x_s_spread (by show 2 ≤ _; decide) ?_
    simp +contextual -implicitDefEqProofs (maxSteps := 10000000) only [go_sem, seval, ↓gA, ↓gB, ↓gC, ↓gD, ↓gE, ↓gF, f_s_spread]
    try rfl
  | .cut d a l r, gX, gY, gW, gH, hg, hf, hl => by
    simp only [BT.cnt] at hl
    simp only [inB] at hg
    simp only [BT.plan, Plan.enc_mk]
    cases d with
    | true =>
      simp only [fits, Bool.and_eq_true, decide_eq_true_eq, if_true] at hf
      have w1 := wi (gX + a) (by omega) (by omega)
      have w2 := wi (gW - a) (by omega) (by omega)
      have l1 := sp_len l gX gY a gH
      have l2 := sp_len r (gX + a) gY (gW - a) gH
      have e1 := s_spread_ev ps l gX gY a gH (by simp only [inB]; omega) hf.1.2 (by omega)
      have e2 := s_spread_ev ps r (gX + a) gY (gW - a) gH (by simp only [inB]; omega) hf.2 (by omega)
      have h1 : ((sp l gX gY a gH).length + (sp r (gX + a) gY (gW - a) gH).length) * 48 ≤ 140737488355328 ∧ (sp l gX gY a gH).length + (sp r (gX + a) gY (gW - a) gH).length ≤ 140737488355328 := by omega
      refine callE Xs Ms f_s_spread x_s_spread (by show 2 ≤ _; decide) ?_
      simp +contextual -implicitDefEqProofs (maxSteps := 10000000) only [go_sem, seval, ↓gA, ↓gB, ↓gC, ↓gD, ↓gE, ↓gF, f_s_spread, opOf, w1, w2, h1, e1, e2]
      simp [sp]
    | false =>
      simp only [fits, Bool.and_eq_true, decide_eq_true_eq, Bool.false_eq_true, if_false] at hf
      have w1 := wi (gY + a) (by omega) (by omega)
      have w2 := wi (gH - a) (by omega) (by omega)
      have l1 := sp_len l gX gY gW a
      have l2 := sp_len r gX (gY + a) gW (gH - a)
      have e1 := s_spread_ev ps l gX gY gW a (by simp only [inB]; omega) hf.1.2 (by omega)
      have e2 := s_spread_ev ps r gX (gY + a) gW (gH - a) (by simp only [inB]; omega) hf.2 (by omega)
      have h1 : ((sp l gX gY gW a).length + (sp r gX (gY + a) gW (gH - a)).length) * 48 ≤ 140737488355328 ∧ (sp l gX gY gW a).length + (sp r gX (gY + a) gW (gH - a)).length ≤ 140737488355328 := by omega
      refine callE Xs Ms f_s_spread x_s_spread (by show 2 ≤ _; decide) ?_
      simp +contextual -implicitDefEqProofs (maxSteps := 10000000) only [go_sem, seval, ↓gA, ↓gB, ↓gC, ↓gD, ↓gE, ↓gF, f_s_spread, opOf, w1, w2, h1, e1, e2]
      simp [sp]

theorem i_pieceBox_ev (qL : Int) (qW : Int) (qH : Int) (qF : List Box) : vcall Xs Ms n_i_pieceBox [(.d (.agg [.int .i64 qL, .int .i64 qW, .int .i64 qH, .sl (qF.map Box.enc)]))] [] = some (.d (.agg [.int .i64 0, .int .i64 0, .int .i64 qW, .int .i64 qH]), []) := by
  refine callE Xs Ms f_i_pieceBox x_i_pieceBox (by show 1 ≤ _; decide) ?_
  simp +contextual -implicitDefEqProofs (maxSteps := 10000000) only [go_sem, seval, ↓gA, ↓gB, ↓gC, ↓gD, ↓gE, ↓gF, f_i_pieceBox]
theorem i_ValidPiece_ev (qL : Int) (qW : Int) (qH : Int) (qF : List Box) : vcall Xs Ms n_i_ValidPiece [(.d (.agg [.int .i64 qL, .int .i64 qW, .int .i64 qH, .sl (qF.map Box.enc)]))] [] = some ((.d (.bool (decide (VPc (Piece.mk qL qW qH qF))))), []) := by
  refine callE Xs Ms f_i_ValidPiece x_i_ValidPiece (by show 1 ≤ _; decide) ?_
  by_cases h0 : (((qL < 1 ∨ 9999 < qL) ∨ ¬ VB ⟨0, 0, qW, qH⟩) ∨ (6 : Int) < qF.length)
  · simp +contextual -implicitDefEqProofs (maxSteps := 10000000) only [go_sem, seval, ↓gA, ↓gB, ↓gC, ↓gD, ↓gE, ↓gF, f_i_ValidPiece, i_pieceBox_ev, i_ValidBox_ev, h0]
    exact fin_f (by simp only [VPc]; simp only [VB] at h0; omega)
  · simp +contextual -implicitDefEqProofs (maxSteps := 10000000) only [go_sem, seval, ↓gA, ↓gB, ↓gC, ↓gD, ↓gE, ↓gF, f_i_ValidPiece, i_pieceBox_ev, i_ValidBox_ev, h0]
    have hb : VB ⟨0, 0, qW, qH⟩ := by
      refine Decidable.byContradiction fun h => h0 (.inl (.inr h))
    refine LW_over Xs Ms (st0 := ?st0) (α := Nat) (fun k => [(28, .d (.int .i64 (k : Int)))]) (fun _ => []) (fun k => k ≤ qF.length ∧ ((∀ f ∈ qF, flawOk qW qH f) ↔ ∀ f ∈ qF.drop k, flawOk qW qH f)) (fun k => qF.length - k) 0 ?hc ⟨by omega, by simp⟩ ?h0 ?step
    case hc => simp +contextual -implicitDefEqProofs (maxSteps := 10000000) only [go_sem, seval, ↓gA, ↓gB, ↓gC, ↓gD, ↓gE, ↓gF]; exact rfl
    case h0 => rfl
    case step =>
      intro k ⟨hk, hp⟩ ih
      by_cases hlt : k < qF.length
      · obtain ⟨x, hx⟩ := get_lt hlt
        rw [all_drop hx] at hp
        have hw := wrap_succ (k := k) (by simp only [VB] at hb h0; omega)
        obtain ⟨X, Y, W, H⟩ := x
        simp +contextual -implicitDefEqProofs (maxSteps := 10000000) only [go_sem, seval, ↓gA, ↓gB, ↓gC, ↓gD, ↓gE, ↓gF, hx, hlt, hw, i_pieceBox_ev, i_InsideOf_ev, hb]
        refine ⟨fun h => fin_f (fun hh => h ((hp.1 hh.2).1)), fun h => ih (k + 1) _ ⟨by omega, ?_⟩ (by omega) ?_⟩
        · rw [hp]; exact ⟨fun hh => hh.2, fun hh => ⟨h, hh⟩⟩
        · simp +contextual -implicitDefEqProofs (maxSteps := 10000000) only [go_sem, seval, ↓gA, ↓gB, ↓gC, ↓gD, ↓gE, ↓gF]
      · have : k = qF.length := by omega
        subst this
        simp +contextual -implicitDefEqProofs (maxSteps := 10000000) only [go_sem, seval, ↓gA, ↓gB, ↓gC, ↓gD, ↓gE, ↓gF]
        have hv : ∀ f ∈ qF, flawOk qW qH f := hp.2 (by simp)
        exact fin_t (by simp only [VPc]; simp only [VB] at h0; exact ⟨by omega, hv⟩)
theorem s_validPiece_ev (qL : Int) (qW : Int) (qH : Int) (qF : List Box) (hl : qF.length < 4611686018427387904) (hW : R64 qW) (hH : R64 qH) : vcall Xs Ms n_s_validPiece [(.d (.agg [.int .i64 qL, .int .i64 qW, .int .i64 qH, .sl (qF.map Box.enc)]))] [] = some ((.d (.bool (decide (VPc (Piece.mk qL qW qH qF))))), []) := by
  refine callE Xs Ms f_s_validPiece x_s_validPiece (by show 1 ≤ _; decide) ?_
  simp +contextual -implicitDefEqProofs (maxSteps := 10000000) only [go_sem, seval, ↓gA, ↓gB, ↓gC, ↓gD, ↓gE, ↓gF, f_s_validPiece]
  refine LW_over Xs Ms (st0 := ?st0) (α := Nat) (fun k => [(3, .d (.int .i64 (k : Int)))]) (fun _ => []) (fun k => k ≤ qF.length ∧ ((∀ f ∈ qF, flawOk qW qH f) ↔ ∀ f ∈ qF.drop k, flawOk qW qH f)) (fun k => qF.length - k) 0 ?hc ⟨by omega, by simp⟩ ?h0 ?step
  case hc => simp +contextual -implicitDefEqProofs (maxSteps := 10000000) only [go_sem, seval, ↓gA, ↓gB, ↓gC, ↓gD, ↓gE, ↓gF]; exact rfl
  case h0 => rfl
  case step =>
    intro k ⟨hk, hp⟩ ih
    by_cases hlt : k < qF.length
    · obtain ⟨x, hx⟩ := get_lt hlt
      rw [all_drop hx] at hp
      have hw := wrap_succ (k := k) (by omega)
      obtain ⟨X, Y, W, H⟩ := x
      by_cases hv : VB ⟨X, Y, W, H⟩
      · have hi := s_insideOf_ev X Y W H 0 0 qW qH hv ⟨by omega, by omega⟩ ⟨by omega, by omega⟩ (by simpa using hW) (by simpa using hH)
        simp +contextual -implicitDefEqProofs (maxSteps := 10000000) only [go_sem, seval, ↓gA, ↓gB, ↓gC, ↓gD, ↓gE, ↓gF, hx, hlt, hw, s_validBox_ev, hi, hv]
        refine ⟨fun h => fin_f (fun hh => h ((hp.1 hh.2).1.2)), fun h => ih (k + 1) _ ⟨by omega, ?_⟩ (by omega) ?_⟩
        · rw [hp]; exact ⟨fun hh => hh.2, fun hh => ⟨⟨hv, h⟩, hh⟩⟩
        · simp +contextual -implicitDefEqProofs (maxSteps := 10000000) only [go_sem, seval, ↓gA, ↓gB, ↓gC, ↓gD, ↓gE, ↓gF]
      · simp +contextual -implicitDefEqProofs (maxSteps := 10000000) only [go_sem, seval, ↓gA, ↓gB, ↓gC, ↓gD, ↓gE, ↓gF, hx, hlt, hw, s_validBox_ev, hv]
        exact fin_f (fun hh => hv ((hp.1 hh.2).1.1))
    · have : k = qF.length := by omega
      subst this
      simp +contextual -implicitDefEqProofs (maxSteps := 10000000) only [go_sem, seval, ↓gA, ↓gB, ↓gC, ↓gD, ↓gE, ↓gF, s_inRange_ev]
      have hv : ∀ f ∈ qF, flawOk qW qH f := hp.2 (by simp)
      exact fin_b (by simp only [VPc]; exact ⟨fun h => ⟨by omega, hv⟩, fun h => by omega⟩)
theorem i_meetsFlaw_ev (fs : List Box) (bX : Int) (bY : Int) (bW : Int) (bH : Int) (hf : ∀ f ∈ fs, VB f) (hb : VB (Box.mk bX bY bW bH)) (hl : fs.length < 4611686018427387904) : vcall Xs Ms n_i_meetsFlaw [(.d (.sl (fs.map Box.enc))), (.d (.agg [.int .i64 bX, .int .i64 bY, .int .i64 bW, .int .i64 bH]))] [] = some ((.d (.bool (!decide (clearOf fs (Box.mk bX bY bW bH))))), []) := by
  refine callE Xs Ms f_i_meetsFlaw x_i_meetsFlaw (by show 2 ≤ _; decide) ?_
  simp +contextual -implicitDefEqProofs (maxSteps := 10000000) only [go_sem, seval, ↓gA, ↓gB, ↓gC, ↓gD, ↓gE, ↓gF, f_i_meetsFlaw]
  refine LW_over Xs Ms (st0 := ?st0) (α := Nat) (fun k => [(11, .d (.int .i64 (k : Int)))]) (fun _ => []) (fun k => k ≤ fs.length ∧ (clearOf fs (Box.mk bX bY bW bH) ↔ clearOf (fs.drop k) (Box.mk bX bY bW bH))) (fun k => fs.length - k) 0 ?hc ⟨by omega, by simp⟩ ?h0 ?step
  case hc => simp +contextual -implicitDefEqProofs (maxSteps := 10000000) only [go_sem, seval, ↓gA, ↓gB, ↓gC, ↓gD, ↓gE, ↓gF]; exact rfl
  case h0 => rfl
  case step =>
    intro k ⟨hk, hp⟩ ih
    by_cases hlt : k < fs.length
    · obtain ⟨x, hx⟩ := get_lt hlt
      have hx' := hx
      unfold clearOf at hp
      rw [all_drop hx (fun f => ¬ meets f (Box.mk bX bY bW bH))] at hp
      have hw := wrap_succ (k := k) (by omega)
      have hvx := hf x (List.mem_of_getElem? hx)
      obtain ⟨X, Y, W, H⟩ := x
      by_cases hm : meets ⟨X, Y, W, H⟩ (Box.mk bX bY bW bH)
      · simp +contextual -implicitDefEqProofs (maxSteps := 10000000) only [go_sem, seval, ↓gA, ↓gB, ↓gC, ↓gD, ↓gE, ↓gF, hx, hlt, hw, i_MeetOf_yes X Y W H bX bY bW bH hvx hb hm]
        have : ¬ clearOf fs (Box.mk bX bY bW bH) := fun hh => (hp.1 hh).1 hm
        simp [this]
      · simp +contextual -implicitDefEqProofs (maxSteps := 10000000) only [go_sem, seval, ↓gA, ↓gB, ↓gC, ↓gD, ↓gE, ↓gF, hx, hlt, hw, i_MeetOf_no X Y W H bX bY bW bH (fun hh => hm hh.2.2)]
        refine ih (k + 1) _ ⟨by omega, ?_⟩ (by omega) ?_
        · unfold clearOf; rw [hp]; exact ⟨fun hh => hh.2, fun hh => ⟨hm, hh⟩⟩
        · simp +contextual -implicitDefEqProofs (maxSteps := 10000000) only [go_sem, seval, ↓gA, ↓gB, ↓gC, ↓gD, ↓gE, ↓gF]
    · have : k = fs.length := by omega
      subst this
      simp +contextual -implicitDefEqProofs (maxSteps := 10000000) only [go_sem, seval, ↓gA, ↓gB, ↓gC, ↓gD, ↓gE, ↓gF]
      have : clearOf fs (Box.mk bX bY bW bH) := hp.2 (by simp [clearOf])
      simp [this]
theorem s_clearAt_ev (qL : Int) (qW : Int) (qH : Int) (qF : List Box) (bX : Int) (bY : Int) (bW : Int) (bH : Int) (hf : ∀ f ∈ qF, VB f) (hb : VB (Box.mk bX bY bW bH)) (hl : qF.length < 4611686018427387904) : vcall Xs Ms n_s_clearAt [(.d (.agg [.int .i64 qL, .int .i64 qW, .int .i64 qH, .sl (qF.map Box.enc)])), (.d (.agg [.int .i64 bX, .int .i64 bY, .int .i64 bW, .int .i64 bH]))] [] = some ((.d (.bool (decide (clearOf qF (Box.mk bX bY bW bH))))), []) := by
  refine callE Xs Ms f_s_clearAt x_s_clearAt (by show 2 ≤ _; decide) ?_
  simp +contextual -implicitDefEqProofs (maxSteps := 10000000) only [go_sem, seval, ↓gA, ↓gB, ↓gC, ↓gD, ↓gE, ↓gF, f_s_clearAt]
  refine LW_over Xs Ms (st0 := ?st0) (α := Nat) (fun k => [(5, .d (.int .i64 (k : Int)))]) (fun _ => []) (fun k => k ≤ qF.length ∧ (clearOf qF (Box.mk bX bY bW bH) ↔ clearOf (qF.drop k) (Box.mk bX bY bW bH))) (fun k => qF.length - k) 0 ?hc ⟨by omega, by simp⟩ ?h0 ?step
  case hc => simp +contextual -implicitDefEqProofs (maxSteps := 10000000) only [go_sem, seval, ↓gA, ↓gB, ↓gC, ↓gD, ↓gE, ↓gF]; exact rfl
  case h0 => rfl
  case step =>
    intro k ⟨hk, hp⟩ ih
    by_cases hlt : k < qF.length
    · obtain ⟨x, hx⟩ := get_lt hlt
      unfold clearOf at hp
      rw [all_drop hx (fun f => ¬ meets f (Box.mk bX bY bW bH))] at hp
      have hw := wrap_succ (k := k) (by omega)
      have hvx := hf x (List.mem_of_getElem? hx)
      obtain ⟨X, Y, W, H⟩ := x
      by_cases hm : meets ⟨X, Y, W, H⟩ (Box.mk bX bY bW bH)
      · simp +contextual -implicitDefEqProofs (maxSteps := 10000000) only [go_sem, seval, ↓gA, ↓gB, ↓gC, ↓gD, ↓gE, ↓gF, hx, hlt, hw, s_meetOf_yes X Y W H bX bY bW bH hvx hb hm]
        have : ¬ clearOf qF (Box.mk bX bY bW bH) := fun hh => (hp.1 hh).1 hm
        simp [this]
      · simp +contextual -implicitDefEqProofs (maxSteps := 10000000) only [go_sem, seval, ↓gA, ↓gB, ↓gC, ↓gD, ↓gE, ↓gF, hx, hlt, hw, s_meetOf_no X Y W H bX bY bW bH hvx hb hm]
        refine ih (k + 1) _ ⟨by omega, ?_⟩ (by omega) ?_
        · unfold clearOf; rw [hp]; exact ⟨fun hh => hh.2, fun hh => ⟨hm, hh⟩⟩
        · simp +contextual -implicitDefEqProofs (maxSteps := 10000000) only [go_sem, seval, ↓gA, ↓gB, ↓gC, ↓gD, ↓gE, ↓gF]
    · have : k = qF.length := by omega
      subst this
      simp +contextual -implicitDefEqProofs (maxSteps := 10000000) only [go_sem, seval, ↓gA, ↓gB, ↓gC, ↓gD, ↓gE, ↓gF]
      have : clearOf qF (Box.mk bX bY bW bH) := hp.2 (by simp [clearOf])
      simp [this]

theorem s_placesOf_ev (kW : Int) (kH : Int) (kP : List Pane) (p : Plan) (b : BT) (hp : p = b.plan) (hg : inB ⟨0, 0, kW, kH⟩) (hf : fits kP b kW kH = true) (hl : b.cnt ≤ 1000) : vcall Xs Ms n_s_placesOf [(.d (.agg [.int .i64 kW, .int .i64 kH, .sl (kP.map Pane.enc)])), .d p.enc] [] = some (.own 0, [.row 6 ((plc b 0 0 kW kH).map Place.enc) true false]) := by
  have e := s_spread_ev kP b 0 0 kW kH hg hf hl
  have hm := sp_places b 0 0 kW kH (fits_PN hf)
  have hn := sp_len b 0 0 kW kH
  rw [← hp] at e
  rw [← hm]
  clear hm
  generalize sp b 0 0 kW kH = S at e hn ⊢
  clear hp hf hg
  obtain ⟨o, a, q, t, ks⟩ := p
  rw [Plan.enc_mk] at e ⊢
  refine callE Xs Ms f_s_placesOf x_s_placesOf (by show 2 ≤ _; decide) ?_
  simp +contextual -implicitDefEqProofs (maxSteps := 10000000) only [go_sem, seval, ↓gA, ↓gB, ↓gC, ↓gD, ↓gE, ↓gF, f_s_placesOf, e]
  refine LW_over Xs Ms (st0 := ?st0) (α := Nat) (fun i => [(7, .d (.int .i64 (i : Int)))]) (fun i => [(1, .row 6 (((S.take i).filterMap spPlace).map Place.enc) true false)]) (fun i => i ≤ S.length) (fun i => S.length - i) 0 ?hc (by omega) ?h0 ?step
  case hc => simp +contextual -implicitDefEqProofs (maxSteps := 10000000) only [go_sem, seval, ↓gA, ↓gB, ↓gC, ↓gD, ↓gE, ↓gF]; exact rfl
  case h0 => rfl
  case step =>
    intro i hi ih
    by_cases hlt : i < S.length
    · obtain ⟨x, hx⟩ := get_lt hlt
      have hw := wrap_succ (k := i) (by omega)
      have hm := fm_take (f := spPlace) hx
      have hfl : ((S.take i).filterMap spPlace).length ≤ i := Nat.le_trans (List.length_filterMap_le _ _) (by simp; omega)
      have hr : (((S.take i).filterMap spPlace).length + 1) * 48 ≤ 140737488355328 ∧ ((S.take i).filterMap spPlace).length ≤ 140737488355327 := by omega
      obtain ⟨q', t', ⟨X, Y, W, H⟩⟩ := x
      simp only [spPlace] at hm
      by_cases ho : 0 ≤ q'
      · rw [if_pos ho] at hm
        simp +contextual -implicitDefEqProofs (maxSteps := 10000000) only [go_sem, seval, ↓gA, ↓gB, ↓gC, ↓gD, ↓gE, ↓gF, hx, hlt, hw, ho, hr]
        refine ih (i + 1) _ (by omega) (by omega) ?_
        simp +contextual -implicitDefEqProofs (maxSteps := 10000000) only [go_sem, seval, ↓gA, ↓gB, ↓gC, ↓gD, ↓gE, ↓gF, hm]
        first | rfl | (simp; done) | (simp; rfl)
      · rw [if_neg ho] at hm
        simp +contextual -implicitDefEqProofs (maxSteps := 10000000) only [go_sem, seval, ↓gA, ↓gB, ↓gC, ↓gD, ↓gE, ↓gF, hx, hlt, hw, ho, hr]
        refine ih (i + 1) _ (by omega) (by omega) ?_
        simp +contextual -implicitDefEqProofs (maxSteps := 10000000) only [go_sem, seval, ↓gA, ↓gB, ↓gC, ↓gD, ↓gE, ↓gF, hm]
        first | rfl | (simp; done) | (simp; rfl)
    · have : i = S.length := by omega
      subst this
      simp +contextual -implicitDefEqProofs (maxSteps := 10000000) only [go_sem, seval, ↓gA, ↓gB, ↓gC, ↓gD, ↓gE, ↓gF]
      simp
theorem s_wastesOf_ev (kW : Int) (kH : Int) (kP : List Pane) (p : Plan) (b : BT) (hp : p = b.plan) (hg : inB ⟨0, 0, kW, kH⟩) (hf : fits kP b kW kH = true) (hl : b.cnt ≤ 1000) : vcall Xs Ms n_s_wastesOf [(.d (.agg [.int .i64 kW, .int .i64 kH, .sl (kP.map Pane.enc)])), .d p.enc] [] = some (.own 0, [.row 4 ((wst b 0 0 kW kH).map Box.enc) true false]) := by
  have e := s_spread_ev kP b 0 0 kW kH hg hf hl
  have hm := sp_wastes b 0 0 kW kH (fits_PN hf)
  have hn := sp_len b 0 0 kW kH
  rw [← hp] at e
  rw [← hm]
  clear hm
  generalize sp b 0 0 kW kH = S at e hn ⊢
  clear hp hf hg
  obtain ⟨o, a, q, t, ks⟩ := p
  rw [Plan.enc_mk] at e ⊢
  refine callE Xs Ms f_s_wastesOf x_s_wastesOf (by show 2 ≤ _; decide) ?_
  simp +contextual -implicitDefEqProofs (maxSteps := 10000000) only [go_sem, seval, ↓gA, ↓gB, ↓gC, ↓gD, ↓gE, ↓gF, f_s_wastesOf, e]
  refine LW_over Xs Ms (st0 := ?st0) (α := Nat) (fun i => [(7, .d (.int .i64 (i : Int)))]) (fun i => [(1, .row 4 (((S.take i).filterMap spWaste).map Box.enc) true false)]) (fun i => i ≤ S.length) (fun i => S.length - i) 0 ?hc (by omega) ?h0 ?step
  case hc => simp +contextual -implicitDefEqProofs (maxSteps := 10000000) only [go_sem, seval, ↓gA, ↓gB, ↓gC, ↓gD, ↓gE, ↓gF]; exact rfl
  case h0 => rfl
  case step =>
    intro i hi ih
    by_cases hlt : i < S.length
    · obtain ⟨x, hx⟩ := get_lt hlt
      have hw := wrap_succ (k := i) (by omega)
      have hm := fm_take (f := spWaste) hx
      have hfl : ((S.take i).filterMap spWaste).length ≤ i := Nat.le_trans (List.length_filterMap_le _ _) (by simp; omega)
      have hr : (((S.take i).filterMap spWaste).length + 1) * 32 ≤ 140737488355328 ∧ ((S.take i).filterMap spWaste).length ≤ 140737488355327 := by omega
      obtain ⟨q', t', ⟨X, Y, W, H⟩⟩ := x
      simp only [spWaste] at hm
      by_cases ho : q' < 0
      · rw [if_pos ho] at hm
        simp +contextual -implicitDefEqProofs (maxSteps := 10000000) only [go_sem, seval, ↓gA, ↓gB, ↓gC, ↓gD, ↓gE, ↓gF, hx, hlt, hw, ho, hr]
        refine ih (i + 1) _ (by omega) (by omega) ?_
        simp +contextual -implicitDefEqProofs (maxSteps := 10000000) only [go_sem, seval, ↓gA, ↓gB, ↓gC, ↓gD, ↓gE, ↓gF, hm]
        first | rfl | (simp; done) | (simp; rfl)
      · rw [if_neg ho] at hm
        simp +contextual -implicitDefEqProofs (maxSteps := 10000000) only [go_sem, seval, ↓gA, ↓gB, ↓gC, ↓gD, ↓gE, ↓gF, hx, hlt, hw, ho, hr]
        refine ih (i + 1) _ (by omega) (by omega) ?_
        simp +contextual -implicitDefEqProofs (maxSteps := 10000000) only [go_sem, seval, ↓gA, ↓gB, ↓gC, ↓gD, ↓gE, ↓gF, hm]
        first | rfl | (simp; done) | (simp; rfl)
    · have : i = S.length := by omega
      subst this
      simp +contextual -implicitDefEqProofs (maxSteps := 10000000) only [go_sem, seval, ↓gA, ↓gB, ↓gC, ↓gD, ↓gE, ↓gF]
      simp
theorem i_GoodPlan_ev (qL : Int) (qW : Int) (qH : Int) (qF : List Box) (kW : Int) (kH : Int) (kP : List Pane) (p : Plan) : vcall Xs Ms n_i_GoodPlan [(.d (.agg [.int .i64 qL, .int .i64 qW, .int .i64 qH, .sl (qF.map Box.enc)])), (.d (.agg [.int .i64 kW, .int .i64 kH, .sl (kP.map Pane.enc)])), .d p.enc] [] = some ((.d (.bool (decide (VPc (Piece.mk qL qW qH qF) ∧ goodP (Piece.mk qL qW qH qF) (Work.mk kW kH kP) p)))), []) := by
  have ev := i_ValidPlan_ev kW kH kP p
  by_cases hq : VPc (Piece.mk qL qW qH qF)
  · by_cases hv : vplan (Work.mk kW kH kP) p = true
    · by_cases hw : kW = qW
      · by_cases hh : kH = qH
        · subst hw; subst hh
          have ep := i_PlacesOf_ev kW kH kP p
          obtain ⟨b, hb, hpb, hvw, hcnt, hfit, hpt⟩ := vplan_some hv
          have hbox : ∀ c ∈ (partsL (Work.mk kW kH kP) p).filterMap asPlace, VB c.Box := by
            rw [hpt, pt_places]; exact vplan_places (p := p) hvw hfit
          have hlen : ((partsL (Work.mk kW kH kP) p).filterMap asPlace).length ≤ 255 := Nat.le_trans (List.length_filterMap_le _ _) (partsL_len _ _)
          have hgood : goodP ⟨qL, kW, kH, qF⟩ (Work.mk kW kH kP) p ↔ ∀ c ∈ (partsL (Work.mk kW kH kP) p).filterMap asPlace, clearOf qF c.Box := by
            unfold goodP; exact ⟨fun h => h.2.2.2, fun h => ⟨hv, rfl, rfl, h⟩⟩
          have hfl : ∀ f ∈ qF, VB f := fun f hf => (hq.2 f hf).1
          have hq6 : qF.length ≤ 6 := hq.1.2.2.2.2.2.2
          rw [hv] at ev
          generalize hL : (partsL (Work.mk kW kH kP) p).filterMap asPlace = L at ep hbox hlen hgood
          clear hL hpt hpb hb
          obtain ⟨o, a, n, t, ks⟩ := p
          rw [Plan.enc_mk] at ev ep ⊢
          refine callE Xs Ms f_i_GoodPlan x_i_GoodPlan (by show 3 ≤ _; decide) ?_
          simp +contextual -implicitDefEqProofs (maxSteps := 10000000) only [go_sem, seval, ↓gA, ↓gB, ↓gC, ↓gD, ↓gE, ↓gF, f_i_GoodPlan, i_ValidPiece_ev, hq, ev, ep]
          refine LW_over Xs Ms (st0 := ?st0) (α := Nat) (fun i => [(36, .d (.int .i64 (i : Int)))]) (fun _ => []) (fun i => i ≤ L.length ∧ ((∀ c ∈ L, clearOf qF c.Box) ↔ ∀ c ∈ L.drop i, clearOf qF c.Box)) (fun i => L.length - i) 0 ?hc ⟨by omega, by simp⟩ ?h0 ?step
          case hc => simp +contextual -implicitDefEqProofs (maxSteps := 10000000) only [go_sem, seval, ↓gA, ↓gB, ↓gC, ↓gD, ↓gE, ↓gF]; exact rfl
          case h0 => rfl
          case step =>
            intro i ⟨hi, hp⟩ ih
            by_cases hlt : i < L.length
            · obtain ⟨x, hx⟩ := get_lt hlt
              rw [all_drop hx (fun c => clearOf qF c.Box)] at hp
              have hw := wrap_succ (k := i) (by omega)
              have hbx := hbox x (List.mem_of_getElem? hx)
              obtain ⟨q', t', ⟨X, Y, W, H⟩⟩ := x
              have em := i_meetsFlaw_ev qF X Y W H hfl hbx (by omega)
              simp +contextual -implicitDefEqProofs (maxSteps := 10000000) only [go_sem, seval, ↓gA, ↓gB, ↓gC, ↓gD, ↓gE, ↓gF, hx, hlt, hw, em]
              refine ⟨fun h => fin_f (fun h' => h ((hp.1 (hgood.1 h')).1)), fun h => ih (i + 1) _ ⟨by omega, ?_⟩ (by omega) ?_⟩
              · rw [hp]; exact ⟨fun h' => h'.2, fun h' => ⟨h, h'⟩⟩
              · simp +contextual -implicitDefEqProofs (maxSteps := 10000000) only [go_sem, seval, ↓gA, ↓gB, ↓gC, ↓gD, ↓gE, ↓gF]
            · have : i = L.length := by omega
              subst this
              simp +contextual -implicitDefEqProofs (maxSteps := 10000000) only [go_sem, seval, ↓gA, ↓gB, ↓gC, ↓gD, ↓gE, ↓gF]
              exact fin_t (hgood.2 (hp.2 (by simp)))
        · subst hw
          have hn : ¬ goodP ⟨qL, kW, qH, qF⟩ (Work.mk kW kH kP) p := fun h => hh h.2.2.1
          obtain ⟨o, a, n, t, ks⟩ := p
          rw [hv] at ev
          rw [Plan.enc_mk] at ev ⊢
          refine callE Xs Ms f_i_GoodPlan x_i_GoodPlan (by show 3 ≤ _; decide) ?_
          simp +contextual -implicitDefEqProofs (maxSteps := 10000000) only [go_sem, seval, ↓gA, ↓gB, ↓gC, ↓gD, ↓gE, ↓gF, f_i_GoodPlan, i_ValidPiece_ev, hq, ev, hh, hn]
      · have hn : ¬ goodP (Piece.mk qL qW qH qF) (Work.mk kW kH kP) p := fun h => hw h.2.1
        obtain ⟨o, a, n, t, ks⟩ := p
        rw [hv] at ev
        rw [Plan.enc_mk] at ev ⊢
        refine callE Xs Ms f_i_GoodPlan x_i_GoodPlan (by show 3 ≤ _; decide) ?_
        simp +contextual -implicitDefEqProofs (maxSteps := 10000000) only [go_sem, seval, ↓gA, ↓gB, ↓gC, ↓gD, ↓gE, ↓gF, f_i_GoodPlan, i_ValidPiece_ev, hq, ev, hw, hn]
    · have hv' := (Bool.not_eq_true _).mp hv
      have hn : ¬ goodP (Piece.mk qL qW qH qF) (Work.mk kW kH kP) p := fun h => hv h.1
      rw [hv'] at ev
      obtain ⟨o, a, n, t, ks⟩ := p
      rw [Plan.enc_mk] at ev ⊢
      refine callE Xs Ms f_i_GoodPlan x_i_GoodPlan (by show 3 ≤ _; decide) ?_
      simp +contextual -implicitDefEqProofs (maxSteps := 10000000) only [go_sem, seval, ↓gA, ↓gB, ↓gC, ↓gD, ↓gE, ↓gF, f_i_GoodPlan, i_ValidPiece_ev, hq, ev, hn]
  · obtain ⟨o, a, n, t, ks⟩ := p
    rw [Plan.enc_mk] at ev ⊢
    refine callE Xs Ms f_i_GoodPlan x_i_GoodPlan (by show 3 ≤ _; decide) ?_
    simp +contextual -implicitDefEqProofs (maxSteps := 10000000) only [go_sem, seval, ↓gA, ↓gB, ↓gC, ↓gD, ↓gE, ↓gF, f_i_GoodPlan, i_ValidPiece_ev, hq]
theorem s_goodPlan_ev (qL : Int) (qW : Int) (qH : Int) (qF : List Box) (kW : Int) (kH : Int) (kP : List Pane) (p : Plan) (hfl : ∀ f ∈ qF, VB f) (hq6 : qF.length ≤ 6) (hl : kP.length < 4611686018427387904) : vcall Xs Ms n_s_goodPlan [(.d (.agg [.int .i64 qL, .int .i64 qW, .int .i64 qH, .sl (qF.map Box.enc)])), (.d (.agg [.int .i64 kW, .int .i64 kH, .sl (kP.map Pane.enc)])), .d p.enc] [] = some ((.d (.bool (decide (goodP (Piece.mk qL qW qH qF) (Work.mk kW kH kP) p)))), []) := by
  have ev := s_validPlan_ev kW kH kP p hl
  by_cases hv : vplan (Work.mk kW kH kP) p = true
  · by_cases hw : kW = qW
    · by_cases hh : kH = qH
      · subst hw; subst hh
        obtain ⟨b, hb, hpb, hvw, hcnt, hfit, hpt⟩ := vplan_some hv
        have hvw' := hvw
        simp only [VW] at hvw'
        have ep := s_placesOf_ev kW kH kP p b hpb (by simp only [inB]; omega) hfit (by omega)
        have hbox : ∀ c ∈ plc b 0 0 kW kH, VB c.Box := vplan_places (p := p) hvw hfit
        have hlen : (plc b 0 0 kW kH).length ≤ 255 := by
          rw [← pt_places]; exact Nat.le_trans (List.length_filterMap_le _ _) (by rw [pt_len]; exact hcnt)
        have hgood : goodP ⟨qL, kW, kH, qF⟩ (Work.mk kW kH kP) p ↔ ∀ c ∈ plc b 0 0 kW kH, clearOf qF c.Box := by
          unfold goodP; rw [hpt, pt_places]; exact ⟨fun h => h.2.2.2, fun h => ⟨hv, rfl, rfl, h⟩⟩
        rw [hv] at ev
        generalize plc b 0 0 kW kH = L at ep hbox hlen hgood
        clear hpt hpb hb
        obtain ⟨o, a, n, t, ks⟩ := p
        rw [Plan.enc_mk] at ev ep ⊢
        refine callE Xs Ms f_s_goodPlan x_s_goodPlan (by show 3 ≤ _; decide) ?_
        simp +contextual -implicitDefEqProofs (maxSteps := 10000000) only [go_sem, seval, ↓gA, ↓gB, ↓gC, ↓gD, ↓gE, ↓gF, f_s_goodPlan, ev, ep]
        refine LW_over Xs Ms (st0 := ?st0) (α := Nat) (fun i => [(8, .d (.int .i64 (i : Int)))]) (fun _ => []) (fun i => i ≤ L.length ∧ ((∀ c ∈ L, clearOf qF c.Box) ↔ ∀ c ∈ L.drop i, clearOf qF c.Box)) (fun i => L.length - i) 0 ?hc ⟨by omega, by simp⟩ ?h0 ?step
        case hc => simp +contextual -implicitDefEqProofs (maxSteps := 10000000) only [go_sem, seval, ↓gA, ↓gB, ↓gC, ↓gD, ↓gE, ↓gF]; exact rfl
        case h0 => rfl
        case step =>
          intro i ⟨hi, hp⟩ ih
          by_cases hlt : i < L.length
          · obtain ⟨x, hx⟩ := get_lt hlt
            rw [all_drop hx (fun c => clearOf qF c.Box)] at hp
            have hw := wrap_succ (k := i) (by omega)
            have hbx := hbox x (List.mem_of_getElem? hx)
            obtain ⟨q', t', ⟨X, Y, W, H⟩⟩ := x
            have em := s_clearAt_ev qL kW kH qF X Y W H hfl hbx (by omega)
            simp +contextual -implicitDefEqProofs (maxSteps := 10000000) only [go_sem, seval, ↓gA, ↓gB, ↓gC, ↓gD, ↓gE, ↓gF, hx, hlt, hw, em]
            refine ⟨fun h => fin_f (fun h' => h ((hp.1 (hgood.1 h')).1)), fun h => ih (i + 1) _ ⟨by omega, ?_⟩ (by omega) ?_⟩
            · rw [hp]; exact ⟨fun h' => h'.2, fun h' => ⟨h, h'⟩⟩
            · simp +contextual -implicitDefEqProofs (maxSteps := 10000000) only [go_sem, seval, ↓gA, ↓gB, ↓gC, ↓gD, ↓gE, ↓gF]
          · have : i = L.length := by omega
            subst this
            simp +contextual -implicitDefEqProofs (maxSteps := 10000000) only [go_sem, seval, ↓gA, ↓gB, ↓gC, ↓gD, ↓gE, ↓gF]
            exact fin_t (hgood.2 (hp.2 (by simp)))
      · subst hw
        have hn : ¬ goodP ⟨qL, kW, qH, qF⟩ (Work.mk kW kH kP) p := fun h => hh h.2.2.1
        obtain ⟨o, a, n, t, ks⟩ := p
        rw [hv] at ev
        rw [Plan.enc_mk] at ev ⊢
        refine callE Xs Ms f_s_goodPlan x_s_goodPlan (by show 3 ≤ _; decide) ?_
        simp +contextual -implicitDefEqProofs (maxSteps := 10000000) only [go_sem, seval, ↓gA, ↓gB, ↓gC, ↓gD, ↓gE, ↓gF, f_s_goodPlan, ev, hh, hn]
    · have hn : ¬ goodP (Piece.mk qL qW qH qF) (Work.mk kW kH kP) p := fun h => hw h.2.1
      obtain ⟨o, a, n, t, ks⟩ := p
      rw [hv] at ev
      rw [Plan.enc_mk] at ev ⊢
      refine callE Xs Ms f_s_goodPlan x_s_goodPlan (by show 3 ≤ _; decide) ?_
      simp +contextual -implicitDefEqProofs (maxSteps := 10000000) only [go_sem, seval, ↓gA, ↓gB, ↓gC, ↓gD, ↓gE, ↓gF, f_s_goodPlan, ev, hw, hn]
  · have hv' := (Bool.not_eq_true _).mp hv
    have hn : ¬ goodP (Piece.mk qL qW qH qF) (Work.mk kW kH kP) p := fun h => hv h.1
    rw [hv'] at ev
    obtain ⟨o, a, n, t, ks⟩ := p
    rw [Plan.enc_mk] at ev ⊢
    refine callE Xs Ms f_s_goodPlan x_s_goodPlan (by show 3 ≤ _; decide) ?_
    simp +contextual -implicitDefEqProofs (maxSteps := 10000000) only [go_sem, seval, ↓gA, ↓gB, ↓gC, ↓gD, ↓gE, ↓gF, f_s_goodPlan, ev, hn]

theorem i_CutOut_ev (qL : Int) (qW : Int) (qH : Int) (qF : List Box) (bX : Int) (bY : Int) (bW : Int) (bH : Int) (label : Int) (hq : VPc (Piece.mk qL qW qH qF)) (hb : VB (Box.mk bX bY bW bH)) (hi : inside (Box.mk bX bY bW bH) ⟨0, 0, qW, qH⟩) (h1 : 1 ≤ label) (h2 : label ≤ 9999) :
    vcall Xs Ms n_i_CutOut [(.d (.agg [.int .i64 qL, .int .i64 qW, .int .i64 qH, .sl (qF.map Box.enc)])), (.d (.agg [.int .i64 bX, .int .i64 bY, .int .i64 bW, .int .i64 bH])), (.d (.int .i64 (label)))] [] = some (.agg [(.d (.int .i64 (label))), (.d (.int .i64 (bW))), (.d (.int .i64 (bH))), .own 0], [.row 4 ((qF.filterMap (cutFlaw (Box.mk bX bY bW bH))).map Box.enc) true false]) := by
  have hq' := hq.1
  simp only at hq'
  have n1 : ¬ label < 1 := by omega
  have n2 : ¬ 9999 < label := by omega
  have hvb : VB ⟨0, 0, qW, qH⟩ := by simp only [VB]; omega
  refine callE Xs Ms f_i_CutOut x_i_CutOut (by show 3 ≤ _; decide) ?_
  simp +contextual -implicitDefEqProofs (maxSteps := 10000000) only [go_sem, seval, ↓gA, ↓gB, ↓gC, ↓gD, ↓gE, ↓gF, f_i_CutOut, i_ValidPiece_ev, i_pieceBox_ev, i_InsideOf_ev, hq, hb, hi, hvb, n1, n2]
  refine LW_over Xs Ms (st0 := ?st0) (α := Nat) (fun i => [(40, .d (.int .i64 (i : Int)))]) (fun i => [(3, .row 4 (((qF.take i).filterMap (cutFlaw (Box.mk bX bY bW bH))).map Box.enc) true false)]) (fun i => i ≤ qF.length) (fun i => qF.length - i) 0 ?hc (by omega) ?h0 ?step
  case hc => simp +contextual -implicitDefEqProofs (maxSteps := 10000000) only [go_sem, seval, ↓gA, ↓gB, ↓gC, ↓gD, ↓gE, ↓gF]; exact rfl
  case h0 => rfl
  case step =>
    intro i hk ih
    by_cases hlt : i < qF.length
    · obtain ⟨x, hx⟩ := get_lt hlt
      have hw := wrap_succ (k := i) (by omega)
      have hm := fm_take (f := cutFlaw (Box.mk bX bY bW bH)) hx
      have hfl : ((qF.take i).filterMap (cutFlaw (Box.mk bX bY bW bH))).length ≤ i := Nat.le_trans (List.length_filterMap_le _ _) (by simp; omega)
      have hr : (((qF.take i).filterMap (cutFlaw (Box.mk bX bY bW bH))).length + 1) * 32 ≤ 140737488355328 ∧ ((qF.take i).filterMap (cutFlaw (Box.mk bX bY bW bH))).length ≤ 140737488355327 := by omega
      have hvx := (hq.2 x (List.mem_of_getElem? hx)).1
      obtain ⟨X, Y, W, H⟩ := x
      have hvx' := hvx
      have hb' := hb
      simp only [VB] at hvx' hb'
      simp only [cutFlaw] at hm
      by_cases ho : meets ⟨X, Y, W, H⟩ (Box.mk bX bY bW bH)
      · rw [if_pos ho] at hm
        have w1 := wi (max X bX - bX) (by omega) (by omega)
        have w2 := wi (max Y bY - bY) (by omega) (by omega)
        simp +contextual -implicitDefEqProofs (maxSteps := 10000000) only [go_sem, seval, ↓gA, ↓gB, ↓gC, ↓gD, ↓gE, ↓gF, hx, hlt, hw, i_MeetOf_yes X Y W H bX bY bW bH hvx hb ho, hr, meetB, w1, w2]
        refine ih (i + 1) _ (by omega) (by omega) ?_
        simp +contextual -implicitDefEqProofs (maxSteps := 10000000) only [go_sem, seval, ↓gA, ↓gB, ↓gC, ↓gD, ↓gE, ↓gF, hm, shiftB, meetB]
        first | rfl | (simp; done) | (simp; rfl)
      · rw [if_neg ho] at hm
        simp +contextual -implicitDefEqProofs (maxSteps := 10000000) only [go_sem, seval, ↓gA, ↓gB, ↓gC, ↓gD, ↓gE, ↓gF, hx, hlt, hw, i_MeetOf_no X Y W H bX bY bW bH (fun hh => ho hh.2.2), hr]
        refine ih (i + 1) _ (by omega) (by omega) ?_
        simp +contextual -implicitDefEqProofs (maxSteps := 10000000) only [go_sem, seval, ↓gA, ↓gB, ↓gC, ↓gD, ↓gE, ↓gF, hm]
        first | rfl | (simp; done) | (simp; rfl)
    · have : i = qF.length := by omega
      subst this
      simp +contextual -implicitDefEqProofs (maxSteps := 10000000) only [go_sem, seval, ↓gA, ↓gB, ↓gC, ↓gD, ↓gE, ↓gF]
      try simp
theorem i_keptWastes_ev (kW : Int) (kH : Int) (kP : List Pane) (p : Plan) (least : Int) : vcall Xs Ms n_i_keptWastes [(.d (.agg [.int .i64 kW, .int .i64 kH, .sl (kP.map Pane.enc)])), .d p.enc, (.d (.int .i64 (least)))] [] = some (.own 0, [.row 4 ((keptL (Work.mk kW kH kP) p least).map Box.enc) true false]) := by
  have hv := i_WastesOf_ev kW kH kP p
  have hn : ((partsL (Work.mk kW kH kP) p).filterMap asWaste).length ≤ 255 := Nat.le_trans (List.length_filterMap_le _ _) (partsL_len (Work.mk kW kH kP) p)
  unfold keptL
  generalize (partsL (Work.mk kW kH kP) p).filterMap asWaste = ps at hv hn ⊢
  obtain ⟨o, a, q, t, ks⟩ := p
  rw [Plan.enc_mk] at hv ⊢
  refine callE Xs Ms f_i_keptWastes x_i_keptWastes (by show 3 ≤ _; decide) ?_
  simp +contextual -implicitDefEqProofs (maxSteps := 10000000) only [go_sem, seval, ↓gA, ↓gB, ↓gC, ↓gD, ↓gE, ↓gF, f_i_keptWastes, hv]
  refine LW_over Xs Ms (st0 := ?st0) (α := Nat) (fun k => [(14, .d (.int .i64 (k : Int)))]) (fun k => [(1, .row 4 (((ps.take k).filterMap (keptB least)).map Box.enc) true false)]) (fun k => k ≤ ps.length) (fun k => ps.length - k) 0 ?hc (by omega) ?h0 ?step
  case hc => simp +contextual -implicitDefEqProofs (maxSteps := 10000000) only [go_sem, seval, ↓gA, ↓gB, ↓gC, ↓gD, ↓gE, ↓gF]; exact rfl
  case h0 => rfl
  case step =>
    intro k hk ih
    by_cases hlt : k < ps.length
    · obtain ⟨x, hx⟩ := get_lt hlt
      have hw := wrap_succ (k := k) (by omega)
      have hm := fm_take (f := keptB least) hx
      have hfl : ((ps.take k).filterMap (keptB least)).length ≤ k := Nat.le_trans (List.length_filterMap_le _ _) (by simp; omega)
      have hr : (((ps.take k).filterMap (keptB least)).length + 1) * 32 ≤ 140737488355328 ∧ ((ps.take k).filterMap (keptB least)).length ≤ 140737488355327 := by omega
      obtain ⟨X, Y, W, H⟩ := x
      simp only [keptB] at hm
      by_cases ho : least ≤ W ∧ least ≤ H
      · rw [if_pos ho] at hm
        simp +contextual -implicitDefEqProofs (maxSteps := 10000000) only [go_sem, seval, ↓gA, ↓gB, ↓gC, ↓gD, ↓gE, ↓gF, hx, hlt, hw, ho, hr]
        refine ih (k + 1) _ (by omega) (by omega) ?_
        simp +contextual -implicitDefEqProofs (maxSteps := 10000000) only [go_sem, seval, ↓gA, ↓gB, ↓gC, ↓gD, ↓gE, ↓gF, hm]
        first | rfl | (simp; done) | (simp; rfl)
      · rw [if_neg ho] at hm
        simp +contextual -implicitDefEqProofs (maxSteps := 10000000) only [go_sem, seval, ↓gA, ↓gB, ↓gC, ↓gD, ↓gE, ↓gF, hx, hlt, hw, ho, hr]
        refine ih (k + 1) _ (by omega) (by omega) ?_
        simp +contextual -implicitDefEqProofs (maxSteps := 10000000) only [go_sem, seval, ↓gA, ↓gB, ↓gC, ↓gD, ↓gE, ↓gF, hm]
        first | rfl | (simp; done) | (simp; rfl)
    · have : k = ps.length := by omega
      subst this
      simp +contextual -implicitDefEqProofs (maxSteps := 10000000) only [go_sem, seval, ↓gA, ↓gB, ↓gC, ↓gD, ↓gE, ↓gF]
      simp
theorem i_cutRemnants_yes (qL : Int) (qW : Int) (qH : Int) (qF : List Box) (kW : Int) (kH : Int) (kP : List Pane) (p : Plan) (least label : Int) (hq : VPc (Piece.mk qL qW qH qF)) (hv : vplan (Work.mk kW kH kP) p = true) (hW : kW = qW) (hH : kH = qH) (h1 : 1 ≤ label) (h2 : label ≤ 10000)
    (hk : (keptL (Work.mk kW kH kP) p least).length ≤ 10000 - label) : vcall Xs Ms n_i_cutRemnants [(.d (.agg [.int .i64 qL, .int .i64 qW, .int .i64 qH, .sl (qF.map Box.enc)])), (.d (.agg [.int .i64 kW, .int .i64 kH, .sl (kP.map Pane.enc)])), .d p.enc, (.d (.int .i64 (least))), (.d (.int .i64 (label)))] [] =
    some (.tup [.own 0, (.d (.bool (true)))], [.row 4 ((cutN (Piece.mk qL qW qH qF) label (keptL (Work.mk kW kH kP) p least)).map Piece.enc) true false]) := by
  have ek := i_keptWastes_ev kW kH kP p least
  have hin : ∀ b ∈ keptL (Work.mk kW kH kP) p least, VB b ∧ inside b ⟨0, 0, qW, qH⟩ := by
    intro b hb
    have := keptL_in (least := least) hv b hb
    rw [← hW, ← hH]; exact this
  have hn := keptL_len (Work.mk kW kH kP) p least
  generalize keptL (Work.mk kW kH kP) p least = L at ek hin hn hk ⊢
  clear hv
  have w0 := wi (10000 - label) (by omega) (by omega)
  have n0 : ¬ (10000 - label < (L.length : Int)) := by omega
  obtain ⟨o, a, n, t, ks⟩ := p
  rw [Plan.enc_mk] at ek ⊢
  refine callE Xs Ms f_i_cutRemnants x_i_cutRemnants (by show 5 ≤ _; decide) ?_
  simp +contextual -implicitDefEqProofs (maxSteps := 10000000) only [go_sem, seval, ↓gA, ↓gB, ↓gC, ↓gD, ↓gE, ↓gF, f_i_cutRemnants, ek, w0, n0]
  refine LW_over Xs Ms (st0 := ?st0) (α := Nat) (fun i => [(27, .d (.int .i64 (i : Int)))]) (fun i => [(1, .row 4 ((cutN (Piece.mk qL qW qH qF) label (L.take i)).map Piece.enc) true false)]) (fun i => i ≤ L.length) (fun i => L.length - i) 0 ?hc (by omega) ?h0 ?step
  case hc => simp +contextual -implicitDefEqProofs (maxSteps := 10000000) only [go_sem, seval, ↓gA, ↓gB, ↓gC, ↓gD, ↓gE, ↓gF]; exact rfl
  case h0 => rfl
  case step =>
    intro i hi ih
    by_cases hlt : i < L.length
    · obtain ⟨x, hx⟩ := get_lt hlt
      have hw := wrap_succ (k := i) (by omega)
      have hm := cutN_take (Piece.mk qL qW qH qF) label hx
      have hl : (cutN (Piece.mk qL qW qH qF) label (L.take i)).length = i := by rw [cutN_len]; simp; omega
      have hr : (i + 1) * 48 ≤ 140737488355328 ∧ i ≤ 140737488355327 := by omega
      have hx2 := hin x (List.mem_of_getElem? hx)
      have w1 := wi (label + (i : Int)) (by omega) (by omega)
      obtain ⟨X, Y, W, H⟩ := x
      have hc := i_CutOut_ev qL qW qH qF X Y W H (label + (i : Int)) hq hx2.1 hx2.2 (by omega) (by omega)
      simp +contextual -implicitDefEqProofs (maxSteps := 10000000) only [go_sem, seval, ↓gA, ↓gB, ↓gC, ↓gD, ↓gE, ↓gF, hx, hlt, hw, w1, hc, hl, hr]
      refine ih (i + 1) _ (by omega) (by omega) ?_
      simp +contextual -implicitDefEqProofs (maxSteps := 10000000) only [go_sem, seval, ↓gA, ↓gB, ↓gC, ↓gD, ↓gE, ↓gF, hm, cutP]
      first | rfl | (simp; done) | (simp; rfl)
    · have : i = L.length := by omega
      subst this
      simp +contextual -implicitDefEqProofs (maxSteps := 10000000) only [go_sem, seval, ↓gA, ↓gB, ↓gC, ↓gD, ↓gE, ↓gF]
      try simp
theorem i_cutRemnants_no (qL : Int) (qW : Int) (qH : Int) (qF : List Box) (kW : Int) (kH : Int) (kP : List Pane) (p : Plan) (least label : Int) (h1 : 1 ≤ label) (h2 : label ≤ 10000)
    (hk : ¬ (keptL (Work.mk kW kH kP) p least).length ≤ 10000 - label) : vcall Xs Ms n_i_cutRemnants [(.d (.agg [.int .i64 qL, .int .i64 qW, .int .i64 qH, .sl (qF.map Box.enc)])), (.d (.agg [.int .i64 kW, .int .i64 kH, .sl (kP.map Pane.enc)])), .d p.enc, (.d (.int .i64 (least))), (.d (.int .i64 (label)))] [] =
    some (.tup [.own 0, (.d (.bool (false)))], [.row 4 [] true false]) := by
  have ek := i_keptWastes_ev kW kH kP p least
  generalize keptL (Work.mk kW kH kP) p least = L at ek hk ⊢
  have w0 := wi (10000 - label) (by omega) (by omega)
  have n0 : 10000 - label < (L.length : Int) := by omega
  obtain ⟨o, a, n, t, ks⟩ := p
  rw [Plan.enc_mk] at ek ⊢
  refine callE Xs Ms f_i_cutRemnants x_i_cutRemnants (by show 5 ≤ _; decide) ?_
  simp +contextual -implicitDefEqProofs (maxSteps := 10000000) only [go_sem, seval, ↓gA, ↓gB, ↓gC, ↓gD, ↓gE, ↓gF, f_i_cutRemnants, ek, w0, n0]
end Go.Proofs.Ytbodfpboklcgoaa
