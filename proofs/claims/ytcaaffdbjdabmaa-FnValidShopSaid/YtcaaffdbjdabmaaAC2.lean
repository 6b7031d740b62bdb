/- Contracts of the functions, by the abstract semantics. -/
import Derived.Test.YtcaaffdbjdabmaaACode
import Derived.Test.YtcaaffdbjdabmaaAbsParts
import Derived.Test.YtcaaffdbjdabmaaAC1
namespace Go.Proofs.Ytcaaffdbjdabmaa
open Go Go.Abs Go.Abs.E Go.Abs.L
open Nat (reduceMul reduceSub reduceLeDiff reduceEqDiff)
open Int (reduceLE reduceEq reduceToNat reduceNeg)
set_option linter.unusedSimpArgs false
set_option linter.unusedVariables false
set_option maxRecDepth 20000
set_option maxHeartbeats 4000000


theorem partsL_len (k : Work) (p : Plan) : (partsL k p).length ≤ 255 := by
  unfold partsL
  split
  · split
    · rename_i h
      simp only [Bool.and_eq_true, decide_eq_true_eq] at h
      rw [pt_len]; exact h.1.2
    · simp
  · simp
theorem s_spread_ev (ps : List Pane) : ∀ (b : BT) (gX : Int) (gY : Int) (gW : Int) (gH : Int), inB (Box.mk gX gY gW gH) → fits ps b gW gH = true → b.cnt ≤ 1000 →
    vcall Xs Ms n_s_spread [.d b.plan.enc, (.d (.agg [.int .i64 gX, .int .i64 gY, .int .i64 gW, .int .i64 gH]))] [] = some (.own 0, [.row 6 ((sp b gX gY gW gH).map Place.enc) true false])
  | .waste, gX, gY, gW, gH, hg, hf, hl => by
    simp only [BT.plan, Plan.enc_mk, sp]
    refine callE Xs Ms f_s_spread x_s_spread (by show 2 ≤ _; decide) ?_
    simp +contextual -implicitDefEqProofs (maxSteps := 10000000) only [go_sem, seval, ↓gA, ↓gB, ↓gC, ↓gD, ↓gE, ↓gF, f_s_spread]
    try rfl
  | .pane i t, gX, gY, gW, gH, hg, hf, hl => by
    simp only [BT.plan, Plan.enc_mk, sp]
    refine callE Xs Ms f_s_spread x_s_spread (by show 2 ≤ _; decide) ?_
    simp +contextual -implicitDefEqProofs (maxSteps := 10000000) only [go_sem, seval, ↓gA, ↓gB, ↓gC, ↓gD, ↓gE, ↓gF, f_s_spread]
    try rfl
  | .cut d a l r, gX, gY, gW, gH, hg, hf, hl => by
    simp only [BT.cnt] at hl
    simp only [inB] at hg
    simp only [BT.plan, Plan.enc_mk]
    cases d with
    | true =>
      simp only [fits, Bool.and_eq_true, decide_eq_true_eq, if_true] at hf
      have w1 := wi (gX + a) (by omega) (by omega)
      have w2 := wi (gW - a) (by omega) (by omega)
      have l1 := sp_len l gX gY a gH
      have l2 := sp_len r (gX + a) gY (gW - a) gH
      have e1 := s_spread_ev ps l gX gY a gH (by simp only [inB]; omega) hf.1.2 (by omega)
      have e2 := s_spread_ev ps r (gX + a) gY (gW - a) gH (by simp only [inB]; omega) hf.2 (by omega)
      have h1 : ((sp l gX gY a gH).length + (sp r (gX + a) gY (gW - a) gH).length) * 48 ≤ 140737488355328 ∧ (sp l gX gY a gH).length + (sp r (gX + a) gY (gW - a) gH).length ≤ 140737488355328 := by omega
      refine callE Xs Ms f_s_spread x_s_spread (by show 2 ≤ _; decide) ?_
      simp +contextual -implicitDefEqProofs (maxSteps := 10000000) only [go_sem, seval, ↓gA, ↓gB, ↓gC, ↓gD, ↓gE, ↓gF, f_s_spread, opOf, w1, w2, h1, e1, e2]
      simp [sp]
    | false =>
      simp only [fits, Bool.and_eq_true, decide_eq_true_eq, Bool.false_eq_true, if_false] at hf
      have w1 := wi (gY + a) (by omega) (by omega)
      have w2 := wi (gH - a) (by omega) (by omega)
      have l1 := sp_len l gX gY gW a
      have l2 := sp_len r gX (gY + a) gW (gH - a)
      have e1 := s_spread_ev ps l gX gY gW a (by simp only [inB]; omega) hf.1.2 (by omega)
      have e2 := s_spread_ev ps r gX (gY + a) gW (gH - a) (by simp only [inB]; omega) hf.2 (by omega)
      have h1 : ((sp l gX gY gW a).length + (sp r gX (gY + a) gW (gH - a)).length) * 48 ≤ 140737488355328 ∧ (sp l gX gY gW a).length + (sp r gX (gY + a) gW (gH - a)).length ≤ 140737488355328 := by omega
      refine callE Xs Ms f_s_spread x_s_spread (by show 2 ≤ _; decide) ?_
      simp +contextual -implicitDefEqProofs (maxSteps := 10000000) only [go_sem, seval, ↓gA, ↓gB, ↓gC, ↓gD, ↓gE, ↓gF, f_s_spread, opOf, w1, w2, h1, e1, e2]
      simp [sp]

theorem i_pieceBox_ev (qL : Int) (qW : Int) (qH : Int) (qF : List Box) : vcall Xs Ms n_i_pieceBox [(.d (.agg [.int .i64 qL, .int .i64 qW, .int .i64 qH, .sl (qF.map Box.enc)]))] [] = some (.d (.agg [.int .i64 0, .int .i64 0, .int .i64 qW, .int .i64 qH]), []) := by
  refine callE Xs Ms f_i_pieceBox x_i_pieceBox (by show 1 ≤ _; decide) ?_
  simp +contextual -implicitDefEqProofs (maxSteps := 10000000) only [go_sem, seval, ↓gA, ↓gB, ↓gC, ↓gD, ↓gE, ↓gF, f_i_pieceBox]
theorem i_ValidPiece_ev (qL : Int) (qW : Int) (qH : Int) (qF : List Box) : vcall Xs Ms n_i_ValidPiece [(.d (.agg [.int .i64 qL, .int .i64 qW, .int .i64 qH, .sl (qF.map Box.enc)]))] [] = some ((.d (.bool (decide (VPc (Piece.mk qL qW qH qF))))), []) := by
  refine callE Xs Ms f_i_ValidPiece x_i_ValidPiece (by show 1 ≤ _; decide) ?_
  by_cases h0 : (((qL < 1 ∨ 9999 < qL) ∨ ¬ VB ⟨0, 0, qW, qH⟩) ∨ (6 : Int) < qF.length)
  · simp +contextual -implicitDefEqProofs (maxSteps := 10000000) only [go_sem, seval, ↓gA, ↓gB, ↓gC, ↓gD, ↓gE, ↓gF, f_i_ValidPiece, i_pieceBox_ev, i_ValidBox_ev, h0]
    exact fin_f (by simp only [VPc]; simp only [VB] at h0; omega)
  · simp +contextual -implicitDefEqProofs (maxSteps := 10000000) only [go_sem, seval, ↓gA, ↓gB, ↓gC, ↓gD, ↓gE, ↓gF, f_i_ValidPiece, i_pieceBox_ev, i_ValidBox_ev, h0]
    have hb : VB ⟨0, 0, qW, qH⟩ := by
      refine Decidable.byContradiction fun h => h0 (.inl (.inr h))
    refine LW_over Xs Ms (st0 := ?st0) (α := Nat) (fun k => [(28, .d (.int .i64 (k : Int)))]) (fun _ => []) (fun k => k ≤ qF.length ∧ ((∀ f ∈ qF, flawOk qW qH f) ↔ ∀ f ∈ qF.drop k, flawOk qW qH f)) (fun k => qF.length - k) 0 ?hc ⟨by omega, by simp⟩ ?h0 ?step
    case hc => simp +contextual -implicitDefEqProofs (maxSteps := 10000000) only [go_sem, seval, ↓gA, ↓gB, ↓gC, ↓gD, ↓gE, ↓gF]; exact rfl
    case h0 => rfl
    case step =>
      intro k ⟨hk, hp⟩ ih
      by_cases hlt : k < qF.length
      · obtain ⟨x, hx⟩ := get_lt hlt
        rw [all_drop hx] at hp
        have hw := wrap_succ (k := k) (by simp only [VB] at hb h0; omega)
        obtain ⟨X, Y, W, H⟩ := x
        simp +contextual -implicitDefEqProofs (maxSteps := 10000000) only [go_sem, seval, ↓gA, ↓gB, ↓gC, ↓gD, ↓gE, ↓gF, hx, hlt, hw, i_pieceBox_ev, i_InsideOf_ev, hb]
        refine ⟨fun h => fin_f (fun hh => h ((hp.1 hh.2).1)), fun h => ih (k + 1) _ ⟨by omega, ?_⟩ (by omega) ?_⟩
        · rw [hp]; exact ⟨fun hh => hh.2, fun hh => ⟨h, hh⟩⟩
        · simp +contextual -implicitDefEqProofs (maxSteps := 10000000) only [go_sem, seval, ↓gA, ↓gB, ↓gC, ↓gD, ↓gE, ↓gF]
      · have : k = qF.length := by omega
        subst this
        simp +contextual -implicitDefEqProofs (maxSteps := 10000000) only [go_sem, seval, ↓gA, ↓gB, ↓gC, ↓gD, ↓gE, ↓gF]
        have hv : ∀ f ∈ qF, flawOk qW qH f := hp.2 (by simp)
        exact fin_t (by simp only [VPc]; simp only [VB] at h0; exact ⟨by omega, hv⟩)
theorem s_validPiece_ev (qL : Int) (qW : Int) (qH : Int) (qF : List Box) (hl : qF.length < 4611686018427387904) (hW : R64 qW) (hH : R64 qH) : vcall Xs Ms n_s_validPiece [(.d (.agg [.int .i64 qL, .int .i64 qW, .int .i64 qH, .sl (qF.map Box.enc)]))] [] = some ((.d (.bool (decide (VPc (Piece.mk qL qW qH qF))))), []) := by
  refine callE Xs Ms f_s_validPiece x_s_validPiece (by show 1 ≤ _; decide) ?_
  simp +contextual -implicitDefEqProofs (maxSteps := 10000000) only [go_sem, seval, ↓gA, ↓gB, ↓gC, ↓gD, ↓gE, ↓gF, f_s_validPiece]
  refine LW_over Xs Ms (st0 := ?st0) (α := Nat) (fun k => [(3, .d (.int .i64 (k : Int)))]) (fun _ => []) (fun k => k ≤ qF.length ∧ ((∀ f ∈ qF, flawOk qW qH f) ↔ ∀ f ∈ qF.drop k, flawOk qW qH f)) (fun k => qF.length - k) 0 ?hc ⟨by omega, by simp⟩ ?h0 ?step
  case hc => simp +contextual -implicitDefEqProofs (maxSteps := 10000000) only [go_sem, seval, ↓gA, ↓gB, ↓gC, ↓gD, ↓gE, ↓gF]; exact rfl
  case h0 => rfl
  case step =>
    intro k ⟨hk, hp⟩ ih
    by_cases hlt : k < qF.length
    · obtain ⟨x, hx⟩ := get_lt hlt
      rw [all_drop hx] at hp
      have hw := wrap_succ (k := k) (by omega)
      obtain ⟨X, Y, W, H⟩ := x
      by_cases hv : VB ⟨X, Y, W, H⟩
      · have hi := s_insideOf_ev X Y W H 0 0 qW qH hv ⟨by omega, by omega⟩ ⟨by omega, by omega⟩ (by simpa using hW) (by simpa using hH)
        simp +contextual -implicitDefEqProofs (maxSteps := 10000000) only [go_sem, seval, ↓gA, ↓gB, ↓gC, ↓gD, ↓gE, ↓gF, hx, hlt, hw, s_validBox_ev, hi, hv]
        refine ⟨fun h => fin_f (fun hh => h ((hp.1 hh.2).1.2)), fun h => ih (k + 1) _ ⟨by omega, ?_⟩ (by omega) ?_⟩
        · rw [hp]; exact ⟨fun hh => hh.2, fun hh => ⟨⟨hv, h⟩, hh⟩⟩
        · simp +contextual -implicitDefEqProofs (maxSteps := 10000000) only [go_sem, seval, ↓gA, ↓gB, ↓gC, ↓gD, ↓gE, ↓gF]
      · simp +contextual -implicitDefEqProofs (maxSteps := 10000000) only [go_sem, seval, ↓gA, ↓gB, ↓gC, ↓gD, ↓gE, ↓gF, hx, hlt, hw, s_validBox_ev, hv]
        exact fin_f (fun hh => hv ((hp.1 hh.2).1.1))
    · have : k = qF.length := by omega
      subst this
      simp +contextual -implicitDefEqProofs (maxSteps := 10000000) only [go_sem, seval, ↓gA, ↓gB, ↓gC, ↓gD, ↓gE, ↓gF, s_inRange_ev]
      have hv : ∀ f ∈ qF, flawOk qW qH f := hp.2 (by simp)
      exact fin_b (by simp only [VPc]; exact ⟨fun h => ⟨by omega, hv⟩, fun h => by omega⟩)
theorem s_clearAt_ev (qL : Int) (qW : Int) (qH : Int) (qF : List Box) (bX : Int) (bY : Int) (bW : Int) (bH : Int) (hf : ∀ f ∈ qF, VB f) (hb : VB (Box.mk bX bY bW bH)) (hl : qF.length < 4611686018427387904) : vcall Xs Ms n_s_clearAt [(.d (.agg [.int .i64 qL, .int .i64 qW, .int .i64 qH, .sl (qF.map Box.enc)])), (.d (.agg [.int .i64 bX, .int .i64 bY, .int .i64 bW, .int .i64 bH]))] [] = some ((.d (.bool (decide (clearOf qF (Box.mk bX bY bW bH))))), []) := by
  refine callE Xs Ms f_s_clearAt x_s_clearAt (by show 2 ≤ _; decide) ?_
  simp +contextual -implicitDefEqProofs (maxSteps := 10000000) only [go_sem, seval, ↓gA, ↓gB, ↓gC, ↓gD, ↓gE, ↓gF, f_s_clearAt]
  refine LW_over Xs Ms (st0 := ?st0) (α := Nat) (fun k => [(5, .d (.int .i64 (k : Int)))]) (fun _ => []) (fun k => k ≤ qF.length ∧ (clearOf qF (Box.mk bX bY bW bH) ↔ clearOf (qF.drop k) (Box.mk bX bY bW bH))) (fun k => qF.length - k) 0 ?hc ⟨by omega, by simp⟩ ?h0 ?step
  case hc => simp +contextual -implicitDefEqProofs (maxSteps := 10000000) only [go_sem, seval, ↓gA, ↓gB, ↓gC, ↓gD, ↓gE, ↓gF]; exact rfl
  case h0 => rfl
  case step =>
    intro k ⟨hk, hp⟩ ih
    by_cases hlt : k < qF.length
    · obtain ⟨x, hx⟩ := get_lt hlt
      unfold clearOf at hp
      rw [all_drop hx (fun f => ¬ meets f (Box.mk bX bY bW bH))] at hp
      have hw := wrap_succ (k := k) (by omega)
      have hvx := hf x (List.mem_of_getElem? hx)
      obtain ⟨X, Y, W, H⟩ := x
      by_cases hm : meets ⟨X, Y, W, H⟩ (Box.mk bX bY bW bH)
      · simp +contextual -implicitDefEqProofs (maxSteps := 10000000) only [go_sem, seval, ↓gA, ↓gB, ↓gC, ↓gD, ↓gE, ↓gF, hx, hlt, hw, s_meetOf_yes X Y W H bX bY bW bH hvx hb hm]
        have : ¬ clearOf qF (Box.mk bX bY bW bH) := fun hh => (hp.1 hh).1 hm
        simp [this]
      · simp +contextual -implicitDefEqProofs (maxSteps := 10000000) only [go_sem, seval, ↓gA, ↓gB, ↓gC, ↓gD, ↓gE, ↓gF, hx, hlt, hw, s_meetOf_no X Y W H bX bY bW bH hvx hb hm]
        refine ih (k + 1) _ ⟨by omega, ?_⟩ (by omega) ?_
        · unfold clearOf; rw [hp]; exact ⟨fun hh => hh.2, fun hh => ⟨hm, hh⟩⟩
        · simp +contextual -implicitDefEqProofs (maxSteps := 10000000) only [go_sem, seval, ↓gA, ↓gB, ↓gC, ↓gD, ↓gE, ↓gF]
    · have : k = qF.length := by omega
      subst this
      simp +contextual -implicitDefEqProofs (maxSteps := 10000000) only [go_sem, seval, ↓gA, ↓gB, ↓gC, ↓gD, ↓gE, ↓gF]
      have : clearOf qF (Box.mk bX bY bW bH) := hp.2 (by simp [clearOf])
      simp [this]

theorem s_placesOf_ev (kW : Int) (kH : Int) (kP : List Pane) (p : Plan) (b : BT) (hp : p = b.plan) (hg : inB ⟨0, 0, kW, kH⟩) (hf : fits kP b kW kH = true) (hl : b.cnt ≤ 1000) : vcall Xs Ms n_s_placesOf [(.d (.agg [.int .i64 kW, .int .i64 kH, .sl (kP.map Pane.enc)])), .d p.enc] [] = some (.own 0, [.row 6 ((plc b 0 0 kW kH).map Place.enc) true false]) := by
  have e := s_spread_ev kP b 0 0 kW kH hg hf hl
  have hm := sp_places b 0 0 kW kH (fits_PN hf)
  have hn := sp_len b 0 0 kW kH
  rw [← hp] at e
  rw [← hm]
  clear hm
  generalize sp b 0 0 kW kH = S at e hn ⊢
  clear hp hf hg
  obtain ⟨o, a, q, t, ks⟩ := p
  rw [Plan.enc_mk] at e ⊢
  refine callE Xs Ms f_s_placesOf x_s_placesOf (by show 2 ≤ _; decide) ?_
  simp +contextual -implicitDefEqProofs (maxSteps := 10000000) only [go_sem, seval, ↓gA, ↓gB, ↓gC, ↓gD, ↓gE, ↓gF, f_s_placesOf, e]
  refine LW_over Xs Ms (st0 := ?st0) (α := Nat) (fun i => [(7, .d (.int .i64 (i : Int)))]) (fun i => [(1, .row 6 (((S.take i).filterMap spPlace).map Place.enc) true false)]) (fun i => i ≤ S.length) (fun i => S.length - i) 0 ?hc (by omega) ?h0 ?step
  case hc => simp +contextual -implicitDefEqProofs (maxSteps := 10000000) only [go_sem, seval, ↓gA, ↓gB, ↓gC, ↓gD, ↓gE, ↓gF]; exact rfl
  case h0 => rfl
  case step =>
    intro i hi ih
    by_cases hlt : i < S.length
    · obtain ⟨x, hx⟩ := get_lt hlt
      have hw := wrap_succ (k := i) (by omega)
      have hm := fm_take (f := spPlace) hx
      have hfl : ((S.take i).filterMap spPlace).length ≤ i := Nat.le_trans (List.length_filterMap_le _ _) (by simp; omega)
      have hr : (((S.take i).filterMap spPlace).length + 1) * 48 ≤ 140737488355328 ∧ ((S.take i).filterMap spPlace).length ≤ 140737488355327 := by omega
      obtain ⟨q', t', ⟨X, Y, W, H⟩⟩ := x
      simp only [spPlace] at hm
      by_cases ho : 0 ≤ q'
      · rw [if_pos ho] at hm
        simp +contextual -implicitDefEqProofs (maxSteps := 10000000) only [go_sem, seval, ↓gA, ↓gB, ↓gC, ↓gD, ↓gE, ↓gF, hx, hlt, hw, ho, hr]
        refine ih (i + 1) _ (by omega) (by omega) ?_
        simp +contextual -implicitDefEqProofs (maxSteps := 10000000) only [go_sem, seval, ↓gA, ↓gB, ↓gC, ↓gD, ↓gE, ↓gF, hm]
        first | rfl | (simp; done) | (simp; rfl)
      · rw [if_neg ho] at hm
        simp +contextual -implicitDefEqProofs (maxSteps := 10000000) only [go_sem, seval, ↓gA, ↓gB, ↓gC, ↓gD, ↓gE, ↓gF, hx, hlt, hw, ho, hr]
        refine ih (i + 1) _ (by omega) (by omega) ?_
        simp +contextual -implicitDefEqProofs (maxSteps := 10000000) only [go_sem, seval, ↓gA, ↓gB, ↓gC, ↓gD, ↓gE, ↓gF, hm]
        first | rfl | (simp; done) | (simp; rfl)
    · have : i = S.length := by omega
      subst this
      simp +contextual -implicitDefEqProofs (maxSteps := 10000000) only [go_sem, seval, ↓gA, ↓gB, ↓gC, ↓gD, ↓gE, ↓gF]
      simp
theorem s_wastesOf_ev (kW : Int) (kH : Int) (kP : List Pane) (p : Plan) (b : BT) (hp : p = b.plan) (hg : inB ⟨0, 0, kW, kH⟩) (hf : fits kP b kW kH = true) (hl : b.cnt ≤ 1000) : vcall Xs Ms n_s_wastesOf [(.d (.agg [.int .i64 kW, .int .i64 kH, .sl (kP.map Pane.enc)])), .d p.enc] [] = some (.own 0, [.row 4 ((wst b 0 0 kW kH).map Box.enc) true false]) := by
  have e := s_spread_ev kP b 0 0 kW kH hg hf hl
  have hm := sp_wastes b 0 0 kW kH (fits_PN hf)
  have hn := sp_len b 0 0 kW kH
  rw [← hp] at e
  rw [← hm]
  clear hm
  generalize sp b 0 0 kW kH = S at e hn ⊢
  clear hp hf hg
  obtain ⟨o, a, q, t, ks⟩ := p
  rw [Plan.enc_mk] at e ⊢
  refine callE Xs Ms f_s_wastesOf x_s_wastesOf (by show 2 ≤ _; decide) ?_
  simp +contextual -implicitDefEqProofs (maxSteps := 10000000) only [go_sem, seval, ↓gA, ↓gB, ↓gC, ↓gD, ↓gE, ↓gF, f_s_wastesOf, e]
  refine LW_over Xs Ms (st0 := ?st0) (α := Nat) (fun i => [(7, .d (.int .i64 (i : Int)))]) (fun i => [(1, .row 4 (((S.take i).filterMap spWaste).map Box.enc) true false)]) (fun i => i ≤ S.length) (fun i => S.length - i) 0 ?hc (by omega) ?h0 ?step
  case hc => simp +contextual -implicitDefEqProofs (maxSteps := 10000000) only [go_sem, seval, ↓gA, ↓gB, ↓gC, ↓gD, ↓gE, ↓gF]; exact rfl
  case h0 => rfl
  case step =>
    intro i hi ih
    by_cases hlt : i < S.length
    · obtain ⟨x, hx⟩ := get_lt hlt
      have hw := wrap_succ (k := i) (by omega)
      have hm := fm_take (f := spWaste) hx
      have hfl : ((S.take i).filterMap spWaste).length ≤ i := Nat.le_trans (List.length_filterMap_le _ _) (by simp; omega)
      have hr : (((S.take i).filterMap spWaste).length + 1) * 32 ≤ 140737488355328 ∧ ((S.take i).filterMap spWaste).length ≤ 140737488355327 := by omega
      obtain ⟨q', t', ⟨X, Y, W, H⟩⟩ := x
      simp only [spWaste] at hm
      by_cases ho : q' < 0
      · rw [if_pos ho] at hm
        simp +contextual -implicitDefEqProofs (maxSteps := 10000000) only [go_sem, seval, ↓gA, ↓gB, ↓gC, ↓gD, ↓gE, ↓gF, hx, hlt, hw, ho, hr]
        refine ih (i + 1) _ (by omega) (by omega) ?_
        simp +contextual -implicitDefEqProofs (maxSteps := 10000000) only [go_sem, seval, ↓gA, ↓gB, ↓gC, ↓gD, ↓gE, ↓gF, hm]
        first | rfl | (simp; done) | (simp; rfl)
      · rw [if_neg ho] at hm
        simp +contextual -implicitDefEqProofs (maxSteps := 10000000) only [go_sem, seval, ↓gA, ↓gB, ↓gC, ↓gD, ↓gE, ↓gF, hx, hlt, hw, ho, hr]
        refine ih (i + 1) _ (by omega) (by omega) ?_
        simp +contextual -implicitDefEqProofs (maxSteps := 10000000) only [go_sem, seval, ↓gA, ↓gB, ↓gC, ↓gD, ↓gE, ↓gF, hm]
        first | rfl | (simp; done) | (simp; rfl)
    · have : i = S.length := by omega
      subst this
      simp +contextual -implicitDefEqProofs (maxSteps := 10000000) only [go_sem, seval, ↓gA, ↓gB, ↓gC, ↓gD, ↓gE, ↓gF]
      simp
theorem s_goodPlan_ev (qL : Int) (qW : Int) (qH : Int) (qF : List Box) (kW : Int) (kH : Int) (kP : List Pane) (p : Plan) (hfl : ∀ f ∈ qF, VB f) (hq6 : qF.length ≤ 6) (hl : kP.length < 4611686018427387904) : vcall Xs Ms n_s_goodPlan [(.d (.agg [.int .i64 qL, .int .i64 qW, .int .i64 qH, .sl (qF.map Box.enc)])), (.d (.agg [.int .i64 kW, .int .i64 kH, .sl (kP.map Pane.enc)])), .d p.enc] [] = some ((.d (.bool (decide (goodP (Piece.mk qL qW qH qF) (Work.mk kW kH kP) p)))), []) := by
  have ev := s_validPlan_ev kW kH kP p hl
  by_cases hv : vplan (Work.mk kW kH kP) p = true
  · by_cases hw : kW = qW
    · by_cases hh : kH = qH
      · subst hw; subst hh
        obtain ⟨b, hb, hpb, hvw, hcnt, hfit, hpt⟩ := vplan_some hv
        have hvw' := hvw
        simp only [VW] at hvw'
        have ep := s_placesOf_ev kW kH kP p b hpb (by simp only [inB]; omega) hfit (by omega)
        have hbox : ∀ c ∈ plc b 0 0 kW kH, VB c.Box := vplan_places (p := p) hvw hfit
        have hlen : (plc b 0 0 kW kH).length ≤ 255 := by
          rw [← pt_places]; exact Nat.le_trans (List.length_filterMap_le _ _) (by rw [pt_len]; exact hcnt)
        have hgood : goodP ⟨qL, kW, kH, qF⟩ (Work.mk kW kH kP) p ↔ ∀ c ∈ plc b 0 0 kW kH, clearOf qF c.Box := by
          unfold goodP; rw [hpt, pt_places]; exact ⟨fun h => h.2.2.2, fun h => ⟨hv, rfl, rfl, h⟩⟩
        rw [hv] at ev
        generalize plc b 0 0 kW kH = L at ep hbox hlen hgood
        clear hpt hpb hb
        obtain ⟨o, a, n, t, ks⟩ := p
        rw [Plan.enc_mk] at ev ep ⊢
        refine callE Xs Ms f_s_goodPlan x_s_goodPlan (by show 3 ≤ _; decide) ?_
        simp +contextual -implicitDefEqProofs (maxSteps := 10000000) only [go_sem, seval, ↓gA, ↓gB, ↓gC, ↓gD, ↓gE, ↓gF, f_s_goodPlan, ev, ep]
        refine LW_over Xs Ms (st0 := ?st0) (α := Nat) (fun i => [(8, .d (.int .i64 (i : Int)))]) (fun _ => []) (fun i => i ≤ L.length ∧ ((∀ c ∈ L, clearOf qF c.Box) ↔ ∀ c ∈ L.drop i, clearOf qF c.Box)) (fun i => L.length - i) 0 ?hc ⟨by omega, by simp⟩ ?h0 ?step
        case hc => simp +contextual -implicitDefEqProofs (maxSteps := 10000000) only [go_sem, seval, ↓gA, ↓gB, ↓gC, ↓gD, ↓gE, ↓gF]; exact rfl
        case h0 => rfl
        case step =>
          intro i ⟨hi, hp⟩ ih
          by_cases hlt : i < L.length
          · obtain ⟨x, hx⟩ := get_lt hlt
            rw [all_drop hx (fun c => clearOf qF c.Box)] at hp
            have hw := wrap_succ (k := i) (by omega)
            have hbx := hbox x (List.mem_of_getElem? hx)
            obtain ⟨q', t', ⟨X, Y, W, H⟩⟩ := x
            have em := s_clearAt_ev qL kW kH qF X Y W H hfl hbx (by omega)
            simp +contextual -implicitDefEqProofs (maxSteps := 10000000) only [go_sem, seval, ↓gA, ↓gB, ↓gC, ↓gD, ↓gE, ↓gF, hx, hlt, hw, em]
            refine ⟨fun h => fin_f (fun h' => h ((hp.1 (hgood.1 h')).1)), fun h => ih (i + 1) _ ⟨by omega, ?_⟩ (by omega) ?_⟩
            · rw [hp]; exact ⟨fun h' => h'.2, fun h' => ⟨h, h'⟩⟩
            · simp +contextual -implicitDefEqProofs (maxSteps := 10000000) only [go_sem, seval, ↓gA, ↓gB, ↓gC, ↓gD, ↓gE, ↓gF]
          · have : i = L.length := by omega
            subst this
            simp +contextual -implicitDefEqProofs (maxSteps := 10000000) only [go_sem, seval, ↓gA, ↓gB, ↓gC, ↓gD, ↓gE, ↓gF]
            exact fin_t (hgood.2 (hp.2 (by simp)))
      · subst hw
        have hn : ¬ goodP ⟨qL, kW, qH, qF⟩ (Work.mk kW kH kP) p := fun h => hh h.2.2.1
        obtain ⟨o, a, n, t, ks⟩ := p
        rw [hv] at ev
        rw [Plan.enc_mk] at ev ⊢
        refine callE Xs Ms f_s_goodPlan x_s_goodPlan (by show 3 ≤ _; decide) ?_
        simp +contextual -implicitDefEqProofs (maxSteps := 10000000) only [go_sem, seval, ↓gA, ↓gB, ↓gC, ↓gD, ↓gE, ↓gF, f_s_goodPlan, ev, hh, hn]
    · have hn : ¬ goodP (Piece.mk qL qW qH qF) (Work.mk kW kH kP) p := fun h => hw h.2.1
      obtain ⟨o, a, n, t, ks⟩ := p
      rw [hv] at ev
      rw [Plan.enc_mk] at ev ⊢
      refine callE Xs Ms f_s_goodPlan x_s_goodPlan (by show 3 ≤ _; decide) ?_
      simp +contextual -implicitDefEqProofs (maxSteps := 10000000) only [go_sem, seval, ↓gA, ↓gB, ↓gC, ↓gD, ↓gE, ↓gF, f_s_goodPlan, ev, hw, hn]
  · have hv' := (Bool.not_eq_true _).mp hv
    have hn : ¬ goodP (Piece.mk qL qW qH qF) (Work.mk kW kH kP) p := fun h => hv h.1
    rw [hv'] at ev
    obtain ⟨o, a, n, t, ks⟩ := p
    rw [Plan.enc_mk] at ev ⊢
    refine callE Xs Ms f_s_goodPlan x_s_goodPlan (by show 3 ≤ _; decide) ?_
    simp +contextual -implicitDefEqProofs (maxSteps := 10000000) only [go_sem, seval, ↓gA, ↓gB, ↓gC, ↓gD, ↓gE, ↓gF, f_s_goodPlan, ev, hn]

theorem s_cutOut_ev (qL : Int) (qW : Int) (qH : Int) (qF : List Box) (bX : Int) (bY : Int) (bW : Int) (bH : Int) (label : Int) (hf : ∀ f ∈ qF, VB f) (hl : qF.length ≤ 6) (hb : VB (Box.mk bX bY bW bH)) :
    vcall Xs Ms n_s_cutOut [(.d (.agg [.int .i64 qL, .int .i64 qW, .int .i64 qH, .sl (qF.map Box.enc)])), (.d (.agg [.int .i64 bX, .int .i64 bY, .int .i64 bW, .int .i64 bH])), (.d (.int .i64 (label)))] [] = some (.agg [(.d (.int .i64 (label))), (.d (.int .i64 (bW))), (.d (.int .i64 (bH))), .own 0], [.row 4 ((qF.filterMap (cutFlaw (Box.mk bX bY bW bH))).map Box.enc) true false]) := by
  refine callE Xs Ms f_s_cutOut x_s_cutOut (by show 3 ≤ _; decide) ?_
  simp +contextual -implicitDefEqProofs (maxSteps := 10000000) only [go_sem, seval, ↓gA, ↓gB, ↓gC, ↓gD, ↓gE, ↓gF, f_s_cutOut]
  refine LW_over Xs Ms (st0 := ?st0) (α := Nat) (fun i => [(8, .d (.int .i64 (i : Int)))]) (fun i => [(4, .row 4 (((qF.take i).filterMap (cutFlaw (Box.mk bX bY bW bH))).map Box.enc) true false)]) (fun i => i ≤ qF.length) (fun i => qF.length - i) 0 ?hc (by omega) ?h0 ?step
  case hc => simp +contextual -implicitDefEqProofs (maxSteps := 10000000) only [go_sem, seval, ↓gA, ↓gB, ↓gC, ↓gD, ↓gE, ↓gF]; exact rfl
  case h0 => rfl
  case step =>
    intro i hk ih
    by_cases hlt : i < qF.length
    · obtain ⟨x, hx⟩ := get_lt hlt
      have hw := wrap_succ (k := i) (by omega)
      have hm := fm_take (f := cutFlaw (Box.mk bX bY bW bH)) hx
      have hfl : ((qF.take i).filterMap (cutFlaw (Box.mk bX bY bW bH))).length ≤ i := Nat.le_trans (List.length_filterMap_le _ _) (by simp; omega)
      have hr : (((qF.take i).filterMap (cutFlaw (Box.mk bX bY bW bH))).length + 1) * 32 ≤ 140737488355328 ∧ ((qF.take i).filterMap (cutFlaw (Box.mk bX bY bW bH))).length ≤ 140737488355327 := by omega
      have hvx := hf x (List.mem_of_getElem? hx)
      obtain ⟨X, Y, W, H⟩ := x
      have hvx' := hvx
      have hb' := hb
      simp only [VB] at hvx' hb'
      simp only [cutFlaw] at hm
      by_cases ho : meets ⟨X, Y, W, H⟩ (Box.mk bX bY bW bH)
      · rw [if_pos ho] at hm
        have w1 := wi (max X bX - bX) (by omega) (by omega)
        have w2 := wi (max Y bY - bY) (by omega) (by omega)
        simp +contextual -implicitDefEqProofs (maxSteps := 10000000) only [go_sem, seval, ↓gA, ↓gB, ↓gC, ↓gD, ↓gE, ↓gF, hx, hlt, hw, s_meetOf_yes X Y W H bX bY bW bH hvx hb ho, hr, meetB, w1, w2]
        refine ih (i + 1) _ (by omega) (by omega) ?_
        simp +contextual -implicitDefEqProofs (maxSteps := 10000000) only [go_sem, seval, ↓gA, ↓gB, ↓gC, ↓gD, ↓gE, ↓gF, hm, shiftB, meetB]
        first | rfl | (simp; done) | (simp; rfl)
      · rw [if_neg ho] at hm
        simp +contextual -implicitDefEqProofs (maxSteps := 10000000) only [go_sem, seval, ↓gA, ↓gB, ↓gC, ↓gD, ↓gE, ↓gF, hx, hlt, hw, s_meetOf_no X Y W H bX bY bW bH hvx hb ho, hr]
        refine ih (i + 1) _ (by omega) (by omega) ?_
        simp +contextual -implicitDefEqProofs (maxSteps := 10000000) only [go_sem, seval, ↓gA, ↓gB, ↓gC, ↓gD, ↓gE, ↓gF, hm]
        first | rfl | (simp; done) | (simp; rfl)
    · have : i = qF.length := by omega
      subst this
      simp +contextual -implicitDefEqProofs (maxSteps := 10000000) only [go_sem, seval, ↓gA, ↓gB, ↓gC, ↓gD, ↓gE, ↓gF]
      try simp


theorem s_isRemnant_ev (bX : Int) (bY : Int) (bW : Int) (bH : Int) (least : Int) : vcall Xs Ms n_s_isRemnant [(.d (.agg [.int .i64 bX, .int .i64 bY, .int .i64 bW, .int .i64 bH])), (.d (.int .i64 (least)))] [] = some ((.d (.bool (decide (least ≤ bW ∧ least ≤ bH)))), []) := by
  refine callE Xs Ms f_s_isRemnant x_s_isRemnant (by show 2 ≤ _; decide) ?_
  simp +contextual -implicitDefEqProofs (maxSteps := 10000000) only [go_sem, seval, ↓gA, ↓gB, ↓gC, ↓gD, ↓gE, ↓gF, f_s_isRemnant]
theorem s_remnants_ev (qL : Int) (qW : Int) (qH : Int) (qF : List Box) (kW : Int) (kH : Int) (kP : List Pane) (p : Plan) (least label : Int) (hq : VPc (Piece.mk qL qW qH qF)) (hv : vplan (Work.mk kW kH kP) p = true) (h1 : 1 ≤ label) (h2 : label ≤ 10000) :
    vcall Xs Ms n_s_remnants [(.d (.agg [.int .i64 qL, .int .i64 qW, .int .i64 qH, .sl (qF.map Box.enc)])), (.d (.agg [.int .i64 kW, .int .i64 kH, .sl (kP.map Pane.enc)])), .d p.enc, (.d (.int .i64 (least))), (.d (.int .i64 (label)))] [] =
    some (.own 0, [.row 4 ((cutN (Piece.mk qL qW qH qF) label (keptL (Work.mk kW kH kP) p least)).map Piece.enc) true false]) := by
  obtain ⟨b, hb, hpb, hvw, hcnt, hfit, hpt⟩ := vplan_some hv
  have hvw' := hvw
  simp only [VW] at hvw'
  have ep := s_wastesOf_ev kW kH kP p b hpb (by simp only [inB]; omega) hfit (by omega)
  have hbox := wastes_VB hv
  have hlen : ((partsL (Work.mk kW kH kP) p).filterMap asWaste).length ≤ 255 := Nat.le_trans (List.length_filterMap_le _ _) (partsL_len _ _)
  unfold keptL
  rw [hpt, pt_wastes] at hbox hlen ⊢
  have hfl : ∀ f ∈ qF, VB f := fun f hf => (hq.2 f hf).1
  have hq6 : qF.length ≤ 6 := hq.1.2.2.2.2.2.2
  have hkept : ∀ i, ((wst b 0 0 kW kH).take i).length ≤ 255 := fun i => Nat.le_trans (List.length_take_le' _ _) hlen
  generalize wst b 0 0 kW kH = L at ep hbox hlen hkept ⊢
  clear hpt hpb hb hv hfit hvw hvw'
  obtain ⟨o, a, n, t, ks⟩ := p
  rw [Plan.enc_mk] at ep ⊢
  refine callE Xs Ms f_s_remnants x_s_remnants (by show 5 ≤ _; decide) ?_
  simp +contextual -implicitDefEqProofs (maxSteps := 10000000) only [go_sem, seval, ↓gA, ↓gB, ↓gC, ↓gD, ↓gE, ↓gF, f_s_remnants, ep]
  refine LW_over Xs Ms (st0 := ?st0) (α := Nat) (fun i => [(13, .d (.int .i64 (i : Int)))]) (fun i => [(1, .row 4 ((cutN (Piece.mk qL qW qH qF) label ((L.take i).filterMap (keptB least))).map Piece.enc) true false)]) (fun i => i ≤ L.length) (fun i => L.length - i) 0 ?hc (by omega) ?h0 ?step
  case hc => simp +contextual -implicitDefEqProofs (maxSteps := 10000000) only [go_sem, seval, ↓gA, ↓gB, ↓gC, ↓gD, ↓gE, ↓gF]; exact rfl
  case h0 => rfl
  case step =>
    intro i hi ih
    by_cases hlt : i < L.length
    · obtain ⟨x, hx⟩ := get_lt hlt
      have hw := wrap_succ (k := i) (by omega)
      have hm := fm_take (f := keptB least) hx
      have hlk : ((L.take i).filterMap (keptB least)).length ≤ 255 := Nat.le_trans (List.length_filterMap_le _ _) (hkept i)
      have hl := cutN_len (Piece.mk qL qW qH qF) label ((L.take i).filterMap (keptB least))
      have hr : (((L.take i).filterMap (keptB least)).length + 1) * 48 ≤ 140737488355328 ∧ ((L.take i).filterMap (keptB least)).length ≤ 140737488355327 := by omega
      have w1 := wi (label + (((L.take i).filterMap (keptB least)).length : Int)) (by omega) (by omega)
      have hbx := hbox x (List.mem_of_getElem? hx)
      have hcc := fun y => cutN_append (Piece.mk qL qW qH qF) label ((L.take i).filterMap (keptB least)) [y]
      obtain ⟨X, Y, W, H⟩ := x
      simp only [keptB] at hm
      have hc := s_cutOut_ev qL qW qH qF X Y W H (label + (((L.take i).filterMap (keptB least)).length : Int)) hfl hq6 hbx
      by_cases ho : least ≤ W ∧ least ≤ H
      · rw [if_pos ho] at hm
        simp +contextual -implicitDefEqProofs (maxSteps := 10000000) only [go_sem, seval, ↓gA, ↓gB, ↓gC, ↓gD, ↓gE, ↓gF, hx, hlt, hw, s_isRemnant_ev, ho, hl, w1, hc, hr]
        refine ih (i + 1) _ (by omega) (by omega) ?_
        simp +contextual -implicitDefEqProofs (maxSteps := 10000000) only [go_sem, seval, ↓gA, ↓gB, ↓gC, ↓gD, ↓gE, ↓gF, hm, Option.toList, hcc, cutN, cutP]
        first | rfl | (simp; done) | (simp; rfl)
      · rw [if_neg ho] at hm
        simp +contextual -implicitDefEqProofs (maxSteps := 10000000) only [go_sem, seval, ↓gA, ↓gB, ↓gC, ↓gD, ↓gE, ↓gF, hx, hlt, hw, s_isRemnant_ev, ho]
        refine ih (i + 1) _ (by omega) (by omega) ?_
        simp +contextual -implicitDefEqProofs (maxSteps := 10000000) only [go_sem, seval, ↓gA, ↓gB, ↓gC, ↓gD, ↓gE, ↓gF, hm]
        first | rfl | (simp; done) | (simp; rfl)
    · have : i = L.length := by omega
      subst this
      simp +contextual -implicitDefEqProofs (maxSteps := 10000000) only [go_sem, seval, ↓gA, ↓gB, ↓gC, ↓gD, ↓gE, ↓gF]
      try simp




theorem s_someBox_ev (bs : List UInt8) (hb : bs.length ≤ 2000) (p : Nat) (hp : p < 900000000) (w h : Int) : ∃ X Y W H : Int,
    vcall Xs Ms n_s_someBox [.ptr 0 0, (.d (.int .i64 (w))), (.d (.int .i64 (h)))] [.box [.d (.sl (bs.map encU)), (.d (.int .i64 (p)))]] = some (.d (.agg [.int .i64 X, .int .i64 Y, .int .i64 W, .int .i64 H]), [.box [.d (.sl (bs.map encU)), (.d (.int .i64 ((p + 4 : Nat))))]]) := by
  have p1 := s_pick_ev bs p w hb (by omega)
  generalize s_pick bs p w = a1 at p1
  have p2 := s_pick_ev bs (p + 1) h hb (by omega)
  generalize s_pick bs (p + 1) h = a2 at p2
  have p3 := s_pick_ev bs (p + 2) (IntKind.i64.wrap (IntKind.i64.wrap (w - IntKind.i64.wrap (1 + a1)) + 1)) hb (by omega)
  generalize s_pick bs (p + 2) (IntKind.i64.wrap (IntKind.i64.wrap (w - IntKind.i64.wrap (1 + a1)) + 1)) = a3 at p3
  have p4 := s_pick_ev bs (p + 3) (IntKind.i64.wrap (IntKind.i64.wrap (h - IntKind.i64.wrap (1 + a2)) + 1)) hb (by omega)
  generalize s_pick bs (p + 3) (IntKind.i64.wrap (IntKind.i64.wrap (h - IntKind.i64.wrap (1 + a2)) + 1)) = a4 at p4
  refine ⟨a3, a4, IntKind.i64.wrap (1 + a1), IntKind.i64.wrap (1 + a2), ?_⟩
  refine callE Xs Ms f_s_someBox x_s_someBox (by show 3 ≤ _; decide) ?_
  simp +contextual -implicitDefEqProofs (maxSteps := 10000000) only [go_sem, seval, ↓gA, ↓gB, ↓gC, ↓gD, ↓gE, ↓gF, f_s_someBox, p1, p2, p3, p4]

def sumWH : List Piece → Int
  | [] => 0
  | x :: l => x.W * x.H + sumWH l
theorem sumWH_append (a b : List Piece) : sumWH (a ++ b) = sumWH a + sumWH b := by
  induction a with
  | nil => simp [sumWH]
  | cons c l ih => simp only [List.cons_append, sumWH, ih]; omega
theorem sumWH_take {L : List Piece} {i : Nat} {x : Piece} (hx : L[i]? = some x) : sumWH (L.take (i + 1)) = sumWH (L.take i) + x.W * x.H := by
  rw [List.take_add_one, hx, sumWH_append]; simp [sumWH]
theorem cutN_get (q : Piece) : ∀ (n : Int) (l : List Box) (i : Nat) (x : Piece), (cutN q n l)[i]? = some x → ∃ b, l[i]? = some b ∧ x = cutP q b (n + i)
  | n, [], i, x, h => by simp [cutN] at h
  | n, b :: l, 0, x, h => by
    simp only [cutN, List.getElem?_cons_zero, Option.some.injEq] at h
    exact ⟨b, rfl, by rw [← h]; simp⟩
  | n, b :: l, i + 1, x, h => by
    simp only [cutN, List.getElem?_cons_succ] at h
    obtain ⟨c, h1, h2⟩ := cutN_get q (n + 1) l i x h
    refine ⟨c, by simpa using h1, ?_⟩
    rw [h2]; congr 1; omega
theorem sumWH_nonneg : ∀ {l : List Piece}, (∀ x ∈ l, 1 ≤ x.W ∧ x.W ≤ 200 ∧ 1 ≤ x.H ∧ x.H ≤ 200) → 0 ≤ sumWH l ∧ sumWH l ≤ 40000 * l.length
  | [], _ => by simp [sumWH]
  | x :: l, h => by
    have h1 := h x (by simp)
    have h2 := sumWH_nonneg (l := l) fun y hy => h y (by simp [hy])
    have h3 : 0 ≤ x.W * x.H := Int.mul_nonneg (by omega) (by omega)
    have h4 : x.W * x.H ≤ 200 * 200 := Int.mul_le_mul (by omega) (by omega) (by omega) (by omega)
    simp only [sumWH, List.length_cons]
    omega
def sortF : Int → List Piece → Prop
  | _, [] => True
  | b, x :: l => VPc x ∧ b < x.Label ∧ sortF x.Label l
instance sortFdec : ∀ (b : Int) (l : List Piece), Decidable (sortF b l)
  | _, [] => .isTrue trivial
  | b, x :: l => by unfold sortF; exact @instDecidableAnd _ _ _ (@instDecidableAnd _ _ _ (sortFdec x.Label l))
def VSt (l : List Piece) : Prop := l.length ≤ 20 ∧ sortF 0 l
instance (l : List Piece) : Decidable (VSt l) := by unfold VSt; infer_instance
theorem sortF_cons {l : List Piece} {k : Nat} {x : Piece} {b : Int} (hx : l[k]? = some x) : sortF b (l.drop k) ↔ VPc x ∧ b < x.Label ∧ sortF x.Label (l.drop (k + 1)) := by
  obtain ⟨h1, h2⟩ := List.getElem?_eq_some_iff.1 hx
  rw [List.drop_eq_getElem_cons h1, h2, sortF]
theorem sortF_end {l : List Piece} {b : Int} : sortF b (l.drop l.length) := by simp [sortF]
theorem i_ValidStock_ev (l : List Piece) : vcall Xs Ms n_i_ValidStock [(.d (.sl (l.map Piece.enc)))] [] = some ((.d (.bool (decide (VSt l)))), []) := by
  by_cases h20 : (20 : Int) < (l.length : Int)
  · have hn : ¬ VSt l := fun h => by have := h.1; omega
    refine callE Xs Ms f_i_ValidStock x_i_ValidStock (by show 1 ≤ _; decide) ?_
    simp +contextual -implicitDefEqProofs (maxSteps := 10000000) only [go_sem, seval, ↓gA, ↓gB, ↓gC, ↓gD, ↓gE, ↓gF, f_i_ValidStock, h20, hn]
  · have hle : l.length ≤ 20 := by omega
    refine callE Xs Ms f_i_ValidStock x_i_ValidStock (by show 1 ≤ _; decide) ?_
    simp +contextual -implicitDefEqProofs (maxSteps := 10000000) only [go_sem, seval, ↓gA, ↓gB, ↓gC, ↓gD, ↓gE, ↓gF, f_i_ValidStock, h20]
    refine LW_over Xs Ms (st0 := ?st0) (α := Nat × Int) (fun s => [(11, .d (.int .i64 (s.1 : Int))), (3, .d (.int .i64 s.2))]) (fun _ => []) (fun s => s.1 ≤ l.length ∧ (sortF 0 l ↔ sortF s.2 (l.drop s.1))) (fun s => l.length - s.1) (0, 0) ?hc ⟨by simp, by simp⟩ ?h0 ?step
    case hc => simp +contextual -implicitDefEqProofs (maxSteps := 10000000) only [go_sem, seval, ↓gA, ↓gB, ↓gC, ↓gD, ↓gE, ↓gF] <;> exact rfl
    case h0 => rfl
    case step =>
      intro ⟨i, b⟩ ⟨hi, hp⟩ ih
      simp only at hi hp
      by_cases hlt : i < l.length
      · obtain ⟨x, hx⟩ := get_lt hlt
        have hw := wrap_succ (k := i) (by omega)
        rw [sortF_cons hx] at hp
        have ev := i_ValidPiece_ev x.Label x.W x.H x.Flaws
        obtain ⟨L, W, H, F⟩ := x
        simp only at hp ev
        by_cases hv : VPc ⟨L, W, H, F⟩
        · rw [decide_eq_true hv] at ev
          by_cases hb : L ≤ b
          · have hn : ¬ VSt l := fun h => by have := (hp.1 h.2).2.1; omega
            simp +contextual -implicitDefEqProofs (maxSteps := 10000000) only [go_sem, seval, ↓gA, ↓gB, ↓gC, ↓gD, ↓gE, ↓gF, hx, hlt, hw, ev, hb, hn]
          · simp +contextual -implicitDefEqProofs (maxSteps := 10000000) only [go_sem, seval, ↓gA, ↓gB, ↓gC, ↓gD, ↓gE, ↓gF, hx, hlt, hw, ev, hb]
            refine ih (i + 1, L) _ ⟨by simp only; omega, ?_⟩ (by simp only; omega) ?_
            · rw [hp]; exact ⟨fun h => h.2.2, fun h => ⟨hv, by omega, h⟩⟩
            · simp +contextual -implicitDefEqProofs (maxSteps := 10000000) only [go_sem, seval, ↓gA, ↓gB, ↓gC, ↓gD, ↓gE, ↓gF]
        · rw [decide_eq_false hv] at ev
          have hn : ¬ VSt l := fun h => hv (hp.1 h.2).1
          simp +contextual -implicitDefEqProofs (maxSteps := 10000000) only [go_sem, seval, ↓gA, ↓gB, ↓gC, ↓gD, ↓gE, ↓gF, hx, hlt, hw, ev, hn]
      · have : i = l.length := by omega
        subst this
        have hy : VSt l := ⟨hle, hp.2 sortF_end⟩
        simp +contextual -implicitDefEqProofs (maxSteps := 10000000) only [go_sem, seval, ↓gA, ↓gB, ↓gC, ↓gD, ↓gE, ↓gF, hy]
def labAt (l : List Piece) : Nat → Int
  | 0 => 0
  | j + 1 => match l[j]? with
    | some x => x.Label
    | none => 0
theorem s_validStock_ev (l : List Piece) (hl : l.length < 4611686018427387904) (hS : ∀ x ∈ l, x.Flaws.length < 4611686018427387904 ∧ R64 x.W ∧ R64 x.H) : vcall Xs Ms n_s_validStock [(.d (.sl (l.map Piece.enc)))] [] = some ((.d (.bool (decide (VSt l)))), []) := by
  refine callE Xs Ms f_s_validStock x_s_validStock (by show 1 ≤ _; decide) ?_
  simp +contextual -implicitDefEqProofs (maxSteps := 10000000) only [go_sem, seval, ↓gA, ↓gB, ↓gC, ↓gD, ↓gE, ↓gF, f_s_validStock]
  refine LW_over Xs Ms (st0 := ?st0) (α := Nat) (fun i => [(3, .d (.int .i64 (i : Int)))]) (fun _ => []) (fun i => i ≤ l.length ∧ (sortF 0 l ↔ sortF (labAt l i) (l.drop i))) (fun i => l.length - i) 0 ?hc ⟨by simp, by simp [labAt]⟩ ?h0 ?step
  case hc => simp +contextual -implicitDefEqProofs (maxSteps := 10000000) only [go_sem, seval, ↓gA, ↓gB, ↓gC, ↓gD, ↓gE, ↓gF] <;> exact rfl
  case h0 => rfl
  case step =>
    intro i ⟨hi, hp⟩ ih
    by_cases hlt : i < l.length
    · obtain ⟨x, hx⟩ := get_lt hlt
      have hw := wrap_succ (k := i) (by omega)
      rw [sortF_cons hx] at hp
      obtain ⟨hS1, hS2, hS3⟩ := hS x (List.mem_of_getElem? hx)
      have ev := s_validPiece_ev x.Label x.W x.H x.Flaws hS1 hS2 hS3
      have hla : labAt l (i + 1) = x.Label := by simp only [labAt, hx]
      obtain ⟨L, W, H, F⟩ := x
      simp only at hp ev hla
      by_cases hv : VPc ⟨L, W, H, F⟩
      · rw [decide_eq_true hv] at ev
        have hL : 1 ≤ L := hv.1.1
        cases i with
        | zero =>
          have hlt' : (0 : Int) < (l.length : Int) := by omega
          simp +contextual -implicitDefEqProofs (maxSteps := 10000000) only [go_sem, seval, ↓gA, ↓gB, ↓gC, ↓gD, ↓gE, ↓gF, hx, hlt, hlt', hw, ev]
          refine ih 1 _ ⟨by omega, ?_⟩ (by omega) ?_
          · rw [hp, hla]; exact ⟨fun h => h.2.2, fun h => ⟨hv, by simp only [labAt]; omega, h⟩⟩
          · simp +contextual -implicitDefEqProofs (maxSteps := 10000000) only [go_sem, seval, ↓gA, ↓gB, ↓gC, ↓gD, ↓gE, ↓gF]
        | succ j =>
          obtain ⟨y, hy⟩ := get_lt (l := l) (k := j) (by omega)
          have hlb : labAt l (j + 1) = y.Label := by simp only [labAt, hy]
          rw [hlb] at hp
          have hj : IntKind.i64.wrap (((j + 1 : Nat) : Int) - 1) = (j : Int) := by rw [wrap64 (by omega) (by omega)]; omega
          have hpos : (0 : Int) < ((j + 1 : Nat) : Int) := by omega
          have hjl : j < l.length := by omega
          obtain ⟨L', W', H', F'⟩ := y
          simp only at hp
          by_cases hb : L ≤ L'
          · have hn : ¬ VSt l := fun h => by have := (hp.1 h.2).2.1; omega
            simp +contextual -implicitDefEqProofs (maxSteps := 10000000) only [go_sem, seval, ↓gA, ↓gB, ↓gC, ↓gD, ↓gE, ↓gF, hx, hlt, hw, ev, hpos, hj, hjl, hy, hb, hn]
          · simp +contextual -implicitDefEqProofs (maxSteps := 10000000) only [go_sem, seval, ↓gA, ↓gB, ↓gC, ↓gD, ↓gE, ↓gF, hx, hlt, hw, ev, hpos, hj, hjl, hy, hb]
            refine ih (j + 1 + 1) _ ⟨by omega, ?_⟩ (by omega) ?_
            · rw [hp, hla]; exact ⟨fun h => h.2.2, fun h => ⟨hv, by omega, h⟩⟩
            · simp +contextual -implicitDefEqProofs (maxSteps := 10000000) only [go_sem, seval, ↓gA, ↓gB, ↓gC, ↓gD, ↓gE, ↓gF]
      · rw [decide_eq_false hv] at ev
        have hn : ¬ VSt l := fun h => hv (hp.1 h.2).1
        simp +contextual -implicitDefEqProofs (maxSteps := 10000000) only [go_sem, seval, ↓gA, ↓gB, ↓gC, ↓gD, ↓gE, ↓gF, hx, hlt, hw, ev, hn]
    · have : i = l.length := by omega
      subst this
      have hs := hp.2 sortF_end
      simp +contextual -implicitDefEqProofs (maxSteps := 10000000) only [go_sem, seval, ↓gA, ↓gB, ↓gC, ↓gD, ↓gE, ↓gF]
      exact fin_b (by simp only [VSt]; constructor <;> (intro h; first | exact ⟨by omega, hs⟩ | (have := h.1; omega)))
def fLab : Nat → List Piece → Int → Int
  | _, [], _ => -1
  | k, x :: l, n => if x.Label = n then (k : Int) else fLab (k + 1) l n
theorem fLab_cons {l : List Piece} {k : Nat} {x : Piece} {n : Int} (hx : l[k]? = some x) : fLab k (l.drop k) n = if x.Label = n then (k : Int) else fLab (k + 1) (l.drop (k + 1)) n := by
  obtain ⟨h1, h2⟩ := List.getElem?_eq_some_iff.1 hx
  rw [List.drop_eq_getElem_cons h1, h2, fLab]
theorem i_findLabel_1_ev (qL : Int) (qW : Int) (qH : Int) (qF : List Box) (n : Int) : vcall Xs Ms n_i_findLabel_1 [(.d (.agg [.int .i64 qL, .int .i64 qW, .int .i64 qH, .sl (qF.map Box.enc)])), .ptr 0 0] [.box [(.d (.int .i64 (n)))]] = some ((.d (.bool (decide (qL = n)))), [.box [(.d (.int .i64 (n)))]]) := by
  refine callE Xs Ms f_i_findLabel_1 x_i_findLabel_1 (by show 2 ≤ _; decide) ?_
  simp +contextual -implicitDefEqProofs (maxSteps := 10000000) only [go_sem, seval, ↓gA, ↓gB, ↓gC, ↓gD, ↓gE, ↓gF, f_i_findLabel_1]
theorem IndexFunc_ev (l : List Piece) (n : Int) (hl : l.length < 4611686018427387904) : vcall Xs Ms n_slices_IndexFunc_g [(.d (.sl (l.map Piece.enc))), .clo n_i_findLabel_1 [.ptr 0 0]] [.box [(.d (.int .i64 (n)))]] = some ((.d (.int .i64 (fLab 0 l n))), [.box [(.d (.int .i64 (n)))]]) := by
  refine callE Xs Ms f_slices_IndexFunc_g x_slices_IndexFunc_g (by show 2 ≤ _; decide) ?_
  simp +contextual -implicitDefEqProofs (maxSteps := 10000000) only [go_sem, seval, ↓gA, ↓gB, ↓gC, ↓gD, ↓gE, ↓gF, f_slices_IndexFunc_g]
  refine LW_over Xs Ms (st0 := ?st0) (α := Nat) (fun k => [(8, .d (.int .i64 (k : Int)))]) (fun _ => []) (fun k => k ≤ l.length ∧ fLab k (l.drop k) n = fLab 0 l n) (fun k => l.length - k) 0 ?hc ⟨by omega, rfl⟩ ?h0 ?step
  case hc => simp +contextual -implicitDefEqProofs (maxSteps := 10000000) only [go_sem, seval, ↓gA, ↓gB, ↓gC, ↓gD, ↓gE, ↓gF] <;> exact rfl
  case h0 => rfl
  case step =>
    intro k ⟨hk, hp⟩ ih
    by_cases hlt : k < l.length
    · obtain ⟨x, hx⟩ := get_lt hlt
      rw [fLab_cons hx] at hp
      have hw := wrap_succ (k := k) (by omega)
      have e1 := i_findLabel_1_ev x.Label x.W x.H x.Flaws n
      obtain ⟨L, W, H, F⟩ := x
      simp only at hp e1
      by_cases h : L = n
      · rw [if_pos h] at hp
        rw [decide_eq_true h] at e1
        simp +contextual -implicitDefEqProofs (maxSteps := 10000000) only [go_sem, seval, ↓gA, ↓gB, ↓gC, ↓gD, ↓gE, ↓gF, hx, hlt, hw, e1]
        rw [← hp]
      · rw [if_neg h] at hp
        rw [decide_eq_false h] at e1
        simp +contextual -implicitDefEqProofs (maxSteps := 10000000) only [go_sem, seval, ↓gA, ↓gB, ↓gC, ↓gD, ↓gE, ↓gF, hx, hlt, hw, e1]
        refine ih (k + 1) _ ⟨by omega, hp⟩ (by omega) ?_
        simp +contextual -implicitDefEqProofs (maxSteps := 10000000) only [go_sem, seval, ↓gA, ↓gB, ↓gC, ↓gD, ↓gE, ↓gF]
    · have : k = l.length := by omega
      subst this
      simp +contextual -implicitDefEqProofs (maxSteps := 10000000) only [go_sem, seval, ↓gA, ↓gB, ↓gC, ↓gD, ↓gE, ↓gF]
      rw [← hp]
      simp [fLab]
theorem i_findLabel_ev (l : List Piece) (n : Int) (hl : l.length < 4611686018427387904) : vcall Xs Ms n_i_findLabel [(.d (.sl (l.map Piece.enc))), (.d (.int .i64 (n)))] [] = some ((.d (.int .i64 (fLab 0 l n))), []) := by
  refine callE Xs Ms f_i_findLabel x_i_findLabel (by show 2 ≤ _; decide) ?_
  simp +contextual -implicitDefEqProofs (maxSteps := 10000000) only [go_sem, seval, ↓gA, ↓gB, ↓gC, ↓gD, ↓gE, ↓gF, f_i_findLabel, IndexFunc_ev l n hl]
theorem s_findLabel_ev (l : List Piece) (n : Int) (hl : l.length < 4611686018427387904) : vcall Xs Ms n_s_findLabel [(.d (.sl (l.map Piece.enc))), (.d (.int .i64 (n)))] [] = some ((.d (.int .i64 (fLab 0 l n))), []) := by
  refine callE Xs Ms f_s_findLabel x_s_findLabel (by show 2 ≤ _; decide) ?_
  simp +contextual -implicitDefEqProofs (maxSteps := 10000000) only [go_sem, seval, ↓gA, ↓gB, ↓gC, ↓gD, ↓gE, ↓gF, f_s_findLabel]
  refine LW_over Xs Ms (st0 := ?st0) (α := Nat) (fun k => [(5, .d (.int .i64 (k : Int)))]) (fun _ => []) (fun k => k ≤ l.length ∧ fLab k (l.drop k) n = fLab 0 l n) (fun k => l.length - k) 0 ?hc ⟨by omega, rfl⟩ ?h0 ?step
  case hc => simp +contextual -implicitDefEqProofs (maxSteps := 10000000) only [go_sem, seval, ↓gA, ↓gB, ↓gC, ↓gD, ↓gE, ↓gF] <;> exact rfl
  case h0 => rfl
  case step =>
    intro k ⟨hk, hp⟩ ih
    by_cases hlt : k < l.length
    · obtain ⟨x, hx⟩ := get_lt hlt
      rw [fLab_cons hx] at hp
      have hw := wrap_succ (k := k) (by omega)
      obtain ⟨L, W, H, F⟩ := x
      simp only at hp
      by_cases h : L = n
      · rw [if_pos h] at hp
        simp +contextual -implicitDefEqProofs (maxSteps := 10000000) only [go_sem, seval, ↓gA, ↓gB, ↓gC, ↓gD, ↓gE, ↓gF, hx, hlt, hw, h]
        rw [← hp]
      · rw [if_neg h] at hp
        simp +contextual -implicitDefEqProofs (maxSteps := 10000000) only [go_sem, seval, ↓gA, ↓gB, ↓gC, ↓gD, ↓gE, ↓gF, hx, hlt, hw, h]
        refine ih (k + 1) _ ⟨by omega, hp⟩ (by omega) ?_
        simp +contextual -implicitDefEqProofs (maxSteps := 10000000) only [go_sem, seval, ↓gA, ↓gB, ↓gC, ↓gD, ↓gE, ↓gF]
    · have : k = l.length := by omega
      subst this
      simp +contextual -implicitDefEqProofs (maxSteps := 10000000) only [go_sem, seval, ↓gA, ↓gB, ↓gC, ↓gD, ↓gE, ↓gF]
      rw [← hp]
      simp [fLab]
theorem i_copyPiece_ev (qL : Int) (qW : Int) (qH : Int) (qF : List Box) (hF : qF.length ≤ 1000000) : vcall Xs Ms n_i_copyPiece [(.d (.agg [.int .i64 qL, .int .i64 qW, .int .i64 qH, .sl (qF.map Box.enc)]))] [] = some (.agg [(.d (.int .i64 (qL))), (.d (.int .i64 (qW))), (.d (.int .i64 (qH))), .own 0], [.row 4 (qF.map Box.enc) true false]) := by
  have hr : qF.length * 32 ≤ 140737488355328 ∧ qF.length ≤ 140737488355328 := by omega
  refine callE Xs Ms f_i_copyPiece x_i_copyPiece (by show 1 ≤ _; decide) ?_
  simp +contextual -implicitDefEqProofs (maxSteps := 10000000) only [go_sem, seval, ↓gA, ↓gB, ↓gC, ↓gD, ↓gE, ↓gF, f_i_copyPiece, hr]
theorem s_copyPiece_ev (qL : Int) (qW : Int) (qH : Int) (qF : List Box) (hF : qF.length ≤ 1000000) : vcall Xs Ms n_s_copyPiece [(.d (.agg [.int .i64 qL, .int .i64 qW, .int .i64 qH, .sl (qF.map Box.enc)]))] [] = some (.agg [(.d (.int .i64 (qL))), (.d (.int .i64 (qW))), (.d (.int .i64 (qH))), .own 0], [.row 4 (qF.map Box.enc) true false]) := by
  have hr : qF.length * 32 ≤ 140737488355328 ∧ qF.length ≤ 140737488355328 := by omega
  refine callE Xs Ms f_s_copyPiece x_s_copyPiece (by show 1 ≤ _; decide) ?_
  simp +contextual -implicitDefEqProofs (maxSteps := 10000000) only [go_sem, seval, ↓gA, ↓gB, ↓gC, ↓gD, ↓gE, ↓gF, f_s_copyPiece, hr]
theorem i_copyStock_ev (l : List Piece) (hl : l.length ≤ 1000000) (hF : ∀ x ∈ l, x.Flaws.length ≤ 1000000) : vcall Xs Ms n_i_copyStock [(.d (.sl (l.map Piece.enc)))] [] = some (.own 0, [.row 4 (l.map Piece.enc) true false]) := by
  refine callE Xs Ms f_i_copyStock x_i_copyStock (by show 1 ≤ _; decide) ?_
  simp +contextual -implicitDefEqProofs (maxSteps := 10000000) only [go_sem, seval, ↓gA, ↓gB, ↓gC, ↓gD, ↓gE, ↓gF, f_i_copyStock]
  refine LW_over Xs Ms (st0 := ?st0) (α := Nat) (fun i => [(8, .d (.int .i64 (i : Int)))]) (fun i => [(0, .row 4 ((l.take i).map Piece.enc) true false)]) (fun i => i ≤ l.length) (fun i => l.length - i) 0 ?hc (by omega) ?h0 ?step
  case hc => simp +contextual -implicitDefEqProofs (maxSteps := 10000000) only [go_sem, seval, ↓gA, ↓gB, ↓gC, ↓gD, ↓gE, ↓gF] <;> exact rfl
  case h0 => rfl
  case step =>
    intro i hi ih
    by_cases hlt : i < l.length
    · obtain ⟨x, hx⟩ := get_lt hlt
      have hw := wrap_succ (k := i) (by omega)
      have hm : l.take (i + 1) = l.take i ++ [x] := by rw [List.take_add_one, hx]; simp
      have hlk : (l.take i).length ≤ i := by simp; omega
      have hr : ((l.take i).length + 1) * 48 ≤ 140737488355328 ∧ (l.take i).length ≤ 140737488355327 := by omega
      have e := i_copyPiece_ev x.Label x.W x.H x.Flaws (hF x (List.mem_of_getElem? hx))
      obtain ⟨L, W, H, F⟩ := x
      simp only at e
      simp +contextual -implicitDefEqProofs (maxSteps := 10000000) only [go_sem, seval, ↓gA, ↓gB, ↓gC, ↓gD, ↓gE, ↓gF, hx, hlt, hw, e, hr]
      refine ih (i + 1) _ (by omega) (by omega) ?_
      simp +contextual -implicitDefEqProofs (maxSteps := 10000000) only [go_sem, seval, ↓gA, ↓gB, ↓gC, ↓gD, ↓gE, ↓gF, hm]
      first | rfl | (simp; done) | (simp; rfl)
    · have : i = l.length := by omega
      subst this
      simp +contextual -implicitDefEqProofs (maxSteps := 10000000) only [go_sem, seval, ↓gA, ↓gB, ↓gC, ↓gD, ↓gE, ↓gF]
      simp

theorem er_take_ne {α : Type} {l : List α} {i a : Nat} {x : α} (hx : l[i]? = some x) (h : i ≠ a) : (l.take (i + 1)).eraseIdx a = (l.take i).eraseIdx a ++ [x] := by
  have h1 := (List.getElem?_eq_some_iff.1 hx).1
  have e : l.take (i + 1) = l.take i ++ [x] := by rw [List.take_add_one, hx]; simp
  rw [e]
  have hl : (l.take i).length = i := by simp; omega
  rcases Nat.lt_or_ge a i with h2 | h2
  · rw [List.eraseIdx_append_of_lt_length (by omega)]
  · rw [List.eraseIdx_of_length_le (by simp; omega), List.eraseIdx_of_length_le (by omega)]
theorem er_take_eq {α : Type} {l : List α} {i : Nat} {x : α} (hx : l[i]? = some x) : (l.take (i + 1)).eraseIdx i = (l.take i).eraseIdx i := by
  have h1 := (List.getElem?_eq_some_iff.1 hx).1
  have e : l.take (i + 1) = l.take i ++ [x] := by rw [List.take_add_one, hx]; simp
  have hl : (l.take i).length = i := by simp; omega
  rw [e, List.eraseIdx_append_of_length_le (by omega), hl]
  simp
  rw [List.eraseIdx_of_length_le (by omega)]
theorem er_len {α : Type} (l : List α) (a : Nat) : (l.eraseIdx a).length ≤ l.length := by
  have := List.length_eraseIdx_le l a
  omega
theorem s_without_ev (l : List Piece) (a : Nat) (hl : l.length ≤ 1000000) (hF : ∀ x ∈ l, x.Flaws.length ≤ 1000000) : vcall Xs Ms n_s_without [(.d (.sl (l.map Piece.enc))), (.d (.int .i64 (a)))] [] = some (.own 0, [.row 4 ((l.eraseIdx a).map Piece.enc) true false]) := by
  refine callE Xs Ms f_s_without x_s_without (by show 2 ≤ _; decide) ?_
  simp +contextual -implicitDefEqProofs (maxSteps := 10000000) only [go_sem, seval, ↓gA, ↓gB, ↓gC, ↓gD, ↓gE, ↓gF, f_s_without]
  refine LW_over Xs Ms (st0 := ?st0) (α := Nat) (fun i => [(6, .d (.int .i64 (i : Int)))]) (fun i => [(0, .row 4 (((l.take i).eraseIdx a).map Piece.enc) true false)]) (fun i => i ≤ l.length) (fun i => l.length - i) 0 ?hc (by omega) ?h0 ?step
  case hc => simp +contextual -implicitDefEqProofs (maxSteps := 10000000) only [go_sem, seval, ↓gA, ↓gB, ↓gC, ↓gD, ↓gE, ↓gF] <;> exact rfl
  case h0 => rfl
  case step =>
    intro i hi ih
    by_cases hlt : i < l.length
    · obtain ⟨x, hx⟩ := get_lt hlt
      have hw := wrap_succ (k := i) (by omega)
      by_cases hia : i = a
      · subst hia
        have hm := er_take_eq hx
        simp +contextual -implicitDefEqProofs (maxSteps := 10000000) only [go_sem, seval, ↓gA, ↓gB, ↓gC, ↓gD, ↓gE, ↓gF, hx, hlt, hw]
        refine ih (i + 1) _ (by omega) (by omega) ?_
        simp +contextual -implicitDefEqProofs (maxSteps := 10000000) only [go_sem, seval, ↓gA, ↓gB, ↓gC, ↓gD, ↓gE, ↓gF, hm]
      · have hm := er_take_ne hx hia
        have hlk : ((l.take i).eraseIdx a).length ≤ i := Nat.le_trans (er_len _ _) (by simp; omega)
        have hr : (((l.take i).eraseIdx a).length + 1) * 48 ≤ 140737488355328 ∧ ((l.take i).eraseIdx a).length ≤ 140737488355327 := by omega
        have e := s_copyPiece_ev x.Label x.W x.H x.Flaws (hF x (List.mem_of_getElem? hx))
        obtain ⟨L, W, H, F⟩ := x
        simp only at e
        simp +contextual -implicitDefEqProofs (maxSteps := 10000000) only [go_sem, seval, ↓gA, ↓gB, ↓gC, ↓gD, ↓gE, ↓gF, hx, hlt, hw, hia, e, hr]
        refine ih (i + 1) _ (by omega) (by omega) ?_
        simp +contextual -implicitDefEqProofs (maxSteps := 10000000) only [go_sem, seval, ↓gA, ↓gB, ↓gC, ↓gD, ↓gE, ↓gF, hm]
        first | rfl | (simp; done) | (simp; rfl)
    · have : i = l.length := by omega
      subst this
      simp +contextual -implicitDefEqProofs (maxSteps := 10000000) only [go_sem, seval, ↓gA, ↓gB, ↓gC, ↓gD, ↓gE, ↓gF]
      simp
def lastL (l : List Piece) : Int := labAt l l.length
theorem lastL_get {l : List Piece} {x : Piece} (hx : l[l.length - 1]? = some x) : lastL l = x.Label := by
  have h := (List.getElem?_eq_some_iff.1 hx).1
  unfold lastL
  obtain ⟨n, hn⟩ : ∃ n, l.length = n + 1 := ⟨l.length - 1, by omega⟩
  rw [hn] at hx ⊢
  simp only [labAt]
  simp only [Nat.add_sub_cancel] at hx
  rw [hx]
theorem s_lastLabel_ev (l : List Piece) (hl : l.length < 4611686018427387904) : vcall Xs Ms n_s_lastLabel [(.d (.sl (l.map Piece.enc)))] [] = some ((.d (.int .i64 (lastL l))), []) := by
  by_cases h0 : l.length = 0
  · have e : lastL l = 0 := by unfold lastL; rw [h0]; rfl
    have h0' : (l.length : Int) = 0 := by omega
    rw [e]
    refine callE Xs Ms f_s_lastLabel x_s_lastLabel (by show 1 ≤ _; decide) ?_
    simp +contextual -implicitDefEqProofs (maxSteps := 10000000) only [go_sem, seval, ↓gA, ↓gB, ↓gC, ↓gD, ↓gE, ↓gF, f_s_lastLabel, h0']
  · obtain ⟨x, hx⟩ := get_lt (l := l) (k := l.length - 1) (by omega)
    have e := lastL_get hx
    have hn : ¬ (l.length : Int) = 0 := by omega
    have hw : IntKind.i64.wrap ((l.length : Int) - 1) = ((l.length - 1 : Nat) : Int) := by rw [wrap64 (by omega) (by omega)]; omega
    have hlt : l.length - 1 < l.length := by omega
    obtain ⟨L, W, H, F⟩ := x
    simp only at e
    refine callE Xs Ms f_s_lastLabel x_s_lastLabel (by show 1 ≤ _; decide) ?_
    simp +contextual -implicitDefEqProofs (maxSteps := 10000000) only [go_sem, seval, ↓gA, ↓gB, ↓gC, ↓gD, ↓gE, ↓gF, f_s_lastLabel, hn, hw, hx, hlt, e]
theorem fLab_range : ∀ (l : List Piece) (k : Nat) (n : Int), fLab k l n = -1 ∨ ∃ i : Nat, fLab k l n = ((k + i : Nat) : Int) ∧ i < l.length
  | [], k, n => .inl rfl
  | x :: l, k, n => by
    unfold fLab
    split
    · exact .inr ⟨0, by simp, by simp⟩
    · rcases fLab_range l (k + 1) n with h | ⟨i, h1, h2⟩
      · exact .inl h
      · exact .inr ⟨i + 1, by rw [h1]; congr 1; omega, by simp; omega⟩
theorem sortF_all : ∀ {l : List Piece} {b : Int}, sortF b l → ∀ x ∈ l, VPc x
  | [], _, _, x, hx => by simp at hx
  | y :: l, b, h, x, hx => by
    rcases List.mem_cons.1 hx with rfl | hx
    · exact h.1
    · exact sortF_all h.2.2 x hx
theorem VSt_small {l : List Piece} (h : VSt l) : l.length ≤ 1000000 ∧ ∀ x ∈ l, x.Flaws.length ≤ 1000000 := by
  refine ⟨by have := h.1; omega, fun x hx => ?_⟩
  have := (sortF_all h.2 x hx).1.2.2.2.2.2.2
  omega
theorem i_TakePiece_yes (l : List Piece) (n : Int) (hv : VSt l) (i : Nat) (hi : fLab 0 l n = (i : Int)) (qL : Int) (qW : Int) (qH : Int) (qF : List Box) (hx : l[i]? = some (Piece.mk qL qW qH qF)) : vcall Xs Ms n_i_TakePiece [(.d (.sl (l.map Piece.enc))), (.d (.int .i64 (n)))] [] =
    some (.tup [.agg [(.d (.int .i64 (qL))), (.d (.int .i64 (qW))), (.d (.int .i64 (qH))), .own 0], .own 1, (.d (.bool (true)))], [.row 4 (qF.map Box.enc) true false, .row 4 ((l.eraseIdx i).map Piece.enc) true false]) := by
  have ev := i_ValidStock_ev l
  rw [decide_eq_true hv] at ev
  have hlt : i < l.length := (List.getElem?_eq_some_iff.1 hx).1
  have hl20 := hv.1
  obtain ⟨h1, h2⟩ := VSt_small hv
  have hf := i_findLabel_ev l n (by omega)
  rw [hi] at hf
  have hw := wrap_succ (k := i) (by omega)
  have c1 := i_copyStock_ev (l.take i) (by simp; omega) (fun x hx => h2 x (List.mem_of_mem_take hx))
  have c2 := i_copyStock_ev (l.drop (i + 1)) (by simp; omega) (fun x hx => h2 x (List.mem_of_mem_drop hx))
  have e := i_copyPiece_ev qL qW qH qF (h2 (Piece.mk qL qW qH qF) (List.mem_of_getElem? hx))
  have hr : ((l.take i).length + (l.drop (i + 1)).length) * 48 ≤ 140737488355328 ∧ (l.take i).length + (l.drop (i + 1)).length ≤ 140737488355328 := by simp; omega
  have hle : i ≤ l.length := by omega
  have hle2 : i + 1 ≤ l.length := by omega
  have hi0 : ¬ (i : Int) < 0 := by omega
  rw [List.eraseIdx_eq_take_drop_succ]
  refine callE Xs Ms f_i_TakePiece x_i_TakePiece (by show 2 ≤ _; decide) ?_
  simp +contextual -implicitDefEqProofs (maxSteps := 10000000) only [go_sem, seval, ↓gA, ↓gB, ↓gC, ↓gD, ↓gE, ↓gF, f_i_TakePiece, optL, ev, hf, hi0, hw, hx, hlt, hle, hle2, c1, c2, e, hr, List.take_length]

def PcW (x : Piece) : Prop := x.Flaws.length ≤ 6 ∧ R64 x.W ∧ R64 x.H
theorem sortF_get : ∀ {l : List Piece} {b : Int}, sortF b l → ∀ (i j : Nat) (x y : Piece), i ≤ j → l[i]? = some x → l[j]? = some y → x.Label ≤ y.Label ∧ b < x.Label
  | [], b, _, i, j, x, y, _, hx, _ => by simp at hx
  | z :: l, b, h, 0, 0, x, y, _, hx, hy => by
    simp at hx hy; subst hx; subst hy; exact ⟨Int.le_refl _, h.2.1⟩
  | z :: l, b, h, 0, j + 1, x, y, _, hx, hy => by
    simp at hx hy; subst hx
    have := (sortF_get h.2.2 j j y y (Nat.le_refl _) hy hy).2
    exact ⟨by omega, h.2.1⟩
  | z :: l, b, h, i + 1, j + 1, x, y, hij, hx, hy => by
    simp at hx hy
    have := sortF_get h.2.2 i j x y (by omega) hx hy
    have h2 := h.2.1
    exact ⟨this.1, by omega⟩
  | z :: l, b, h, i + 1, 0, x, y, hij, hx, hy => by omega
theorem lastL_le {l : List Piece} (hv : VSt l) (hne : 0 < l.length) : 1 ≤ lastL l ∧ lastL l ≤ 9999 ∧ ∀ x ∈ l, x.Label ≤ lastL l := by
  obtain ⟨y, hy⟩ := get_lt (l := l) (k := l.length - 1) (by omega)
  rw [lastL_get hy]
  have hyv := (sortF_all hv.2 y (List.mem_of_getElem? hy)).1
  refine ⟨hyv.1, hyv.2.1, fun x hx => ?_⟩
  obtain ⟨i, hi⟩ := List.getElem?_of_mem hx
  have := (List.getElem?_eq_some_iff.1 hi).1
  exact (sortF_get hv.2 i (l.length - 1) x y (by omega) hi hy).1
def cutL (l : List Piece) (i : Nat) (x : Piece) (k : Work) (p : Plan) (least : Int) : List Piece := l.eraseIdx i ++ cutN x (lastL l + 1) (keptL k p least)
def cutSt (l : List Piece) (n : Int) (k : Work) (p : Plan) (least : Int) : Option (List Piece) :=
  if VSt l ∧ 0 ≤ fLab 0 l n ∧ 1 ≤ least ∧ least ≤ 200 then
    match l[(fLab 0 l n).toNat]? with
    | some x => if goodP x k p ∧ VSt (cutL l (fLab 0 l n).toNat x k p least) then some (cutL l (fLab 0 l n).toNat x k p least) else none
    | none => none
  else none
def cutR : Option (List Piece) → AV × List AObj
  | some R => (.tup [.own 0, (.d (.bool (true)))], [.row 4 (R.map Piece.enc) true false])
  | none => (.tup [.own 0, (.d (.bool (false)))], [.row 4 [] true false])
theorem fLab_get {l : List Piece} {n : Int} (h : 0 ≤ fLab 0 l n) : ∃ (i : Nat) (x : Piece), fLab 0 l n = (i : Int) ∧ l[i]? = some x := by
  rcases fLab_range l 0 n with h1 | ⟨i, h1, h2⟩
  · omega
  · obtain ⟨x, hx⟩ := get_lt h2
    exact ⟨i, x, by rw [h1]; simp, hx⟩
theorem cutL_small {l : List Piece} {i : Nat} {x : Piece} {k : Work} {p : Plan} {least : Int} (hv : VSt l) (hx : l[i]? = some x) (hg : goodP x k p) :
    (cutL l i x k p least).length ≤ 1000 ∧ ∀ y ∈ cutL l i x k p least, y.Flaws.length < 4611686018427387904 ∧ R64 y.W ∧ R64 y.H := by
  have hq := sortF_all hv.2 x (List.mem_of_getElem? hx)
  refine ⟨?_, fun y hy => ?_⟩
  · unfold cutL
    rw [List.length_append, cutN_len]
    have := keptL_len k p least
    have := er_len l i
    have := hv.1
    omega
  · rcases List.mem_append.1 hy with hy | hy
    · have h := sortF_all hv.2 y (List.mem_of_mem_eraseIdx hy)
      have h1 := h.1
      exact ⟨by omega, ⟨by omega, by omega⟩, ⟨by omega, by omega⟩⟩
    · obtain ⟨j, hj⟩ := List.getElem?_of_mem hy
      obtain ⟨b, hb, rfl⟩ := cutN_get x _ _ j y hj
      have hvb := (keptL_in (least := least) hg.1 b (List.mem_of_getElem? hb)).1
      simp only [VB] at hvb
      have hfl := List.length_filterMap_le (cutFlaw b) x.Flaws
      have hq6 := hq.1.2.2.2.2.2.2
      simp only [cutP]
      exact ⟨by omega, ⟨by omega, by omega⟩, ⟨by omega, by omega⟩⟩
theorem s_CutStock_ev (l : List Piece) (n : Int) (kW : Int) (kH : Int) (kP : List Pane) (p : Plan) (least : Int) (hl : l.length ≤ 1000) (hS : ∀ x ∈ l, PcW x) (hk : kP.length < 4611686018427387904) : vcall Xs Ms n_s_CutStock [(.d (.sl (l.map Piece.enc))), (.d (.int .i64 (n))), (.d (.agg [.int .i64 kW, .int .i64 kH, .sl (kP.map Pane.enc)])), .d p.enc, (.d (.int .i64 (least)))] [] = some (cutR (cutSt l n (Work.mk kW kH kP) p least)) := by
  have ev := s_validStock_ev l (by omega) (fun x hx => by obtain ⟨g1, g2, g3⟩ := hS x hx; exact ⟨by omega, g2, g3⟩)
  have ef := s_findLabel_ev l n (by omega)
  unfold cutSt
  by_cases hv : VSt l
  · rw [decide_eq_true hv] at ev
    by_cases hf : 0 ≤ fLab 0 l n
    · obtain ⟨i, x, hi, hx⟩ := fLab_get hf
      rw [hi] at ef ⊢
      have hi0 : ¬ (i : Int) < 0 := by omega
      have hil := (List.getElem?_eq_some_iff.1 hx).1
      simp only [Int.toNat_natCast, hx]
      by_cases hr : 1 ≤ least ∧ least ≤ 200
      · have hq := sortF_all hv.2 x (List.mem_of_getElem? hx)
        have hll := lastL_le hv (by omega)
        have ew := s_without_ev l i (by omega) (fun x hx => by have := (hS x hx).1; omega)
        have el := s_lastLabel_ev l (by omega)
        have w2 := wi (lastL l + 1) (by omega) (by omega)
        rw [if_pos ⟨hv, by omega, hr⟩]
        by_cases hg : goodP x (Work.mk kW kH kP) p
        · have hcs := cutL_small (least := least) hv hx hg
          have evo := s_validStock_ev (cutL l i x (Work.mk kW kH kP) p least) (by omega) hcs.2
          have hlen : (l.eraseIdx i).length ≤ 20 := Nat.le_trans (er_len _ _) hv.1
          have hkl := keptL_len (Work.mk kW kH kP) p least
          obtain ⟨L, W, H, F⟩ := x
          have eg := s_goodPlan_ev L W H F kW kH kP p (fun f hf => (hq.2 f hf).1) hq.1.2.2.2.2.2.2 hk
          have er := s_remnants_ev L W H F kW kH kP p least (lastL l + 1) hq hg.1 (by omega) (by omega)
          rw [decide_eq_true hg] at eg
          have hcl := cutN_len ⟨L, W, H, F⟩ (lastL l + 1) (keptL (Work.mk kW kH kP) p least)
          have hrm : ((l.eraseIdx i).length + (keptL (Work.mk kW kH kP) p least).length) * 48 ≤ 140737488355328 ∧ (l.eraseIdx i).length + (keptL (Work.mk kW kH kP) p least).length ≤ 140737488355328 := by omega
          unfold cutL at evo ⊢
          have hgg := hg
          clear hg
          by_cases hvo : VSt (l.eraseIdx i ++ cutN ⟨L, W, H, F⟩ (lastL l + 1) (keptL (Work.mk kW kH kP) p least))
          · rw [decide_eq_true hvo] at evo
            rw [if_pos ⟨hgg, hvo⟩]
            unfold cutR
            clear hvo hcs hgg
            generalize cutN ⟨L, W, H, F⟩ (lastL l + 1) (keptL (Work.mk kW kH kP) p least) = R at er hcl evo ⊢
            generalize (keptL (Work.mk kW kH kP) p least).length = N at *
            obtain ⟨o, a, m, t, ks⟩ := p
            rw [Plan.enc_mk] at er eg ⊢
            refine callE Xs Ms f_s_CutStock x_s_CutStock (by show 5 ≤ _; decide) ?_
            simp +contextual -implicitDefEqProofs (maxSteps := 10000000) only [go_sem, seval, ↓gA, ↓gB, ↓gC, ↓gD, ↓gE, ↓gF, f_s_CutStock, ev, ef, hi0, s_inRange_ev, hr, hx, hil, eg, ew, el, w2, er, hcl, hrm, evo]
          · rw [decide_eq_false hvo] at evo
            rw [if_neg (fun h => hvo h.2)]
            unfold cutR
            clear hvo hcs hgg
            generalize cutN ⟨L, W, H, F⟩ (lastL l + 1) (keptL (Work.mk kW kH kP) p least) = R at er hcl evo ⊢
            generalize (keptL (Work.mk kW kH kP) p least).length = N at *
            obtain ⟨o, a, m, t, ks⟩ := p
            rw [Plan.enc_mk] at er eg ⊢
            refine callE Xs Ms f_s_CutStock x_s_CutStock (by show 5 ≤ _; decide) ?_
            simp +contextual -implicitDefEqProofs (maxSteps := 10000000) only [go_sem, seval, ↓gA, ↓gB, ↓gC, ↓gD, ↓gE, ↓gF, f_s_CutStock, ev, ef, hi0, s_inRange_ev, hr, hx, hil, eg, ew, el, w2, er, hcl, hrm, evo]
        · rw [if_neg (fun h => hg h.1)]
          obtain ⟨L, W, H, F⟩ := x
          have eg := s_goodPlan_ev L W H F kW kH kP p (fun f hf => (hq.2 f hf).1) hq.1.2.2.2.2.2.2 hk
          rw [decide_eq_false hg] at eg
          unfold cutR
          clear hg
          obtain ⟨o, a, m, t, ks⟩ := p
          rw [Plan.enc_mk] at eg ⊢
          refine callE Xs Ms f_s_CutStock x_s_CutStock (by show 5 ≤ _; decide) ?_
          simp +contextual -implicitDefEqProofs (maxSteps := 10000000) only [go_sem, seval, ↓gA, ↓gB, ↓gC, ↓gD, ↓gE, ↓gF, f_s_CutStock, ev, ef, hi0, s_inRange_ev, hr, hx, hil, eg]
      · rw [if_neg (fun h => hr h.2.2)]
        unfold cutR
        obtain ⟨o, a, m, t, ks⟩ := p
        rw [Plan.enc_mk]
        refine callE Xs Ms f_s_CutStock x_s_CutStock (by show 5 ≤ _; decide) ?_
        simp +contextual -implicitDefEqProofs (maxSteps := 10000000) only [go_sem, seval, ↓gA, ↓gB, ↓gC, ↓gD, ↓gE, ↓gF, f_s_CutStock, ev, ef, hi0, s_inRange_ev, hr]
    · rw [if_neg (fun h => hf h.2.1)]
      have hf' : fLab 0 l n < 0 := by omega
      unfold cutR
      obtain ⟨o, a, m, t, ks⟩ := p
      rw [Plan.enc_mk]
      refine callE Xs Ms f_s_CutStock x_s_CutStock (by show 5 ≤ _; decide) ?_
      simp +contextual -implicitDefEqProofs (maxSteps := 10000000) only [go_sem, seval, ↓gA, ↓gB, ↓gC, ↓gD, ↓gE, ↓gF, f_s_CutStock, ev, ef, hf']
  · rw [decide_eq_false hv] at ev
    rw [if_neg (fun h => hv h.1)]
    unfold cutR
    obtain ⟨o, a, m, t, ks⟩ := p
    rw [Plan.enc_mk]
    refine callE Xs Ms f_s_CutStock x_s_CutStock (by show 5 ≤ _; decide) ?_
    simp +contextual -implicitDefEqProofs (maxSteps := 10000000) only [go_sem, seval, ↓gA, ↓gB, ↓gC, ↓gD, ↓gE, ↓gF, f_s_CutStock, ev]
theorem i_StockArea_ev (l : List Piece) (hv : VSt l) : vcall Xs Ms n_i_StockArea [(.d (.sl (l.map Piece.enc)))] [] = some ((.d (.int .i64 (sumWH l))), []) := by
  have ev := i_ValidStock_ev l
  rw [decide_eq_true hv] at ev
  have h20 := hv.1
  have hval : ∀ x ∈ l, 1 ≤ x.W ∧ x.W ≤ 200 ∧ 1 ≤ x.H ∧ x.H ≤ 200 := fun x hx => by
    have := (sortF_all hv.2 x hx).1; omega
  clear hv
  refine callE Xs Ms f_i_StockArea x_i_StockArea (by show 1 ≤ _; decide) ?_
  simp +contextual -implicitDefEqProofs (maxSteps := 10000000) only [go_sem, seval, ↓gA, ↓gB, ↓gC, ↓gD, ↓gE, ↓gF, f_i_StockArea, ev]
  refine LW_over Xs Ms (st0 := ?st0) (α := Nat) (fun i => [(11, .d (.int .i64 (i : Int))), (3, .d (.int .i64 (sumWH (l.take i))))]) (fun _ => []) (fun i => i ≤ l.length) (fun i => l.length - i) 0 ?hc (by omega) ?h0 ?step
  case hc => simp +contextual -implicitDefEqProofs (maxSteps := 10000000) only [go_sem, seval, ↓gA, ↓gB, ↓gC, ↓gD, ↓gE, ↓gF] <;> exact rfl
  case h0 => rfl
  case step =>
    intro i hi ih
    by_cases hlt : i < l.length
    · obtain ⟨x, hx⟩ := get_lt hlt
      have hw := wrap_succ (k := i) (by omega)
      have hm := sumWH_take hx
      have hst := sumWH_nonneg (l := l.take i) (fun y hy => hval y (List.mem_of_mem_take hy))
      have hlk : (l.take i).length ≤ i := by simp; omega
      have g5 := hval x (List.mem_of_getElem? hx)
      have hxx : x.W * x.H ≤ 200 * 200 := Int.mul_le_mul (by omega) (by omega) (by omega) (by omega)
      have hx0 : 0 ≤ x.W * x.H := Int.mul_nonneg (by omega) (by omega)
      obtain ⟨xL, xW, xH, xF⟩ := x
      simp only at g5 hm hxx hx0
      have u0 := wi (xW * xH) (by omega) (by omega)
      have u1 := wi (sumWH (l.take i) + xW * xH) (by omega) (by omega)
      simp +contextual -implicitDefEqProofs (maxSteps := 10000000) only [go_sem, seval, ↓gA, ↓gB, ↓gC, ↓gD, ↓gE, ↓gF, hx, hlt, hw, u0, u1]
      refine ih (i + 1) _ (by omega) (by omega) ?_
      simp +contextual -implicitDefEqProofs (maxSteps := 10000000) only [go_sem, seval, ↓gA, ↓gB, ↓gC, ↓gD, ↓gE, ↓gF, hm]
    · have : i = l.length := by omega
      subst this
      simp +contextual -implicitDefEqProofs (maxSteps := 10000000) only [go_sem, seval, ↓gA, ↓gB, ↓gC, ↓gD, ↓gE, ↓gF, List.take_length]
end Go.Proofs.Ytcaaffdbjdabmaa
