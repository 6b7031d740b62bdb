/- Contracts of the functions, by the abstract semantics. -/
import Derived.Test.YtbodfpboklcgoaaACode
import Derived.Test.YtbodfpboklcgoaaAbsParts
import Derived.Test.YtbodfpboklcgoaaAC2
namespace Go.Proofs.Ytbodfpboklcgoaa
open Go Go.Abs Go.Abs.E Go.Abs.L
set_option linter.unusedSimpArgs false
set_option linter.unusedVariables false
set_option maxRecDepth 20000
set_option maxHeartbeats 4000000
theorem s_isRemnant_ev (bX : Int) (bY : Int) (bW : Int) (bH : Int) (least : Int) : vcall Xs Ms n_s_isRemnant [(.d (.agg [.int .i64 bX, .int .i64 bY, .int .i64 bW, .int .i64 bH])), (.d (.int .i64 (least)))] [] = some ((.d (.bool (decide (least ≤ bW ∧ least ≤ bH)))), []) := by
  refine callE Xs Ms f_s_isRemnant x_s_isRemnant (by show 2 ≤ _; decide) ?_
  simp +contextual -implicitDefEqProofs (maxSteps := 10000000) only [go_sem, ite_self, Bool.false_eq_true, Nat.reduceAdd, Nat.reduceMul, Nat.reduceSub, Nat.reduceLT, Nat.reduceLeDiff, Nat.reduceEqDiff, Nat.reduceBEq, Nat.reduceBNe, Int.reduceAdd, Int.reduceLT, Int.reduceLE, Int.reduceEq, Int.reduceToNat, Int.reduceNeg, reduceCtorEq, ↓reduceIte, ↓gstepW_true, ↓gstepW_false, ↓gstepDW_true, ↓gstepDW_false, ↓gone_eq, ↓flat_eq, f_s_isRemnant]
theorem i_boxArea_ev (bX : Int) (bY : Int) (bW : Int) (bH : Int) (hb : VB (Box.mk bX bY bW bH)) : vcall Xs Ms n_i_boxArea [(.d (.agg [.int .i64 bX, .int .i64 bY, .int .i64 bW, .int .i64 bH]))] [] = some ((.d (.int .i64 (bW * bH))), []) := by
  have h := area_VB hb
  simp only at h
  have w := wi (bW * bH) (by omega) (by omega)
  refine callE Xs Ms f_i_boxArea x_i_boxArea (by show 1 ≤ _; decide) ?_
  simp +contextual -implicitDefEqProofs (maxSteps := 10000000) only [go_sem, ite_self, Bool.false_eq_true, Nat.reduceAdd, Nat.reduceMul, Nat.reduceSub, Nat.reduceLT, Nat.reduceLeDiff, Nat.reduceEqDiff, Nat.reduceBEq, Nat.reduceBNe, Int.reduceAdd, Int.reduceLT, Int.reduceLE, Int.reduceEq, Int.reduceToNat, Int.reduceNeg, reduceCtorEq, ↓reduceIte, ↓gstepW_true, ↓gstepW_false, ↓gstepDW_true, ↓gstepDW_false, ↓gone_eq, ↓flat_eq, f_i_boxArea, w]
theorem i_LostArea_ev (kW : Int) (kH : Int) (kP : List Pane) (p : Plan) (least : Int) (hv : vplan (Work.mk kW kH kP) p = true) (h1 : 1 ≤ least) (h2 : least ≤ 200) : vcall Xs Ms n_i_LostArea [(.d (.agg [.int .i64 kW, .int .i64 kH, .sl (kP.map Pane.enc)])), .d p.enc, (.d (.int .i64 (least)))] [] =
    some ((.d (.int .i64 (areaL (lostL (Work.mk kW kH kP) p least)))), []) := by
  have ev := i_ValidPlan_ev kW kH kP p
  rw [hv] at ev
  have ep := i_WastesOf_ev kW kH kP p
  have hbox := wastes_VB hv
  have hlen : ((partsL (Work.mk kW kH kP) p).filterMap asWaste).length ≤ 255 := Nat.le_trans (List.length_filterMap_le _ _) (partsL_len _ _)
  unfold lostL
  generalize (partsL (Work.mk kW kH kP) p).filterMap asWaste = L at ep hbox hlen ⊢
  clear hv
  have n1 : ¬ least < 1 := by omega
  have n2 : ¬ 200 < least := by omega
  obtain ⟨o, a, n, t, ks⟩ := p
  rw [Plan.enc_mk] at ev ep ⊢
  refine callE Xs Ms f_i_LostArea x_i_LostArea (by show 3 ≤ _; decide) ?_
  simp +contextual -implicitDefEqProofs (maxSteps := 10000000) only [go_sem, ite_self, Bool.false_eq_true, Nat.reduceAdd, Nat.reduceMul, Nat.reduceSub, Nat.reduceLT, Nat.reduceLeDiff, Nat.reduceEqDiff, Nat.reduceBEq, Nat.reduceBNe, Int.reduceAdd, Int.reduceLT, Int.reduceLE, Int.reduceEq, Int.reduceToNat, Int.reduceNeg, reduceCtorEq, ↓reduceIte, ↓gstepW_true, ↓gstepW_false, ↓gstepDW_true, ↓gstepDW_false, ↓gone_eq, ↓flat_eq, f_i_LostArea, ev, ep, n1, n2]
  refine LW_over Xs Ms (st0 := ?st0) (α := Nat) (fun i => [(26, .d (.int .i64 (i : Int))), (7, .d (.int .i64 (areaL ((L.take i).filterMap (lostB least)))))]) (fun _ => []) (fun i => i ≤ L.length) (fun i => L.length - i) 0 ?hc (by omega) ?h0 ?step
  case hc => simp +contextual -implicitDefEqProofs (maxSteps := 10000000) only [go_sem, ite_self, Bool.false_eq_true, Nat.reduceAdd, Nat.reduceMul, Nat.reduceSub, Nat.reduceLT, Nat.reduceLeDiff, Nat.reduceEqDiff, Nat.reduceBEq, Nat.reduceBNe, Int.reduceAdd, Int.reduceLT, Int.reduceLE, Int.reduceEq, Int.reduceToNat, Int.reduceNeg, reduceCtorEq, ↓reduceIte, ↓gstepW_true, ↓gstepW_false, ↓gstepDW_true, ↓gstepDW_false, ↓gone_eq, ↓flat_eq]; exact rfl
  case h0 => rfl
  case step =>
    intro i hi ih
    by_cases hlt : i < L.length
    · obtain ⟨x, hx⟩ := get_lt hlt
      have hw := wrap_succ (k := i) (by omega)
      have hm := fm_take (f := lostB least) hx
      have hbx := hbox x (List.mem_of_getElem? hx)
      have ha := areaL_VB (l := (L.take i).filterMap (lostB least)) (fun c hc => by
        obtain ⟨d, hd, hdc⟩ := List.mem_filterMap.1 hc
        unfold lostB at hdc
        split at hdc
        · cases hdc; exact hbox c (List.mem_of_mem_take hd)
        · cases hdc)
      have hlk : ((L.take i).filterMap (lostB least)).length ≤ i := Nat.le_trans (List.length_filterMap_le _ _) (by simp; omega)
      have hax := area_VB hbx
      obtain ⟨X, Y, W, H⟩ := x
      simp only at hax
      have w1 := wi (areaL ((L.take i).filterMap (lostB least)) + W * H) (by omega) (by omega)
      simp only [lostB] at hm
      by_cases ho : W < least ∨ H < least
      · rw [if_pos ho] at hm
        simp +contextual -implicitDefEqProofs (maxSteps := 10000000) only [go_sem, ite_self, Bool.false_eq_true, Nat.reduceAdd, Nat.reduceMul, Nat.reduceSub, Nat.reduceLT, Nat.reduceLeDiff, Nat.reduceEqDiff, Nat.reduceBEq, Nat.reduceBNe, Int.reduceAdd, Int.reduceLT, Int.reduceLE, Int.reduceEq, Int.reduceToNat, Int.reduceNeg, reduceCtorEq, ↓reduceIte, ↓gstepW_true, ↓gstepW_false, ↓gstepDW_true, ↓gstepDW_false, ↓gone_eq, ↓flat_eq, hx, hlt, hw, ho, i_boxArea_ev X Y W H hbx, w1]
        refine ih (i + 1) _ (by omega) (by omega) ?_
        simp +contextual -implicitDefEqProofs (maxSteps := 10000000) only [go_sem, ite_self, Bool.false_eq_true, Nat.reduceAdd, Nat.reduceMul, Nat.reduceSub, Nat.reduceLT, Nat.reduceLeDiff, Nat.reduceEqDiff, Nat.reduceBEq, Nat.reduceBNe, Int.reduceAdd, Int.reduceLT, Int.reduceLE, Int.reduceEq, Int.reduceToNat, Int.reduceNeg, reduceCtorEq, ↓reduceIte, ↓gstepW_true, ↓gstepW_false, ↓gstepDW_true, ↓gstepDW_false, ↓gone_eq, ↓flat_eq, hm, areaL_append, Option.toList, areaL]
        first | rfl | (simp; done) | (simp; rfl)
      · rw [if_neg ho] at hm
        simp +contextual -implicitDefEqProofs (maxSteps := 10000000) only [go_sem, ite_self, Bool.false_eq_true, Nat.reduceAdd, Nat.reduceMul, Nat.reduceSub, Nat.reduceLT, Nat.reduceLeDiff, Nat.reduceEqDiff, Nat.reduceBEq, Nat.reduceBNe, Int.reduceAdd, Int.reduceLT, Int.reduceLE, Int.reduceEq, Int.reduceToNat, Int.reduceNeg, reduceCtorEq, ↓reduceIte, ↓gstepW_true, ↓gstepW_false, ↓gstepDW_true, ↓gstepDW_false, ↓gone_eq, ↓flat_eq, hx, hlt, hw, ho]
        refine ih (i + 1) _ (by omega) (by omega) ?_
        simp +contextual -implicitDefEqProofs (maxSteps := 10000000) only [go_sem, ite_self, Bool.false_eq_true, Nat.reduceAdd, Nat.reduceMul, Nat.reduceSub, Nat.reduceLT, Nat.reduceLeDiff, Nat.reduceEqDiff, Nat.reduceBEq, Nat.reduceBNe, Int.reduceAdd, Int.reduceLT, Int.reduceLE, Int.reduceEq, Int.reduceToNat, Int.reduceNeg, reduceCtorEq, ↓reduceIte, ↓gstepW_true, ↓gstepW_false, ↓gstepDW_true, ↓gstepDW_false, ↓gone_eq, ↓flat_eq, hm]
        first | rfl | (simp; done) | (simp; rfl)
    · have : i = L.length := by omega
      subst this
      simp +contextual -implicitDefEqProofs (maxSteps := 10000000) only [go_sem, ite_self, Bool.false_eq_true, Nat.reduceAdd, Nat.reduceMul, Nat.reduceSub, Nat.reduceLT, Nat.reduceLeDiff, Nat.reduceEqDiff, Nat.reduceBEq, Nat.reduceBNe, Int.reduceAdd, Int.reduceLT, Int.reduceLE, Int.reduceEq, Int.reduceToNat, Int.reduceNeg, reduceCtorEq, ↓reduceIte, ↓gstepW_true, ↓gstepW_false, ↓gstepDW_true, ↓gstepDW_false, ↓gone_eq, ↓flat_eq]
      try simp
theorem s_remnants_ev (qL : Int) (qW : Int) (qH : Int) (qF : List Box) (kW : Int) (kH : Int) (kP : List Pane) (p : Plan) (least label : Int) (hq : VPc (Piece.mk qL qW qH qF)) (hv : vplan (Work.mk kW kH kP) p = true) (h1 : 1 ≤ label) (h2 : label ≤ 9999) :
    vcall Xs Ms n_s_remnants [(.d (.agg [.int .i64 qL, .int .i64 qW, .int .i64 qH, .sl (qF.map Box.enc)])), (.d (.agg [.int .i64 kW, .int .i64 kH, .sl (kP.map Pane.enc)])), .d p.enc, (.d (.int .i64 (least))), (.d (.int .i64 (label)))] [] =
    some (.own 0, [.row 4 ((cutN (Piece.mk qL qW qH qF) label (keptL (Work.mk kW kH kP) p least)).map Piece.enc) true false]) := by
  obtain ⟨b, hb, hpb, hvw, hcnt, hfit, hpt⟩ := vplan_some hv
  have hvw' := hvw
  simp only [VW] at hvw'
  have ep := s_wastesOf_ev kW kH kP p b hpb (by simp only [inB]; omega) hfit (by omega)
  have hbox := wastes_VB hv
  have hlen : ((partsL (Work.mk kW kH kP) p).filterMap asWaste).length ≤ 255 := Nat.le_trans (List.length_filterMap_le _ _) (partsL_len _ _)
  unfold keptL
  rw [hpt, pt_wastes] at hbox hlen ⊢
  have hfl : ∀ f ∈ qF, VB f := fun f hf => (hq.2 f hf).1
  have hq6 : qF.length ≤ 6 := hq.1.2.2.2.2.2.2
  have hkept : ∀ i, ((wst b 0 0 kW kH).take i).length ≤ 255 := fun i => Nat.le_trans (List.length_take_le' _ _) hlen
  generalize wst b 0 0 kW kH = L at ep hbox hlen hkept ⊢
  clear hpt hpb hb hv hfit hvw hvw'
  obtain ⟨o, a, n, t, ks⟩ := p
  rw [Plan.enc_mk] at ep ⊢
  refine callE Xs Ms f_s_remnants x_s_remnants (by show 5 ≤ _; decide) ?_
  simp +contextual -implicitDefEqProofs (maxSteps := 10000000) only [go_sem, ite_self, Bool.false_eq_true, Nat.reduceAdd, Nat.reduceMul, Nat.reduceSub, Nat.reduceLT, Nat.reduceLeDiff, Nat.reduceEqDiff, Nat.reduceBEq, Nat.reduceBNe, Int.reduceAdd, Int.reduceLT, Int.reduceLE, Int.reduceEq, Int.reduceToNat, Int.reduceNeg, reduceCtorEq, ↓reduceIte, ↓gstepW_true, ↓gstepW_false, ↓gstepDW_true, ↓gstepDW_false, ↓gone_eq, ↓flat_eq, f_s_remnants, ep]
  refine LW_over Xs Ms (st0 := ?st0) (α := Nat) (fun i => [(13, .d (.int .i64 (i : Int)))]) (fun i => [(1, .row 4 ((cutN (Piece.mk qL qW qH qF) label ((L.take i).filterMap (keptB least))).map Piece.enc) true false)]) (fun i => i ≤ L.length) (fun i => L.length - i) 0 ?hc (by omega) ?h0 ?step
  case hc => simp +contextual -implicitDefEqProofs (maxSteps := 10000000) only [go_sem, ite_self, Bool.false_eq_true, Nat.reduceAdd, Nat.reduceMul, Nat.reduceSub, Nat.reduceLT, Nat.reduceLeDiff, Nat.reduceEqDiff, Nat.reduceBEq, Nat.reduceBNe, Int.reduceAdd, Int.reduceLT, Int.reduceLE, Int.reduceEq, Int.reduceToNat, Int.reduceNeg, reduceCtorEq, ↓reduceIte, ↓gstepW_true, ↓gstepW_false, ↓gstepDW_true, ↓gstepDW_false, ↓gone_eq, ↓flat_eq]; exact rfl
  case h0 => rfl
  case step =>
    intro i hi ih
    by_cases hlt : i < L.length
    · obtain ⟨x, hx⟩ := get_lt hlt
      have hw := wrap_succ (k := i) (by omega)
      have hm := fm_take (f := keptB least) hx
      have hlk : ((L.take i).filterMap (keptB least)).length ≤ 255 := Nat.le_trans (List.length_filterMap_le _ _) (hkept i)
      have hl := cutN_len (Piece.mk qL qW qH qF) label ((L.take i).filterMap (keptB least))
      have hr : (((L.take i).filterMap (keptB least)).length + 1) * 48 ≤ 140737488355328 ∧ ((L.take i).filterMap (keptB least)).length ≤ 140737488355327 := by omega
      have w1 := wi (label + (((L.take i).filterMap (keptB least)).length : Int)) (by omega) (by omega)
      have hbx := hbox x (List.mem_of_getElem? hx)
      have hcc := fun y => cutN_append (Piece.mk qL qW qH qF) label ((L.take i).filterMap (keptB least)) [y]
      obtain ⟨X, Y, W, H⟩ := x
      simp only [keptB] at hm
      have hc := s_cutOut_ev qL qW qH qF X Y W H (label + (((L.take i).filterMap (keptB least)).length : Int)) hfl hq6 hbx
      by_cases ho : least ≤ W ∧ least ≤ H
      · rw [if_pos ho] at hm
        simp +contextual -implicitDefEqProofs (maxSteps := 10000000) only [go_sem, ite_self, Bool.false_eq_true, Nat.reduceAdd, Nat.reduceMul, Nat.reduceSub, Nat.reduceLT, Nat.reduceLeDiff, Nat.reduceEqDiff, Nat.reduceBEq, Nat.reduceBNe, Int.reduceAdd, Int.reduceLT, Int.reduceLE, Int.reduceEq, Int.reduceToNat, Int.reduceNeg, reduceCtorEq, ↓reduceIte, ↓gstepW_true, ↓gstepW_false, ↓gstepDW_true, ↓gstepDW_false, ↓gone_eq, ↓flat_eq, hx, hlt, hw, s_isRemnant_ev, ho, hl, w1, hc, hr]
        refine ih (i + 1) _ (by omega) (by omega) ?_
        simp +contextual -implicitDefEqProofs (maxSteps := 10000000) only [go_sem, ite_self, Bool.false_eq_true, Nat.reduceAdd, Nat.reduceMul, Nat.reduceSub, Nat.reduceLT, Nat.reduceLeDiff, Nat.reduceEqDiff, Nat.reduceBEq, Nat.reduceBNe, Int.reduceAdd, Int.reduceLT, Int.reduceLE, Int.reduceEq, Int.reduceToNat, Int.reduceNeg, reduceCtorEq, ↓reduceIte, ↓gstepW_true, ↓gstepW_false, ↓gstepDW_true, ↓gstepDW_false, ↓gone_eq, ↓flat_eq, hm, Option.toList, hcc, cutN, cutP]
        first | rfl | (simp; done) | (simp; rfl)
      · rw [if_neg ho] at hm
        simp +contextual -implicitDefEqProofs (maxSteps := 10000000) only [go_sem, ite_self, Bool.false_eq_true, Nat.reduceAdd, Nat.reduceMul, Nat.reduceSub, Nat.reduceLT, Nat.reduceLeDiff, Nat.reduceEqDiff, Nat.reduceBEq, Nat.reduceBNe, Int.reduceAdd, Int.reduceLT, Int.reduceLE, Int.reduceEq, Int.reduceToNat, Int.reduceNeg, reduceCtorEq, ↓reduceIte, ↓gstepW_true, ↓gstepW_false, ↓gstepDW_true, ↓gstepDW_false, ↓gone_eq, ↓flat_eq, hx, hlt, hw, s_isRemnant_ev, ho]
        refine ih (i + 1) _ (by omega) (by omega) ?_
        simp +contextual -implicitDefEqProofs (maxSteps := 10000000) only [go_sem, ite_self, Bool.false_eq_true, Nat.reduceAdd, Nat.reduceMul, Nat.reduceSub, Nat.reduceLT, Nat.reduceLeDiff, Nat.reduceEqDiff, Nat.reduceBEq, Nat.reduceBNe, Int.reduceAdd, Int.reduceLT, Int.reduceLE, Int.reduceEq, Int.reduceToNat, Int.reduceNeg, reduceCtorEq, ↓reduceIte, ↓gstepW_true, ↓gstepW_false, ↓gstepDW_true, ↓gstepDW_false, ↓gone_eq, ↓flat_eq, hm]
        first | rfl | (simp; done) | (simp; rfl)
    · have : i = L.length := by omega
      subst this
      simp +contextual -implicitDefEqProofs (maxSteps := 10000000) only [go_sem, ite_self, Bool.false_eq_true, Nat.reduceAdd, Nat.reduceMul, Nat.reduceSub, Nat.reduceLT, Nat.reduceLeDiff, Nat.reduceEqDiff, Nat.reduceBEq, Nat.reduceBNe, Int.reduceAdd, Int.reduceLT, Int.reduceLE, Int.reduceEq, Int.reduceToNat, Int.reduceNeg, reduceCtorEq, ↓reduceIte, ↓gstepW_true, ↓gstepW_false, ↓gstepDW_true, ↓gstepDW_false, ↓gone_eq, ↓flat_eq]
      try simp
theorem s_RemnantsOf_ev (qL : Int) (qW : Int) (qH : Int) (qF : List Box) (kW : Int) (kH : Int) (kP : List Pane) (p : Plan) (least label : Int) (hl : kP.length < 4611686018427387904) (hF : qF.length < 4611686018427387904) (hW0 : R64 qW) (hH0 : R64 qH) : vcall Xs Ms n_s_RemnantsOf [(.d (.agg [.int .i64 qL, .int .i64 qW, .int .i64 qH, .sl (qF.map Box.enc)])), (.d (.agg [.int .i64 kW, .int .i64 kH, .sl (kP.map Pane.enc)])), .d p.enc, (.d (.int .i64 (least))), (.d (.int .i64 (label)))] [] =
    some (.own 0, [.row 4 ((remn (Piece.mk qL qW qH qF) (Work.mk kW kH kP) p least label).map Piece.enc) true false]) := by
  have evp := s_validPiece_ev qL qW qH qF hF hW0 hH0
  unfold remn
  by_cases hq : VPc (Piece.mk qL qW qH qF)
  · have eg := s_goodPlan_ev qL qW qH qF kW kH kP p (fun f hf => (hq.2 f hf).1) hq.1.2.2.2.2.2.2 hl
    by_cases hg : goodP (Piece.mk qL qW qH qF) (Work.mk kW kH kP) p
    · have hd : decide (goodP (Piece.mk qL qW qH qF) (Work.mk kW kH kP) p) = true := decide_eq_true hg
      rw [hd] at eg
      by_cases hc : 1 ≤ least ∧ least ≤ 200 ∧ 1 ≤ label ∧ label ≤ 9999
      · have er := s_remnants_ev qL qW qH qF kW kH kP p least label hq hg.1 hc.2.2.1 hc.2.2.2
        have hn := keptL_len (Work.mk kW kH kP) p least
        have hcl := cutN_len (Piece.mk qL qW qH qF) label (keptL (Work.mk kW kH kP) p least)
        have w1 := wi (label + ((keptL (Work.mk kW kH kP) p least).length : Int)) (by omega) (by omega)
        have w2 := wi (label + ((keptL (Work.mk kW kH kP) p least).length : Int) - 1) (by omega) (by omega)
        have c1 : 1 ≤ least ∧ least ≤ 200 := ⟨hc.1, hc.2.1⟩
        have c2 : 1 ≤ label ∧ label ≤ 9999 := hc.2.2
        by_cases hk : ((keptL (Work.mk kW kH kP) p least).length : Int) ≤ 10000 - label
        · have n1 : ¬ 9999 < label + ((keptL (Work.mk kW kH kP) p least).length : Int) - 1 := by omega
          rw [if_pos ⟨⟨hq, hg⟩, hc.1, hc.2.1, hc.2.2.1, hc.2.2.2, hk⟩]
          clear hg hd hk
          generalize cutN (Piece.mk qL qW qH qF) label (keptL (Work.mk kW kH kP) p least) = R at er hcl ⊢
          generalize (keptL (Work.mk kW kH kP) p least).length = N at *
          obtain ⟨o, a, n, t, ks⟩ := p
          rw [Plan.enc_mk] at eg er ⊢
          refine callE Xs Ms f_s_RemnantsOf x_s_RemnantsOf (by show 5 ≤ _; decide) ?_
          simp +contextual -implicitDefEqProofs (maxSteps := 10000000) only [go_sem, ite_self, Bool.false_eq_true, Nat.reduceAdd, Nat.reduceMul, Nat.reduceSub, Nat.reduceLT, Nat.reduceLeDiff, Nat.reduceEqDiff, Nat.reduceBEq, Nat.reduceBNe, Int.reduceAdd, Int.reduceLT, Int.reduceLE, Int.reduceEq, Int.reduceToNat, Int.reduceNeg, reduceCtorEq, ↓reduceIte, ↓gstepW_true, ↓gstepW_false, ↓gstepDW_true, ↓gstepDW_false, ↓gone_eq, ↓flat_eq, f_s_RemnantsOf, evp, hq, eg, er, s_inRange_ev, c1, c2, hcl, w1, w2, n1]
        · have n1 : 9999 < label + ((keptL (Work.mk kW kH kP) p least).length : Int) - 1 := by omega
          rw [if_neg (fun h => hk h.2.2.2.2.2)]
          clear hg hd hk
          generalize cutN (Piece.mk qL qW qH qF) label (keptL (Work.mk kW kH kP) p least) = R at er hcl ⊢
          generalize (keptL (Work.mk kW kH kP) p least).length = N at *
          obtain ⟨o, a, n, t, ks⟩ := p
          rw [Plan.enc_mk] at eg er ⊢
          refine callE Xs Ms f_s_RemnantsOf x_s_RemnantsOf (by show 5 ≤ _; decide) ?_
          simp +contextual -implicitDefEqProofs (maxSteps := 10000000) only [go_sem, ite_self, Bool.false_eq_true, Nat.reduceAdd, Nat.reduceMul, Nat.reduceSub, Nat.reduceLT, Nat.reduceLeDiff, Nat.reduceEqDiff, Nat.reduceBEq, Nat.reduceBNe, Int.reduceAdd, Int.reduceLT, Int.reduceLE, Int.reduceEq, Int.reduceToNat, Int.reduceNeg, reduceCtorEq, ↓reduceIte, ↓gstepW_true, ↓gstepW_false, ↓gstepDW_true, ↓gstepDW_false, ↓gone_eq, ↓flat_eq, f_s_RemnantsOf, evp, hq, eg, er, s_inRange_ev, c1, c2, hcl, w1, w2, n1]
          try rfl
      · rw [if_neg (fun h => hc ⟨h.2.1, h.2.2.1, h.2.2.2.1, h.2.2.2.2.1⟩)]
        clear hg hd
        have hc' : ¬ (1 ≤ least ∧ least ≤ 200) ∨ ¬ (1 ≤ label ∧ label ≤ 9999) := by omega
        obtain ⟨o, a, n, t, ks⟩ := p
        rw [Plan.enc_mk] at eg ⊢
        refine callE Xs Ms f_s_RemnantsOf x_s_RemnantsOf (by show 5 ≤ _; decide) ?_
        simp +contextual -implicitDefEqProofs (maxSteps := 10000000) only [go_sem, ite_self, Bool.false_eq_true, Nat.reduceAdd, Nat.reduceMul, Nat.reduceSub, Nat.reduceLT, Nat.reduceLeDiff, Nat.reduceEqDiff, Nat.reduceBEq, Nat.reduceBNe, Int.reduceAdd, Int.reduceLT, Int.reduceLE, Int.reduceEq, Int.reduceToNat, Int.reduceNeg, reduceCtorEq, ↓reduceIte, ↓gstepW_true, ↓gstepW_false, ↓gstepDW_true, ↓gstepDW_false, ↓gone_eq, ↓flat_eq, f_s_RemnantsOf, evp, hq, eg, s_inRange_ev, hc']
        try rfl
    · have hd : decide (goodP (Piece.mk qL qW qH qF) (Work.mk kW kH kP) p) = false := decide_eq_false hg
      rw [hd] at eg
      rw [if_neg (fun h => hg h.1.2)]
      clear hg hd
      obtain ⟨o, a, n, t, ks⟩ := p
      rw [Plan.enc_mk] at eg ⊢
      refine callE Xs Ms f_s_RemnantsOf x_s_RemnantsOf (by show 5 ≤ _; decide) ?_
      simp +contextual -implicitDefEqProofs (maxSteps := 10000000) only [go_sem, ite_self, Bool.false_eq_true, Nat.reduceAdd, Nat.reduceMul, Nat.reduceSub, Nat.reduceLT, Nat.reduceLeDiff, Nat.reduceEqDiff, Nat.reduceBEq, Nat.reduceBNe, Int.reduceAdd, Int.reduceLT, Int.reduceLE, Int.reduceEq, Int.reduceToNat, Int.reduceNeg, reduceCtorEq, ↓reduceIte, ↓gstepW_true, ↓gstepW_false, ↓gstepDW_true, ↓gstepDW_false, ↓gone_eq, ↓flat_eq, f_s_RemnantsOf, evp, hq, eg]
      try rfl
  · rw [if_neg (fun h => hq h.1.1)]
    obtain ⟨o, a, n, t, ks⟩ := p
    rw [Plan.enc_mk]
    refine callE Xs Ms f_s_RemnantsOf x_s_RemnantsOf (by show 5 ≤ _; decide) ?_
    simp +contextual -implicitDefEqProofs (maxSteps := 10000000) only [go_sem, ite_self, Bool.false_eq_true, Nat.reduceAdd, Nat.reduceMul, Nat.reduceSub, Nat.reduceLT, Nat.reduceLeDiff, Nat.reduceEqDiff, Nat.reduceBEq, Nat.reduceBNe, Int.reduceAdd, Int.reduceLT, Int.reduceLE, Int.reduceEq, Int.reduceToNat, Int.reduceNeg, reduceCtorEq, ↓reduceIte, ↓gstepW_true, ↓gstepW_false, ↓gstepDW_true, ↓gstepDW_false, ↓gone_eq, ↓flat_eq, f_s_RemnantsOf, evp, hq]
    try rfl
theorem l_equalBoxes_ev (a b : List Box) (ha : a.length < 4611686018427387904) : vcall Xs Ms n_l_equalBoxes [(.d (.sl (a.map Box.enc))), (.d (.sl (b.map Box.enc)))] [] = some ((.d (.bool (decide (a = b)))), []) := by
  refine callE Xs Ms f_l_equalBoxes x_l_equalBoxes (by show 2 ≤ _; decide) ?_
  by_cases hl : a.length = b.length
  · simp +contextual -implicitDefEqProofs (maxSteps := 10000000) only [go_sem, ite_self, Bool.false_eq_true, Nat.reduceAdd, Nat.reduceMul, Nat.reduceSub, Nat.reduceLT, Nat.reduceLeDiff, Nat.reduceEqDiff, Nat.reduceBEq, Nat.reduceBNe, Int.reduceAdd, Int.reduceLT, Int.reduceLE, Int.reduceEq, Int.reduceToNat, Int.reduceNeg, reduceCtorEq, ↓reduceIte, ↓gstepW_true, ↓gstepW_false, ↓gstepDW_true, ↓gstepDW_false, ↓gone_eq, ↓flat_eq, f_l_equalBoxes, hl]
    refine LW_over Xs Ms (st0 := ?st0) (α := Nat) (fun k => [(5, .d (.int .i64 (k : Int)))]) (fun _ => []) (fun k => k ≤ b.length ∧ a.take k = b.take k) (fun k => b.length - k) 0 ?hc ⟨by omega, rfl⟩ ?h0 ?step
    case hc => simp +contextual -implicitDefEqProofs (maxSteps := 10000000) only [go_sem, ite_self, Bool.false_eq_true, Nat.reduceAdd, Nat.reduceMul, Nat.reduceSub, Nat.reduceLT, Nat.reduceLeDiff, Nat.reduceEqDiff, Nat.reduceBEq, Nat.reduceBNe, Int.reduceAdd, Int.reduceLT, Int.reduceLE, Int.reduceEq, Int.reduceToNat, Int.reduceNeg, reduceCtorEq, ↓reduceIte, ↓gstepW_true, ↓gstepW_false, ↓gstepDW_true, ↓gstepDW_false, ↓gone_eq, ↓flat_eq, hl]; exact rfl
    case h0 => rfl
    case step =>
      intro k ⟨hk, hp⟩ ih
      by_cases hlt : k < b.length
      · obtain ⟨x, hx⟩ : ∃ x, a[k]? = some x := get_lt (by omega)
        obtain ⟨y, hy⟩ : ∃ y, b[k]? = some y := get_lt hlt
        have hw := wrap_succ (k := k) (by omega)
        have ht := take_succ_eq hx hy hp
        by_cases he : x = y
        · subst he
          obtain ⟨X, Y, W, H⟩ := x
          simp +contextual -implicitDefEqProofs (maxSteps := 10000000) only [go_sem, ite_self, Bool.false_eq_true, Nat.reduceAdd, Nat.reduceMul, Nat.reduceSub, Nat.reduceLT, Nat.reduceLeDiff, Nat.reduceEqDiff, Nat.reduceBEq, Nat.reduceBNe, Int.reduceAdd, Int.reduceLT, Int.reduceLE, Int.reduceEq, Int.reduceToNat, Int.reduceNeg, reduceCtorEq, ↓reduceIte, ↓gstepW_true, ↓gstepW_false, ↓gstepDW_true, ↓gstepDW_false, ↓gone_eq, ↓flat_eq, hx, hy, hlt, hl, hw]
          refine ih (k + 1) _ ⟨by omega, ht.2 rfl⟩ (by omega) ?_
          simp +contextual -implicitDefEqProofs (maxSteps := 10000000) only [go_sem, ite_self, Bool.false_eq_true, Nat.reduceAdd, Nat.reduceMul, Nat.reduceSub, Nat.reduceLT, Nat.reduceLeDiff, Nat.reduceEqDiff, Nat.reduceBEq, Nat.reduceBNe, Int.reduceAdd, Int.reduceLT, Int.reduceLE, Int.reduceEq, Int.reduceToNat, Int.reduceNeg, reduceCtorEq, ↓reduceIte, ↓gstepW_true, ↓gstepW_false, ↓gstepDW_true, ↓gstepDW_false, ↓gone_eq, ↓flat_eq, hl]
        · have hne : ¬ a = b := fun e => he (ht.1 (by rw [e]))
          obtain ⟨X, Y, W, H⟩ := x
          obtain ⟨X', Y', W', H'⟩ := y
          simp only [Box.mk.injEq] at he
          simp +contextual -implicitDefEqProofs (maxSteps := 10000000) only [go_sem, ite_self, Bool.false_eq_true, Nat.reduceAdd, Nat.reduceMul, Nat.reduceSub, Nat.reduceLT, Nat.reduceLeDiff, Nat.reduceEqDiff, Nat.reduceBEq, Nat.reduceBNe, Int.reduceAdd, Int.reduceLT, Int.reduceLE, Int.reduceEq, Int.reduceToNat, Int.reduceNeg, reduceCtorEq, ↓reduceIte, ↓gstepW_true, ↓gstepW_false, ↓gstepDW_true, ↓gstepDW_false, ↓gone_eq, ↓flat_eq, hx, hy, hlt, hl, hw, he, hne]
      · have : a = b := by
          have h1 := hp
          rw [List.take_of_length_le (by omega), List.take_of_length_le (by omega)] at h1
          exact h1
        simp +contextual -implicitDefEqProofs (maxSteps := 10000000) only [go_sem, ite_self, Bool.false_eq_true, Nat.reduceAdd, Nat.reduceMul, Nat.reduceSub, Nat.reduceLT, Nat.reduceLeDiff, Nat.reduceEqDiff, Nat.reduceBEq, Nat.reduceBNe, Int.reduceAdd, Int.reduceLT, Int.reduceLE, Int.reduceEq, Int.reduceToNat, Int.reduceNeg, reduceCtorEq, ↓reduceIte, ↓gstepW_true, ↓gstepW_false, ↓gstepDW_true, ↓gstepDW_false, ↓gone_eq, ↓flat_eq, hlt, hl, this]
  · have hne : ¬ a = b := fun e => hl (by rw [e])
    simp +contextual -implicitDefEqProofs (maxSteps := 10000000) only [go_sem, ite_self, Bool.false_eq_true, Nat.reduceAdd, Nat.reduceMul, Nat.reduceSub, Nat.reduceLT, Nat.reduceLeDiff, Nat.reduceEqDiff, Nat.reduceBEq, Nat.reduceBNe, Int.reduceAdd, Int.reduceLT, Int.reduceLE, Int.reduceEq, Int.reduceToNat, Int.reduceNeg, reduceCtorEq, ↓reduceIte, ↓gstepW_true, ↓gstepW_false, ↓gstepDW_true, ↓gstepDW_false, ↓gone_eq, ↓flat_eq, f_l_equalBoxes, hl, hne]
theorem l_equalPiece_ev (aL : Int) (aW : Int) (aH : Int) (aF : List Box) (bL : Int) (bW : Int) (bH : Int) (bF : List Box) (hl : aF.length < 4611686018427387904) : vcall Xs Ms n_l_equalPiece [(.d (.agg [.int .i64 aL, .int .i64 aW, .int .i64 aH, .sl (aF.map Box.enc)])), (.d (.agg [.int .i64 bL, .int .i64 bW, .int .i64 bH, .sl (bF.map Box.enc)]))] [] = some ((.d (.bool (decide ((Piece.mk aL aW aH aF) = (Piece.mk bL bW bH bF))))), []) := by
  refine callE Xs Ms f_l_equalPiece x_l_equalPiece (by show 2 ≤ _; decide) ?_
  simp +contextual -implicitDefEqProofs (maxSteps := 10000000) only [go_sem, ite_self, Bool.false_eq_true, Nat.reduceAdd, Nat.reduceMul, Nat.reduceSub, Nat.reduceLT, Nat.reduceLeDiff, Nat.reduceEqDiff, Nat.reduceBEq, Nat.reduceBNe, Int.reduceAdd, Int.reduceLT, Int.reduceLE, Int.reduceEq, Int.reduceToNat, Int.reduceNeg, reduceCtorEq, ↓reduceIte, ↓gstepW_true, ↓gstepW_false, ↓gstepDW_true, ↓gstepDW_false, ↓gone_eq, ↓flat_eq, f_l_equalPiece, l_equalBoxes_ev aF bF hl]
  exact fin_b (by simp only [Piece.mk.injEq, and_assoc])
theorem l_equalStock_ev (a b : List Piece) (ha : a.length < 4611686018427387904) (hb : ∀ x ∈ a, x.Flaws.length < 4611686018427387904) : vcall Xs Ms n_l_equalStock [(.d (.sl (a.map Piece.enc))), (.d (.sl (b.map Piece.enc)))] [] = some ((.d (.bool (decide (a = b)))), []) := by
  refine callE Xs Ms f_l_equalStock x_l_equalStock (by show 2 ≤ _; decide) ?_
  by_cases hl : a.length = b.length
  · simp +contextual -implicitDefEqProofs (maxSteps := 10000000) only [go_sem, ite_self, Bool.false_eq_true, Nat.reduceAdd, Nat.reduceMul, Nat.reduceSub, Nat.reduceLT, Nat.reduceLeDiff, Nat.reduceEqDiff, Nat.reduceBEq, Nat.reduceBNe, Int.reduceAdd, Int.reduceLT, Int.reduceLE, Int.reduceEq, Int.reduceToNat, Int.reduceNeg, reduceCtorEq, ↓reduceIte, ↓gstepW_true, ↓gstepW_false, ↓gstepDW_true, ↓gstepDW_false, ↓gone_eq, ↓flat_eq, f_l_equalStock, hl]
    refine LW_over Xs Ms (st0 := ?st0) (α := Nat) (fun k => [(5, .d (.int .i64 (k : Int)))]) (fun _ => []) (fun k => k ≤ b.length ∧ a.take k = b.take k) (fun k => b.length - k) 0 ?hc ⟨by omega, rfl⟩ ?h0 ?step
    case hc => simp +contextual -implicitDefEqProofs (maxSteps := 10000000) only [go_sem, ite_self, Bool.false_eq_true, Nat.reduceAdd, Nat.reduceMul, Nat.reduceSub, Nat.reduceLT, Nat.reduceLeDiff, Nat.reduceEqDiff, Nat.reduceBEq, Nat.reduceBNe, Int.reduceAdd, Int.reduceLT, Int.reduceLE, Int.reduceEq, Int.reduceToNat, Int.reduceNeg, reduceCtorEq, ↓reduceIte, ↓gstepW_true, ↓gstepW_false, ↓gstepDW_true, ↓gstepDW_false, ↓gone_eq, ↓flat_eq, hl]; exact rfl
    case h0 => rfl
    case step =>
      intro k ⟨hk, hp⟩ ih
      by_cases hlt : k < b.length
      · obtain ⟨x, hx⟩ : ∃ x, a[k]? = some x := get_lt (by omega)
        obtain ⟨y, hy⟩ : ∃ y, b[k]? = some y := get_lt hlt
        have hw := wrap_succ (k := k) (by omega)
        have ht := take_succ_eq hx hy hp
        by_cases he : x = y
        · subst he
          have he := l_equalPiece_ev x.Label x.W x.H x.Flaws x.Label x.W x.H x.Flaws (hb x (List.mem_of_getElem? hx))
          obtain ⟨L, W, H, F⟩ := x
          simp +contextual -implicitDefEqProofs (maxSteps := 10000000) only [go_sem, ite_self, Bool.false_eq_true, Nat.reduceAdd, Nat.reduceMul, Nat.reduceSub, Nat.reduceLT, Nat.reduceLeDiff, Nat.reduceEqDiff, Nat.reduceBEq, Nat.reduceBNe, Int.reduceAdd, Int.reduceLT, Int.reduceLE, Int.reduceEq, Int.reduceToNat, Int.reduceNeg, reduceCtorEq, ↓reduceIte, ↓gstepW_true, ↓gstepW_false, ↓gstepDW_true, ↓gstepDW_false, ↓gone_eq, ↓flat_eq, hx, hy, hlt, hl, hw, he]
          refine ih (k + 1) _ ⟨by omega, ht.2 rfl⟩ (by omega) ?_
          simp +contextual -implicitDefEqProofs (maxSteps := 10000000) only [go_sem, ite_self, Bool.false_eq_true, Nat.reduceAdd, Nat.reduceMul, Nat.reduceSub, Nat.reduceLT, Nat.reduceLeDiff, Nat.reduceEqDiff, Nat.reduceBEq, Nat.reduceBNe, Int.reduceAdd, Int.reduceLT, Int.reduceLE, Int.reduceEq, Int.reduceToNat, Int.reduceNeg, reduceCtorEq, ↓reduceIte, ↓gstepW_true, ↓gstepW_false, ↓gstepDW_true, ↓gstepDW_false, ↓gone_eq, ↓flat_eq, hl]
        · have hne : ¬ a = b := fun e => he (ht.1 (by rw [e]))
          have hq := l_equalPiece_ev x.Label x.W x.H x.Flaws y.Label y.W y.H y.Flaws (hb x (List.mem_of_getElem? hx))
          obtain ⟨L, W, H, F⟩ := x
          obtain ⟨L', W', H', F'⟩ := y
          simp +contextual -implicitDefEqProofs (maxSteps := 10000000) only [go_sem, ite_self, Bool.false_eq_true, Nat.reduceAdd, Nat.reduceMul, Nat.reduceSub, Nat.reduceLT, Nat.reduceLeDiff, Nat.reduceEqDiff, Nat.reduceBEq, Nat.reduceBNe, Int.reduceAdd, Int.reduceLT, Int.reduceLE, Int.reduceEq, Int.reduceToNat, Int.reduceNeg, reduceCtorEq, ↓reduceIte, ↓gstepW_true, ↓gstepW_false, ↓gstepDW_true, ↓gstepDW_false, ↓gone_eq, ↓flat_eq, hx, hy, hlt, hl, hw, hq, he, hne]
      · have : a = b := by
          have h1 := hp
          rw [List.take_of_length_le (by omega), List.take_of_length_le (by omega)] at h1
          exact h1
        simp +contextual -implicitDefEqProofs (maxSteps := 10000000) only [go_sem, ite_self, Bool.false_eq_true, Nat.reduceAdd, Nat.reduceMul, Nat.reduceSub, Nat.reduceLT, Nat.reduceLeDiff, Nat.reduceEqDiff, Nat.reduceBEq, Nat.reduceBNe, Int.reduceAdd, Int.reduceLT, Int.reduceLE, Int.reduceEq, Int.reduceToNat, Int.reduceNeg, reduceCtorEq, ↓reduceIte, ↓gstepW_true, ↓gstepW_false, ↓gstepDW_true, ↓gstepDW_false, ↓gone_eq, ↓flat_eq, hlt, hl, this]
  · have hne : ¬ a = b := fun e => hl (by rw [e])
    simp +contextual -implicitDefEqProofs (maxSteps := 10000000) only [go_sem, ite_self, Bool.false_eq_true, Nat.reduceAdd, Nat.reduceMul, Nat.reduceSub, Nat.reduceLT, Nat.reduceLeDiff, Nat.reduceEqDiff, Nat.reduceBEq, Nat.reduceBNe, Int.reduceAdd, Int.reduceLT, Int.reduceLE, Int.reduceEq, Int.reduceToNat, Int.reduceNeg, reduceCtorEq, ↓reduceIte, ↓gstepW_true, ↓gstepW_false, ↓gstepDW_true, ↓gstepDW_false, ↓gone_eq, ↓flat_eq, f_l_equalStock, hl, hne]
theorem areaL_take {L : List Box} {i : Nat} {x : Box} (hx : L[i]? = some x) : areaL (L.take (i + 1)) = areaL (L.take i) + x.W * x.H := by
  rw [List.take_add_one, hx, areaL_append]; simp [areaL]
theorem l_area_ev (L : List Box) (hb : ∀ b ∈ L, VB b) (hl : L.length ≤ 1000000) : vcall Xs Ms n_l_area [(.d (.sl (L.map Box.enc)))] [] = some ((.d (.int .i64 (areaL L))), []) := by
  refine callE Xs Ms f_l_area x_l_area (by show 1 ≤ _; decide) ?_
  simp +contextual -implicitDefEqProofs (maxSteps := 10000000) only [go_sem, ite_self, Bool.false_eq_true, Nat.reduceAdd, Nat.reduceMul, Nat.reduceSub, Nat.reduceLT, Nat.reduceLeDiff, Nat.reduceEqDiff, Nat.reduceBEq, Nat.reduceBNe, Int.reduceAdd, Int.reduceLT, Int.reduceLE, Int.reduceEq, Int.reduceToNat, Int.reduceNeg, reduceCtorEq, ↓reduceIte, ↓gstepW_true, ↓gstepW_false, ↓gstepDW_true, ↓gstepDW_false, ↓gone_eq, ↓flat_eq, f_l_area]
  refine LW_over Xs Ms (st0 := ?st0) (α := Nat) (fun i => [(4, .d (.int .i64 (i : Int))), (3, .d (.int .i64 (areaL (L.take i))))]) (fun _ => []) (fun i => i ≤ L.length) (fun i => L.length - i) 0 ?hc (by omega) ?h0 ?step
  case hc => simp +contextual -implicitDefEqProofs (maxSteps := 10000000) only [go_sem, ite_self, Bool.false_eq_true, Nat.reduceAdd, Nat.reduceMul, Nat.reduceSub, Nat.reduceLT, Nat.reduceLeDiff, Nat.reduceEqDiff, Nat.reduceBEq, Nat.reduceBNe, Int.reduceAdd, Int.reduceLT, Int.reduceLE, Int.reduceEq, Int.reduceToNat, Int.reduceNeg, reduceCtorEq, ↓reduceIte, ↓gstepW_true, ↓gstepW_false, ↓gstepDW_true, ↓gstepDW_false, ↓gone_eq, ↓flat_eq]; exact rfl
  case h0 => rfl
  case step =>
    intro i hi ih
    by_cases hlt : i < L.length
    · obtain ⟨x, hx⟩ := get_lt hlt
      have hw := wrap_succ (k := i) (by omega)
      have hm := areaL_take hx
      have ha := areaL_VB (l := L.take i) (fun c hc => hb c (List.mem_of_mem_take hc))
      have hlk : (L.take i).length ≤ i := by simp; omega
      have hax := area_VB (hb x (List.mem_of_getElem? hx))
      obtain ⟨X, Y, W, H⟩ := x
      simp only at hax hm
      have w0 := wi (W * H) (by omega) (by omega)
      have w1 := wi (areaL (L.take i) + W * H) (by omega) (by omega)
      simp +contextual -implicitDefEqProofs (maxSteps := 10000000) only [go_sem, ite_self, Bool.false_eq_true, Nat.reduceAdd, Nat.reduceMul, Nat.reduceSub, Nat.reduceLT, Nat.reduceLeDiff, Nat.reduceEqDiff, Nat.reduceBEq, Nat.reduceBNe, Int.reduceAdd, Int.reduceLT, Int.reduceLE, Int.reduceEq, Int.reduceToNat, Int.reduceNeg, reduceCtorEq, ↓reduceIte, ↓gstepW_true, ↓gstepW_false, ↓gstepDW_true, ↓gstepDW_false, ↓gone_eq, ↓flat_eq, hx, hlt, hw, w0, w1]
      refine ih (i + 1) _ (by omega) (by omega) ?_
      simp +contextual -implicitDefEqProofs (maxSteps := 10000000) only [go_sem, ite_self, Bool.false_eq_true, Nat.reduceAdd, Nat.reduceMul, Nat.reduceSub, Nat.reduceLT, Nat.reduceLeDiff, Nat.reduceEqDiff, Nat.reduceBEq, Nat.reduceBNe, Int.reduceAdd, Int.reduceLT, Int.reduceLE, Int.reduceEq, Int.reduceToNat, Int.reduceNeg, reduceCtorEq, ↓reduceIte, ↓gstepW_true, ↓gstepW_false, ↓gstepDW_true, ↓gstepDW_false, ↓gone_eq, ↓flat_eq, hm]
    · have : i = L.length := by omega
      subst this
      simp +contextual -implicitDefEqProofs (maxSteps := 10000000) only [go_sem, ite_self, Bool.false_eq_true, Nat.reduceAdd, Nat.reduceMul, Nat.reduceSub, Nat.reduceLT, Nat.reduceLeDiff, Nat.reduceEqDiff, Nat.reduceBEq, Nat.reduceBNe, Int.reduceAdd, Int.reduceLT, Int.reduceLE, Int.reduceEq, Int.reduceToNat, Int.reduceNeg, reduceCtorEq, ↓reduceIte, ↓gstepW_true, ↓gstepW_false, ↓gstepDW_true, ↓gstepDW_false, ↓gone_eq, ↓flat_eq]
      try simp
theorem l_boxesOf_ev (L : List Go.Abs.L.Place) (hl : L.length ≤ 1000000) : vcall Xs Ms n_l_boxesOf [(.d (.sl (L.map Go.Abs.L.Place.enc)))] [] = some (.own 0, [.row 4 ((L.map Go.Abs.L.Place.Box).map Box.enc) true false]) := by
  refine callE Xs Ms f_l_boxesOf x_l_boxesOf (by show 1 ≤ _; decide) ?_
  simp +contextual -implicitDefEqProofs (maxSteps := 10000000) only [go_sem, ite_self, Bool.false_eq_true, Nat.reduceAdd, Nat.reduceMul, Nat.reduceSub, Nat.reduceLT, Nat.reduceLeDiff, Nat.reduceEqDiff, Nat.reduceBEq, Nat.reduceBNe, Int.reduceAdd, Int.reduceLT, Int.reduceLE, Int.reduceEq, Int.reduceToNat, Int.reduceNeg, reduceCtorEq, ↓reduceIte, ↓gstepW_true, ↓gstepW_false, ↓gstepDW_true, ↓gstepDW_false, ↓gone_eq, ↓flat_eq, f_l_boxesOf]
  refine LW_over Xs Ms (st0 := ?st0) (α := Nat) (fun i => [(4, .d (.int .i64 (i : Int)))]) (fun i => [(0, .row 4 (((L.take i).map Go.Abs.L.Place.Box).map Box.enc) true false)]) (fun i => i ≤ L.length) (fun i => L.length - i) 0 ?hc (by omega) ?h0 ?step
  case hc => simp +contextual -implicitDefEqProofs (maxSteps := 10000000) only [go_sem, ite_self, Bool.false_eq_true, Nat.reduceAdd, Nat.reduceMul, Nat.reduceSub, Nat.reduceLT, Nat.reduceLeDiff, Nat.reduceEqDiff, Nat.reduceBEq, Nat.reduceBNe, Int.reduceAdd, Int.reduceLT, Int.reduceLE, Int.reduceEq, Int.reduceToNat, Int.reduceNeg, reduceCtorEq, ↓reduceIte, ↓gstepW_true, ↓gstepW_false, ↓gstepDW_true, ↓gstepDW_false, ↓gone_eq, ↓flat_eq]; exact rfl
  case h0 => rfl
  case step =>
    intro i hi ih
    by_cases hlt : i < L.length
    · obtain ⟨x, hx⟩ := get_lt hlt
      have hw := wrap_succ (k := i) (by omega)
      have hm : (L.take (i + 1)).map Go.Abs.L.Place.Box = (L.take i).map Go.Abs.L.Place.Box ++ [x.Box] := by rw [List.take_add_one, hx]; simp
      have hlk : (L.take i).length ≤ i := by simp; omega
      have hr : ((L.take i).length + 1) * 32 ≤ 140737488355328 ∧ (L.take i).length ≤ 140737488355327 := by omega
      obtain ⟨q, t, ⟨X, Y, W, H⟩⟩ := x
      simp only at hm
      simp +contextual -implicitDefEqProofs (maxSteps := 10000000) only [go_sem, ite_self, Bool.false_eq_true, Nat.reduceAdd, Nat.reduceMul, Nat.reduceSub, Nat.reduceLT, Nat.reduceLeDiff, Nat.reduceEqDiff, Nat.reduceBEq, Nat.reduceBNe, Int.reduceAdd, Int.reduceLT, Int.reduceLE, Int.reduceEq, Int.reduceToNat, Int.reduceNeg, reduceCtorEq, ↓reduceIte, ↓gstepW_true, ↓gstepW_false, ↓gstepDW_true, ↓gstepDW_false, ↓gone_eq, ↓flat_eq, hx, hlt, hw, hr]
      refine ih (i + 1) _ (by omega) (by omega) ?_
      simp +contextual -implicitDefEqProofs (maxSteps := 10000000) only [go_sem, ite_self, Bool.false_eq_true, Nat.reduceAdd, Nat.reduceMul, Nat.reduceSub, Nat.reduceLT, Nat.reduceLeDiff, Nat.reduceEqDiff, Nat.reduceBEq, Nat.reduceBNe, Int.reduceAdd, Int.reduceLT, Int.reduceLE, Int.reduceEq, Int.reduceToNat, Int.reduceNeg, reduceCtorEq, ↓reduceIte, ↓gstepW_true, ↓gstepW_false, ↓gstepDW_true, ↓gstepDW_false, ↓gone_eq, ↓flat_eq, hm]
      first | rfl | (simp; done) | (simp; rfl)
    · have : i = L.length := by omega
      subst this
      simp +contextual -implicitDefEqProofs (maxSteps := 10000000) only [go_sem, ite_self, Bool.false_eq_true, Nat.reduceAdd, Nat.reduceMul, Nat.reduceSub, Nat.reduceLT, Nat.reduceLeDiff, Nat.reduceEqDiff, Nat.reduceBEq, Nat.reduceBNe, Int.reduceAdd, Int.reduceLT, Int.reduceLE, Int.reduceEq, Int.reduceToNat, Int.reduceNeg, reduceCtorEq, ↓reduceIte, ↓gstepW_true, ↓gstepW_false, ↓gstepDW_true, ↓gstepDW_false, ↓gone_eq, ↓flat_eq]
      try simp
def growN : Nat → Nat
  | 0 => 5
  | n + 1 => 2 * growN n + 5
theorem fits_ext {ps ps' : List Pane} : ∀ {b : BT} {w h : Int}, fits ps b w h = true → fits (ps ++ ps') b w h = true
  | .waste, w, h, _ => rfl
  | .pane i t, w, h, hf => by
    simp only [fits, paneFits, Bool.and_eq_true, decide_eq_true_eq] at hf ⊢
    refine ⟨hf.1, ?_⟩
    have h2 := hf.2
    cases hq : ps[i.toNat]? with
    | none => rw [hq] at h2; cases h2
    | some q =>
      have hlt := (List.getElem?_eq_some_iff.1 hq).1
      rw [List.getElem?_append_left hlt, hq]
      rw [hq] at h2; exact h2
  | .cut d a l r, w, h, hf => by
    cases d <;> simp only [fits, Bool.and_eq_true, decide_eq_true_eq, if_true, Bool.false_eq_true, if_false] at hf ⊢ <;> exact ⟨⟨hf.1.1, fits_ext hf.1.2⟩, fits_ext hf.2⟩
/-- The reader, the work, its panes, the plan's kids. -/
def growOut (bs : List UInt8) (kW kH : Int) (p : Nat) (ps : List Pane) (ks : List Plan) : Bool → List AObj
  | true => [.box [.d (.sl (bs.map encU)), (.d (.int .i64 (p)))], .box [(.d (.int .i64 (kW))), (.d (.int .i64 (kH))), .own 2], .row 4 (ps.map Pane.enc) true false, .row 5 (ks.map Plan.enc) true false]
  | false => [.box [.d (.sl (bs.map encU)), (.d (.int .i64 (p)))], .box [(.d (.int .i64 (kW))), (.d (.int .i64 (kH))), .own 4], .row 0 [] true false, .row 5 (ks.map Plan.enc) true false, .row 4 (ps.map Pane.enc) true false]
def Grown (bs : List UInt8) (kW kH : Int) (n p : Nat) (w h : Int) (ps : List Pane) : Prop :=
  ∃ (b : BT) (p' : Nat) (ext : List Pane) (o a q : Int) (t : Bool) (ks : List Plan) (sh : Bool), b.plan = .mk o a q t ks ∧ p ≤ p' ∧ p' ≤ p + growN n ∧ (ps ++ ext).length ≤ 24 ∧ fits (ps ++ ext) b w h = true ∧ b.cnt ≤ growN n ∧
    vcall Xs Ms n_s_grow [.ptr 0 0, .ptr 1 0, (.d (.int .i64 (w))), (.d (.int .i64 (h))), (.d (.int .i64 (n)))] [.box [.d (.sl (bs.map encU)), (.d (.int .i64 (p)))], .box [(.d (.int .i64 (kW))), (.d (.int .i64 (kH))), .own 2], .row 4 (ps.map Pane.enc) true false] =
      some (.agg [(.d (.int .i64 (o))), (.d (.int .i64 (a))), (.d (.int .i64 (q))), (.d (.bool (t))), .own 3], growOut bs kW kH p' (ps ++ ext) ks sh)
def GrowIH (bs : List UInt8) (kW kH : Int) (n : Nat) : Prop := ∀ (m : Nat), m < n → ∀ (p : Nat) (w h : Int) (ps : List Pane), m ≤ 4 → 1 ≤ w → w ≤ 1000 → 1 ≤ h → h ≤ 1000 → ps.length ≤ 24 → p + growN m < 1000000000 → Grown bs kW kH m p w h ps
theorem grow_down (bs : List UInt8) (hb : bs.length ≤ 2000) (kW kH : Int) (n : Nat) (IH : GrowIH bs kW kH n) (p : Nat) (w h : Int) (ps : List Pane) (hn4 : n ≤ 4) (hw0 : 1 ≤ w) (hw1 : w ≤ 1000) (hh0 : 1 ≤ h) (hh1 : h ≤ 1000) (hps : ps.length ≤ 24) (hp : p + growN n < 1000000000)
    (c : Int) (p0 : vcall Xs Ms n_s_reader_pick [.ptr 0 0, (.d (.int .i64 (8)))] [.box [.d (.sl (bs.map encU)), (.d (.int .i64 (p)))]] = some ((.d (.int .i64 (c))), [.box [.d (.sl (bs.map encU)), (.d (.int .i64 ((p + 1 : Nat))))]]))
    (hD1 : (0 < (n : Int) ∧ 1 < w) ∧ (c < 3 ∨ (c < 4 ∧ h = 1))) : Grown bs kW kH n p w h ps := by
  obtain ⟨m, rfl⟩ : ∃ m, n = m + 1 := ⟨n - 1, by omega⟩
  simp only [growN] at hp
  have w0 := wi (w - 1) (by omega) (by omega)
  have p1 := s_pick_ev bs (p + 1) (w - 1) hb (by omega)
  have q2 := s_pick_nonneg bs (p + 1) (w - 1)
  have q3 := s_pick_lt bs (p + 1) (w - 1) (by omega)
  generalize s_pick bs (p + 1) (w - 1) = a0 at p1 q2 q3
  have w2 := wi (1 + a0) (by omega) (by omega)
  have w3 := wi (w - (1 + a0)) (by omega) (by omega)
  have w4 : IntKind.i64.wrap (((m + 1 : Nat) : Int) - 1) = (m : Int) := by rw [wrap64 (by omega) (by omega)]; omega
  obtain ⟨b1, p2, e1, o1, a1, r1, t1, k1, s1, g1, g2, g3, g4, g5, g6, g7⟩ := IH m (by omega) (p + 2) (1 + a0) h ps (by omega) (by omega) (by omega) hh0 hh1 hps (by omega)
  obtain ⟨b2, p3, e2, o2, a2, r2, t2, k2, s2, f1, f2, f3, f4, f5, f6, f7⟩ := IH m (by omega) p2 (w - (1 + a0)) h (ps ++ e1) (by omega) (by omega) (by omega) hh0 hh1 g4 (by omega)
  refine ⟨.cut true (1 + a0) b1 b2, p3, e1 ++ e2, 2, 1 + a0, 0, false, [.mk o1 a1 r1 t1 k1, .mk o2 a2 r2 t2 k2], s1 && s2, ?_, by omega, by simp only [growN]; omega, by rw [← List.append_assoc]; exact f4, ?_, by simp only [BT.cnt, growN]; omega, ?_⟩
  · simp [BT.plan, opOf, g1, f1]
  · simp only [fits, if_true, Bool.false_eq_true, if_false, Bool.and_eq_true, decide_eq_true_eq, ← List.append_assoc]
    exact ⟨⟨⟨by omega, by omega⟩, fits_ext g5⟩, f5⟩
  · simp only [← List.append_assoc]
    cases s1 <;> cases s2 <;> simp only [growOut, Bool.and_true, Bool.and_false, Bool.true_and, Bool.false_and] at g7 f7 ⊢
    all_goals
      refine callE Xs Ms f_s_grow x_s_grow (by show 5 ≤ _; decide) ?_
      simp +contextual -implicitDefEqProofs (maxSteps := 10000000) only [go_sem, ite_self, Bool.false_eq_true, Nat.reduceAdd, Nat.reduceMul, Nat.reduceSub, Nat.reduceLT, Nat.reduceLeDiff, Nat.reduceEqDiff, Nat.reduceBEq, Nat.reduceBNe, Int.reduceAdd, Int.reduceLT, Int.reduceLE, Int.reduceEq, Int.reduceToNat, Int.reduceNeg, reduceCtorEq, ↓reduceIte, ↓gstepW_true, ↓gstepW_false, ↓gstepDW_true, ↓gstepDW_false, ↓gone_eq, ↓flat_eq, f_s_grow, ← Bool.decide_and, ← Bool.decide_or, p0, hD1, w0, p1, w2, w3, w4, g7, f7]
theorem grow_across (bs : List UInt8) (hb : bs.length ≤ 2000) (kW kH : Int) (n : Nat) (IH : GrowIH bs kW kH n) (p : Nat) (w h : Int) (ps : List Pane) (hn4 : n ≤ 4) (hw0 : 1 ≤ w) (hw1 : w ≤ 1000) (hh0 : 1 ≤ h) (hh1 : h ≤ 1000) (hps : ps.length ≤ 24) (hp : p + growN n < 1000000000)
    (c : Int) (p0 : vcall Xs Ms n_s_reader_pick [.ptr 0 0, (.d (.int .i64 (8)))] [.box [.d (.sl (bs.map encU)), (.d (.int .i64 (p)))]] = some ((.d (.int .i64 (c))), [.box [.d (.sl (bs.map encU)), (.d (.int .i64 ((p + 1 : Nat))))]]))
    (hD1 : ¬ ((0 < (n : Int) ∧ 1 < w) ∧ (c < 3 ∨ (c < 4 ∧ h = 1)))) (hD2 : (0 < (n : Int) ∧ 1 < h) ∧ c < 6) : Grown bs kW kH n p w h ps := by
  obtain ⟨m, rfl⟩ : ∃ m, n = m + 1 := ⟨n - 1, by omega⟩
  simp only [growN] at hp
  have w0 := wi (h - 1) (by omega) (by omega)
  have p1 := s_pick_ev bs (p + 1) (h - 1) hb (by omega)
  have q2 := s_pick_nonneg bs (p + 1) (h - 1)
  have q3 := s_pick_lt bs (p + 1) (h - 1) (by omega)
  generalize s_pick bs (p + 1) (h - 1) = a0 at p1 q2 q3
  have w2 := wi (1 + a0) (by omega) (by omega)
  have w3 := wi (h - (1 + a0)) (by omega) (by omega)
  have w4 : IntKind.i64.wrap (((m + 1 : Nat) : Int) - 1) = (m : Int) := by rw [wrap64 (by omega) (by omega)]; omega
  have hD1' : ¬ (1 < w ∧ (c < 3 ∨ (c < 4 ∧ h = 1))) := fun h => hD1 ⟨⟨hD2.1.1, h.1⟩, h.2⟩
  obtain ⟨b1, p2, e1, o1, a1, r1, t1, k1, s1, g1, g2, g3, g4, g5, g6, g7⟩ := IH m (by omega) (p + 2) w (1 + a0) ps (by omega) hw0 hw1 (by omega) (by omega) hps (by omega)
  obtain ⟨b2, p3, e2, o2, a2, r2, t2, k2, s2, f1, f2, f3, f4, f5, f6, f7⟩ := IH m (by omega) p2 w (h - (1 + a0)) (ps ++ e1) (by omega) hw0 hw1 (by omega) (by omega) g4 (by omega)
  refine ⟨.cut false (1 + a0) b1 b2, p3, e1 ++ e2, 3, 1 + a0, 0, false, [.mk o1 a1 r1 t1 k1, .mk o2 a2 r2 t2 k2], s1 && s2, ?_, by omega, by simp only [growN]; omega, by rw [← List.append_assoc]; exact f4, ?_, by simp only [BT.cnt, growN]; omega, ?_⟩
  · simp [BT.plan, opOf, g1, f1]
  · simp only [fits, if_true, Bool.false_eq_true, if_false, Bool.and_eq_true, decide_eq_true_eq, ← List.append_assoc]
    exact ⟨⟨⟨by omega, by omega⟩, fits_ext g5⟩, f5⟩
  · simp only [← List.append_assoc]
    cases s1 <;> cases s2 <;> simp only [growOut, Bool.and_true, Bool.and_false, Bool.true_and, Bool.false_and] at g7 f7 ⊢
    all_goals
      refine callE Xs Ms f_s_grow x_s_grow (by show 5 ≤ _; decide) ?_
      simp +contextual -implicitDefEqProofs (maxSteps := 10000000) only [go_sem, ite_self, Bool.false_eq_true, Nat.reduceAdd, Nat.reduceMul, Nat.reduceSub, Nat.reduceLT, Nat.reduceLeDiff, Nat.reduceEqDiff, Nat.reduceBEq, Nat.reduceBNe, Int.reduceAdd, Int.reduceLT, Int.reduceLE, Int.reduceEq, Int.reduceToNat, Int.reduceNeg, reduceCtorEq, ↓reduceIte, ↓gstepW_true, ↓gstepW_false, ↓gstepDW_true, ↓gstepDW_false, ↓gone_eq, ↓flat_eq, f_s_grow, ← Bool.decide_and, ← Bool.decide_or, p0, hD1', hD2, w0, p1, w2, w3, w4, g7, f7]
end Go.Proofs.Ytbodfpboklcgoaa
