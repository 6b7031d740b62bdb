/- Contracts of the functions, by the abstract semantics. -/
import Derived.Test.YtpobhkoombldlaaGreatACode
import Derived.Test.YtpobhkoombldlaaGreatAbsParts
import Derived.Test.YtpobhkoombldlaaGreatAC1
namespace Go.Proofs.YtpobhkoombldlaaGreat
open Go Go.Abs Go.Abs.E Go.Abs.L
open Nat (reduceMul reduceSub reduceLeDiff reduceEqDiff)
open Int (reduceLE reduceEq reduceToNat reduceNeg)
set_option linter.unusedSimpArgs false
set_option linter.unusedVariables false
set_option maxRecDepth 20000
set_option maxHeartbeats 4000000
theorem X5 (ps : List Pane) : ∀ (b : BT) (gX gY gW gH : Int) (xs : List D) (ex : Bool), inB (Box.mk gX gY gW gH) → Yn ps b gW gH = true → xs.length + b.cnt ≤ 1000 →
  Zh Xs Ms Qv [.own 0, .d b.plan.enc, (.d (.agg [J gX, J gY, J gW, J gH]))] [.row 9 xs ex false] = some (.own 1, [.row 0 [] true false, .row 9 (xs ++ (pt b gX gY gW gH).map Part.enc) false false])
 | .waste, gX, gY, gW, gH, xs, ex, hg, hf, hl => by
  simp only [BT.cnt] at hl
  have h1 : (xs.length + 1) * 88 ≤ 140737488355328 ∧ xs.length ≤ 140737488355327 := by omega
  simp only [BT.plan, Zg.enc_mk, pt]
  refine Ze Xs Ms ZZ Y1 (by show 3 ≤ _; decide) ?_
  simp +contextual -implicitDefEqProofs (maxSteps := 10^7) only [go_sem, seval, ↓gZ, ZZ, W5, h1]
 | .pane i t, gX, gY, gW, gH, xs, ex, hg, hf, hl => by
  simp only [BT.cnt] at hl
  have h1 : (xs.length + 1) * 88 ≤ 140737488355328 ∧ xs.length ≤ 140737488355327 := by omega
  simp only [BT.plan, Zg.enc_mk, pt]
  refine Ze Xs Ms ZZ Y1 (by show 3 ≤ _; decide) ?_
  simp +contextual -implicitDefEqProofs (maxSteps := 10^7) only [go_sem, seval, ↓gZ, ZZ, W5, h1]
 | .cut d a l r, gX, gY, gW, gH, xs, ex, hg, hf, hl => by
  simp only [BT.cnt] at hl
  have h1 : (xs.length + 1) * 88 ≤ 140737488355328 ∧ xs.length ≤ 140737488355327 := by omega
  simp only [inB] at hg
  simp only [BT.plan, Zg.enc_mk]
  cases d with
  | true =>
   simp only [Yn, Bool.and_eq_true, decide_eq_true_eq, if_true] at hf
   have e0 := ZbU 2 a 0 false [l.plan.enc, r.plan.enc] gX gY gW gH rfl ⟨by omega, by omega⟩ ⟨by omega, by omega⟩
   have e1 := X5 ps l gX gY a gH (xs ++ [.agg [J 2, J a, J 0, .bool false, .sl [l.plan.enc, r.plan.enc], J gX, J gY, J gW, J gH]]) false (by simp only [inB]; omega) hf.1.2 (by simp only [List.length_append, List.length_cons, List.length_nil]; omega)
   have e2 := X5 ps r (gX + a) gY (gW - a) gH (xs ++ [.agg [J 2, J a, J 0, .bool false, .sl [l.plan.enc, r.plan.enc], J gX, J gY, J gW, J gH]] ++ (pt l gX gY a gH).map Part.enc) false (by simp only [inB]; omega) hf.2 (by simp only [List.length_append, List.length_cons, List.length_nil, List.length_map, ZaP]; omega)
   refine Ze Xs Ms ZZ Y1 (by show 3 ≤ _; decide) ?_
   simp +contextual -implicitDefEqProofs (maxSteps := 10^7) only [go_sem, seval, ↓gZ, ZZ, W5, h1, J7, e0, e1, e2]
   simp [pt, J7, BT.plan, Part.enc_mk]
  | false =>
   simp only [Yn, Bool.and_eq_true, decide_eq_true_eq, Bool.false_eq_true, if_false] at hf
   have e0 := Zaa 3 a 0 false [l.plan.enc, r.plan.enc] gX gY gW gH (by decide) ⟨by omega, by omega⟩ ⟨by omega, by omega⟩
   have e1 := X5 ps l gX gY gW a (xs ++ [.agg [J 3, J a, J 0, .bool false, .sl [l.plan.enc, r.plan.enc], J gX, J gY, J gW, J gH]]) false (by simp only [inB]; omega) hf.1.2 (by simp only [List.length_append, List.length_cons, List.length_nil]; omega)
   have e2 := X5 ps r gX (gY + a) gW (gH - a) (xs ++ [.agg [J 3, J a, J 0, .bool false, .sl [l.plan.enc, r.plan.enc], J gX, J gY, J gW, J gH]] ++ (pt l gX gY gW a).map Part.enc) false (by simp only [inB]; omega) hf.2 (by simp only [List.length_append, List.length_cons, List.length_nil, List.length_map, ZaP]; omega)
   refine Ze Xs Ms ZZ Y1 (by show 3 ≤ _; decide) ?_
   simp +contextual -implicitDefEqProofs (maxSteps := 10^7) only [go_sem, seval, ↓gZ, ZZ, W5, h1, J7, e0, e1, e2]
   simp [pt, J7, BT.plan, Part.enc_mk]
theorem Zna (ps : List Pane) : ∀ (b : BT) (gX gY gW gH : Int), inB (Box.mk gX gY gW gH) → Yn ps b gW gH = true → b.cnt ≤ 1000 →
  Zh Xs Ms Qv [.nil, .d b.plan.enc, (.d (.agg [J gX, J gY, J gW, J gH]))] [] = some (.own 0, [.row 9 ((pt b gX gY gW gH).map Part.enc) false false])
 | .waste, gX, gY, gW, gH, hg, hf, hl => by
  have h1 : 1 * 88 ≤ ZW ∧ 1 ≤ ZW := by unfold ZW; omega
  simp only [BT.plan, Zg.enc_mk, pt]
  refine Ze Xs Ms ZZ Y1 (by show 3 ≤ _; decide) ?_
  simp +contextual -implicitDefEqProofs (maxSteps := 10^7) only [go_sem, seval, ↓gZ, ZZ, W5, h1]
 | .pane i t, gX, gY, gW, gH, hg, hf, hl => by
  have h1 : 1 * 88 ≤ ZW ∧ 1 ≤ ZW := by unfold ZW; omega
  simp only [BT.plan, Zg.enc_mk, pt]
  refine Ze Xs Ms ZZ Y1 (by show 3 ≤ _; decide) ?_
  simp +contextual -implicitDefEqProofs (maxSteps := 10^7) only [go_sem, seval, ↓gZ, ZZ, W5, h1]
 | .cut d a l r, gX, gY, gW, gH, hg, hf, hl => by
  simp only [BT.cnt] at hl
  have h1 : 1 * 88 ≤ ZW ∧ 1 ≤ ZW := by unfold ZW; omega
  simp only [inB] at hg
  simp only [BT.plan, Zg.enc_mk]
  cases d with
  | true =>
   simp only [Yn, Bool.and_eq_true, decide_eq_true_eq, if_true] at hf
   have e0 := ZbU 2 a 0 false [l.plan.enc, r.plan.enc] gX gY gW gH rfl ⟨by omega, by omega⟩ ⟨by omega, by omega⟩
   have e1 := X5 ps l gX gY a gH [.agg [J 2, J a, J 0, .bool false, .sl [l.plan.enc, r.plan.enc], J gX, J gY, J gW, J gH]] false (by simp only [inB]; omega) hf.1.2 (by simp only [List.length_append, List.length_cons, List.length_nil]; omega)
   have e2 := X5 ps r (gX + a) gY (gW - a) gH (.agg [J 2, J a, J 0, .bool false, .sl [l.plan.enc, r.plan.enc], J gX, J gY, J gW, J gH] :: (pt l gX gY a gH).map Part.enc) false (by simp only [inB]; omega) hf.2 (by simp only [List.length_append, List.length_cons, List.length_nil, List.length_map, ZaP]; omega)
   refine Ze Xs Ms ZZ Y1 (by show 3 ≤ _; decide) ?_
   simp +contextual -implicitDefEqProofs (maxSteps := 10^7) only [go_sem, seval, ↓gZ, ZZ, W5, h1, J7, e0, e1, e2]
   simp [pt, J7, BT.plan, Part.enc_mk]
  | false =>
   simp only [Yn, Bool.and_eq_true, decide_eq_true_eq, Bool.false_eq_true, if_false] at hf
   have e0 := Zaa 3 a 0 false [l.plan.enc, r.plan.enc] gX gY gW gH (by decide) ⟨by omega, by omega⟩ ⟨by omega, by omega⟩
   have e1 := X5 ps l gX gY gW a [.agg [J 3, J a, J 0, .bool false, .sl [l.plan.enc, r.plan.enc], J gX, J gY, J gW, J gH]] false (by simp only [inB]; omega) hf.1.2 (by simp only [List.length_append, List.length_cons, List.length_nil]; omega)
   have e2 := X5 ps r gX (gY + a) gW (gH - a) (.agg [J 3, J a, J 0, .bool false, .sl [l.plan.enc, r.plan.enc], J gX, J gY, J gW, J gH] :: (pt l gX gY gW a).map Part.enc) false (by simp only [inB]; omega) hf.2 (by simp only [List.length_append, List.length_cons, List.length_nil, List.length_map, ZaP]; omega)
   refine Ze Xs Ms ZZ Y1 (by show 3 ≤ _; decide) ?_
   simp +contextual -implicitDefEqProofs (maxSteps := 10^7) only [go_sem, seval, ↓gZ, ZZ, W5, h1, J7, e0, e1, e2]
   simp [pt, J7, BT.plan, Part.enc_mk]
theorem ZjY (kW kH : Int) (kP : List Pane) (p : Zg) : Zh Xs Ms W7 [(.d (.agg [J kW, J kH, .sl (kP.map Pane.enc)])), .d p.enc] [] = some (.own 0, [.row 9 ((QR (ZJ.mk kW kH kP) p).map Part.enc) (!V5 (ZJ.mk kW kH kP) p) false]) := by
 have hv := Zab kW kH kP p
 unfold V5 at hv
 unfold QR V5
 cases hb : YR p with
 | none =>
  rw [hb] at hv
  obtain ⟨o, a, q, t, ks⟩ := p
  rw [Zg.enc_mk] at hv ⊢
  refine Ze Xs Ms Vc ZhB (by show 2 ≤ _; decide) ?_
  simp +contextual -implicitDefEqProofs (maxSteps := 10^7) only [go_sem, seval, ↓gZ, Vc, hv]
  try rfl
 | some b =>
  have hp := ZiH hb
  rw [hb] at hv
  dsimp only at hv ⊢
  by_cases hh : (decide (VW (ZJ.mk kW kH kP)) && decide (b.cnt ≤ 255) && Yn kP b kW kH) = true
  ·have hh' := hh
   simp only [Bool.and_eq_true, decide_eq_true_eq] at hh'
   have hw := hh'.1.1
   simp only [VW] at hw
   have hpt := Zna kP b 0 0 kW kH (by simp only [inB]; omega) hh'.2 (by omega)
   rw [← hp] at hpt
   rw [hh] at hv ⊢
   obtain ⟨o, a, q, t, ks⟩ := p
   rw [Zg.enc_mk] at hv hpt ⊢
   refine Ze Xs Ms Vc ZhB (by show 2 ≤ _; decide) ?_
   simp +contextual -implicitDefEqProofs (maxSteps := 10^7) only [go_sem, seval, ↓gZ, Vc, ZjX, hv, hpt]
   try rfl
  ·have hf := (Bool.not_eq_true _).mp hh
   rw [hf] at hv ⊢
   obtain ⟨o, a, q, t, ks⟩ := p
   rw [Zg.enc_mk] at hv ⊢
   refine Ze Xs Ms Vc ZhB (by show 2 ≤ _; decide) ?_
   simp +contextual -implicitDefEqProofs (maxSteps := 10^7) only [go_sem, seval, ↓gZ, Vc, hv]
   try rfl
theorem Za5 (k : ZJ) (p : Zg) : (QR k p).length ≤ 255 := by
 unfold QR
 split
 ·split
  ·rename_i h
   simp only [Bool.and_eq_true, decide_eq_true_eq] at h
   rw [ZaP]; exact h.1.2
  ·simp
 ·simp
theorem Zev (kW kH : Int) (kP : List Pane) (p : Zg) : Zh Xs Ms Y3 [(.d (.agg [J kW, J kH, .sl (kP.map Pane.enc)])), .d p.enc] [] = some (.own 0, [.row 6 (((QR (ZJ.mk kW kH kP) p).filterMap X3).map Place.enc) true false]) := by
 have hv := ZjY kW kH kP p
 have hn := Za5 (ZJ.mk kW kH kP) p
 generalize (!V5 (ZJ.mk kW kH kP) p) = e at hv
 generalize QR (ZJ.mk kW kH kP) p = ps at hv hn ⊢
 obtain ⟨o, a, q, t, ks⟩ := p
 rw [Zg.enc_mk] at hv ⊢
 refine Ze Xs Ms Zal Zrf (by show 2 ≤ _; decide) ?_
 simp +contextual -implicitDefEqProofs (maxSteps := 10^7) only [go_sem, seval, ↓gZ, Zal, hv]
 refine ZE Xs Ms (st0 := ?st0) (α := Nat) (fun k => [(12, .d (J (k : Int)))]) (fun k => [(1, .row 6 (((ps.take k).filterMap X3).map Place.enc) true false)]) (fun k => k ≤ ps.length) (fun k => ps.length - k) 0 ?hc (by omega) ?h0 ?step
 case hc => simp +contextual -implicitDefEqProofs (maxSteps := 10^7) only [go_sem, seval, ↓gZ]; exact rfl
 case h0 => rfl
 case step =>
  intro k hk ih
  by_cases hlt : k < ps.length
  ·obtain ⟨x, hx⟩ := Zw hlt
   have hw := Zm (k := k) (by omega)
   have hm := ZbE (f := X3) hx
   have hfl : ((ps.take k).filterMap X3).length ≤ k := Nat.le_trans (List.length_filterMap_le _ _) (by simp; omega)
   have hr : (((ps.take k).filterMap X3).length + 1) * 48 ≤ 140737488355328 ∧ ((ps.take k).filterMap X3).length ≤ 140737488355327 := by omega
   obtain ⟨⟨o', a', q', t', ks'⟩, ⟨X, Y, W, H⟩⟩ := x
   simp only [X3] at hm
   by_cases ho : o' = 1
   ·rw [if_pos ho] at hm
    simp +contextual -implicitDefEqProofs (maxSteps := 10^7) only [go_sem, seval, ↓gZ, hx, hlt, hw, ho, hr]
    refine ih (k + 1) _ (by omega) (by omega) ?_
    simp +contextual -implicitDefEqProofs (maxSteps := 10^7) only [go_sem, seval, ↓gZ, hm]
    first | rfl | (simp; done) | (simp; rfl)
   ·rw [if_neg ho] at hm
    simp +contextual -implicitDefEqProofs (maxSteps := 10^7) only [go_sem, seval, ↓gZ, hx, hlt, hw, ho, hr]
    refine ih (k + 1) _ (by omega) (by omega) ?_
    simp +contextual -implicitDefEqProofs (maxSteps := 10^7) only [go_sem, seval, ↓gZ, hm]
    first | rfl | (simp; done) | (simp; rfl)
  ·have : k = ps.length := by omega
   subst this
   simp +contextual -implicitDefEqProofs (maxSteps := 10^7) only [go_sem, seval, ↓gZ]
   simp
theorem ZiX (kW kH : Int) (kP : List Pane) (p : Zg) : Zh Xs Ms Wg [(.d (.agg [J kW, J kH, .sl (kP.map Pane.enc)])), .d p.enc] [] = some (.own 0, [.row 4 (((QR (ZJ.mk kW kH kP) p).filterMap Yh).map Box.enc) true false]) := by
 have hv := ZjY kW kH kP p
 have hn := Za5 (ZJ.mk kW kH kP) p
 generalize (!V5 (ZJ.mk kW kH kP) p) = e at hv
 generalize QR (ZJ.mk kW kH kP) p = ps at hv hn ⊢
 obtain ⟨o, a, q, t, ks⟩ := p
 rw [Zg.enc_mk] at hv ⊢
 refine Ze Xs Ms Zay Zru (by show 2 ≤ _; decide) ?_
 simp +contextual -implicitDefEqProofs (maxSteps := 10^7) only [go_sem, seval, ↓gZ, Zay, hv]
 refine ZE Xs Ms (st0 := ?st0) (α := Nat) (fun k => [(12, .d (J (k : Int)))]) (fun k => [(1, .row 4 (((ps.take k).filterMap Yh).map Box.enc) true false)]) (fun k => k ≤ ps.length) (fun k => ps.length - k) 0 ?hc (by omega) ?h0 ?step
 case hc => simp +contextual -implicitDefEqProofs (maxSteps := 10^7) only [go_sem, seval, ↓gZ]; exact rfl
 case h0 => rfl
 case step =>
  intro k hk ih
  by_cases hlt : k < ps.length
  ·obtain ⟨x, hx⟩ := Zw hlt
   have hw := Zm (k := k) (by omega)
   have hm := ZbE (f := Yh) hx
   have hfl : ((ps.take k).filterMap Yh).length ≤ k := Nat.le_trans (List.length_filterMap_le _ _) (by simp; omega)
   have hr : (((ps.take k).filterMap Yh).length + 1) * 32 ≤ 140737488355328 ∧ ((ps.take k).filterMap Yh).length ≤ 140737488355327 := by omega
   obtain ⟨⟨o', a', q', t', ks'⟩, ⟨X, Y, W, H⟩⟩ := x
   simp only [Yh] at hm
   by_cases ho : o' = 0
   ·rw [if_pos ho] at hm
    simp +contextual -implicitDefEqProofs (maxSteps := 10^7) only [go_sem, seval, ↓gZ, hx, hlt, hw, ho, hr]
    refine ih (k + 1) _ (by omega) (by omega) ?_
    simp +contextual -implicitDefEqProofs (maxSteps := 10^7) only [go_sem, seval, ↓gZ, hm]
    first | rfl | (simp; done) | (simp; rfl)
   ·rw [if_neg ho] at hm
    simp +contextual -implicitDefEqProofs (maxSteps := 10^7) only [go_sem, seval, ↓gZ, hx, hlt, hw, ho, hr]
    refine ih (k + 1) _ (by omega) (by omega) ?_
    simp +contextual -implicitDefEqProofs (maxSteps := 10^7) only [go_sem, seval, ↓gZ, hm]
    first | rfl | (simp; done) | (simp; rfl)
  ·have : k = ps.length := by omega
   subst this
   simp +contextual -implicitDefEqProofs (maxSteps := 10^7) only [go_sem, seval, ↓gZ]
   simp
theorem JY (ps : List Pane) : ∀ (b : BT) (gX gY gW gH : Int), inB (Box.mk gX gY gW gH) → Yn ps b gW gH = true → b.cnt ≤ 1000 →
  Zh Xs Ms YL [.d b.plan.enc, (.d (.agg [J gX, J gY, J gW, J gH]))] [] = some (.own 0, [.row 6 ((sp b gX gY gW gH).map Place.enc) true false])
 | .waste, gX, gY, gW, gH, hg, hf, hl => by
  simp only [BT.plan, Zg.enc_mk, sp]
  refine Ze Xs Ms YQ Zgd (by show 2 ≤ _; decide) ?_
  simp +contextual -implicitDefEqProofs (maxSteps := 10^7) only [go_sem, seval, ↓gZ, YQ]
  try rfl
 | .pane i t, gX, gY, gW, gH, hg, hf, hl => by
  simp only [BT.plan, Zg.enc_mk, sp]
  refine Ze Xs Ms YQ Zgd (by show 2 ≤ _; decide) ?_
  simp +contextual -implicitDefEqProofs (maxSteps := 10^7) only [go_sem, seval, ↓gZ, YQ]
  try rfl
 | .cut d a l r, gX, gY, gW, gH, hg, hf, hl => by
  simp only [BT.cnt] at hl
  simp only [inB] at hg
  simp only [BT.plan, Zg.enc_mk]
  cases d with
  | true =>
   simp only [Yn, Bool.and_eq_true, decide_eq_true_eq, if_true] at hf
   have w1 := wi (gX + a) (by omega) (by omega)
   have w2 := wi (gW - a) (by omega) (by omega)
   have l1 := Zfk l gX gY a gH
   have l2 := Zfk r (gX + a) gY (gW - a) gH
   have e1 := JY ps l gX gY a gH (by simp only [inB]; omega) hf.1.2 (by omega)
   have e2 := JY ps r (gX + a) gY (gW - a) gH (by simp only [inB]; omega) hf.2 (by omega)
   have h1 : ((sp l gX gY a gH).length + (sp r (gX + a) gY (gW - a) gH).length) * 48 ≤ 140737488355328 ∧ (sp l gX gY a gH).length + (sp r (gX + a) gY (gW - a) gH).length ≤ 140737488355328 := by omega
   refine Ze Xs Ms YQ Zgd (by show 2 ≤ _; decide) ?_
   simp +contextual -implicitDefEqProofs (maxSteps := 10^7) only [go_sem, seval, ↓gZ, YQ, J7, w1, w2, h1, e1, e2]
   simp [sp]
  | false =>
   simp only [Yn, Bool.and_eq_true, decide_eq_true_eq, Bool.false_eq_true, if_false] at hf
   have w1 := wi (gY + a) (by omega) (by omega)
   have w2 := wi (gH - a) (by omega) (by omega)
   have l1 := Zfk l gX gY gW a
   have l2 := Zfk r gX (gY + a) gW (gH - a)
   have e1 := JY ps l gX gY gW a (by simp only [inB]; omega) hf.1.2 (by omega)
   have e2 := JY ps r gX (gY + a) gW (gH - a) (by simp only [inB]; omega) hf.2 (by omega)
   have h1 : ((sp l gX gY gW a).length + (sp r gX (gY + a) gW (gH - a)).length) * 48 ≤ 140737488355328 ∧ (sp l gX gY gW a).length + (sp r gX (gY + a) gW (gH - a)).length ≤ 140737488355328 := by omega
   refine Ze Xs Ms YQ Zgd (by show 2 ≤ _; decide) ?_
   simp +contextual -implicitDefEqProofs (maxSteps := 10^7) only [go_sem, seval, ↓gZ, YQ, J7, w1, w2, h1, e1, e2]
   simp [sp]
theorem Zbw (qL qW qH : Int) (qF : List Box) : Zh Xs Ms Y4 [(.d (.agg [J qL, J qW, J qH, .sl (qF.map Box.enc)]))] [] = some (.d (.agg [J 0, J 0, J qW, J qH]), []) := by
 refine Ze Xs Ms Zan Zri (by show 1 ≤ _; decide) ?_
 simp +contextual -implicitDefEqProofs (maxSteps := 10^7) only [go_sem, seval, ↓gZ, Zan]
theorem XI (qL qW qH : Int) (qF : List Box) : Zh Xs Ms Xt [(.d (.agg [J qL, J qW, J qH, .sl (qF.map Box.enc)]))] [] = some ((.d (.bool (decide (VPc (Zc.mk qL qW qH qF))))), []) := by
 refine Ze Xs Ms VL ZnG (by show 1 ≤ _; decide) ?_
 by_cases h0 : (((qL < 1 ∨ 9999 < qL) ∨ ¬ VB ⟨0, 0, qW, qH⟩) ∨ (6 : Int) < qF.length)
 ·simp +contextual -implicitDefEqProofs (maxSteps := 10^7) only [go_sem, seval, ↓gZ, VL, Zbw, Wz, h0]
  exact ZhX (by simp only [VPc]; simp only [VB] at h0; omega)
 ·simp +contextual -implicitDefEqProofs (maxSteps := 10^7) only [go_sem, seval, ↓gZ, VL, Zbw, Wz, h0]
  have hb : VB ⟨0, 0, qW, qH⟩ := by
   refine Decidable.byContradiction fun h => h0 (.inl (.inr h))
  refine ZE Xs Ms (st0 := ?st0) (α := Nat) (fun k => [(28, .d (J (k : Int)))]) (fun _ => []) (fun k => k ≤ qF.length ∧ ((∀ f ∈ qF, Zd3 qW qH f) ↔ ∀ f ∈ qF.drop k, Zd3 qW qH f)) (fun k => qF.length - k) 0 ?hc ⟨by omega, by simp⟩ ?h0 ?step
  case hc => simp +contextual -implicitDefEqProofs (maxSteps := 10^7) only [go_sem, seval, ↓gZ]; exact rfl
  case h0 => rfl
  case step =>
   intro k ⟨hk, hp⟩ ih
   by_cases hlt : k < qF.length
   ·obtain ⟨x, hx⟩ := Zw hlt
    rw [ZfU hx] at hp
    have hw := Zm (k := k) (by simp only [VB] at hb h0; omega)
    obtain ⟨X, Y, W, H⟩ := x
    simp +contextual -implicitDefEqProofs (maxSteps := 10^7) only [go_sem, seval, ↓gZ, hx, hlt, hw, Zbw, ZiV, hb]
    refine ⟨fun h => ZhX (fun hh => h ((hp.1 hh.2).1)), fun h => ih (k + 1) _ ⟨by omega, ?_⟩ (by omega) ?_⟩
    ·rw [hp]; exact ⟨fun hh => hh.2, fun hh => ⟨h, hh⟩⟩
    ·simp +contextual -implicitDefEqProofs (maxSteps := 10^7) only [go_sem, seval, ↓gZ]
   ·have : k = qF.length := by omega
    subst this
    simp +contextual -implicitDefEqProofs (maxSteps := 10^7) only [go_sem, seval, ↓gZ]
    have hv : ∀ f ∈ qF, Zd3 qW qH f := hp.2 (by simp)
    exact Zvy (by simp only [VPc]; simp only [VB] at h0; exact ⟨by omega, hv⟩)
theorem ZgY (qL qW qH : Int) (qF : List Box) (hl : qF.length < 4611686018427387904) (hW : R64 qW) (hH : R64 qH) : Zh Xs Ms YJ [(.d (.agg [J qL, J qW, J qH, .sl (qF.map Box.enc)]))] [] = some ((.d (.bool (decide (VPc (Zc.mk qL qW qH qF))))), []) := by
 refine Ze Xs Ms Um ZnN (by show 1 ≤ _; decide) ?_
 simp +contextual -implicitDefEqProofs (maxSteps := 10^7) only [go_sem, seval, ↓gZ, Um]
 refine ZE Xs Ms (st0 := ?st0) (α := Nat) (fun k => [(3, .d (J (k : Int)))]) (fun _ => []) (fun k => k ≤ qF.length ∧ ((∀ f ∈ qF, Zd3 qW qH f) ↔ ∀ f ∈ qF.drop k, Zd3 qW qH f)) (fun k => qF.length - k) 0 ?hc ⟨by omega, by simp⟩ ?h0 ?step
 case hc => simp +contextual -implicitDefEqProofs (maxSteps := 10^7) only [go_sem, seval, ↓gZ]; exact rfl
 case h0 => rfl
 case step =>
  intro k ⟨hk, hp⟩ ih
  by_cases hlt : k < qF.length
  ·obtain ⟨x, hx⟩ := Zw hlt
   rw [ZfU hx] at hp
   have hw := Zm (k := k) (by omega)
   obtain ⟨X, Y, W, H⟩ := x
   by_cases hv : VB ⟨X, Y, W, H⟩
   ·have hi := Zpa X Y W H 0 0 qW qH hv ⟨by omega, by omega⟩ ⟨by omega, by omega⟩ (by simpa using hW) (by simpa using hH)
    simp +contextual -implicitDefEqProofs (maxSteps := 10^7) only [go_sem, seval, ↓gZ, hx, hlt, hw, ZiU, hi, hv]
    refine ⟨fun h => ZhX (fun hh => h ((hp.1 hh.2).1.2)), fun h => ih (k + 1) _ ⟨by omega, ?_⟩ (by omega) ?_⟩
    ·rw [hp]; exact ⟨fun hh => hh.2, fun hh => ⟨⟨hv, h⟩, hh⟩⟩
    ·simp +contextual -implicitDefEqProofs (maxSteps := 10^7) only [go_sem, seval, ↓gZ]
   ·simp +contextual -implicitDefEqProofs (maxSteps := 10^7) only [go_sem, seval, ↓gZ, hx, hlt, hw, ZiU, hv]
    exact ZhX (fun hh => hv ((hp.1 hh.2).1.1))
  ·have : k = qF.length := by omega
   subst this
   simp +contextual -implicitDefEqProofs (maxSteps := 10^7) only [go_sem, seval, ↓gZ, ZP]
   have hv : ∀ f ∈ qF, Zd3 qW qH f := hp.2 (by simp)
   exact ZdS (by simp only [VPc]; exact ⟨fun h => ⟨by omega, hv⟩, fun h => by omega⟩)
theorem Znb (fs : List Box) (bX bY bW bH : Int) (hf : ∀ f ∈ fs, VB f) (hb : VB (Box.mk bX bY bW bH)) (hl : fs.length < 4611686018427387904) : Zh Xs Ms WE [(.d (.sl (fs.map Box.enc))), (.d (.agg [J bX, J bY, J bW, J bH]))] [] = some ((.d (.bool (!decide (Qm fs (Box.mk bX bY bW bH))))), []) := by
 refine Ze Xs Ms Jj ZpD (by show 2 ≤ _; decide) ?_
 simp +contextual -implicitDefEqProofs (maxSteps := 10^7) only [go_sem, seval, ↓gZ, Jj]
 refine ZE Xs Ms (st0 := ?st0) (α := Nat) (fun k => [(11, .d (J (k : Int)))]) (fun _ => []) (fun k => k ≤ fs.length ∧ (Qm fs (Box.mk bX bY bW bH) ↔ Qm (fs.drop k) (Box.mk bX bY bW bH))) (fun k => fs.length - k) 0 ?hc ⟨by omega, by simp⟩ ?h0 ?step
 case hc => simp +contextual -implicitDefEqProofs (maxSteps := 10^7) only [go_sem, seval, ↓gZ]; exact rfl
 case h0 => rfl
 case step =>
  intro k ⟨hk, hp⟩ ih
  by_cases hlt : k < fs.length
  ·obtain ⟨x, hx⟩ := Zw hlt
   have hx' := hx
   unfold Qm at hp
   rw [ZfU hx (fun f => ¬ U2 f (Box.mk bX bY bW bH))] at hp
   have hw := Zm (k := k) (by omega)
   have hvx := hf x (List.mem_of_getElem? hx)
   obtain ⟨X, Y, W, H⟩ := x
   by_cases hm : U2 ⟨X, Y, W, H⟩ (Box.mk bX bY bW bH)
   ·simp +contextual -implicitDefEqProofs (maxSteps := 10^7) only [go_sem, seval, ↓gZ, hx, hlt, hw, Zf2 X Y W H bX bY bW bH hvx hb hm]
    have : ¬ Qm fs (Box.mk bX bY bW bH) := fun hh => (hp.1 hh).1 hm
    simp [this]
   ·simp +contextual -implicitDefEqProofs (maxSteps := 10^7) only [go_sem, seval, ↓gZ, hx, hlt, hw, Zhg X Y W H bX bY bW bH (fun hh => hm hh.2.2)]
    refine ih (k + 1) _ ⟨by omega, ?_⟩ (by omega) ?_
    ·unfold Qm; rw [hp]; exact ⟨fun hh => hh.2, fun hh => ⟨hm, hh⟩⟩
    ·simp +contextual -implicitDefEqProofs (maxSteps := 10^7) only [go_sem, seval, ↓gZ]
  ·have : k = fs.length := by omega
   subst this
   simp +contextual -implicitDefEqProofs (maxSteps := 10^7) only [go_sem, seval, ↓gZ]
   have : Qm fs (Box.mk bX bY bW bH) := hp.2 (by simp [Qm])
   simp [this]
theorem ZjZ (qL qW qH : Int) (qF : List Box) (bX bY bW bH : Int) (hf : ∀ f ∈ qF, VB f) (hb : VB (Box.mk bX bY bW bH)) (hl : qF.length < 4611686018427387904) : Zh Xs Ms Ub [(.d (.agg [J qL, J qW, J qH, .sl (qF.map Box.enc)])), (.d (.agg [J bX, J bY, J bW, J bH]))] [] = some ((.d (.bool (decide (Qm qF (Box.mk bX bY bW bH))))), []) := by
 refine Ze Xs Ms ZbM ZsO (by show 2 ≤ _; decide) ?_
 simp +contextual -implicitDefEqProofs (maxSteps := 10^7) only [go_sem, seval, ↓gZ, ZbM]
 refine ZE Xs Ms (st0 := ?st0) (α := Nat) (fun k => [(5, .d (J (k : Int)))]) (fun _ => []) (fun k => k ≤ qF.length ∧ (Qm qF (Box.mk bX bY bW bH) ↔ Qm (qF.drop k) (Box.mk bX bY bW bH))) (fun k => qF.length - k) 0 ?hc ⟨by omega, by simp⟩ ?h0 ?step
 case hc => simp +contextual -implicitDefEqProofs (maxSteps := 10^7) only [go_sem, seval, ↓gZ]; exact rfl
 case h0 => rfl
 case step =>
  intro k ⟨hk, hp⟩ ih
  by_cases hlt : k < qF.length
  ·obtain ⟨x, hx⟩ := Zw hlt
   unfold Qm at hp
   rw [ZfU hx (fun f => ¬ U2 f (Box.mk bX bY bW bH))] at hp
   have hw := Zm (k := k) (by omega)
   have hvx := hf x (List.mem_of_getElem? hx)
   obtain ⟨X, Y, W, H⟩ := x
   by_cases hm : U2 ⟨X, Y, W, H⟩ (Box.mk bX bY bW bH)
   ·simp +contextual -implicitDefEqProofs (maxSteps := 10^7) only [go_sem, seval, ↓gZ, hx, hlt, hw, ZjW X Y W H bX bY bW bH hvx hb hm]
    have : ¬ Qm qF (Box.mk bX bY bW bH) := fun hh => (hp.1 hh).1 hm
    simp [this]
   ·simp +contextual -implicitDefEqProofs (maxSteps := 10^7) only [go_sem, seval, ↓gZ, hx, hlt, hw, ZlT X Y W H bX bY bW bH hvx hb hm]
    refine ih (k + 1) _ ⟨by omega, ?_⟩ (by omega) ?_
    ·unfold Qm; rw [hp]; exact ⟨fun hh => hh.2, fun hh => ⟨hm, hh⟩⟩
    ·simp +contextual -implicitDefEqProofs (maxSteps := 10^7) only [go_sem, seval, ↓gZ]
  ·have : k = qF.length := by omega
   subst this
   simp +contextual -implicitDefEqProofs (maxSteps := 10^7) only [go_sem, seval, ↓gZ]
   have : Qm qF (Box.mk bX bY bW bH) := hp.2 (by simp [Qm])
   simp [this]
theorem ZiY (kW kH : Int) (kP : List Pane) (p : Zg) (b : BT) (hp : p = b.plan) (hg : inB ⟨0, 0, kW, kH⟩) (hf : Yn kP b kW kH = true) (hl : b.cnt ≤ 1000) : Zh Xs Ms Wi [(.d (.agg [J kW, J kH, .sl (kP.map Pane.enc)])), .d p.enc] [] = some (.own 0, [.row 6 ((plc b 0 0 kW kH).map Place.enc) true false]) := by
 have e := JY kP b 0 0 kW kH hg hf hl
 have hm := ZlA b 0 0 kW kH (ZiF hf)
 have hn := Zfk b 0 0 kW kH
 rw [← hp] at e
 rw [← hm]
 clear hm
 generalize sp b 0 0 kW kH = S at e hn ⊢
 clear hp hf hg
 obtain ⟨o, a, q, t, ks⟩ := p
 rw [Zg.enc_mk] at e ⊢
 refine Ze Xs Ms ZaE ZrA (by show 2 ≤ _; decide) ?_
 simp +contextual -implicitDefEqProofs (maxSteps := 10^7) only [go_sem, seval, ↓gZ, ZaE, e]
 refine ZE Xs Ms (st0 := ?st0) (α := Nat) (fun i => [(7, .d (J (i : Int)))]) (fun i => [(1, .row 6 (((S.take i).filterMap Zep).map Place.enc) true false)]) (fun i => i ≤ S.length) (fun i => S.length - i) 0 ?hc (by omega) ?h0 ?step
 case hc => simp +contextual -implicitDefEqProofs (maxSteps := 10^7) only [go_sem, seval, ↓gZ]; exact rfl
 case h0 => rfl
 case step =>
  intro i hi ih
  by_cases hlt : i < S.length
  ·obtain ⟨x, hx⟩ := Zw hlt
   have hw := Zm (k := i) (by omega)
   have hm := ZbE (f := Zep) hx
   have hfl : ((S.take i).filterMap Zep).length ≤ i := Nat.le_trans (List.length_filterMap_le _ _) (by simp; omega)
   have hr : (((S.take i).filterMap Zep).length + 1) * 48 ≤ 140737488355328 ∧ ((S.take i).filterMap Zep).length ≤ 140737488355327 := by omega
   obtain ⟨q', t', ⟨X, Y, W, H⟩⟩ := x
   simp only [Zep] at hm
   by_cases ho : 0 ≤ q'
   ·rw [if_pos ho] at hm
    simp +contextual -implicitDefEqProofs (maxSteps := 10^7) only [go_sem, seval, ↓gZ, hx, hlt, hw, ho, hr]
    refine ih (i + 1) _ (by omega) (by omega) ?_
    simp +contextual -implicitDefEqProofs (maxSteps := 10^7) only [go_sem, seval, ↓gZ, hm]
    first | rfl | (simp; done) | (simp; rfl)
   ·rw [if_neg ho] at hm
    simp +contextual -implicitDefEqProofs (maxSteps := 10^7) only [go_sem, seval, ↓gZ, hx, hlt, hw, ho, hr]
    refine ih (i + 1) _ (by omega) (by omega) ?_
    simp +contextual -implicitDefEqProofs (maxSteps := 10^7) only [go_sem, seval, ↓gZ, hm]
    first | rfl | (simp; done) | (simp; rfl)
  ·have : i = S.length := by omega
   subst this
   simp +contextual -implicitDefEqProofs (maxSteps := 10^7) only [go_sem, seval, ↓gZ]
   simp
theorem ZiZ (kW kH : Int) (kP : List Pane) (p : Zg) (b : BT) (hp : p = b.plan) (hg : inB ⟨0, 0, kW, kH⟩) (hf : Yn kP b kW kH = true) (hl : b.cnt ≤ 1000) : Zh Xs Ms Wh [(.d (.agg [J kW, J kH, .sl (kP.map Pane.enc)])), .d p.enc] [] = some (.own 0, [.row 4 ((wst b 0 0 kW kH).map Box.enc) true false]) := by
 have e := JY kP b 0 0 kW kH hg hf hl
 have hm := ZlB b 0 0 kW kH (ZiF hf)
 have hn := Zfk b 0 0 kW kH
 rw [← hp] at e
 rw [← hm]
 clear hm
 generalize sp b 0 0 kW kH = S at e hn ⊢
 clear hp hf hg
 obtain ⟨o, a, q, t, ks⟩ := p
 rw [Zg.enc_mk] at e ⊢
 refine Ze Xs Ms ZaD Zrz (by show 2 ≤ _; decide) ?_
 simp +contextual -implicitDefEqProofs (maxSteps := 10^7) only [go_sem, seval, ↓gZ, ZaD, e]
 refine ZE Xs Ms (st0 := ?st0) (α := Nat) (fun i => [(7, .d (J (i : Int)))]) (fun i => [(1, .row 4 (((S.take i).filterMap Zeq).map Box.enc) true false)]) (fun i => i ≤ S.length) (fun i => S.length - i) 0 ?hc (by omega) ?h0 ?step
 case hc => simp +contextual -implicitDefEqProofs (maxSteps := 10^7) only [go_sem, seval, ↓gZ]; exact rfl
 case h0 => rfl
 case step =>
  intro i hi ih
  by_cases hlt : i < S.length
  ·obtain ⟨x, hx⟩ := Zw hlt
   have hw := Zm (k := i) (by omega)
   have hm := ZbE (f := Zeq) hx
   have hfl : ((S.take i).filterMap Zeq).length ≤ i := Nat.le_trans (List.length_filterMap_le _ _) (by simp; omega)
   have hr : (((S.take i).filterMap Zeq).length + 1) * 32 ≤ 140737488355328 ∧ ((S.take i).filterMap Zeq).length ≤ 140737488355327 := by omega
   obtain ⟨q', t', ⟨X, Y, W, H⟩⟩ := x
   simp only [Zeq] at hm
   by_cases ho : q' < 0
   ·rw [if_pos ho] at hm
    simp +contextual -implicitDefEqProofs (maxSteps := 10^7) only [go_sem, seval, ↓gZ, hx, hlt, hw, ho, hr]
    refine ih (i + 1) _ (by omega) (by omega) ?_
    simp +contextual -implicitDefEqProofs (maxSteps := 10^7) only [go_sem, seval, ↓gZ, hm]
    first | rfl | (simp; done) | (simp; rfl)
   ·rw [if_neg ho] at hm
    simp +contextual -implicitDefEqProofs (maxSteps := 10^7) only [go_sem, seval, ↓gZ, hx, hlt, hw, ho, hr]
    refine ih (i + 1) _ (by omega) (by omega) ?_
    simp +contextual -implicitDefEqProofs (maxSteps := 10^7) only [go_sem, seval, ↓gZ, hm]
    first | rfl | (simp; done) | (simp; rfl)
  ·have : i = S.length := by omega
   subst this
   simp +contextual -implicitDefEqProofs (maxSteps := 10^7) only [go_sem, seval, ↓gZ]
   simp
theorem Zpd (qL qW qH : Int) (qF : List Box) (kW kH : Int) (kP : List Pane) (p : Zg) : Zh Xs Ms Uz [(.d (.agg [J qL, J qW, J qH, .sl (qF.map Box.enc)])), (.d (.agg [J kW, J kH, .sl (kP.map Pane.enc)])), .d p.enc] [] = some ((.d (.bool (decide (VPc (Zc.mk qL qW qH qF) ∧ W0 (Zc.mk qL qW qH qF) (ZJ.mk kW kH kP) p)))), []) := by
 have ev := Zab kW kH kP p
 by_cases hq : VPc (Zc.mk qL qW qH qF)
 ·by_cases hv : V5 (ZJ.mk kW kH kP) p = true
  ·by_cases hw : kW = qW
   ·by_cases hh : kH = qH
    ·subst hw; subst hh
     have ep := Zev kW kH kP p
     obtain ⟨b, hb, hpb, hvw, hcnt, hfit, hpt⟩ := XT hv
     have hbox : ∀ c ∈ (QR (ZJ.mk kW kH kP) p).filterMap X3, VB c.Box := by
      rw [hpt, WO]; exact ZkI (p := p) hvw hfit
     have hlen : ((QR (ZJ.mk kW kH kP) p).filterMap X3).length ≤ 255 := Nat.le_trans (List.length_filterMap_le _ _) (Za5 _ _)
     have hgood : W0 ⟨qL, kW, kH, qF⟩ (ZJ.mk kW kH kP) p ↔ ∀ c ∈ (QR (ZJ.mk kW kH kP) p).filterMap X3, Qm qF c.Box := by
      unfold W0; exact ⟨fun h => h.2.2.2, fun h => ⟨hv, rfl, rfl, h⟩⟩
     have hfl : ∀ f ∈ qF, VB f := fun f hf => (hq.2 f hf).1
     have hq6 : qF.length ≤ 6 := hq.1.2.2.2.2.2.2
     rw [hv] at ev
     generalize hL : (QR (ZJ.mk kW kH kP) p).filterMap X3 = L at ep hbox hlen hgood
     clear hL hpt hpb hb
     obtain ⟨o, a, n, t, ks⟩ := p
     rw [Zg.enc_mk] at ev ep ⊢
     refine Ze Xs Ms QN Zaj (by show 3 ≤ _; decide) ?_
     simp +contextual -implicitDefEqProofs (maxSteps := 10^7) only [go_sem, seval, ↓gZ, QN, XI, hq, ev, ep]
     refine ZE Xs Ms (st0 := ?st0) (α := Nat) (fun i => [(36, .d (J (i : Int)))]) (fun _ => []) (fun i => i ≤ L.length ∧ ((∀ c ∈ L, Qm qF c.Box) ↔ ∀ c ∈ L.drop i, Qm qF c.Box)) (fun i => L.length - i) 0 ?hc ⟨by omega, by simp⟩ ?h0 ?step
     case hc => simp +contextual -implicitDefEqProofs (maxSteps := 10^7) only [go_sem, seval, ↓gZ]; exact rfl
     case h0 => rfl
     case step =>
      intro i ⟨hi, hp⟩ ih
      by_cases hlt : i < L.length
      ·obtain ⟨x, hx⟩ := Zw hlt
       rw [ZfU hx (fun c => Qm qF c.Box)] at hp
       have hw := Zm (k := i) (by omega)
       have hbx := hbox x (List.mem_of_getElem? hx)
       obtain ⟨q', t', ⟨X, Y, W, H⟩⟩ := x
       have em := Znb qF X Y W H hfl hbx (by omega)
       simp +contextual -implicitDefEqProofs (maxSteps := 10^7) only [go_sem, seval, ↓gZ, hx, hlt, hw, em]
       refine ⟨fun h => ZhX (fun h' => h ((hp.1 (hgood.1 h')).1)), fun h => ih (i + 1) _ ⟨by omega, ?_⟩ (by omega) ?_⟩
       ·rw [hp]; exact ⟨fun h' => h'.2, fun h' => ⟨h, h'⟩⟩
       ·simp +contextual -implicitDefEqProofs (maxSteps := 10^7) only [go_sem, seval, ↓gZ]
      ·have : i = L.length := by omega
       subst this
       simp +contextual -implicitDefEqProofs (maxSteps := 10^7) only [go_sem, seval, ↓gZ]
       exact Zvy (hgood.2 (hp.2 (by simp)))
    ·subst hw
     have hn : ¬ W0 ⟨qL, kW, qH, qF⟩ (ZJ.mk kW kH kP) p := fun h => hh h.2.2.1
     obtain ⟨o, a, n, t, ks⟩ := p
     rw [hv] at ev
     rw [Zg.enc_mk] at ev ⊢
     refine Ze Xs Ms QN Zaj (by show 3 ≤ _; decide) ?_
     simp +contextual -implicitDefEqProofs (maxSteps := 10^7) only [go_sem, seval, ↓gZ, QN, XI, hq, ev, hh, hn]
   ·have hn : ¬ W0 (Zc.mk qL qW qH qF) (ZJ.mk kW kH kP) p := fun h => hw h.2.1
    obtain ⟨o, a, n, t, ks⟩ := p
    rw [hv] at ev
    rw [Zg.enc_mk] at ev ⊢
    refine Ze Xs Ms QN Zaj (by show 3 ≤ _; decide) ?_
    simp +contextual -implicitDefEqProofs (maxSteps := 10^7) only [go_sem, seval, ↓gZ, QN, XI, hq, ev, hw, hn]
  ·have hv' := (Bool.not_eq_true _).mp hv
   have hn : ¬ W0 (Zc.mk qL qW qH qF) (ZJ.mk kW kH kP) p := fun h => hv h.1
   rw [hv'] at ev
   obtain ⟨o, a, n, t, ks⟩ := p
   rw [Zg.enc_mk] at ev ⊢
   refine Ze Xs Ms QN Zaj (by show 3 ≤ _; decide) ?_
   simp +contextual -implicitDefEqProofs (maxSteps := 10^7) only [go_sem, seval, ↓gZ, QN, XI, hq, ev, hn]
 ·obtain ⟨o, a, n, t, ks⟩ := p
  rw [Zg.enc_mk] at ev ⊢
  refine Ze Xs Ms QN Zaj (by show 3 ≤ _; decide) ?_
  simp +contextual -implicitDefEqProofs (maxSteps := 10^7) only [go_sem, seval, ↓gZ, QN, XI, hq]
theorem Zi0 (qL qW qH : Int) (qF : List Box) (kW kH : Int) (kP : List Pane) (p : Zg) (hfl : ∀ f ∈ qF, VB f) (hq6 : qF.length ≤ 6) (hl : kP.length < 4611686018427387904) : Zh Xs Ms UR [(.d (.agg [J qL, J qW, J qH, .sl (qF.map Box.enc)])), (.d (.agg [J kW, J kH, .sl (kP.map Pane.enc)])), .d p.enc] [] = some ((.d (.bool (decide (W0 (Zc.mk qL qW qH qF) (ZJ.mk kW kH kP) p)))), []) := by
 have ev := Zhh kW kH kP p hl
 by_cases hv : V5 (ZJ.mk kW kH kP) p = true
 ·by_cases hw : kW = qW
  ·by_cases hh : kH = qH
   ·subst hw; subst hh
    obtain ⟨b, hb, hpb, hvw, hcnt, hfit, hpt⟩ := XT hv
    have hvw' := hvw
    simp only [VW] at hvw'
    have ep := ZiY kW kH kP p b hpb (by simp only [inB]; omega) hfit (by omega)
    have hbox : ∀ c ∈ plc b 0 0 kW kH, VB c.Box := ZkI (p := p) hvw hfit
    have hlen : (plc b 0 0 kW kH).length ≤ 255 := by
     rw [← WO]; exact Nat.le_trans (List.length_filterMap_le _ _) (by rw [ZaP]; exact hcnt)
    have hgood : W0 ⟨qL, kW, kH, qF⟩ (ZJ.mk kW kH kP) p ↔ ∀ c ∈ plc b 0 0 kW kH, Qm qF c.Box := by
     unfold W0; rw [hpt, WO]; exact ⟨fun h => h.2.2.2, fun h => ⟨hv, rfl, rfl, h⟩⟩
    rw [hv] at ev
    generalize plc b 0 0 kW kH = L at ep hbox hlen hgood
    clear hpt hpb hb
    obtain ⟨o, a, n, t, ks⟩ := p
    rw [Zg.enc_mk] at ev ep ⊢
    refine Ze Xs Ms XD ZcH (by show 3 ≤ _; decide) ?_
    simp +contextual -implicitDefEqProofs (maxSteps := 10^7) only [go_sem, seval, ↓gZ, XD, ev, ep]
    refine ZE Xs Ms (st0 := ?st0) (α := Nat) (fun i => [(8, .d (J (i : Int)))]) (fun _ => []) (fun i => i ≤ L.length ∧ ((∀ c ∈ L, Qm qF c.Box) ↔ ∀ c ∈ L.drop i, Qm qF c.Box)) (fun i => L.length - i) 0 ?hc ⟨by omega, by simp⟩ ?h0 ?step
    case hc => simp +contextual -implicitDefEqProofs (maxSteps := 10^7) only [go_sem, seval, ↓gZ]; exact rfl
    case h0 => rfl
    case step =>
     intro i ⟨hi, hp⟩ ih
     by_cases hlt : i < L.length
     ·obtain ⟨x, hx⟩ := Zw hlt
      rw [ZfU hx (fun c => Qm qF c.Box)] at hp
      have hw := Zm (k := i) (by omega)
      have hbx := hbox x (List.mem_of_getElem? hx)
      obtain ⟨q', t', ⟨X, Y, W, H⟩⟩ := x
      have em := ZjZ qL kW kH qF X Y W H hfl hbx (by omega)
      simp +contextual -implicitDefEqProofs (maxSteps := 10^7) only [go_sem, seval, ↓gZ, hx, hlt, hw, em]
      refine ⟨fun h => ZhX (fun h' => h ((hp.1 (hgood.1 h')).1)), fun h => ih (i + 1) _ ⟨by omega, ?_⟩ (by omega) ?_⟩
      ·rw [hp]; exact ⟨fun h' => h'.2, fun h' => ⟨h, h'⟩⟩
      ·simp +contextual -implicitDefEqProofs (maxSteps := 10^7) only [go_sem, seval, ↓gZ]
     ·have : i = L.length := by omega
      subst this
      simp +contextual -implicitDefEqProofs (maxSteps := 10^7) only [go_sem, seval, ↓gZ]
      exact Zvy (hgood.2 (hp.2 (by simp)))
   ·subst hw
    have hn : ¬ W0 ⟨qL, kW, qH, qF⟩ (ZJ.mk kW kH kP) p := fun h => hh h.2.2.1
    obtain ⟨o, a, n, t, ks⟩ := p
    rw [hv] at ev
    rw [Zg.enc_mk] at ev ⊢
    refine Ze Xs Ms XD ZcH (by show 3 ≤ _; decide) ?_
    simp +contextual -implicitDefEqProofs (maxSteps := 10^7) only [go_sem, seval, ↓gZ, XD, ev, hh, hn]
  ·have hn : ¬ W0 (Zc.mk qL qW qH qF) (ZJ.mk kW kH kP) p := fun h => hw h.2.1
   obtain ⟨o, a, n, t, ks⟩ := p
   rw [hv] at ev
   rw [Zg.enc_mk] at ev ⊢
   refine Ze Xs Ms XD ZcH (by show 3 ≤ _; decide) ?_
   simp +contextual -implicitDefEqProofs (maxSteps := 10^7) only [go_sem, seval, ↓gZ, XD, ev, hw, hn]
 ·have hv' := (Bool.not_eq_true _).mp hv
  have hn : ¬ W0 (Zc.mk qL qW qH qF) (ZJ.mk kW kH kP) p := fun h => hv h.1
  rw [hv'] at ev
  obtain ⟨o, a, n, t, ks⟩ := p
  rw [Zg.enc_mk] at ev ⊢
  refine Ze Xs Ms XD ZcH (by show 3 ≤ _; decide) ?_
  simp +contextual -implicitDefEqProofs (maxSteps := 10^7) only [go_sem, seval, ↓gZ, XD, ev, hn]
theorem Zsl (qL qW qH : Int) (qF : List Box) (bX bY bW bH : Int) (label : Int) (hq : VPc (Zc.mk qL qW qH qF)) (hb : VB (Box.mk bX bY bW bH)) (hi : WR (Box.mk bX bY bW bH) ⟨0, 0, qW, qH⟩) (h1 : 1 ≤ label) (h2 : label ≤ 9999) :
  Zh Xs Ms Zbd [(.d (.agg [J qL, J qW, J qH, .sl (qF.map Box.enc)])), (.d (.agg [J bX, J bY, J bW, J bH])), (.d (J label))] [] = some (.agg [(.d (J label)), (.d (J bW)), (.d (J bH)), .own 0], [.row 4 ((qF.filterMap (Vh (Box.mk bX bY bW bH))).map Box.enc) true false]) := by
 have hq' := hq.1
 simp only at hq'
 have n1 : ¬ label < 1 := by omega
 have n2 : ¬ 9999 < label := by omega
 have hvb : VB ⟨0, 0, qW, qH⟩ := by simp only [VB]; omega
 refine Ze Xs Ms Zdh Zue (by show 3 ≤ _; decide) ?_
 simp +contextual -implicitDefEqProofs (maxSteps := 10^7) only [go_sem, seval, ↓gZ, Zdh, XI, Zbw, ZiV, hq, hb, hi, hvb, n1, n2]
 refine ZE Xs Ms (st0 := ?st0) (α := Nat) (fun i => [(40, .d (J (i : Int)))]) (fun i => [(3, .row 4 (((qF.take i).filterMap (Vh (Box.mk bX bY bW bH))).map Box.enc) true false)]) (fun i => i ≤ qF.length) (fun i => qF.length - i) 0 ?hc (by omega) ?h0 ?step
 case hc => simp +contextual -implicitDefEqProofs (maxSteps := 10^7) only [go_sem, seval, ↓gZ]; exact rfl
 case h0 => rfl
 case step =>
  intro i hk ih
  by_cases hlt : i < qF.length
  ·obtain ⟨x, hx⟩ := Zw hlt
   have hw := Zm (k := i) (by omega)
   have hm := ZbE (f := Vh (Box.mk bX bY bW bH)) hx
   have hfl : ((qF.take i).filterMap (Vh (Box.mk bX bY bW bH))).length ≤ i := Nat.le_trans (List.length_filterMap_le _ _) (by simp; omega)
   have hr : (((qF.take i).filterMap (Vh (Box.mk bX bY bW bH))).length + 1) * 32 ≤ 140737488355328 ∧ ((qF.take i).filterMap (Vh (Box.mk bX bY bW bH))).length ≤ 140737488355327 := by omega
   have hvx := (hq.2 x (List.mem_of_getElem? hx)).1
   obtain ⟨X, Y, W, H⟩ := x
   have hvx' := hvx
   have hb' := hb
   simp only [VB] at hvx' hb'
   simp only [Vh] at hm
   by_cases ho : U2 ⟨X, Y, W, H⟩ (Box.mk bX bY bW bH)
   ·rw [if_pos ho] at hm
    have w1 := wi (max X bX - bX) (by omega) (by omega)
    have w2 := wi (max Y bY - bY) (by omega) (by omega)
    simp +contextual -implicitDefEqProofs (maxSteps := 10^7) only [go_sem, seval, ↓gZ, hx, hlt, hw, Zf2 X Y W H bX bY bW bH hvx hb ho, hr, ZhY, w1, w2]
    refine ih (i + 1) _ (by omega) (by omega) ?_
    simp +contextual -implicitDefEqProofs (maxSteps := 10^7) only [go_sem, seval, ↓gZ, hm, ZrZ, ZhY]
    first | rfl | (simp; done) | (simp; rfl)
   ·rw [if_neg ho] at hm
    simp +contextual -implicitDefEqProofs (maxSteps := 10^7) only [go_sem, seval, ↓gZ, hx, hlt, hw, Zhg X Y W H bX bY bW bH (fun hh => ho hh.2.2), hr]
    refine ih (i + 1) _ (by omega) (by omega) ?_
    simp +contextual -implicitDefEqProofs (maxSteps := 10^7) only [go_sem, seval, ↓gZ, hm]
    first | rfl | (simp; done) | (simp; rfl)
  ·have : i = qF.length := by omega
   subst this
   simp +contextual -implicitDefEqProofs (maxSteps := 10^7) only [go_sem, seval, ↓gZ]
   try simp
theorem Zsm (qL qW qH : Int) (qF : List Box) (bX bY bW bH : Int) (label : Int) (hf : ∀ f ∈ qF, VB f) (hl : qF.length ≤ 6) (hb : VB (Box.mk bX bY bW bH)) :
  Zh Xs Ms Zbe [(.d (.agg [J qL, J qW, J qH, .sl (qF.map Box.enc)])), (.d (.agg [J bX, J bY, J bW, J bH])), (.d (J label))] [] = some (.agg [(.d (J label)), (.d (J bW)), (.d (J bH)), .own 0], [.row 4 ((qF.filterMap (Vh (Box.mk bX bY bW bH))).map Box.enc) true false]) := by
 refine Ze Xs Ms Zdi Zuf (by show 3 ≤ _; decide) ?_
 simp +contextual -implicitDefEqProofs (maxSteps := 10^7) only [go_sem, seval, ↓gZ, Zdi]
 refine ZE Xs Ms (st0 := ?st0) (α := Nat) (fun i => [(8, .d (J (i : Int)))]) (fun i => [(4, .row 4 (((qF.take i).filterMap (Vh (Box.mk bX bY bW bH))).map Box.enc) true false)]) (fun i => i ≤ qF.length) (fun i => qF.length - i) 0 ?hc (by omega) ?h0 ?step
 case hc => simp +contextual -implicitDefEqProofs (maxSteps := 10^7) only [go_sem, seval, ↓gZ]; exact rfl
 case h0 => rfl
 case step =>
  intro i hk ih
  by_cases hlt : i < qF.length
  ·obtain ⟨x, hx⟩ := Zw hlt
   have hw := Zm (k := i) (by omega)
   have hm := ZbE (f := Vh (Box.mk bX bY bW bH)) hx
   have hfl : ((qF.take i).filterMap (Vh (Box.mk bX bY bW bH))).length ≤ i := Nat.le_trans (List.length_filterMap_le _ _) (by simp; omega)
   have hr : (((qF.take i).filterMap (Vh (Box.mk bX bY bW bH))).length + 1) * 32 ≤ 140737488355328 ∧ ((qF.take i).filterMap (Vh (Box.mk bX bY bW bH))).length ≤ 140737488355327 := by omega
   have hvx := hf x (List.mem_of_getElem? hx)
   obtain ⟨X, Y, W, H⟩ := x
   have hvx' := hvx
   have hb' := hb
   simp only [VB] at hvx' hb'
   simp only [Vh] at hm
   by_cases ho : U2 ⟨X, Y, W, H⟩ (Box.mk bX bY bW bH)
   ·rw [if_pos ho] at hm
    have w1 := wi (max X bX - bX) (by omega) (by omega)
    have w2 := wi (max Y bY - bY) (by omega) (by omega)
    simp +contextual -implicitDefEqProofs (maxSteps := 10^7) only [go_sem, seval, ↓gZ, hx, hlt, hw, ZjW X Y W H bX bY bW bH hvx hb ho, hr, ZhY, w1, w2]
    refine ih (i + 1) _ (by omega) (by omega) ?_
    simp +contextual -implicitDefEqProofs (maxSteps := 10^7) only [go_sem, seval, ↓gZ, hm, ZrZ, ZhY]
    first | rfl | (simp; done) | (simp; rfl)
   ·rw [if_neg ho] at hm
    simp +contextual -implicitDefEqProofs (maxSteps := 10^7) only [go_sem, seval, ↓gZ, hx, hlt, hw, ZlT X Y W H bX bY bW bH hvx hb ho, hr]
    refine ih (i + 1) _ (by omega) (by omega) ?_
    simp +contextual -implicitDefEqProofs (maxSteps := 10^7) only [go_sem, seval, ↓gZ, hm]
    first | rfl | (simp; done) | (simp; rfl)
  ·have : i = qF.length := by omega
   subst this
   simp +contextual -implicitDefEqProofs (maxSteps := 10^7) only [go_sem, seval, ↓gZ]
   try simp
theorem ZgZ (kW kH : Int) (kP : List Pane) (p : Zg) (least : Int) : Zh Xs Ms VI [(.d (.agg [J kW, J kH, .sl (kP.map Pane.enc)])), .d p.enc, (.d (J least))] [] = some (.own 0, [.row 4 ((Xe (ZJ.mk kW kH kP) p least).map Box.enc) true false]) := by
 have hv := ZiX kW kH kP p
 have hn : ((QR (ZJ.mk kW kH kP) p).filterMap Yh).length ≤ 255 := Nat.le_trans (List.length_filterMap_le _ _) (Za5 (ZJ.mk kW kH kP) p)
 unfold Xe
 generalize (QR (ZJ.mk kW kH kP) p).filterMap Yh = ps at hv hn ⊢
 obtain ⟨o, a, q, t, ks⟩ := p
 rw [Zg.enc_mk] at hv ⊢
 refine Ze Xs Ms Uo ZnR (by show 3 ≤ _; decide) ?_
 simp +contextual -implicitDefEqProofs (maxSteps := 10^7) only [go_sem, seval, ↓gZ, Uo, hv]
 refine ZE Xs Ms (st0 := ?st0) (α := Nat) (fun k => [(14, .d (J (k : Int)))]) (fun k => [(1, .row 4 (((ps.take k).filterMap (JA least)).map Box.enc) true false)]) (fun k => k ≤ ps.length) (fun k => ps.length - k) 0 ?hc (by omega) ?h0 ?step
 case hc => simp +contextual -implicitDefEqProofs (maxSteps := 10^7) only [go_sem, seval, ↓gZ]; exact rfl
 case h0 => rfl
 case step =>
  intro k hk ih
  by_cases hlt : k < ps.length
  ·obtain ⟨x, hx⟩ := Zw hlt
   have hw := Zm (k := k) (by omega)
   have hm := ZbE (f := JA least) hx
   have hfl : ((ps.take k).filterMap (JA least)).length ≤ k := Nat.le_trans (List.length_filterMap_le _ _) (by simp; omega)
   have hr : (((ps.take k).filterMap (JA least)).length + 1) * 32 ≤ 140737488355328 ∧ ((ps.take k).filterMap (JA least)).length ≤ 140737488355327 := by omega
   obtain ⟨X, Y, W, H⟩ := x
   simp only [JA] at hm
   by_cases ho : least ≤ W ∧ least ≤ H
   ·rw [if_pos ho] at hm
    simp +contextual -implicitDefEqProofs (maxSteps := 10^7) only [go_sem, seval, ↓gZ, hx, hlt, hw, ho, hr]
    refine ih (k + 1) _ (by omega) (by omega) ?_
    simp +contextual -implicitDefEqProofs (maxSteps := 10^7) only [go_sem, seval, ↓gZ, hm]
    first | rfl | (simp; done) | (simp; rfl)
   ·rw [if_neg ho] at hm
    simp +contextual -implicitDefEqProofs (maxSteps := 10^7) only [go_sem, seval, ↓gZ, hx, hlt, hw, ho, hr]
    refine ih (k + 1) _ (by omega) (by omega) ?_
    simp +contextual -implicitDefEqProofs (maxSteps := 10^7) only [go_sem, seval, ↓gZ, hm]
    first | rfl | (simp; done) | (simp; rfl)
  ·have : k = ps.length := by omega
   subst this
   simp +contextual -implicitDefEqProofs (maxSteps := 10^7) only [go_sem, seval, ↓gZ]
   simp
theorem Zj0 (qL qW qH : Int) (qF : List Box) (kW kH : Int) (kP : List Pane) (p : Zg) (least label : Int) (hq : VPc (Zc.mk qL qW qH qF)) (hv : V5 (ZJ.mk kW kH kP) p = true) (hW : kW = qW) (hH : kH = qH) (h1 : 1 ≤ label) (h2 : label ≤ 10000)
  (hk : (Xe (ZJ.mk kW kH kP) p least).length ≤ 10000 - label) : Zh Xs Ms Yk [(.d (.agg [J qL, J qW, J qH, .sl (qF.map Box.enc)])), (.d (.agg [J kW, J kH, .sl (kP.map Pane.enc)])), .d p.enc, (.d (J least)), (.d (J label))] [] =
  some (.tup [.own 0, (.d (.bool true))], [.row 4 ((JW (Zc.mk qL qW qH qF) label (Xe (ZJ.mk kW kH kP) p least)).map Zc.enc) true false]) := by
 have ek := ZgZ kW kH kP p least
 have hin : ∀ b ∈ Xe (ZJ.mk kW kH kP) p least, VB b ∧ WR b ⟨0, 0, qW, qH⟩ := by
  intro b hb
  have := ZoC (least := least) hv b hb
  rw [← hW, ← hH]; exact this
 have hn := ZiG (ZJ.mk kW kH kP) p least
 generalize Xe (ZJ.mk kW kH kP) p least = L at ek hin hn hk ⊢
 clear hv
 have w0 := wi (10000 - label) (by omega) (by omega)
 have n0 : ¬ (10000 - label < (L.length : Int)) := by omega
 obtain ⟨o, a, n, t, ks⟩ := p
 rw [Zg.enc_mk] at ek ⊢
 refine Ze Xs Ms Yl Zg6 (by show 5 ≤ _; decide) ?_
 simp +contextual -implicitDefEqProofs (maxSteps := 10^7) only [go_sem, seval, ↓gZ, Yl, ek, w0, n0]
 refine ZE Xs Ms (st0 := ?st0) (α := Nat) (fun i => [(27, .d (J (i : Int)))]) (fun i => [(1, .row 4 ((JW (Zc.mk qL qW qH qF) label (L.take i)).map Zc.enc) true false)]) (fun i => i ≤ L.length) (fun i => L.length - i) 0 ?hc (by omega) ?h0 ?step
 case hc => simp +contextual -implicitDefEqProofs (maxSteps := 10^7) only [go_sem, seval, ↓gZ]; exact rfl
 case h0 => rfl
 case step =>
  intro i hi ih
  by_cases hlt : i < L.length
  ·obtain ⟨x, hx⟩ := Zw hlt
   have hw := Zm (k := i) (by omega)
   have hm := ZwA (Zc.mk qL qW qH qF) label hx
   have hl : (JW (Zc.mk qL qW qH qF) label (L.take i)).length = i := by rw [Zd4]; simp; omega
   have hr : (i + 1) * 48 ≤ 140737488355328 ∧ i ≤ 140737488355327 := by omega
   have hx2 := hin x (List.mem_of_getElem? hx)
   have w1 := wi (label + (i : Int)) (by omega) (by omega)
   obtain ⟨X, Y, W, H⟩ := x
   have hc := Zsl qL qW qH qF X Y W H (label + (i : Int)) hq hx2.1 hx2.2 (by omega) (by omega)
   simp +contextual -implicitDefEqProofs (maxSteps := 10^7) only [go_sem, seval, ↓gZ, hx, hlt, hw, w1, hc, hl, hr]
   refine ih (i + 1) _ (by omega) (by omega) ?_
   simp +contextual -implicitDefEqProofs (maxSteps := 10^7) only [go_sem, seval, ↓gZ, hm, ZoB]
   first | rfl | (simp; done) | (simp; rfl)
  ·have : i = L.length := by omega
   subst this
   simp +contextual -implicitDefEqProofs (maxSteps := 10^7) only [go_sem, seval, ↓gZ]
   try simp
theorem Zk0 (qL qW qH : Int) (qF : List Box) (kW kH : Int) (kP : List Pane) (p : Zg) (least label : Int) (h1 : 1 ≤ label) (h2 : label ≤ 10000)
  (hk : ¬ (Xe (ZJ.mk kW kH kP) p least).length ≤ 10000 - label) : Zh Xs Ms Yk [(.d (.agg [J qL, J qW, J qH, .sl (qF.map Box.enc)])), (.d (.agg [J kW, J kH, .sl (kP.map Pane.enc)])), .d p.enc, (.d (J least)), (.d (J label))] [] =
  some (.tup [.own 0, (.d (.bool false))], [.row 4 [] true false]) := by
 have ek := ZgZ kW kH kP p least
 generalize Xe (ZJ.mk kW kH kP) p least = L at ek hk ⊢
 have w0 := wi (10000 - label) (by omega) (by omega)
 have n0 : 10000 - label < (L.length : Int) := by omega
 obtain ⟨o, a, n, t, ks⟩ := p
 rw [Zg.enc_mk] at ek ⊢
 refine Ze Xs Ms Yl Zg6 (by show 5 ≤ _; decide) ?_
 simp +contextual -implicitDefEqProofs (maxSteps := 10^7) only [go_sem, seval, ↓gZ, Yl, ek, w0, n0]
theorem Zc3 (bX bY bW bH : Int) (least : Int) : Zh Xs Ms Vs [(.d (.agg [J bX, J bY, J bW, J bH])), (.d (J least))] [] = some ((.d (.bool (decide (least ≤ bW ∧ least ≤ bH)))), []) := by
 refine Ze Xs Ms Js ZpN (by show 2 ≤ _; decide) ?_
 simp +contextual -implicitDefEqProofs (maxSteps := 10^7) only [go_sem, seval, ↓gZ, Js]
theorem Zj1 (bX bY bW bH : Int) (hb : VB (Box.mk bX bY bW bH)) : Zh Xs Ms Ua [(.d (.agg [J bX, J bY, J bW, J bH]))] [] = some ((.d (J (bW * bH))), []) := by
 have h := UX hb
 simp only at h
 have w := wi (bW * bH) (by omega) (by omega)
 refine Ze Xs Ms ZbL ZsN (by show 1 ≤ _; decide) ?_
 simp +contextual -implicitDefEqProofs (maxSteps := 10^7) only [go_sem, seval, ↓gZ, ZbL, w]
theorem Zpe (kW kH : Int) (kP : List Pane) (p : Zg) (least : Int) (hv : V5 (ZJ.mk kW kH kP) p = true) (h1 : 1 ≤ least) (h2 : least ≤ 200) : Zh Xs Ms UK [(.d (.agg [J kW, J kH, .sl (kP.map Pane.enc)])), .d p.enc, (.d (J least))] [] =
  some ((.d (J (Ym (Zer (ZJ.mk kW kH kP) p least)))), []) := by
 have ev := Zab kW kH kP p
 rw [hv] at ev
 have ep := ZiX kW kH kP p
 have hbox := Zc0 hv
 have hlen : ((QR (ZJ.mk kW kH kP) p).filterMap Yh).length ≤ 255 := Nat.le_trans (List.length_filterMap_le _ _) (Za5 _ _)
 unfold Zer
 generalize (QR (ZJ.mk kW kH kP) p).filterMap Yh = L at ep hbox hlen ⊢
 clear hv
 have n1 : ¬ least < 1 := by omega
 have n2 : ¬ 200 < least := by omega
 obtain ⟨o, a, n, t, ks⟩ := p
 rw [Zg.enc_mk] at ev ep ⊢
 refine Ze Xs Ms Zav Zrq (by show 3 ≤ _; decide) ?_
 simp +contextual -implicitDefEqProofs (maxSteps := 10^7) only [go_sem, seval, ↓gZ, Zav, ev, ep, n1, n2]
 refine ZE Xs Ms (st0 := ?st0) (α := Nat) (fun i => [(26, .d (J (i : Int))), (7, .d (J (Ym ((L.take i).filterMap (JB least)))))]) (fun _ => []) (fun i => i ≤ L.length) (fun i => L.length - i) 0 ?hc (by omega) ?h0 ?step
 case hc => simp +contextual -implicitDefEqProofs (maxSteps := 10^7) only [go_sem, seval, ↓gZ]; exact rfl
 case h0 => rfl
 case step =>
  intro i hi ih
  by_cases hlt : i < L.length
  ·obtain ⟨x, hx⟩ := Zw hlt
   have hw := Zm (k := i) (by omega)
   have hm := ZbE (f := JB least) hx
   have hbx := hbox x (List.mem_of_getElem? hx)
   have ha := ZfV (l := (L.take i).filterMap (JB least)) (fun c hc => by
    obtain ⟨d, hd, hdc⟩ := List.mem_filterMap.1 hc
    unfold JB at hdc
    split at hdc
    ·cases hdc; exact hbox c (List.mem_of_mem_take hd)
    ·cases hdc)
   have hlk : ((L.take i).filterMap (JB least)).length ≤ i := Nat.le_trans (List.length_filterMap_le _ _) (by simp; omega)
   have hax := UX hbx
   obtain ⟨X, Y, W, H⟩ := x
   simp only at hax
   have w1 := wi (Ym ((L.take i).filterMap (JB least)) + W * H) (by omega) (by omega)
   simp only [JB] at hm
   by_cases ho : W < least ∨ H < least
   ·rw [if_pos ho] at hm
    simp +contextual -implicitDefEqProofs (maxSteps := 10^7) only [go_sem, seval, ↓gZ, hx, hlt, hw, ho, Zj1 X Y W H hbx, w1]
    refine ih (i + 1) _ (by omega) (by omega) ?_
    simp +contextual -implicitDefEqProofs (maxSteps := 10^7) only [go_sem, seval, ↓gZ, hm, ZcO, Option.toList, Ym]
    first | rfl | (simp; done) | (simp; rfl)
   ·rw [if_neg ho] at hm
    simp +contextual -implicitDefEqProofs (maxSteps := 10^7) only [go_sem, seval, ↓gZ, hx, hlt, hw, ho]
    refine ih (i + 1) _ (by omega) (by omega) ?_
    simp +contextual -implicitDefEqProofs (maxSteps := 10^7) only [go_sem, seval, ↓gZ, hm]
    first | rfl | (simp; done) | (simp; rfl)
  ·have : i = L.length := by omega
   subst this
   simp +contextual -implicitDefEqProofs (maxSteps := 10^7) only [go_sem, seval, ↓gZ]
   try simp
theorem Zpf (qL qW qH : Int) (qF : List Box) (kW kH : Int) (kP : List Pane) (p : Zg) (least label : Int) (hq : VPc (Zc.mk qL qW qH qF)) (hv : V5 (ZJ.mk kW kH kP) p = true) (h1 : 1 ≤ label) (h2 : label ≤ 10000) :
  Zh Xs Ms US [(.d (.agg [J qL, J qW, J qH, .sl (qF.map Box.enc)])), (.d (.agg [J kW, J kH, .sl (kP.map Pane.enc)])), .d p.enc, (.d (J least)), (.d (J label))] [] =
  some (.own 0, [.row 4 ((JW (Zc.mk qL qW qH qF) label (Xe (ZJ.mk kW kH kP) p least)).map Zc.enc) true false]) := by
 obtain ⟨b, hb, hpb, hvw, hcnt, hfit, hpt⟩ := XT hv
 have hvw' := hvw
 simp only [VW] at hvw'
 have ep := ZiZ kW kH kP p b hpb (by simp only [inB]; omega) hfit (by omega)
 have hbox := Zc0 hv
 have hlen : ((QR (ZJ.mk kW kH kP) p).filterMap Yh).length ≤ 255 := Nat.le_trans (List.length_filterMap_le _ _) (Za5 _ _)
 unfold Xe
 rw [hpt, ZfT] at hbox hlen ⊢
 have hfl : ∀ f ∈ qF, VB f := fun f hf => (hq.2 f hf).1
 have hq6 : qF.length ≤ 6 := hq.1.2.2.2.2.2.2
 have hkept : ∀ i, ((wst b 0 0 kW kH).take i).length ≤ 255 := fun i => Nat.le_trans (List.length_take_le' _ _) hlen
 generalize wst b 0 0 kW kH = L at ep hbox hlen hkept ⊢
 clear hpt hpb hb hv hfit hvw hvw'
 obtain ⟨o, a, n, t, ks⟩ := p
 rw [Zg.enc_mk] at ep ⊢
 refine Ze Xs Ms ZaC Zry (by show 5 ≤ _; decide) ?_
 simp +contextual -implicitDefEqProofs (maxSteps := 10^7) only [go_sem, seval, ↓gZ, ZaC, ep]
 refine ZE Xs Ms (st0 := ?st0) (α := Nat) (fun i => [(13, .d (J (i : Int)))]) (fun i => [(1, .row 4 ((JW (Zc.mk qL qW qH qF) label ((L.take i).filterMap (JA least))).map Zc.enc) true false)]) (fun i => i ≤ L.length) (fun i => L.length - i) 0 ?hc (by omega) ?h0 ?step
 case hc => simp +contextual -implicitDefEqProofs (maxSteps := 10^7) only [go_sem, seval, ↓gZ]; exact rfl
 case h0 => rfl
 case step =>
  intro i hi ih
  by_cases hlt : i < L.length
  ·obtain ⟨x, hx⟩ := Zw hlt
   have hw := Zm (k := i) (by omega)
   have hm := ZbE (f := JA least) hx
   have hlk : ((L.take i).filterMap (JA least)).length ≤ 255 := Nat.le_trans (List.length_filterMap_le _ _) (hkept i)
   have hl := Zd4 (Zc.mk qL qW qH qF) label ((L.take i).filterMap (JA least))
   have hr : (((L.take i).filterMap (JA least)).length + 1) * 48 ≤ 140737488355328 ∧ ((L.take i).filterMap (JA least)).length ≤ 140737488355327 := by omega
   have w1 := wi (label + (((L.take i).filterMap (JA least)).length : Int)) (by omega) (by omega)
   have hbx := hbox x (List.mem_of_getElem? hx)
   have hcc := fun y => Zh5 (Zc.mk qL qW qH qF) label ((L.take i).filterMap (JA least)) [y]
   obtain ⟨X, Y, W, H⟩ := x
   simp only [JA] at hm
   have hc := Zsm qL qW qH qF X Y W H (label + (((L.take i).filterMap (JA least)).length : Int)) hfl hq6 hbx
   by_cases ho : least ≤ W ∧ least ≤ H
   ·rw [if_pos ho] at hm
    simp +contextual -implicitDefEqProofs (maxSteps := 10^7) only [go_sem, seval, ↓gZ, hx, hlt, hw, Zc3, ho, hl, w1, hc, hr]
    refine ih (i + 1) _ (by omega) (by omega) ?_
    simp +contextual -implicitDefEqProofs (maxSteps := 10^7) only [go_sem, seval, ↓gZ, hm, Option.toList, hcc, JW, ZoB]
    first | rfl | (simp; done) | (simp; rfl)
   ·rw [if_neg ho] at hm
    simp +contextual -implicitDefEqProofs (maxSteps := 10^7) only [go_sem, seval, ↓gZ, hx, hlt, hw, Zc3, ho]
    refine ih (i + 1) _ (by omega) (by omega) ?_
    simp +contextual -implicitDefEqProofs (maxSteps := 10^7) only [go_sem, seval, ↓gZ, hm]
    first | rfl | (simp; done) | (simp; rfl)
  ·have : i = L.length := by omega
   subst this
   simp +contextual -implicitDefEqProofs (maxSteps := 10^7) only [go_sem, seval, ↓gZ]
   try simp
theorem Zmv (a b : List Box) (ha : a.length < 4611686018427387904) : Zh Xs Ms VH [(.d (.sl (a.map Box.enc))), (.d (.sl (b.map Box.enc)))] [] = some ((.d (.bool (decide (a = b)))), []) := by
 refine Ze Xs Ms VM ZnO (by show 2 ≤ _; decide) ?_
 by_cases hl : a.length = b.length
 ·simp +contextual -implicitDefEqProofs (maxSteps := 10^7) only [go_sem, seval, ↓gZ, VM, hl]
  refine ZE Xs Ms (st0 := ?st0) (α := Nat) (fun k => [(5, .d (J (k : Int)))]) (fun _ => []) (fun k => k ≤ b.length ∧ a.take k = b.take k) (fun k => b.length - k) 0 ?hc ⟨by omega, rfl⟩ ?h0 ?step
  case hc => simp +contextual -implicitDefEqProofs (maxSteps := 10^7) only [go_sem, seval, ↓gZ, hl]; exact rfl
  case h0 => rfl
  case step =>
   intro k ⟨hk, hp⟩ ih
   by_cases hlt : k < b.length
   ·obtain ⟨x, hx⟩ : ∃ x, a[k]? = some x := Zw (by omega)
    obtain ⟨y, hy⟩ : ∃ y, b[k]? = some y := Zw hlt
    have hw := Zm (k := k) (by omega)
    have ht := Zkz hx hy hp
    by_cases he : x = y
    ·subst he
     obtain ⟨X, Y, W, H⟩ := x
     simp +contextual -implicitDefEqProofs (maxSteps := 10^7) only [go_sem, seval, ↓gZ, hx, hy, hlt, hl, hw]
     refine ih (k + 1) _ ⟨by omega, ht.2 rfl⟩ (by omega) ?_
     simp +contextual -implicitDefEqProofs (maxSteps := 10^7) only [go_sem, seval, ↓gZ, hl]
    ·have hne : ¬ a = b := fun e => he (ht.1 (by rw [e]))
     obtain ⟨X, Y, W, H⟩ := x
     obtain ⟨X', Y', W', H'⟩ := y
     simp only [Box.mk.injEq] at he
     simp +contextual -implicitDefEqProofs (maxSteps := 10^7) only [go_sem, seval, ↓gZ, hx, hy, hlt, hl, hw, he, hne]
   ·have : a = b := by
     have h1 := hp
     rw [List.take_of_length_le (by omega), List.take_of_length_le (by omega)] at h1
     exact h1
    simp +contextual -implicitDefEqProofs (maxSteps := 10^7) only [go_sem, seval, ↓gZ, hlt, hl, this]
 ·have hne : ¬ a = b := fun e => hl (by rw [e])
  simp +contextual -implicitDefEqProofs (maxSteps := 10^7) only [go_sem, seval, ↓gZ, VM, hl, hne]
theorem Zg0 (aL aW aH : Int) (aF : List Box) (bL bW bH : Int) (bF : List Box) (hl : aF.length < 4611686018427387904) : Zh Xs Ms VG [(.d (.agg [J aL, J aW, J aH, .sl (aF.map Box.enc)])), (.d (.agg [J bL, J bW, J bH, .sl (bF.map Box.enc)]))] [] = some ((.d (.bool (decide ((Zc.mk aL aW aH aF) = (Zc.mk bL bW bH bF))))), []) := by
 refine Ze Xs Ms Uj ZnJ (by show 2 ≤ _; decide) ?_
 simp +contextual -implicitDefEqProofs (maxSteps := 10^7) only [go_sem, seval, ↓gZ, Uj, Zmv aF bF hl]
 exact ZdS (by simp only [Zc.mk.injEq, and_assoc])
theorem Zmw (a b : List Zc) (ha : a.length < 4611686018427387904) (hb : ∀ x ∈ a, x.Flaws.length < 4611686018427387904) : Zh Xs Ms VF [(.d (.sl (a.map Zc.enc))), (.d (.sl (b.map Zc.enc)))] [] = some ((.d (.bool (decide (a = b)))), []) := by
 refine Ze Xs Ms VK ZnE (by show 2 ≤ _; decide) ?_
 by_cases hl : a.length = b.length
 ·simp +contextual -implicitDefEqProofs (maxSteps := 10^7) only [go_sem, seval, ↓gZ, VK, hl]
  refine ZE Xs Ms (st0 := ?st0) (α := Nat) (fun k => [(5, .d (J (k : Int)))]) (fun _ => []) (fun k => k ≤ b.length ∧ a.take k = b.take k) (fun k => b.length - k) 0 ?hc ⟨by omega, rfl⟩ ?h0 ?step
  case hc => simp +contextual -implicitDefEqProofs (maxSteps := 10^7) only [go_sem, seval, ↓gZ, hl]; exact rfl
  case h0 => rfl
  case step =>
   intro k ⟨hk, hp⟩ ih
   by_cases hlt : k < b.length
   ·obtain ⟨x, hx⟩ : ∃ x, a[k]? = some x := Zw (by omega)
    obtain ⟨y, hy⟩ : ∃ y, b[k]? = some y := Zw hlt
    have hw := Zm (k := k) (by omega)
    have ht := Zkz hx hy hp
    by_cases he : x = y
    ·subst he
     have he := Zg0 x.Label x.W x.H x.Flaws x.Label x.W x.H x.Flaws (hb x (List.mem_of_getElem? hx))
     obtain ⟨L, W, H, F⟩ := x
     simp +contextual -implicitDefEqProofs (maxSteps := 10^7) only [go_sem, seval, ↓gZ, hx, hy, hlt, hl, hw, he]
     refine ih (k + 1) _ ⟨by omega, ht.2 rfl⟩ (by omega) ?_
     simp +contextual -implicitDefEqProofs (maxSteps := 10^7) only [go_sem, seval, ↓gZ, hl]
    ·have hne : ¬ a = b := fun e => he (ht.1 (by rw [e]))
     have hq := Zg0 x.Label x.W x.H x.Flaws y.Label y.W y.H y.Flaws (hb x (List.mem_of_getElem? hx))
     obtain ⟨L, W, H, F⟩ := x
     obtain ⟨L', W', H', F'⟩ := y
     simp +contextual -implicitDefEqProofs (maxSteps := 10^7) only [go_sem, seval, ↓gZ, hx, hy, hlt, hl, hw, hq, he, hne]
   ·have : a = b := by
     have h1 := hp
     rw [List.take_of_length_le (by omega), List.take_of_length_le (by omega)] at h1
     exact h1
    simp +contextual -implicitDefEqProofs (maxSteps := 10^7) only [go_sem, seval, ↓gZ, hlt, hl, this]
 ·have hne : ¬ a = b := fun e => hl (by rw [e])
  simp +contextual -implicitDefEqProofs (maxSteps := 10^7) only [go_sem, seval, ↓gZ, VK, hl, hne]
theorem Zj2 (bs : List UInt8) (hb : bs.length ≤ 2000) (p : Nat) (hp : p < 900000000) (w h : Int) : ∃ X Y W H : Int,
  Zh Xs Ms J2 [.ptr 0 0, (.d (J w)), (.d (J h))] [.box [.d (.sl (bs.map JU)), (.d (J p))]] = some (.d (.agg [J X, J Y, J W, J H]), [.box [.d (.sl (bs.map JU)), (.d (J ((p + 4 : Nat))))]]) := by
 have p1 := Qu bs p w hb (by omega)
 generalize Q0 bs p w = a1 at p1
 have p2 := Qu bs (p + 1) h hb (by omega)
 generalize Q0 bs (p + 1) h = a2 at p2
 have p3 := Qu bs (p + 2) (IntKind.i64.wrap (IntKind.i64.wrap (w - IntKind.i64.wrap (1 + a1)) + 1)) hb (by omega)
 generalize Q0 bs (p + 2) (IntKind.i64.wrap (IntKind.i64.wrap (w - IntKind.i64.wrap (1 + a1)) + 1)) = a3 at p3
 have p4 := Qu bs (p + 3) (IntKind.i64.wrap (IntKind.i64.wrap (h - IntKind.i64.wrap (1 + a2)) + 1)) hb (by omega)
 generalize Q0 bs (p + 3) (IntKind.i64.wrap (IntKind.i64.wrap (h - IntKind.i64.wrap (1 + a2)) + 1)) = a4 at p4
 refine ⟨a3, a4, IntKind.i64.wrap (1 + a1), IntKind.i64.wrap (1 + a2), ?_⟩
 refine Ze Xs Ms ZbK ZsL (by show 3 ≤ _; decide) ?_
 simp +contextual -implicitDefEqProofs (maxSteps := 10^7) only [go_sem, seval, ↓gZ, ZbK, p1, p2, p3, p4]
def YY : List Zc → Int
 | [] => 0
 | x :: l => x.W * x.H + YY l
theorem Zq4 (a b : List Zc) : YY (a ++ b) = YY a + YY b := by
 induction a with
 | nil => simp [YY]
 | cons c l ih => simp only [List.cons_append, YY, ih]; omega
theorem Znc {L : List Zc} {i : Nat} {x : Zc} (hx : L[i]? = some x) : YY (L.take (i + 1)) = YY (L.take i) + x.W * x.H := by
 rw [List.take_add_one, hx, Zq4]; simp [YY]
theorem Zsn (q : Zc) : ∀ (n : Int) (l : List Box) (i : Nat) (x : Zc), (JW q n l)[i]? = some x → ∃ b, l[i]? = some b ∧ x = ZoB q b (n + i)
 | n, [], i, x, h => by simp [JW] at h
 | n, b :: l, 0, x, h => by
  simp only [JW, List.getElem?_cons_zero, Option.some.injEq] at h
  exact ⟨b, rfl, by rw [← h]; simp⟩
 | n, b :: l, i + 1, x, h => by
  simp only [JW, List.getElem?_cons_succ] at h
  obtain ⟨c, h1, h2⟩ := Zsn q (n + 1) l i x h
  refine ⟨c, by simpa using h1, ?_⟩
  rw [h2]; congr 1; omega
theorem Zac : ∀ {l : List Zc}, (∀ x ∈ l, 1 ≤ x.W ∧ x.W ≤ 200 ∧ 1 ≤ x.H ∧ x.H ≤ 200) → 0 ≤ YY l ∧ YY l ≤ 40000 * l.length
 | [], _ => by simp [YY]
 | x :: l, h => by
  have h1 := h x (by simp)
  have h2 := Zac (l := l) fun y hy => h y (by simp [hy])
  have h3 : 0 ≤ x.W * x.H := Int.mul_nonneg (by omega) (by omega)
  have h4 : x.W * x.H ≤ 200 * 200 := Int.mul_le_mul (by omega) (by omega) (by omega) (by omega)
  simp only [YY, List.length_cons]
  omega
def XM : Int → List Zc → Prop
 | _, [] => True
 | b, x :: l => VPc x ∧ b < x.Label ∧ XM x.Label l
instance sortFdec : ∀ (b : Int) (l : List Zc), Decidable (XM b l)
 | _, [] => .isTrue trivial
 | b, x :: l => by unfold XM; exact @instDecidableAnd _ _ _ (@instDecidableAnd _ _ _ (sortFdec x.Label l))
def VSt (l : List Zc) : Prop := l.length ≤ 20 ∧ XM 0 l
instance (l : List Zc) : Decidable (VSt l) := by unfold VSt; infer_instance
theorem Znd {l : List Zc} {k : Nat} {x : Zc} {b : Int} (hx : l[k]? = some x) : XM b (l.drop k) ↔ VPc x ∧ b < x.Label ∧ XM x.Label (l.drop (k + 1)) := by
 obtain ⟨h1, h2⟩ := List.getElem?_eq_some_iff.1 hx
 rw [List.drop_eq_getElem_cons h1, h2, XM]
theorem Zp2 {l : List Zc} {b : Int} : XM b (l.drop l.length) := by simp [XM]
theorem Wr (l : List Zc) : Zh Xs Ms Xr [(.d (.sl (l.map Zc.enc)))] [] = some ((.d (.bool (decide (VSt l)))), []) := by
 by_cases h20 : (20 : Int) < (l.length : Int)
 ·have hn : ¬ VSt l := fun h => by have := h.1; omega
  refine Ze Xs Ms YM Zhz (by show 1 ≤ _; decide) ?_
  simp +contextual -implicitDefEqProofs (maxSteps := 10^7) only [go_sem, seval, ↓gZ, YM, h20, hn]
 ·have hle : l.length ≤ 20 := by omega
  refine Ze Xs Ms YM Zhz (by show 1 ≤ _; decide) ?_
  simp +contextual -implicitDefEqProofs (maxSteps := 10^7) only [go_sem, seval, ↓gZ, YM, h20]
  refine ZE Xs Ms (st0 := ?st0) (α := Nat × Int) (fun s => [(11, .d (J (s.1 : Int))), (3, .d (J s.2))]) (fun _ => []) (fun s => s.1 ≤ l.length ∧ (XM 0 l ↔ XM s.2 (l.drop s.1))) (fun s => l.length - s.1) (0, 0) ?hc ⟨by simp, by simp⟩ ?h0 ?step
  case hc => simp +contextual -implicitDefEqProofs (maxSteps := 10^7) only [go_sem, seval, ↓gZ] <;> exact rfl
  case h0 => rfl
  case step =>
   intro ⟨i, b⟩ ⟨hi, hp⟩ ih
   simp only at hi hp
   by_cases hlt : i < l.length
   ·obtain ⟨x, hx⟩ := Zw hlt
    have hw := Zm (k := i) (by omega)
    rw [Znd hx] at hp
    have ev := XI x.Label x.W x.H x.Flaws
    obtain ⟨L, W, H, F⟩ := x
    simp only at hp ev
    by_cases hv : VPc ⟨L, W, H, F⟩
    ·rw [decide_eq_true hv] at ev
     by_cases hb : L ≤ b
     ·have hn : ¬ VSt l := fun h => by have := (hp.1 h.2).2.1; omega
      simp +contextual -implicitDefEqProofs (maxSteps := 10^7) only [go_sem, seval, ↓gZ, hx, hlt, hw, ev, hb, hn]
     ·simp +contextual -implicitDefEqProofs (maxSteps := 10^7) only [go_sem, seval, ↓gZ, hx, hlt, hw, ev, hb]
      refine ih (i + 1, L) _ ⟨by simp only; omega, ?_⟩ (by simp only; omega) ?_
      ·rw [hp]; exact ⟨fun h => h.2.2, fun h => ⟨hv, by omega, h⟩⟩
      ·simp +contextual -implicitDefEqProofs (maxSteps := 10^7) only [go_sem, seval, ↓gZ]
    ·rw [decide_eq_false hv] at ev
     have hn : ¬ VSt l := fun h => hv (hp.1 h.2).1
     simp +contextual -implicitDefEqProofs (maxSteps := 10^7) only [go_sem, seval, ↓gZ, hx, hlt, hw, ev, hn]
   ·have : i = l.length := by omega
    subst this
    have hy : VSt l := ⟨hle, hp.2 Zp2⟩
    simp +contextual -implicitDefEqProofs (maxSteps := 10^7) only [go_sem, seval, ↓gZ, hy]
def Zj3 (l : List Zc) : Nat → Int
 | 0 => 0
 | j + 1 => match l[j]? with
  | some x => x.Label
  | none => 0
theorem YX (l : List Zc) (hl : l.length < 4611686018427387904) (hS : ∀ x ∈ l, x.Flaws.length < 4611686018427387904 ∧ R64 x.W ∧ R64 x.H) : Zh Xs Ms QH [(.d (.sl (l.map Zc.enc)))] [] = some ((.d (.bool (decide (VSt l)))), []) := by
 refine Ze Xs Ms Uh ZnH (by show 1 ≤ _; decide) ?_
 simp +contextual -implicitDefEqProofs (maxSteps := 10^7) only [go_sem, seval, ↓gZ, Uh]
 refine ZE Xs Ms (st0 := ?st0) (α := Nat) (fun i => [(3, .d (J (i : Int)))]) (fun _ => []) (fun i => i ≤ l.length ∧ (XM 0 l ↔ XM (Zj3 l i) (l.drop i))) (fun i => l.length - i) 0 ?hc ⟨by simp, by simp [Zj3]⟩ ?h0 ?step
 case hc => simp +contextual -implicitDefEqProofs (maxSteps := 10^7) only [go_sem, seval, ↓gZ] <;> exact rfl
 case h0 => rfl
 case step =>
  intro i ⟨hi, hp⟩ ih
  by_cases hlt : i < l.length
  ·obtain ⟨x, hx⟩ := Zw hlt
   have hw := Zm (k := i) (by omega)
   rw [Znd hx] at hp
   obtain ⟨hS1, hS2, hS3⟩ := hS x (List.mem_of_getElem? hx)
   have ev := ZgY x.Label x.W x.H x.Flaws hS1 hS2 hS3
   have hla : Zj3 l (i + 1) = x.Label := by simp only [Zj3, hx]
   obtain ⟨L, W, H, F⟩ := x
   simp only at hp ev hla
   by_cases hv : VPc ⟨L, W, H, F⟩
   ·rw [decide_eq_true hv] at ev
    have hL : 1 ≤ L := hv.1.1
    cases i with
    | zero =>
     have hlt' : (0 : Int) < (l.length : Int) := by omega
     simp +contextual -implicitDefEqProofs (maxSteps := 10^7) only [go_sem, seval, ↓gZ, hx, hlt, hlt', hw, ev]
     refine ih 1 _ ⟨by omega, ?_⟩ (by omega) ?_
     ·rw [hp, hla]; exact ⟨fun h => h.2.2, fun h => ⟨hv, by simp only [Zj3]; omega, h⟩⟩
     ·simp +contextual -implicitDefEqProofs (maxSteps := 10^7) only [go_sem, seval, ↓gZ]
    | succ j =>
     obtain ⟨y, hy⟩ := Zw (l := l) (k := j) (by omega)
     have hlb : Zj3 l (j + 1) = y.Label := by simp only [Zj3, hy]
     rw [hlb] at hp
     have hj : IntKind.i64.wrap (((j + 1 : Nat) : Int) - 1) = (j : Int) := by rw [U9 (by omega) (by omega)]; omega
     have hpos : (0 : Int) < ((j + 1 : Nat) : Int) := by omega
     have hjl : j < l.length := by omega
     obtain ⟨L', W', H', F'⟩ := y
     simp only at hp
     by_cases hb : L ≤ L'
     ·have hn : ¬ VSt l := fun h => by have := (hp.1 h.2).2.1; omega
      simp +contextual -implicitDefEqProofs (maxSteps := 10^7) only [go_sem, seval, ↓gZ, hx, hlt, hw, ev, hpos, hj, hjl, hy, hb, hn]
     ·simp +contextual -implicitDefEqProofs (maxSteps := 10^7) only [go_sem, seval, ↓gZ, hx, hlt, hw, ev, hpos, hj, hjl, hy, hb]
      refine ih (j + 1 + 1) _ ⟨by omega, ?_⟩ (by omega) ?_
      ·rw [hp, hla]; exact ⟨fun h => h.2.2, fun h => ⟨hv, by omega, h⟩⟩
      ·simp +contextual -implicitDefEqProofs (maxSteps := 10^7) only [go_sem, seval, ↓gZ]
   ·rw [decide_eq_false hv] at ev
    have hn : ¬ VSt l := fun h => hv (hp.1 h.2).1
    simp +contextual -implicitDefEqProofs (maxSteps := 10^7) only [go_sem, seval, ↓gZ, hx, hlt, hw, ev, hn]
  ·have : i = l.length := by omega
   subst this
   have hs := hp.2 Zp2
   simp +contextual -implicitDefEqProofs (maxSteps := 10^7) only [go_sem, seval, ↓gZ]
   exact ZdS (by simp only [VSt]; constructor <;> (intro h; first | exact ⟨by omega, hs⟩ | (have := h.1; omega)))
def QC : Nat → List Zc → Int → Int
 | _, [], _ => -1
 | k, x :: l, n => if x.Label = n then (k : Int) else QC (k + 1) l n
theorem Zp3 {l : List Zc} {k : Nat} {x : Zc} {n : Int} (hx : l[k]? = some x) : QC k (l.drop k) n = if x.Label = n then (k : Int) else QC (k + 1) (l.drop (k + 1)) n := by
 obtain ⟨h1, h2⟩ := List.getElem?_eq_some_iff.1 hx
 rw [List.drop_eq_getElem_cons h1, h2, QC]
theorem Zk1 (qL qW qH : Int) (qF : List Box) (n : Int) : Zh Xs Ms Yj [(.d (.agg [J qL, J qW, J qH, .sl (qF.map Box.enc)])), .ptr 0 0] [.box [(.d (J n))]] = some ((.d (.bool (decide (qL = n)))), [.box [(.d (J n))]]) := by
 refine Ze Xs Ms Wu ZmS (by show 2 ≤ _; decide) ?_
 simp +contextual -implicitDefEqProofs (maxSteps := 10^7) only [go_sem, seval, ↓gZ, Wu]
theorem Zq5 (l : List Zc) (n : Int) (hl : l.length < 4611686018427387904) : Zh Xs Ms Xb [(.d (.sl (l.map Zc.enc))), .clo Yj [.ptr 0 0]] [.box [(.d (J n))]] = some ((.d (J (QC 0 l n))), [.box [(.d (J n))]]) := by
 refine Ze Xs Ms Ya ZhE (by show 2 ≤ _; decide) ?_
 simp +contextual -implicitDefEqProofs (maxSteps := 10^7) only [go_sem, seval, ↓gZ, Ya]
 refine ZE Xs Ms (st0 := ?st0) (α := Nat) (fun k => [(8, .d (J (k : Int)))]) (fun _ => []) (fun k => k ≤ l.length ∧ QC k (l.drop k) n = QC 0 l n) (fun k => l.length - k) 0 ?hc ⟨by omega, rfl⟩ ?h0 ?step
 case hc => simp +contextual -implicitDefEqProofs (maxSteps := 10^7) only [go_sem, seval, ↓gZ] <;> exact rfl
 case h0 => rfl
 case step =>
  intro k ⟨hk, hp⟩ ih
  by_cases hlt : k < l.length
  ·obtain ⟨x, hx⟩ := Zw hlt
   rw [Zp3 hx] at hp
   have hw := Zm (k := k) (by omega)
   have e1 := Zk1 x.Label x.W x.H x.Flaws n
   obtain ⟨L, W, H, F⟩ := x
   simp only at hp e1
   by_cases h : L = n
   ·rw [if_pos h] at hp
    rw [decide_eq_true h] at e1
    simp +contextual -implicitDefEqProofs (maxSteps := 10^7) only [go_sem, seval, ↓gZ, hx, hlt, hw, e1]
    rw [← hp]
   ·rw [if_neg h] at hp
    rw [decide_eq_false h] at e1
    simp +contextual -implicitDefEqProofs (maxSteps := 10^7) only [go_sem, seval, ↓gZ, hx, hlt, hw, e1]
    refine ih (k + 1) _ ⟨by omega, hp⟩ (by omega) ?_
    simp +contextual -implicitDefEqProofs (maxSteps := 10^7) only [go_sem, seval, ↓gZ]
  ·have : k = l.length := by omega
   subst this
   simp +contextual -implicitDefEqProofs (maxSteps := 10^7) only [go_sem, seval, ↓gZ]
   rw [← hp]
   simp [QC]
theorem VC (l : List Zc) (n : Int) (hl : l.length < 4611686018427387904) : Zh Xs Ms XY [(.d (.sl (l.map Zc.enc))), (.d (J n))] [] = some ((.d (J (QC 0 l n))), []) := by
 refine Ze Xs Ms Jg ZpA (by show 2 ≤ _; decide) ?_
 simp +contextual -implicitDefEqProofs (maxSteps := 10^7) only [go_sem, seval, ↓gZ, Jg, Zq5 l n hl]
theorem YA (l : List Zc) (n : Int) (hl : l.length < 4611686018427387904) : Zh Xs Ms Xh [(.d (.sl (l.map Zc.enc))), (.d (J n))] [] = some ((.d (J (QC 0 l n))), []) := by
 refine Ze Xs Ms Jm ZpG (by show 2 ≤ _; decide) ?_
 simp +contextual -implicitDefEqProofs (maxSteps := 10^7) only [go_sem, seval, ↓gZ, Jm]
 refine ZE Xs Ms (st0 := ?st0) (α := Nat) (fun k => [(5, .d (J (k : Int)))]) (fun _ => []) (fun k => k ≤ l.length ∧ QC k (l.drop k) n = QC 0 l n) (fun k => l.length - k) 0 ?hc ⟨by omega, rfl⟩ ?h0 ?step
 case hc => simp +contextual -implicitDefEqProofs (maxSteps := 10^7) only [go_sem, seval, ↓gZ] <;> exact rfl
 case h0 => rfl
 case step =>
  intro k ⟨hk, hp⟩ ih
  by_cases hlt : k < l.length
  ·obtain ⟨x, hx⟩ := Zw hlt
   rw [Zp3 hx] at hp
   have hw := Zm (k := k) (by omega)
   obtain ⟨L, W, H, F⟩ := x
   simp only at hp
   by_cases h : L = n
   ·rw [if_pos h] at hp
    simp +contextual -implicitDefEqProofs (maxSteps := 10^7) only [go_sem, seval, ↓gZ, hx, hlt, hw, h]
    rw [← hp]
   ·rw [if_neg h] at hp
    simp +contextual -implicitDefEqProofs (maxSteps := 10^7) only [go_sem, seval, ↓gZ, hx, hlt, hw, h]
    refine ih (k + 1) _ ⟨by omega, hp⟩ (by omega) ?_
    simp +contextual -implicitDefEqProofs (maxSteps := 10^7) only [go_sem, seval, ↓gZ]
  ·have : k = l.length := by omega
   subst this
   simp +contextual -implicitDefEqProofs (maxSteps := 10^7) only [go_sem, seval, ↓gZ]
   rw [← hp]
   simp [QC]
theorem Zad (qL qW qH : Int) (qF : List Box) (hF : qF.length ≤ 1000000) : Zh Xs Ms Xg [(.d (.agg [J qL, J qW, J qH, .sl (qF.map Box.enc)]))] [] = some (.agg [(.d (J qL)), (.d (J qW)), (.d (J qH)), .own 0], [.row 4 (qF.map Box.enc) true false]) := by
 have hr : qF.length * 32 ≤ 140737488355328 ∧ qF.length ≤ 140737488355328 := by omega
 refine Ze Xs Ms Ji ZpC (by show 1 ≤ _; decide) ?_
 simp +contextual -implicitDefEqProofs (maxSteps := 10^7) only [go_sem, seval, ↓gZ, Ji, hr]
theorem VD (qL qW qH : Int) (qF : List Box) (hF : qF.length ≤ 1000000) : Zh Xs Ms Xi [(.d (.agg [J qL, J qW, J qH, .sl (qF.map Box.enc)]))] [] = some (.agg [(.d (J qL)), (.d (J qW)), (.d (J qH)), .own 0], [.row 4 (qF.map Box.enc) true false]) := by
 have hr : qF.length * 32 ≤ 140737488355328 ∧ qF.length ≤ 140737488355328 := by omega
 refine Ze Xs Ms Jq ZpL (by show 1 ≤ _; decide) ?_
 simp +contextual -implicitDefEqProofs (maxSteps := 10^7) only [go_sem, seval, ↓gZ, Jq, hr]
theorem Zne : ∀ (F : List Box), Zcm D.flat (F.map Box.enc) = true
 | [] => rfl
 | x :: F => by simp only [List.map_cons, Zcm, Zne F, Bool.and_true]; rfl
theorem Zc4 (l : List Zc) (hl : l.length ≤ 1000000) (hF : ∀ x ∈ l, x.Flaws.length ≤ 1000000) : Zh Xs Ms Yt [(.d (.sl (l.map Zc.enc)))] [] = some (.own 0, [.deep 4 4 (l.map Zc.enc) none]) := by
 refine Ze Xs Ms Jh ZpB (by show 1 ≤ _; decide) ?_
 simp +contextual -implicitDefEqProofs (maxSteps := 10^7) only [go_sem, seval, ↓gZ, Jh]
 refine ZE Xs Ms (st0 := ?st0) (α := Nat) (fun i => [(8, .d (J (i : Int)))]) (fun i => [(0, .deep 4 4 ((l.take i).map Zc.enc) none)]) (fun i => i ≤ l.length) (fun i => l.length - i) 0 ?hc (by omega) ?h0 ?step
 case hc => simp +contextual -implicitDefEqProofs (maxSteps := 10^7) only [go_sem, seval, ↓gZ] <;> exact rfl
 case h0 => rfl
 case step =>
  intro i hi ih
  by_cases hlt : i < l.length
  ·obtain ⟨x, hx⟩ := Zw hlt
   have hw := Zm (k := i) (by omega)
   have hm : l.take (i + 1) = l.take i ++ [x] := by rw [List.take_add_one, hx]; simp
   have hlk : (l.take i).length ≤ i := by simp; omega
   have hr : ((l.take i).length + 1) * 48 ≤ 140737488355328 ∧ (l.take i).length ≤ 140737488355327 := by omega
   have e := Zad x.Label x.W x.H x.Flaws (hF x (List.mem_of_getElem? hx))
   obtain ⟨L, W, H, F⟩ := x
   simp only at e
   have hfl := Zne F
   simp +contextual -implicitDefEqProofs (maxSteps := 10^7) only [go_sem, seval, ↓gZ, hx, hlt, hw, e, hr, hfl]
   refine ih (i + 1) _ (by omega) (by omega) ?_
   simp +contextual -implicitDefEqProofs (maxSteps := 10^7) only [go_sem, seval, ↓gZ, hm]
   first | rfl | (simp; done) | (simp; rfl)
  ·have : i = l.length := by omega
   subst this
   simp +contextual -implicitDefEqProofs (maxSteps := 10^7) only [go_sem, seval, ↓gZ]
   simp
theorem ZtT {α : Type} {l : List α} {i a : Nat} {x : α} (hx : l[i]? = some x) (h : i ≠ a) : (l.take (i + 1)).eraseIdx a = (l.take i).eraseIdx a ++ [x] := by
 have h1 := (List.getElem?_eq_some_iff.1 hx).1
 have e : l.take (i + 1) = l.take i ++ [x] := by rw [List.take_add_one, hx]; simp
 rw [e]
 have hl : (l.take i).length = i := by simp; omega
 rcases Nat.lt_or_ge a i with h2 | h2
 ·rw [List.eraseIdx_append_of_lt_length (by omega)]
 ·rw [List.eraseIdx_of_length_le (by simp; omega), List.eraseIdx_of_length_le (by omega)]
theorem ZtU {α : Type} {l : List α} {i : Nat} {x : α} (hx : l[i]? = some x) : (l.take (i + 1)).eraseIdx i = (l.take i).eraseIdx i := by
 have h1 := (List.getElem?_eq_some_iff.1 hx).1
 have e : l.take (i + 1) = l.take i ++ [x] := by rw [List.take_add_one, hx]; simp
 have hl : (l.take i).length = i := by simp; omega
 rw [e, List.eraseIdx_append_of_length_le (by omega), hl]
 simp
 rw [List.eraseIdx_of_length_le (by omega)]
theorem Zk2 {α : Type} (l : List α) (a : Nat) : (l.eraseIdx a).length ≤ l.length := by
 have := List.length_eraseIdx_le l a
 omega
theorem Zf4 (l : List Zc) (a : Nat) (hl : l.length ≤ 1000000) (hF : ∀ x ∈ l, x.Flaws.length ≤ 1000000) : Zh Xs Ms Y8 [(.d (.sl (l.map Zc.enc))), (.d (J a))] [] = some (.own 0, [.row 4 ((l.eraseIdx a).map Zc.enc) true false]) := by
 refine Ze Xs Ms Ul ZlY (by show 2 ≤ _; decide) ?_
 simp +contextual -implicitDefEqProofs (maxSteps := 10^7) only [go_sem, seval, ↓gZ, Ul]
 refine ZE Xs Ms (st0 := ?st0) (α := Nat) (fun i => [(6, .d (J (i : Int)))]) (fun i => [(0, .row 4 (((l.take i).eraseIdx a).map Zc.enc) true false)]) (fun i => i ≤ l.length) (fun i => l.length - i) 0 ?hc (by omega) ?h0 ?step
 case hc => simp +contextual -implicitDefEqProofs (maxSteps := 10^7) only [go_sem, seval, ↓gZ] <;> exact rfl
 case h0 => rfl
 case step =>
  intro i hi ih
  by_cases hlt : i < l.length
  ·obtain ⟨x, hx⟩ := Zw hlt
   have hw := Zm (k := i) (by omega)
   by_cases hia : i = a
   ·subst hia
    have hm := ZtU hx
    simp +contextual -implicitDefEqProofs (maxSteps := 10^7) only [go_sem, seval, ↓gZ, hx, hlt, hw]
    refine ih (i + 1) _ (by omega) (by omega) ?_
    simp +contextual -implicitDefEqProofs (maxSteps := 10^7) only [go_sem, seval, ↓gZ, hm]
   ·have hm := ZtT hx hia
    have hlk : ((l.take i).eraseIdx a).length ≤ i := Nat.le_trans (Zk2 _ _) (by simp; omega)
    have hr : (((l.take i).eraseIdx a).length + 1) * 48 ≤ 140737488355328 ∧ ((l.take i).eraseIdx a).length ≤ 140737488355327 := by omega
    have e := VD x.Label x.W x.H x.Flaws (hF x (List.mem_of_getElem? hx))
    obtain ⟨L, W, H, F⟩ := x
    simp only at e
    simp +contextual -implicitDefEqProofs (maxSteps := 10^7) only [go_sem, seval, ↓gZ, hx, hlt, hw, hia, e, hr]
    refine ih (i + 1) _ (by omega) (by omega) ?_
    simp +contextual -implicitDefEqProofs (maxSteps := 10^7) only [go_sem, seval, ↓gZ, hm]
    first | rfl | (simp; done) | (simp; rfl)
  ·have : i = l.length := by omega
   subst this
   simp +contextual -implicitDefEqProofs (maxSteps := 10^7) only [go_sem, seval, ↓gZ]
   simp
def Ws (l : List Zc) : Int := Zj3 l l.length
theorem Zk3 {l : List Zc} {x : Zc} (hx : l[l.length - 1]? = some x) : Ws l = x.Label := by
 have h := (List.getElem?_eq_some_iff.1 hx).1
 unfold Ws
 obtain ⟨n, hn⟩ : ∃ n, l.length = n + 1 := ⟨l.length - 1, by omega⟩
 rw [hn] at hx ⊢
 simp only [Zj3]
 simp only [Nat.add_sub_cancel] at hx
 rw [hx]
theorem Zhi (l : List Zc) (hl : l.length < 4611686018427387904) : Zh Xs Ms Yu [(.d (.sl (l.map Zc.enc)))] [] = some ((.d (J (Ws l))), []) := by
 by_cases h0 : l.length = 0
 ·have e : Ws l = 0 := by unfold Ws; rw [h0]; rfl
  have h0' : (l.length : Int) = 0 := by omega
  rw [e]
  refine Ze Xs Ms Vt Zi7 (by show 1 ≤ _; decide) ?_
  simp +contextual -implicitDefEqProofs (maxSteps := 10^7) only [go_sem, seval, ↓gZ, Vt, h0']
 ·obtain ⟨x, hx⟩ := Zw (l := l) (k := l.length - 1) (by omega)
  have e := Zk3 hx
  have hn : ¬ (l.length : Int) = 0 := by omega
  have hw : IntKind.i64.wrap ((l.length : Int) - 1) = ((l.length - 1 : Nat) : Int) := by rw [U9 (by omega) (by omega)]; omega
  have hlt : l.length - 1 < l.length := by omega
  obtain ⟨L, W, H, F⟩ := x
  simp only at e
  refine Ze Xs Ms Vt Zi7 (by show 1 ≤ _; decide) ?_
  simp +contextual -implicitDefEqProofs (maxSteps := 10^7) only [go_sem, seval, ↓gZ, Vt, hn, hw, hx, hlt, e]
theorem Znf : ∀ (l : List Zc) (k : Nat) (n : Int), QC k l n = -1 ∨ ∃ i : Nat, QC k l n = ((k + i : Nat) : Int) ∧ i < l.length
 | [], k, n => .inl rfl
 | x :: l, k, n => by
  unfold QC
  split
  ·exact .inr ⟨0, by simp, by simp⟩
  ·rcases Znf l (k + 1) n with h | ⟨i, h1, h2⟩
   ·exact .inl h
   ·exact .inr ⟨i + 1, by rw [h1]; congr 1; omega, by simp; omega⟩
theorem Qe : ∀ {l : List Zc} {b : Int}, XM b l → ∀ x ∈ l, VPc x
 | [], _, _, x, hx => by simp at hx
 | y :: l, b, h, x, hx => by
  rcases List.mem_cons.1 hx with rfl | hx
  ·exact h.1
  ·exact Qe h.2.2 x hx
theorem ZcS {l : List Zc} (h : VSt l) : l.length ≤ 1000000 ∧ ∀ x ∈ l, x.Flaws.length ≤ 1000000 := by
 refine ⟨by have := h.1; omega, fun x hx => ?_⟩
 have := (Qe h.2 x hx).1.2.2.2.2.2.2
 omega
theorem Zhj (l : List Zc) (n : Int) (h : ¬ (VSt l ∧ 0 ≤ QC 0 l n)) : Zh Xs Ms Ys [(.d (.sl (l.map Zc.enc))), (.d (J n))] [] =
  some (.tup [.agg [(.d (J 0)), (.d (J 0)), (.d (J 0)), .own 0], .own 1, (.d (.bool false))], [.row 4 [] true false, .row 4 [] true false]) := by
 have ev := Wr l
 by_cases hv : VSt l
 ·rw [decide_eq_true hv] at ev
  have hf := VC l n (by have := hv.1; omega)
  have hn : QC 0 l n < 0 := by
   rcases Int.lt_or_le (QC 0 l n) 0 with h1 | h1
   ·exact h1
   ·exact absurd ⟨hv, h1⟩ h
  refine Ze Xs Ms X2 Zey (by show 2 ≤ _; decide) ?_
  simp +contextual -implicitDefEqProofs (maxSteps := 10^7) only [go_sem, seval, ↓gZ, X2, ev, hf, hn]
 ·rw [decide_eq_false hv] at ev
  refine Ze Xs Ms X2 Zey (by show 2 ≤ _; decide) ?_
  simp +contextual -implicitDefEqProofs (maxSteps := 10^7) only [go_sem, seval, ↓gZ, X2, ev]
theorem Zg1 (l : List Zc) (n : Int) (hv : VSt l) (i : Nat) (hi : QC 0 l n = (i : Int)) (qL qW qH : Int) (qF : List Box) (hx : l[i]? = some (Zc.mk qL qW qH qF)) : Zh Xs Ms Ys [(.d (.sl (l.map Zc.enc))), (.d (J n))] [] =
  some (.tup [.agg [(.d (J qL)), (.d (J qW)), (.d (J qH)), .own 0], .own 1, (.d (.bool true))], [.row 4 (qF.map Box.enc) true false, .row 4 ((l.eraseIdx i).map Zc.enc) true false]) := by
 have ev := Wr l
 rw [decide_eq_true hv] at ev
 have hlt : i < l.length := (List.getElem?_eq_some_iff.1 hx).1
 have hl20 := hv.1
 obtain ⟨h1, h2⟩ := ZcS hv
 have hf := VC l n (by omega)
 rw [hi] at hf
 have hw := Zm (k := i) (by omega)
 have c1 := Zc4 (l.take i) (by simp; omega) (fun x hx => h2 x (List.mem_of_mem_take hx))
 have c2 := Zc4 (l.drop (i + 1)) (by simp; omega) (fun x hx => h2 x (List.mem_of_mem_drop hx))
 have e := Zad qL qW qH qF (h2 (Zc.mk qL qW qH qF) (List.mem_of_getElem? hx))
 have hr : ((l.take i).length + (l.drop (i + 1)).length) * 48 ≤ 140737488355328 ∧ (l.take i).length + (l.drop (i + 1)).length ≤ 140737488355328 := by simp; omega
 have hle : i ≤ l.length := by omega
 have hle2 : i + 1 ≤ l.length := by omega
 have hi0 : ¬ (i : Int) < 0 := by omega
 rw [List.eraseIdx_eq_take_drop_succ]
 refine Ze Xs Ms X2 Zey (by show 2 ≤ _; decide) ?_
 simp +contextual -implicitDefEqProofs (maxSteps := 10^7) only [go_sem, seval, ↓gZ, X2, ZoL, ev, hf, hi0, hw, hx, hlt, hle, hle2, c1, c2, e, hr, List.take_length]
def PcW (x : Zc) : Prop := x.Flaws.length ≤ 6 ∧ R64 x.W ∧ R64 x.H
theorem ZtV {b c : Int} (h : b ≤ c) : ∀ {l : List Zc}, XM c l → XM b l
 | [], _ => trivial
 | x :: l, hs => ⟨hs.1, by have := hs.2.1; omega, hs.2.2⟩
theorem Zhk : ∀ {l : List Zc} {b : Int} (i : Nat), XM b l → XM b (l.eraseIdx i)
 | [], b, i, _ => by simp [XM]
 | x :: l, b, 0, h => by
  simp only [List.eraseIdx_cons_zero]
  exact ZtV (by have := h.2.1; omega) h.2.2
 | x :: l, b, i + 1, h => by
  simp only [List.eraseIdx_cons_succ]
  exact ⟨h.1, h.2.1, Zhk i h.2.2⟩
theorem Zk4 : ∀ {l : List Zc} {b : Int}, XM b l → ∀ (i j : Nat) (x y : Zc), i ≤ j → l[i]? = some x → l[j]? = some y → x.Label ≤ y.Label ∧ b < x.Label
 | [], b, _, i, j, x, y, _, hx, _ => by simp at hx
 | z :: l, b, h, 0, 0, x, y, _, hx, hy => by
  simp at hx hy; subst hx; subst hy; exact ⟨Int.le_refl _, h.2.1⟩
 | z :: l, b, h, 0, j + 1, x, y, _, hx, hy => by
  simp at hx hy; subst hx
  have := (Zk4 h.2.2 j j y y (Nat.le_refl _) hy hy).2
  exact ⟨by omega, h.2.1⟩
 | z :: l, b, h, i + 1, j + 1, x, y, hij, hx, hy => by
  simp at hx hy
  have := Zk4 h.2.2 i j x y (by omega) hx hy
  have h2 := h.2.1
  exact ⟨this.1, by omega⟩
 | z :: l, b, h, i + 1, 0, x, y, hij, hx, hy => by omega
theorem Zng {q : Zc} (hq : VPc q) : ∀ {L : List Box} {n c : Int}, c < n → 1 ≤ n → (∀ b ∈ L, VB b ∧ WR b ⟨0, 0, q.W, q.H⟩) → (XM c (JW q n L) ↔ (L = [] ∨ (L.length : Int) ≤ 10000 - n))
 | [], n, c, _, _, _ => by simp [JW, XM]
 | b :: L, n, c, hc, h1, hb => by
  have ih := Zng hq (L := L) (n := n + 1) (c := n) (by omega) (by omega) (fun d hd => hb d (by simp [hd]))
  have hv : VPc (ZoB q b n) ↔ n ≤ 9999 := ⟨fun h => by have := h.1.2.1; simpa [ZoB] using this, fun h => ZuT hq (hb b (by simp)).1 (hb b (by simp)).2 h1 h⟩
  simp only [JW, XM, hv, ih]
  have e : (ZoB q b n).Label = n := rfl
  rw [e, ih]
  have hl : ((b :: L).length : Int) = L.length + 1 := by simp
  constructor
  ·rintro ⟨g1, g2, g3⟩
   right
   rcases g3 with rfl | g3
   ·simp only [List.length_cons, List.length_nil]; omega
   ·omega
  ·rintro (g | g)
   ·cases g
   ·refine ⟨by omega, hc, ?_⟩
    by_cases h0 : L = []
    ·exact .inl h0
    ·exact .inr (by omega)
theorem Zp4 {B : List Zc} {n : Int} {Q : Prop} (hB : ∀ c, c < n → (XM c B ↔ Q)) : ∀ {A : List Zc} {b : Int}, XM b A → (∀ x ∈ A, x.Label < n) → b < n → (XM b (A ++ B) ↔ Q)
 | [], b, _, _, hb => hB b hb
 | x :: A, b, h, hx, hb => by
  have ih := Zp4 hB h.2.2 (fun y hy => hx y (by simp [hy])) (hx x (by simp))
  simp only [List.cons_append, XM, ih]
  exact ⟨fun g => g.2.2, fun g => ⟨h.1, h.2.1, g⟩⟩
theorem Znh {l : List Zc} (hv : VSt l) (hne : 0 < l.length) : 1 ≤ Ws l ∧ Ws l ≤ 9999 ∧ ∀ x ∈ l, x.Label ≤ Ws l := by
 obtain ⟨y, hy⟩ := Zw (l := l) (k := l.length - 1) (by omega)
 rw [Zk3 hy]
 have hyv := (Qe hv.2 y (List.mem_of_getElem? hy)).1
 refine ⟨hyv.1, hyv.2.1, fun x hx => ?_⟩
 obtain ⟨i, hi⟩ := List.getElem?_of_mem hx
 have := (List.getElem?_eq_some_iff.1 hi).1
 exact (Zk4 hv.2 i (l.length - 1) x y (by omega) hi hy).1
def Zmx (l : List Zc) (i : Nat) (x : Zc) (k : ZJ) (p : Zg) (least : Int) : List Zc := l.eraseIdx i ++ JW x (Ws l + 1) (Xe k p least)
theorem ZyR {l : List Zc} {i : Nat} {x : Zc} {k : ZJ} {p : Zg} {least : Int} (hv : VSt l) (hx : l[i]? = some x) (hg : W0 x k p) :
  VSt (Zmx l i x k p least) ↔ ((Xe k p least).length : Int) ≤ 10000 - (Ws l + 1) ∧ (l.eraseIdx i).length + (Xe k p least).length ≤ 20 := by
 have hil := (List.getElem?_eq_some_iff.1 hx).1
 obtain ⟨h1, h2, h3⟩ := Znh hv (by omega)
 have hq := Qe hv.2 x (List.mem_of_getElem? hx)
 have hin : ∀ b ∈ Xe k p least, VB b ∧ WR b ⟨0, 0, x.W, x.H⟩ := fun b hb => by
  have := ZoC (least := least) hg.1 b hb
  rw [← hg.2.1, ← hg.2.2.1]; exact this
 have hs := Zp4 (n := Ws l + 1) (fun c hc => Zng hq hc (by omega) hin) (Zhk i hv.2) (fun y hy => by have := h3 y (List.mem_of_mem_eraseIdx hy); omega) (by omega)
 unfold VSt Zmx
 rw [hs, List.length_append, Zd4]
 constructor
 ·rintro ⟨g1, g2 | g2⟩
  ·exact ⟨by rw [g2]; simp; omega, g1⟩
  ·exact ⟨g2, g1⟩
 ·rintro ⟨g1, g2⟩
  exact ⟨g2, .inr g1⟩
def Zc5 (l : List Zc) (n : Int) (k : ZJ) (p : Zg) (least : Int) : Option (List Zc) :=
 if VSt l ∧ 0 ≤ QC 0 l n ∧ 1 ≤ least ∧ least ≤ 200 then
  match l[(QC 0 l n).toNat]? with
  | some x => if W0 x k p ∧ VSt (Zmx l (QC 0 l n).toNat x k p least) then some (Zmx l (QC 0 l n).toNat x k p least) else none
  | none => none
 else none
def Zg9 : Option (List Zc) → AV × List Zr
 | some R => (.tup [.own 0, (.d (.bool true))], [.row 4 (R.map Zc.enc) true false])
 | none => (.tup [.own 0, (.d (.bool false))], [.row 4 [] true false])
theorem ZbG {l : List Zc} {n : Int} (h : 0 ≤ QC 0 l n) : ∃ (i : Nat) (x : Zc), QC 0 l n = (i : Int) ∧ l[i]? = some x := by
 rcases Znf l 0 n with h1 | ⟨i, h1, h2⟩
 ·omega
 ·obtain ⟨x, hx⟩ := Zw h2
  exact ⟨i, x, by rw [h1]; simp, hx⟩
theorem Zpg (l : List Zc) (n : Int) (kW kH : Int) (kP : List Pane) (p : Zg) (least : Int) : Zh Xs Ms UJ [(.d (.sl (l.map Zc.enc))), (.d (J n)), (.d (.agg [J kW, J kH, .sl (kP.map Pane.enc)])), .d p.enc, (.d (J least))] [] = some (Zg9 (Zc5 l n (ZJ.mk kW kH kP) p least)) := by
 by_cases h : VSt l ∧ 0 ≤ QC 0 l n
 ·obtain ⟨hv, hf⟩ := h
  obtain ⟨i, x, hi, hx⟩ := ZbG hf
  have hil := (List.getElem?_eq_some_iff.1 hx).1
  have hq := Qe hv.2 x (List.mem_of_getElem? hx)
  have hll := Znh hv (by omega)
  obtain ⟨y, hy⟩ := Zw (l := l) (k := l.length - 1) (by omega)
  have hly := Zk3 hy
  have h20 := hv.1
  have hvc := ZyR (k := (ZJ.mk kW kH kP)) (p := p) (least := least) hv hx
  have et := fun q1 q2 q3 q4 h => Zg1 l n hv i hi q1 q2 q3 q4 h
  unfold Zc5
  rw [hi]
  simp only [Int.toNat_natCast, hx]
  obtain ⟨L, W, H, F⟩ := x
  have et := et L W H F hx
  have eg := Zpd L W H F kW kH kP p
  have hel : (l.eraseIdx i).length ≤ 20 := Nat.le_trans (Zk2 _ _) h20
  have hlt1 : l.length - 1 < l.length := by omega
  have w1 : IntKind.i64.wrap ((l.length : Int) - 1) = ((l.length - 1 : Nat) : Int) := by rw [U9 (by omega) (by omega)]; omega
  have w2 := wi (Ws l + 1) (by omega) (by omega)
  by_cases hg : W0 ⟨L, W, H, F⟩ (ZJ.mk kW kH kP) p
  ·have hd : decide (VPc ⟨L, W, H, F⟩ ∧ W0 ⟨L, W, H, F⟩ (ZJ.mk kW kH kP) p) = true := decide_eq_true ⟨hq, hg⟩
   rw [hd] at eg
   by_cases hl : 1 ≤ least ∧ least ≤ 200
   ·have n1 : ¬ least < 1 := by omega
    have n2 : ¬ 200 < least := by omega
    have hkl := ZiG (ZJ.mk kW kH kP) p least
    by_cases hk : ((Xe (ZJ.mk kW kH kP) p least).length : Int) ≤ 10000 - (Ws l + 1)
    ·have er := Zj0 L W H F kW kH kP p least (Ws l + 1) hq hg.1 hg.2.1 hg.2.2.1 (by omega) (by omega) hk
     have w3 := wi (((l.eraseIdx i).length : Int) + ((Xe (ZJ.mk kW kH kP) p least).length : Int)) (by omega) (by omega)
     have hcl := Zd4 ⟨L, W, H, F⟩ (Ws l + 1) (Xe (ZJ.mk kW kH kP) p least)
     by_cases h2 : (l.eraseIdx i).length + (Xe (ZJ.mk kW kH kP) p least).length ≤ 20
     ·rw [if_pos ⟨hv, by omega, hl⟩, if_pos ⟨hg, (hvc hg).2 ⟨hk, h2⟩⟩]
      unfold Zmx Zg9
      have n3 : ¬ (20 : Int) < ((l.eraseIdx i).length : Int) + ((Xe (ZJ.mk kW kH kP) p least).length : Int) := by omega
      have hr : ((l.eraseIdx i).length + (Xe (ZJ.mk kW kH kP) p least).length) * 48 ≤ 140737488355328 ∧ (l.eraseIdx i).length + (Xe (ZJ.mk kW kH kP) p least).length ≤ 140737488355328 := by omega
      clear hvc hg hd
      generalize JW ⟨L, W, H, F⟩ (Ws l + 1) (Xe (ZJ.mk kW kH kP) p least) = R at er hcl ⊢
      generalize (Xe (ZJ.mk kW kH kP) p least).length = N at *
      obtain ⟨yL, yW, yH, yF⟩ := y
      simp only at hly
      rw [hly] at er w2
      obtain ⟨o, a, m, t, ks⟩ := p
      rw [Zg.enc_mk] at er eg ⊢
      refine Ze Xs Ms Qa V7 (by show 5 ≤ _; decide) ?_
      simp +contextual -implicitDefEqProofs (maxSteps := 10^7) only [go_sem, seval, ↓gZ, Qa, et, eg, n1, n2, w1, hy, hlt1, w2, er, hcl, w3, n3, hr]
     ·rw [if_pos ⟨hv, by omega, hl⟩, if_neg (fun h => h2 ((hvc hg).1 h.2).2)]
      unfold Zg9
      have n3 : (20 : Int) < ((l.eraseIdx i).length : Int) + ((Xe (ZJ.mk kW kH kP) p least).length : Int) := by omega
      clear hvc hg hd
      generalize JW ⟨L, W, H, F⟩ (Ws l + 1) (Xe (ZJ.mk kW kH kP) p least) = R at er hcl ⊢
      generalize (Xe (ZJ.mk kW kH kP) p least).length = N at *
      obtain ⟨yL, yW, yH, yF⟩ := y
      simp only at hly
      rw [hly] at er w2
      obtain ⟨o, a, m, t, ks⟩ := p
      rw [Zg.enc_mk] at er eg ⊢
      refine Ze Xs Ms Qa V7 (by show 5 ≤ _; decide) ?_
      simp +contextual -implicitDefEqProofs (maxSteps := 10^7) only [go_sem, seval, ↓gZ, Qa, et, eg, n1, n2, w1, hy, hlt1, w2, er, hcl, w3, n3]
    ·have er := Zk0 L W H F kW kH kP p least (Ws l + 1) (by omega) (by omega) hk
     rw [if_pos ⟨hv, by omega, hl⟩, if_neg (fun h => hk ((hvc hg).1 h.2).1)]
     unfold Zg9
     clear hvc hg hd hk hkl
     obtain ⟨yL, yW, yH, yF⟩ := y
     simp only at hly
     rw [hly] at er w2
     obtain ⟨o, a, m, t, ks⟩ := p
     rw [Zg.enc_mk] at er eg ⊢
     refine Ze Xs Ms Qa V7 (by show 5 ≤ _; decide) ?_
     simp +contextual -implicitDefEqProofs (maxSteps := 10^7) only [go_sem, seval, ↓gZ, Qa, et, eg, n1, n2, w1, hy, hlt1, w2, er]
   ·rw [if_neg (fun h => hl ⟨h.2.2.1, h.2.2.2⟩)]
    unfold Zg9
    clear hvc hg hd
    obtain ⟨o, a, m, t, ks⟩ := p
    rw [Zg.enc_mk] at eg ⊢
    by_cases n1 : least < 1
    ·refine Ze Xs Ms Qa V7 (by show 5 ≤ _; decide) ?_
     simp +contextual -implicitDefEqProofs (maxSteps := 10^7) only [go_sem, seval, ↓gZ, Qa, et, eg, n1]
    ·have n2 : 200 < least := by omega
     refine Ze Xs Ms Qa V7 (by show 5 ≤ _; decide) ?_
     simp +contextual -implicitDefEqProofs (maxSteps := 10^7) only [go_sem, seval, ↓gZ, Qa, et, eg, n1, n2]
  ·have hd : decide (VPc ⟨L, W, H, F⟩ ∧ W0 ⟨L, W, H, F⟩ (ZJ.mk kW kH kP) p) = false := decide_eq_false fun h => hg h.2
   rw [hd] at eg
   have e0 : (if VSt l ∧ (0 : Int) ≤ (i : Int) ∧ 1 ≤ least ∧ least ≤ 200 then (if W0 ⟨L, W, H, F⟩ (ZJ.mk kW kH kP) p ∧ VSt (Zmx l i ⟨L, W, H, F⟩ (ZJ.mk kW kH kP) p least) then some (Zmx l i ⟨L, W, H, F⟩ (ZJ.mk kW kH kP) p least) else none) else none) = none := by
    rw [if_neg (fun h : W0 ⟨L, W, H, F⟩ (ZJ.mk kW kH kP) p ∧ _ => hg h.1)]; split <;> rfl
   rw [e0]
   unfold Zg9
   clear hvc hg hd e0
   obtain ⟨o, a, m, t, ks⟩ := p
   rw [Zg.enc_mk] at eg ⊢
   refine Ze Xs Ms Qa V7 (by show 5 ≤ _; decide) ?_
   simp +contextual -implicitDefEqProofs (maxSteps := 10^7) only [go_sem, seval, ↓gZ, Qa, et, eg]
 ·have et := Zhj l n h
  have e0 : Zc5 l n (ZJ.mk kW kH kP) p least = none := by
   unfold Zc5
   rw [if_neg (fun g => h ⟨g.1, g.2.1⟩)]
  rw [e0]
  unfold Zg9
  clear e0
  obtain ⟨o, a, m, t, ks⟩ := p
  rw [Zg.enc_mk]
  refine Ze Xs Ms Qa V7 (by show 5 ≤ _; decide) ?_
  simp +contextual -implicitDefEqProofs (maxSteps := 10^7) only [go_sem, seval, ↓gZ, Qa, et]
theorem ZtW {l : List Zc} {i : Nat} {x : Zc} {k : ZJ} {p : Zg} {least : Int} (hv : VSt l) (hx : l[i]? = some x) (hg : W0 x k p) :
  (Zmx l i x k p least).length ≤ 1000 ∧ ∀ y ∈ Zmx l i x k p least, y.Flaws.length < 4611686018427387904 ∧ R64 y.W ∧ R64 y.H := by
 have hq := Qe hv.2 x (List.mem_of_getElem? hx)
 refine ⟨?_, fun y hy => ?_⟩
 ·unfold Zmx
  rw [List.length_append, Zd4]
  have := ZiG k p least
  have := Zk2 l i
  have := hv.1
  omega
 ·rcases List.mem_append.1 hy with hy | hy
  ·have h := Qe hv.2 y (List.mem_of_mem_eraseIdx hy)
   have h1 := h.1
   exact ⟨by omega, ⟨by omega, by omega⟩, ⟨by omega, by omega⟩⟩
  ·obtain ⟨j, hj⟩ := List.getElem?_of_mem hy
   obtain ⟨b, hb, rfl⟩ := Zsn x _ _ j y hj
   have hvb := (ZoC (least := least) hg.1 b (List.mem_of_getElem? hb)).1
   simp only [VB] at hvb
   have hfl := List.length_filterMap_le (Vh b) x.Flaws
   have hq6 := hq.1.2.2.2.2.2.2
   simp only [ZoB]
   exact ⟨by omega, ⟨by omega, by omega⟩, ⟨by omega, by omega⟩⟩
theorem Zph (l : List Zc) (n : Int) (kW kH : Int) (kP : List Pane) (p : Zg) (least : Int) (hl : l.length ≤ 1000) (hS : ∀ x ∈ l, PcW x) (hk : kP.length < 4611686018427387904) : Zh Xs Ms UM [(.d (.sl (l.map Zc.enc))), (.d (J n)), (.d (.agg [J kW, J kH, .sl (kP.map Pane.enc)])), .d p.enc, (.d (J least))] [] = some (Zg9 (Zc5 l n (ZJ.mk kW kH kP) p least)) := by
 have ev := YX l (by omega) (fun x hx => by obtain ⟨g1, g2, g3⟩ := hS x hx; exact ⟨by omega, g2, g3⟩)
 have ef := YA l n (by omega)
 unfold Zc5
 by_cases hv : VSt l
 ·rw [decide_eq_true hv] at ev
  by_cases hf : 0 ≤ QC 0 l n
  ·obtain ⟨i, x, hi, hx⟩ := ZbG hf
   rw [hi] at ef ⊢
   have hi0 : ¬ (i : Int) < 0 := by omega
   have hil := (List.getElem?_eq_some_iff.1 hx).1
   simp only [Int.toNat_natCast, hx]
   by_cases hr : 1 ≤ least ∧ least ≤ 200
   ·have hq := Qe hv.2 x (List.mem_of_getElem? hx)
    have hll := Znh hv (by omega)
    have ew := Zf4 l i (by omega) (fun x hx => by have := (hS x hx).1; omega)
    have el := Zhi l (by omega)
    have w2 := wi (Ws l + 1) (by omega) (by omega)
    rw [if_pos ⟨hv, by omega, hr⟩]
    by_cases hg : W0 x (ZJ.mk kW kH kP) p
    ·have hcs := ZtW (least := least) hv hx hg
     have evo := YX (Zmx l i x (ZJ.mk kW kH kP) p least) (by omega) hcs.2
     have hlen : (l.eraseIdx i).length ≤ 20 := Nat.le_trans (Zk2 _ _) hv.1
     have hkl := ZiG (ZJ.mk kW kH kP) p least
     obtain ⟨L, W, H, F⟩ := x
     have eg := Zi0 L W H F kW kH kP p (fun f hf => (hq.2 f hf).1) hq.1.2.2.2.2.2.2 hk
     have er := Zpf L W H F kW kH kP p least (Ws l + 1) hq hg.1 (by omega) (by omega)
     rw [decide_eq_true hg] at eg
     have hcl := Zd4 ⟨L, W, H, F⟩ (Ws l + 1) (Xe (ZJ.mk kW kH kP) p least)
     have hrm : ((l.eraseIdx i).length + (Xe (ZJ.mk kW kH kP) p least).length) * 48 ≤ 140737488355328 ∧ (l.eraseIdx i).length + (Xe (ZJ.mk kW kH kP) p least).length ≤ 140737488355328 := by omega
     unfold Zmx at evo ⊢
     have hgg := hg
     clear hg
     by_cases hvo : VSt (l.eraseIdx i ++ JW ⟨L, W, H, F⟩ (Ws l + 1) (Xe (ZJ.mk kW kH kP) p least))
     ·rw [decide_eq_true hvo] at evo
      rw [if_pos ⟨hgg, hvo⟩]
      unfold Zg9
      clear hvo hcs hgg
      generalize JW ⟨L, W, H, F⟩ (Ws l + 1) (Xe (ZJ.mk kW kH kP) p least) = R at er hcl evo ⊢
      generalize (Xe (ZJ.mk kW kH kP) p least).length = N at *
      obtain ⟨o, a, m, t, ks⟩ := p
      rw [Zg.enc_mk] at er eg ⊢
      refine Ze Xs Ms Qw Uy (by show 5 ≤ _; decide) ?_
      simp +contextual -implicitDefEqProofs (maxSteps := 10^7) only [go_sem, seval, ↓gZ, Qw, ev, ef, hi0, ZP, hr, hx, hil, eg, ew, el, w2, er, hcl, hrm, evo]
     ·rw [decide_eq_false hvo] at evo
      rw [if_neg (fun h => hvo h.2)]
      unfold Zg9
      clear hvo hcs hgg
      generalize JW ⟨L, W, H, F⟩ (Ws l + 1) (Xe (ZJ.mk kW kH kP) p least) = R at er hcl evo ⊢
      generalize (Xe (ZJ.mk kW kH kP) p least).length = N at *
      obtain ⟨o, a, m, t, ks⟩ := p
      rw [Zg.enc_mk] at er eg ⊢
      refine Ze Xs Ms Qw Uy (by show 5 ≤ _; decide) ?_
      simp +contextual -implicitDefEqProofs (maxSteps := 10^7) only [go_sem, seval, ↓gZ, Qw, ev, ef, hi0, ZP, hr, hx, hil, eg, ew, el, w2, er, hcl, hrm, evo]
    ·rw [if_neg (fun h => hg h.1)]
     obtain ⟨L, W, H, F⟩ := x
     have eg := Zi0 L W H F kW kH kP p (fun f hf => (hq.2 f hf).1) hq.1.2.2.2.2.2.2 hk
     rw [decide_eq_false hg] at eg
     unfold Zg9
     clear hg
     obtain ⟨o, a, m, t, ks⟩ := p
     rw [Zg.enc_mk] at eg ⊢
     refine Ze Xs Ms Qw Uy (by show 5 ≤ _; decide) ?_
     simp +contextual -implicitDefEqProofs (maxSteps := 10^7) only [go_sem, seval, ↓gZ, Qw, ev, ef, hi0, ZP, hr, hx, hil, eg]
   ·rw [if_neg (fun h => hr h.2.2)]
    unfold Zg9
    obtain ⟨o, a, m, t, ks⟩ := p
    rw [Zg.enc_mk]
    refine Ze Xs Ms Qw Uy (by show 5 ≤ _; decide) ?_
    simp +contextual -implicitDefEqProofs (maxSteps := 10^7) only [go_sem, seval, ↓gZ, Qw, ev, ef, hi0, ZP, hr]
  ·rw [if_neg (fun h => hf h.2.1)]
   have hf' : QC 0 l n < 0 := by omega
   unfold Zg9
   obtain ⟨o, a, m, t, ks⟩ := p
   rw [Zg.enc_mk]
   refine Ze Xs Ms Qw Uy (by show 5 ≤ _; decide) ?_
   simp +contextual -implicitDefEqProofs (maxSteps := 10^7) only [go_sem, seval, ↓gZ, Qw, ev, ef, hf']
 ·rw [decide_eq_false hv] at ev
  rw [if_neg (fun h => hv h.1)]
  unfold Zg9
  obtain ⟨o, a, m, t, ks⟩ := p
  rw [Zg.enc_mk]
  refine Ze Xs Ms Qw Uy (by show 5 ≤ _; decide) ?_
  simp +contextual -implicitDefEqProofs (maxSteps := 10^7) only [go_sem, seval, ↓gZ, Qw, ev]
theorem Zhl (l : List Zc) (hv : VSt l) : Zh Xs Ms Vl [(.d (.sl (l.map Zc.enc)))] [] = some ((.d (J (YY l))), []) := by
 have ev := Wr l
 rw [decide_eq_true hv] at ev
 have h20 := hv.1
 have hval : ∀ x ∈ l, 1 ≤ x.W ∧ x.W ≤ 200 ∧ 1 ≤ x.H ∧ x.H ≤ 200 := fun x hx => by
  have := (Qe hv.2 x hx).1; omega
 clear hv
 refine Ze Xs Ms Je Zpv (by show 1 ≤ _; decide) ?_
 simp +contextual -implicitDefEqProofs (maxSteps := 10^7) only [go_sem, seval, ↓gZ, Je, ev]
 refine ZE Xs Ms (st0 := ?st0) (α := Nat) (fun i => [(11, .d (J (i : Int))), (3, .d (J (YY (l.take i))))]) (fun _ => []) (fun i => i ≤ l.length) (fun i => l.length - i) 0 ?hc (by omega) ?h0 ?step
 case hc => simp +contextual -implicitDefEqProofs (maxSteps := 10^7) only [go_sem, seval, ↓gZ] <;> exact rfl
 case h0 => rfl
 case step =>
  intro i hi ih
  by_cases hlt : i < l.length
  ·obtain ⟨x, hx⟩ := Zw hlt
   have hw := Zm (k := i) (by omega)
   have hm := Znc hx
   have hst := Zac (l := l.take i) (fun y hy => hval y (List.mem_of_mem_take hy))
   have hlk : (l.take i).length ≤ i := by simp; omega
   have g5 := hval x (List.mem_of_getElem? hx)
   have hxx : x.W * x.H ≤ 200 * 200 := Int.mul_le_mul (by omega) (by omega) (by omega) (by omega)
   have hx0 : 0 ≤ x.W * x.H := Int.mul_nonneg (by omega) (by omega)
   obtain ⟨xL, xW, xH, xF⟩ := x
   simp only at g5 hm hxx hx0
   have u0 := wi (xW * xH) (by omega) (by omega)
   have u1 := wi (YY (l.take i) + xW * xH) (by omega) (by omega)
   simp +contextual -implicitDefEqProofs (maxSteps := 10^7) only [go_sem, seval, ↓gZ, hx, hlt, hw, u0, u1]
   refine ih (i + 1) _ (by omega) (by omega) ?_
   simp +contextual -implicitDefEqProofs (maxSteps := 10^7) only [go_sem, seval, ↓gZ, hm]
  ·have : i = l.length := by omega
   subst this
   simp +contextual -implicitDefEqProofs (maxSteps := 10^7) only [go_sem, seval, ↓gZ, List.take_length]
end Go.Proofs.YtpobhkoombldlaaGreat
