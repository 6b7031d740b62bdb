/- Contracts of the functions, by the abstract semantics. -/
import Derived.Test.YtbodfpboklcgoaaECode
import Derived.Test.YtbodfpboklcgoaaAbsParts
namespace Go.Proofs.Ytbodfpboklcgoaa
open Go Go.Abs Go.Abs.E Go.Abs.L
open Nat (reduceMul reduceSub reduceLeDiff reduceEqDiff)
open Int (reduceLE reduceEq reduceToNat reduceNeg)
set_option linter.unusedSimpArgs false
set_option linter.unusedVariables false
set_option maxRecDepth 20000
set_option maxHeartbeats 4000000
theorem s_inRange_ev (n lo hi : Int) : vcall Xs Ms n_s_inRange [(.d (.int .i64 (n))), (.d (.int .i64 (lo))), (.d (.int .i64 (hi)))] [] = some ((.d (.bool ((decide (lo ≤ n ∧ n ≤ hi))))), []) := by
  refine callE Xs Ms f_s_inRange x_s_inRange (by show 3 ≤ _; decide) ?_
  simp +contextual -implicitDefEqProofs (maxSteps := 10000000) only [go_sem, seval, ↓gA, ↓gB, ↓gC, ↓gD, ↓gE, ↓gF, f_s_inRange]
theorem s_validBox_ev (bX : Int) (bY : Int) (bW : Int) (bH : Int) : vcall Xs Ms n_s_validBox [(.d (.agg [.int .i64 bX, .int .i64 bY, .int .i64 bW, .int .i64 bH]))] [] = some ((.d (.bool ((decide (VB (Box.mk bX bY bW bH)))))), []) := by
  refine callE Xs Ms f_s_validBox x_s_validBox (by show 1 ≤ _; decide) ?_
  simp +contextual -implicitDefEqProofs (maxSteps := 10000000) only [go_sem, seval, ↓gA, ↓gB, ↓gC, ↓gD, ↓gE, ↓gF, f_s_validBox, s_inRange_ev]
  have h1 := wi (200 - bW); have h2 := wi (200 - bH)
  exact fin_b (by simp only [VB]; omega)
theorem i_ValidBox_ev (bX : Int) (bY : Int) (bW : Int) (bH : Int) : vcall Xs Ms n_i_ValidBox [(.d (.agg [.int .i64 bX, .int .i64 bY, .int .i64 bW, .int .i64 bH]))] [] = some ((.d (.bool ((decide (VB (Box.mk bX bY bW bH)))))), []) := by
  refine callE Xs Ms f_i_ValidBox x_i_ValidBox (by show 1 ≤ _; decide) ?_
  simp +contextual -implicitDefEqProofs (maxSteps := 10000000) only [go_sem, seval, ↓gA, ↓gB, ↓gC, ↓gD, ↓gE, ↓gF, f_i_ValidBox]
  have h1 := wi (200 - bW); have h2 := wi (200 - bH)
  exact ⟨fun h => fin_f (by simp only [VB]; omega), fun h => fin_b (by simp only [VB]; omega)⟩
theorem s_insideOf_ev (aX : Int) (aY : Int) (aW : Int) (aH : Int) (bX : Int) (bY : Int) (bW : Int) (bH : Int) (ha : VB (Box.mk aX aY aW aH)) (h1 : R64 bX) (h2 : R64 bY) (h3 : R64 (bX + bW)) (h4 : R64 (bY + bH)) : vcall Xs Ms n_s_insideOf [(.d (.agg [.int .i64 aX, .int .i64 aY, .int .i64 aW, .int .i64 aH])), (.d (.agg [.int .i64 bX, .int .i64 bY, .int .i64 bW, .int .i64 bH]))] [] = some ((.d (.bool ((decide (inside (Box.mk aX aY aW aH) (Box.mk bX bY bW bH)))))), []) := by
  refine callE Xs Ms f_s_insideOf x_s_insideOf (by show 2 ≤ _; decide) ?_
  simp only [VB] at ha
  have e1 := wi (aX + aW) (by omega) (by omega); have e2 := wi (aY + aH) (by omega) (by omega); have e3 := wi (bX + bW) h3.1 h3.2; have e4 := wi (bY + bH) h4.1 h4.2
  simp +contextual -implicitDefEqProofs (maxSteps := 10000000) only [go_sem, seval, ↓gA, ↓gB, ↓gC, ↓gD, ↓gE, ↓gF, f_s_insideOf, e1, e2, e3, e4]
  exact fin_b (by simp only [inside]; omega)
theorem s_meetOf_yes (aX : Int) (aY : Int) (aW : Int) (aH : Int) (bX : Int) (bY : Int) (bW : Int) (bH : Int) (ha : VB (Box.mk aX aY aW aH)) (hb : VB (Box.mk bX bY bW bH)) (hm : meets (Box.mk aX aY aW aH) (Box.mk bX bY bW bH)) : vcall Xs Ms n_s_meetOf [(.d (.agg [.int .i64 aX, .int .i64 aY, .int .i64 aW, .int .i64 aH])), (.d (.agg [.int .i64 bX, .int .i64 bY, .int .i64 bW, .int .i64 bH]))] [] = some (.tup [.d (meetB (Box.mk aX aY aW aH) (Box.mk bX bY bW bH)).enc, (.d (.bool (true)))], []) := by
  refine callE Xs Ms f_s_meetOf x_s_meetOf (by show 2 ≤ _; decide) ?_
  simp only [VB, meets] at ha hb hm
  have e1 := wi (aX + aW) (by omega) (by omega); have e2 := wi (aY + aH) (by omega) (by omega); have e3 := wi (bX + bW) (by omega) (by omega); have e4 := wi (bY + bH) (by omega) (by omega)
  have e5 := wi (min (aX + aW) (bX + bW) - max aX bX) (by omega) (by omega)
  have e6 := wi (min (aY + aH) (bY + bH) - max aY bY) (by omega) (by omega)
  have n1 : ¬ (min (aX + aW) (bX + bW) - max aX bX ≤ 0) := by omega
  have n2 : ¬ (min (aY + aH) (bY + bH) - max aY bY ≤ 0) := by omega
  simp +contextual -implicitDefEqProofs (maxSteps := 10000000) only [go_sem, seval, ↓gA, ↓gB, ↓gC, ↓gD, ↓gE, ↓gF, f_s_meetOf, e1, e2, e3, e4, e5, e6, n1, n2, meetB]
theorem s_meetOf_no (aX : Int) (aY : Int) (aW : Int) (aH : Int) (bX : Int) (bY : Int) (bW : Int) (bH : Int) (ha : VB (Box.mk aX aY aW aH)) (hb : VB (Box.mk bX bY bW bH)) (hm : ¬ meets (Box.mk aX aY aW aH) (Box.mk bX bY bW bH)) : vcall Xs Ms n_s_meetOf [(.d (.agg [.int .i64 aX, .int .i64 aY, .int .i64 aW, .int .i64 aH])), (.d (.agg [.int .i64 bX, .int .i64 bY, .int .i64 bW, .int .i64 bH]))] [] = some (.tup [.d (Box.enc ⟨0, 0, 0, 0⟩), (.d (.bool (false)))], []) := by
  refine callE Xs Ms f_s_meetOf x_s_meetOf (by show 2 ≤ _; decide) ?_
  simp only [VB, meets] at ha hb hm
  have e1 := wi (aX + aW) (by omega) (by omega); have e2 := wi (aY + aH) (by omega) (by omega); have e3 := wi (bX + bW) (by omega) (by omega); have e4 := wi (bY + bH) (by omega) (by omega)
  have e5 := wi (min (aX + aW) (bX + bW) - max aX bX) (by omega) (by omega)
  have e6 := wi (min (aY + aH) (bY + bH) - max aY bY) (by omega) (by omega)
  have n1 : min (aX + aW) (bX + bW) - max aX bX ≤ 0 ∨ min (aY + aH) (bY + bH) - max aY bY ≤ 0 := by omega
  simp +contextual -implicitDefEqProofs (maxSteps := 10000000) only [go_sem, seval, ↓gA, ↓gB, ↓gC, ↓gD, ↓gE, ↓gF, f_s_meetOf, e1, e2, e3, e4, e5, e6]
  omega
theorem i_MeetOf_yes (aX : Int) (aY : Int) (aW : Int) (aH : Int) (bX : Int) (bY : Int) (bW : Int) (bH : Int) (ha : VB (Box.mk aX aY aW aH)) (hb : VB (Box.mk bX bY bW bH)) (hm : meets (Box.mk aX aY aW aH) (Box.mk bX bY bW bH)) : vcall Xs Ms n_i_MeetOf [(.d (.agg [.int .i64 aX, .int .i64 aY, .int .i64 aW, .int .i64 aH])), (.d (.agg [.int .i64 bX, .int .i64 bY, .int .i64 bW, .int .i64 bH]))] [] = some (.tup [.d (meetB (Box.mk aX aY aW aH) (Box.mk bX bY bW bH)).enc, (.d (.bool (true)))], []) := by
  refine callE Xs Ms f_i_MeetOf x_i_MeetOf (by show 2 ≤ _; decide) ?_
  have ha' := ha; have hb' := hb
  simp only [VB, meets] at ha' hb' hm
  have e1 := wi (aX + aW) (by omega) (by omega); have e2 := wi (aY + aH) (by omega) (by omega); have e3 := wi (bX + bW) (by omega) (by omega); have e4 := wi (bY + bH) (by omega) (by omega)
  have e5 := wi (min (aX + aW) (bX + bW) - max aX bX) (by omega) (by omega)
  have e6 := wi (min (aY + aH) (bY + bH) - max aY bY) (by omega) (by omega)
  have n1 : ¬ (min (aX + aW) (bX + bW) ≤ max aX bX) := by omega
  have n2 : ¬ (min (aY + aH) (bY + bH) ≤ max aY bY) := by omega
  simp +contextual -implicitDefEqProofs (maxSteps := 10000000) only [go_sem, seval, ↓gA, ↓gB, ↓gC, ↓gD, ↓gE, ↓gF, f_i_MeetOf, i_ValidBox_ev, ha, hb, e1, e2, e3, e4, e5, e6, n1, n2, meetB]
theorem i_MeetOf_no (aX : Int) (aY : Int) (aW : Int) (aH : Int) (bX : Int) (bY : Int) (bW : Int) (bH : Int) (hm : ¬ (VB (Box.mk aX aY aW aH) ∧ VB (Box.mk bX bY bW bH) ∧ meets (Box.mk aX aY aW aH) (Box.mk bX bY bW bH))) : vcall Xs Ms n_i_MeetOf [(.d (.agg [.int .i64 aX, .int .i64 aY, .int .i64 aW, .int .i64 aH])), (.d (.agg [.int .i64 bX, .int .i64 bY, .int .i64 bW, .int .i64 bH]))] [] = some (.tup [.d (Box.enc ⟨0, 0, 0, 0⟩), (.d (.bool (false)))], []) := by
  refine callE Xs Ms f_i_MeetOf x_i_MeetOf (by show 2 ≤ _; decide) ?_
  by_cases ha : VB (Box.mk aX aY aW aH)
  · by_cases hb : VB (Box.mk bX bY bW bH)
    · have ha' := ha; have hb' := hb
      simp only [ha, hb, true_and] at hm
      simp only [VB, meets] at ha' hb' hm
      have e1 := wi (aX + aW) (by omega) (by omega); have e2 := wi (aY + aH) (by omega) (by omega); have e3 := wi (bX + bW) (by omega) (by omega); have e4 := wi (bY + bH) (by omega) (by omega)
      simp +contextual -implicitDefEqProofs (maxSteps := 10000000) only [go_sem, seval, ↓gA, ↓gB, ↓gC, ↓gD, ↓gE, ↓gF, f_i_MeetOf, i_ValidBox_ev, ha, hb, e1, e2, e3, e4]
      omega
    · simp +contextual -implicitDefEqProofs (maxSteps := 10000000) only [go_sem, seval, ↓gA, ↓gB, ↓gC, ↓gD, ↓gE, ↓gF, f_i_MeetOf, i_ValidBox_ev, ha, hb]
  · simp +contextual -implicitDefEqProofs (maxSteps := 10000000) only [go_sem, seval, ↓gA, ↓gB, ↓gC, ↓gD, ↓gE, ↓gF, f_i_MeetOf, i_ValidBox_ev, ha]
theorem i_InsideOf_ev (aX : Int) (aY : Int) (aW : Int) (aH : Int) (bX : Int) (bY : Int) (bW : Int) (bH : Int) : vcall Xs Ms n_i_InsideOf [(.d (.agg [.int .i64 aX, .int .i64 aY, .int .i64 aW, .int .i64 aH])), (.d (.agg [.int .i64 bX, .int .i64 bY, .int .i64 bW, .int .i64 bH]))] [] = some ((.d (.bool ((decide (VB (Box.mk aX aY aW aH) ∧ VB (Box.mk bX bY bW bH) ∧ inside (Box.mk aX aY aW aH) (Box.mk bX bY bW bH)))))), []) := by
  refine callE Xs Ms f_i_InsideOf x_i_InsideOf (by show 2 ≤ _; decide) ?_
  by_cases hm : VB (Box.mk aX aY aW aH) ∧ VB (Box.mk bX bY bW bH) ∧ meets (Box.mk aX aY aW aH) (Box.mk bX bY bW bH)
  · obtain ⟨ha, hb, hm⟩ := hm
    simp +contextual -implicitDefEqProofs (maxSteps := 10000000) only [go_sem, seval, ↓gA, ↓gB, ↓gC, ↓gD, ↓gE, ↓gF, f_i_InsideOf, i_MeetOf_yes _ _ _ _ _ _ _ _ ha hb hm, meetB]
    simp only [VB] at ha hb; simp only [meets] at hm
    exact fin_b (by simp only [VB, inside]; omega)
  · simp +contextual -implicitDefEqProofs (maxSteps := 10000000) only [go_sem, seval, ↓gA, ↓gB, ↓gC, ↓gD, ↓gE, ↓gF, f_i_InsideOf, i_MeetOf_no _ _ _ _ _ _ _ _ hm]
    have : ¬ (VB (Box.mk aX aY aW aH) ∧ VB (Box.mk bX bY bW bH) ∧ inside (Box.mk aX aY aW aH) (Box.mk bX bY bW bH)) := by
      intro ⟨h1, h2, h3⟩
      refine hm ⟨h1, h2, ?_⟩
      simp only [VB, inside] at h1 h2 h3
      simp only [meets]
      omega
    exact fin_f this
theorem s_validPane_ev (pW : Int) (pH : Int) (pT : Bool) (pK : Int) : vcall Xs Ms n_s_validPane [(.d (.agg [.int .i64 pW, .int .i64 pH, .bool pT, .int .i64 pK]))] [] = some ((.d (.bool ((decide (VP (Pane.mk pW pH pT pK)))))), []) := by
  refine callE Xs Ms f_s_validPane x_s_validPane (by show 1 ≤ _; decide) ?_
  simp +contextual -implicitDefEqProofs (maxSteps := 10000000) only [go_sem, seval, ↓gA, ↓gB, ↓gC, ↓gD, ↓gE, ↓gF, f_s_validPane, s_inRange_ev]
  first | exact fin_b (by simp only [VP]; omega) | skip
theorem i_ValidPane_ev (pW : Int) (pH : Int) (pT : Bool) (pK : Int) : vcall Xs Ms n_i_ValidPane [(.d (.agg [.int .i64 pW, .int .i64 pH, .bool pT, .int .i64 pK]))] [] = some ((.d (.bool ((decide (VP (Pane.mk pW pH pT pK)))))), []) := by
  refine callE Xs Ms f_i_ValidPane x_i_ValidPane (by show 1 ≤ _; decide) ?_
  simp +contextual -implicitDefEqProofs (maxSteps := 10000000) only [go_sem, seval, ↓gA, ↓gB, ↓gC, ↓gD, ↓gE, ↓gF, f_i_ValidPane]
  first | exact fin_b (by simp only [VP]; omega) | skip

theorem s_newReader_ev (bs : List UInt8) : vcall Xs Ms n_s_newReader [.d (.sl (bs.map encU))] [] = some (.ptr 0 0, [.box [.d (.sl ((bs.take 2000).map encU)), (.d (.int .i64 (0)))]]) := by
  refine callE Xs Ms f_s_newReader x_s_newReader (by show 1 ≤ _; decide) ?_
  by_cases h : 2000 < bs.length
  · have h1 : (2000 : Int) < bs.length := by omega
    have h2 : (2000 : Int) ≤ bs.length := by omega
    simp +contextual -implicitDefEqProofs (maxSteps := 10000000) only [go_sem, seval, ↓gA, ↓gB, ↓gC, ↓gD, ↓gE, ↓gF, f_s_newReader, h1, h2]
  · have h1 : ¬ (2000 : Int) < bs.length := by omega
    have h2 : bs.take 2000 = bs := List.take_of_length_le (by omega)
    simp +contextual -implicitDefEqProofs (maxSteps := 10000000) only [go_sem, seval, ↓gA, ↓gB, ↓gC, ↓gD, ↓gE, ↓gF, f_s_newReader, h1, h2]
theorem s_pick_ex (bs : List UInt8) (p : Nat) (n : Int) (hb : bs.length ≤ 2000) (hp : p < 1099511627776) :
    ∃ v : Int, vcall Xs Ms n_s_reader_pick [.ptr 0 0, (.d (.int .i64 (n)))] [.box [.d (.sl (bs.map encU)), (.d (.int .i64 (p)))]] = some ((.d (.int .i64 (v))), [.box [.d (.sl (bs.map encU)), (.d (.int .i64 ((p + 1 : Nat))))]]) ∧ 0 ≤ v ∧ (1 ≤ n → v < n) := by
  have hw := wrap_succ (k := p) (by omega)
  by_cases hn : n < 1
  · refine ⟨0, ?_, by omega, by omega⟩
    refine callE Xs Ms f_s_reader_pick x_s_reader_pick (by show 2 ≤ _; decide) ?_
    simp +contextual -implicitDefEqProofs (maxSteps := 10000000) only [go_sem, seval, ↓gA, ↓gB, ↓gC, ↓gD, ↓gE, ↓gF, f_s_reader_pick, hw, hn]
  · by_cases hl : bs.length = 0
    · refine ⟨0, ?_, by omega, by omega⟩
      refine callE Xs Ms f_s_reader_pick x_s_reader_pick (by show 2 ≤ _; decide) ?_
      simp +contextual -implicitDefEqProofs (maxSteps := 10000000) only [go_sem, seval, ↓gA, ↓gB, ↓gC, ↓gD, ↓gE, ↓gF, f_s_reader_pick, hw, hn, hl]
    · have hl' : ¬ (bs.length : Int) = 0 := by omega
      have hs : IntKind.i64.wrap (((p + 1 : Nat) : Int) - 1) = (p : Int) := by rw [wrap64 (by omega) (by omega)]; omega
      have hn0 : ¬ n = 0 := by omega
      by_cases hlt : p < bs.length
      · obtain ⟨x, hx⟩ := get_lt hlt
        have hx2 : (x.toNat : Int) < 256 := by have := x.toNat_lt; omega
        have hwx : IntKind.i64.wrap (x.toNat : Int) = (x.toNat : Int) := wrap64 (by omega) (by omega)
        refine ⟨(x.toNat : Int).tmod n, ?_, Int.tmod_nonneg _ (by omega), fun _ => Int.tmod_lt_of_pos _ (by omega)⟩
        refine callE Xs Ms f_s_reader_pick x_s_reader_pick (by show 2 ≤ _; decide) ?_
        simp +contextual -implicitDefEqProofs (maxSteps := 10000000) only [go_sem, seval, ↓gA, ↓gB, ↓gC, ↓gD, ↓gE, ↓gF, f_s_reader_pick, hw, hn, hl', hs, hlt, hx, encU, hwx, hn0]
      · have hlen : 0 < bs.length := by omega
        obtain ⟨x, hx⟩ := get_lt (l := bs) (k := p % bs.length) (Nat.mod_lt _ hlen)
        obtain ⟨y, hy⟩ := get_lt (l := bs) (k := (p * 7 + 3) % bs.length) (Nat.mod_lt _ hlen)
        have hx2 : (x.toNat : Int) < 256 := by have := x.toNat_lt; omega
        have hy2 : (y.toNat : Int) < 256 := by have := y.toNat_lt; omega
        have e1 : ((p : Int)).tmod (bs.length : Int) = ((p % bs.length : Nat) : Int) := (Int.ofNat_tmod p bs.length).symm
        have e2 : IntKind.i64.wrap ((p : Int) * 7) = ((p * 7 : Nat) : Int) := by rw [wrap64 (by omega) (by omega)]; omega
        have e3 : IntKind.i64.wrap (((p * 7 : Nat) : Int) + 3) = ((p * 7 + 3 : Nat) : Int) := by rw [wrap64 (by omega) (by omega)]; omega
        have e4 : ((p * 7 + 3 : Nat) : Int).tmod (bs.length : Int) = (((p * 7 + 3) % bs.length : Nat) : Int) := (Int.ofNat_tmod _ _).symm
        obtain ⟨q, hqe, hq⟩ : ∃ q : Nat, q = p / bs.length ∧ q ≤ p := ⟨_, rfl, Nat.div_le_self _ _⟩
        have e5 : ((p : Int)).tdiv (bs.length : Int) = (q : Int) := by rw [hqe]; exact (Int.ofNat_tdiv p bs.length).symm
        clear hqe
        have w1 : IntKind.i64.wrap (x.toNat : Int) = (x.toNat : Int) := wrap64 (by omega) (by omega)
        have w2 : IntKind.i64.wrap (y.toNat : Int) = (y.toNat : Int) := wrap64 (by omega) (by omega)
        have w3 := wi ((x.toNat : Int) * 131) (by omega) (by omega)
        have w4 := wi ((y.toNat : Int) * 1117) (by omega) (by omega)
        have w5 := wi ((x.toNat : Int) * 131 + (y.toNat : Int) * 1117) (by omega) (by omega)
        have w6 := wi ((p : Int) * 29) (by omega) (by omega)
        have w7 := wi ((x.toNat : Int) * 131 + (y.toNat : Int) * 1117 + (p : Int) * 29) (by omega) (by omega)
        have w8 := wi ((q : Int)) (by omega) (by omega)
        have w9 := wi ((q : Int) * 53) (by omega) (by omega)
        have w10 := wi ((x.toNat : Int) * 131 + (y.toNat : Int) * 1117 + (p : Int) * 29 + (q : Int) * 53) (by omega) (by omega)
        obtain ⟨t, ht⟩ : ∃ t : Int, t = (x.toNat : Int) * 131 + (y.toNat : Int) * 1117 + (p : Int) * 29 + (q : Int) * 53 := ⟨_, rfl⟩
        have ht0 : 0 ≤ t := by omega
        have ht1 : t < 4611686018427387904 := by omega
        have hd0 : 0 ≤ t.tdiv 64 := Int.tdiv_nonneg ht0 (by omega)
        have hd1 : t.tdiv 64 < 4611686018427387904 := by
          rw [Int.tdiv_eq_ediv_of_nonneg ht0]; omega
        have w11 := wi (t.tdiv 64) (by omega) (by omega)
        obtain ⟨z, hz0, hz1, hz⟩ := xor_bound ht0 ht1 hd0 hd1
        rw [← ht] at w10
        refine ⟨z.tmod n, ?_, Int.tmod_nonneg _ hz0, fun _ => Int.tmod_lt_of_pos _ (by omega)⟩
        have hxb : int2 .xor .i64 .i64 t (t.tdiv 64) = some (.d (.int .i64 z)) := by simp only [int2, ibin, asD, bnd_some, if_true, hz]
        refine callE Xs Ms f_s_reader_pick x_s_reader_pick (by show 2 ≤ _; decide) ?_
        simp +contextual -implicitDefEqProofs (maxSteps := 10000000) only [go_sem, seval, ↓gA, ↓gB, ↓gC, ↓gD, ↓gE, ↓gF, f_s_reader_pick, hw, hn, hl', hs, hlt, encU, hn0, e1, e2, e3, e4, e5, hx, hy, w1, w2, w3, w4, w5, w6, w7, w8, w9, w10, ← ht, w11, hxb]
open Classical in
noncomputable def s_pick (bs : List UInt8) (p : Nat) (n : Int) : Int := if h : bs.length ≤ 2000 ∧ p < 1099511627776 then (s_pick_ex bs p n h.1 h.2).choose else 0
theorem s_pick_ev (bs : List UInt8) (p : Nat) (n : Int) (hb : bs.length ≤ 2000) (hp : p < 1099511627776) :
    vcall Xs Ms n_s_reader_pick [.ptr 0 0, (.d (.int .i64 (n)))] [.box [.d (.sl (bs.map encU)), (.d (.int .i64 (p)))]] = some ((.d (.int .i64 (s_pick bs p n))), [.box [.d (.sl (bs.map encU)), (.d (.int .i64 ((p + 1 : Nat))))]]) := by
  have h : bs.length ≤ 2000 ∧ p < 1099511627776 := ⟨hb, hp⟩
  unfold s_pick
  rw [dif_pos h]
  exact (s_pick_ex bs p n hb hp).choose_spec.1
theorem s_pick_nonneg (bs : List UInt8) (p : Nat) (n : Int) : 0 ≤ s_pick bs p n := by
  unfold s_pick
  split
  · rename_i h; exact (s_pick_ex bs p n h.1 h.2).choose_spec.2.1
  · omega
theorem s_pick_lt (bs : List UInt8) (p : Nat) (n : Int) (hn : 1 ≤ n) : s_pick bs p n < n := by
  unfold s_pick
  split
  · rename_i h; exact (s_pick_ex bs p n h.1 h.2).choose_spec.2.2 hn
  · omega
theorem s_one_ev (bs : List UInt8) (p : Nat) (l : List Int) (hb : bs.length ≤ 2000) (hp : p < 1099511627776) (hl : 1 ≤ l.length) :
    ∃ v : Int, v ∈ l ∧ vcall Xs Ms n_s_reader_one [.ptr 0 0, .d (.sl (l.map encI))] [.box [.d (.sl (bs.map encU)), (.d (.int .i64 (p)))]] = some ((.d (.int .i64 (v))), [.box [.d (.sl (bs.map encU)), (.d (.int .i64 ((p + 1 : Nat))))]]) := by
  have h0 := s_pick_nonneg bs p l.length
  have h1 := s_pick_lt bs p l.length (by omega)
  obtain ⟨i, hi⟩ : ∃ i : Nat, s_pick bs p (l.length : Int) = (i : Int) := ⟨(s_pick bs p (l.length : Int)).toNat, by omega⟩
  obtain ⟨v, hv⟩ := get_lt (l := l) (k := i) (by omega)
  refine ⟨v, List.mem_of_getElem? hv, ?_⟩
  refine callE Xs Ms f_s_reader_one x_s_reader_one (by show 2 ≤ _; decide) ?_
  simp +contextual -implicitDefEqProofs (maxSteps := 10000000) only [go_sem, seval, ↓gA, ↓gB, ↓gC, ↓gD, ↓gE, ↓gF, f_s_reader_one, s_pick_ev bs p _ hb hp, hi, hv]

theorem s_isCut_ev (pO pA pP : Int) (pT : Bool) (pK : List D) : vcall Xs Ms n_s_isCut [.d (.agg [.int .i64 pO, .int .i64 pA, .int .i64 pP, .bool pT, .sl pK])] [] = some ((.d (.bool (decide (pO = 2 ∨ pO = 3)))), []) := by
  refine callE Xs Ms f_s_isCut x_s_isCut (by show 1 ≤ _; decide) ?_
  simp +contextual -implicitDefEqProofs (maxSteps := 10000000) only [go_sem, seval, ↓gA, ↓gB, ↓gC, ↓gD, ↓gE, ↓gF, f_s_isCut]
theorem i_isCut_ev (pO pA pP : Int) (pT : Bool) (pK : List D) : vcall Xs Ms n_i_isCut [.d (.agg [.int .i64 pO, .int .i64 pA, .int .i64 pP, .bool pT, .sl pK])] [] = some ((.d (.bool (decide (pO = 2 ∨ pO = 3)))), []) := by
  refine callE Xs Ms f_i_isCut x_i_isCut (by show 1 ≤ _; decide) ?_
  simp +contextual -implicitDefEqProofs (maxSteps := 10000000) only [go_sem, seval, ↓gA, ↓gB, ↓gC, ↓gD, ↓gE, ↓gF, f_i_isCut]
theorem s_planSize_all : ∀ (n : Nat) (p : Plan), p.nodes ≤ n → vcall Xs Ms n_s_planSize [.d p.enc] [] = some ((.d (.int .i64 (sizeIn 255 (toBT p)))), [])
  | 0, .mk o a p t ks, hn => by simp [Plan.nodes] at hn
  | n + 1, .mk o a p t ks, hn => by
    by_cases ho : o = 2 ∨ o = 3
    · by_cases hk : ks.length = 2
      · obtain ⟨x, hx⟩ := get_lt (l := ks) (k := 0) (by omega)
        obtain ⟨y, hy⟩ := get_lt (l := ks) (k := 1) (by omega)
        have ihx := s_planSize_all n x (nodes_get hn hx)
        have ihy := s_planSize_all n y (nodes_get hn hy)
        rw [toBT_two' ho hk hx hy]
        obtain ⟨lx, hlx⟩ : ∃ l, l = toBT x := ⟨_, rfl⟩
        obtain ⟨ly, hly⟩ : ∃ l, l = toBT y := ⟨_, rfl⟩
        rw [← hlx] at ihx ⊢
        rw [← hly] at ihy ⊢
        have rx := sizeIn_range 255 (by omega) lx
        have ry := sizeIn_range 255 (by omega) ly
        have hk2 : (ks.length : Int) = 2 := by omega
        by_cases hp : p = 0
        · cases t with
          | true =>
            have hb := sizeIn_bad 255 o a p true lx ly (by simp)
            rw [hb]
            refine callE Xs Ms f_s_planSize x_s_planSize (by show 1 ≤ _; decide) ?_
            simp +contextual -implicitDefEqProofs (maxSteps := 10000000) only [go_sem, seval, ↓gA, ↓gB, ↓gC, ↓gD, ↓gE, ↓gF, f_s_planSize, s_isCut_ev, ho, hp]
          | false =>
            subst hp
            rw [sizeIn_cut]
            obtain ⟨sx, hsx⟩ : ∃ s, s = sizeIn 255 lx := ⟨_, rfl⟩
            obtain ⟨sy, hsy⟩ : ∃ s, s = sizeIn 255 ly := ⟨_, rfl⟩
            rw [← hsx] at ihx rx ⊢
            rw [← hsy] at ihy ry ⊢
            have w1 := wi (1 + sx) (by omega) (by omega)
            have w2 := wi (1 + sx + sy) (by omega) (by omega)
            refine callE Xs Ms f_s_planSize x_s_planSize (by show 1 ≤ _; decide) ?_
            simp +contextual -implicitDefEqProofs (maxSteps := 10000000) only [go_sem, seval, ↓gA, ↓gB, ↓gC, ↓gD, ↓gE, ↓gF, f_s_planSize, s_isCut_ev, ho, hk2]
            refine LW_round Xs Ms ?_
            simp +contextual -implicitDefEqProofs (maxSteps := 10000000) only [go_sem, seval, ↓gA, ↓gB, ↓gC, ↓gD, ↓gE, ↓gF, hk2, hx, hy, ihx, ihy, w1, w2]
            intro h
            refine LW_round Xs Ms ?_
            simp +contextual -implicitDefEqProofs (maxSteps := 10000000) only [go_sem, seval, ↓gA, ↓gB, ↓gC, ↓gD, ↓gE, ↓gF, hk2, hx, hy, ihx, ihy, w1, w2, h]
            intro h'
            refine LW_round Xs Ms ?_
            simp +contextual -implicitDefEqProofs (maxSteps := 10000000) only [go_sem, seval, ↓gA, ↓gB, ↓gC, ↓gD, ↓gE, ↓gF, hk2, hx, hy, ihx, ihy, w1, w2, h, h']
        · have hb := sizeIn_bad 255 o a p t lx ly (by simp [hp])
          rw [hb]
          refine callE Xs Ms f_s_planSize x_s_planSize (by show 1 ≤ _; decide) ?_
          simp +contextual -implicitDefEqProofs (maxSteps := 10000000) only [go_sem, seval, ↓gA, ↓gB, ↓gC, ↓gD, ↓gE, ↓gF, f_s_planSize, s_isCut_ev, ho, hp]
      · rw [toBT_not2 _ _ _ _ _ ho hk]
        refine callE Xs Ms f_s_planSize x_s_planSize (by show 1 ≤ _; decide) ?_
        have hk' : ¬ (ks.length : Int) = 2 := by omega
        simp +contextual -implicitDefEqProofs (maxSteps := 10000000) only [go_sem, seval, ↓gA, ↓gB, ↓gC, ↓gD, ↓gE, ↓gF, f_s_planSize, s_isCut_ev, ho, hk', sizeIn]
    · rw [toBT_other ho]
      by_cases h1 : ks.length = 0 ∧ a = 0 ∧ o = 1
      · rw [if_pos h1]
        obtain ⟨h1, rfl, rfl⟩ := h1
        refine callE Xs Ms f_s_planSize x_s_planSize (by show 1 ≤ _; decide) ?_
        simp +contextual -implicitDefEqProofs (maxSteps := 10000000) only [go_sem, seval, ↓gA, ↓gB, ↓gC, ↓gD, ↓gE, ↓gF, f_s_planSize, s_isCut_ev, ho, h1, sizeIn, BT.cnt]
        refine LW_round Xs Ms ?_
        simp +contextual -implicitDefEqProofs (maxSteps := 10000000) only [go_sem, seval, ↓gA, ↓gB, ↓gC, ↓gD, ↓gE, ↓gF, h1]
      · rw [if_neg h1]
        by_cases h2 : ks.length = 0 ∧ a = 0 ∧ o = 0 ∧ p = 0 ∧ t = false
        · rw [if_pos h2]
          obtain ⟨h2, rfl, rfl, rfl, rfl⟩ := h2
          refine callE Xs Ms f_s_planSize x_s_planSize (by show 1 ≤ _; decide) ?_
          simp +contextual -implicitDefEqProofs (maxSteps := 10000000) only [go_sem, seval, ↓gA, ↓gB, ↓gC, ↓gD, ↓gE, ↓gF, f_s_planSize, s_isCut_ev, ho, h2, sizeIn, BT.cnt]
          refine LW_round Xs Ms ?_
          simp +contextual -implicitDefEqProofs (maxSteps := 10000000) only [go_sem, seval, ↓gA, ↓gB, ↓gC, ↓gD, ↓gE, ↓gF, h2]
        · rw [if_neg h2]
          by_cases c1 : ks.length = 0
          · by_cases c2 : a = 0
            · by_cases c3 : o = 1
              · exact absurd ⟨c1, c2, c3⟩ h1
              · by_cases c4 : o = 0
                · by_cases c5 : p = 0
                  · cases t with
                    | false => exact absurd ⟨c1, c2, c4, c5, rfl⟩ h2
                    | true =>
                      refine callE Xs Ms f_s_planSize x_s_planSize (by show 1 ≤ _; decide) ?_
                      simp +contextual -implicitDefEqProofs (maxSteps := 10000000) only [go_sem, seval, ↓gA, ↓gB, ↓gC, ↓gD, ↓gE, ↓gF, f_s_planSize, s_isCut_ev, ho, c1, c2, c3, c4, c5, sizeIn]
                  · refine callE Xs Ms f_s_planSize x_s_planSize (by show 1 ≤ _; decide) ?_
                    simp +contextual -implicitDefEqProofs (maxSteps := 10000000) only [go_sem, seval, ↓gA, ↓gB, ↓gC, ↓gD, ↓gE, ↓gF, f_s_planSize, s_isCut_ev, ho, c1, c2, c3, c4, c5, sizeIn]
                · refine callE Xs Ms f_s_planSize x_s_planSize (by show 1 ≤ _; decide) ?_
                  simp +contextual -implicitDefEqProofs (maxSteps := 10000000) only [go_sem, seval, ↓gA, ↓gB, ↓gC, ↓gD, ↓gE, ↓gF, f_s_planSize, s_isCut_ev, ho, c1, c2, c3, c4, sizeIn]
            · refine callE Xs Ms f_s_planSize x_s_planSize (by show 1 ≤ _; decide) ?_
              simp +contextual -implicitDefEqProofs (maxSteps := 10000000) only [go_sem, seval, ↓gA, ↓gB, ↓gC, ↓gD, ↓gE, ↓gF, f_s_planSize, s_isCut_ev, ho, c1, c2, sizeIn]
          · have c1' : ¬ (ks.length : Int) = 0 := by omega
            refine callE Xs Ms f_s_planSize x_s_planSize (by show 1 ≤ _; decide) ?_
            simp +contextual -implicitDefEqProofs (maxSteps := 10000000) only [go_sem, seval, ↓gA, ↓gB, ↓gC, ↓gD, ↓gE, ↓gF, f_s_planSize, s_isCut_ev, ho, c1', sizeIn]
theorem s_planSize_ev (p : Plan) : vcall Xs Ms n_s_planSize [.d p.enc] [] = some ((.d (.int .i64 (sizeIn 255 (toBT p)))), []) := s_planSize_all _ p (Nat.le_refl _)

theorem s_validPanes_ev (ps : List Pane) (hl : ps.length < 4611686018427387904) : vcall Xs Ms n_s_validPanes [(.d (.sl (ps.map Pane.enc)))] [] = some ((.d (.bool (decide (ps.length ≤ 24 ∧ VPs ps)))), []) := by
  refine callE Xs Ms f_s_validPanes x_s_validPanes (by show 1 ≤ _; decide) ?_
  simp +contextual -implicitDefEqProofs (maxSteps := 10000000) only [go_sem, seval, ↓gA, ↓gB, ↓gC, ↓gD, ↓gE, ↓gF, f_s_validPanes]
  refine LW_over Xs Ms (st0 := ?st0) (α := Nat) (fun k => [(3, .d (.int .i64 (k : Int)))]) (fun _ => []) (fun k => k ≤ ps.length ∧ (VPs ps ↔ VPs (ps.drop k))) (fun k => ps.length - k) 0 ?hc ⟨by omega, by simp⟩ ?h0 ?step
  case hc => simp +contextual -implicitDefEqProofs (maxSteps := 10000000) only [go_sem, seval, ↓gA, ↓gB, ↓gC, ↓gD, ↓gE, ↓gF]; exact rfl
  case h0 => rfl
  case step =>
    intro k ⟨hk, hp⟩ ih
    by_cases hlt : k < ps.length
    · obtain ⟨x, hx⟩ := get_lt hlt
      rw [VPs_drop hx] at hp
      have hw := wrap_succ (k := k) (by omega)
      simp +contextual -implicitDefEqProofs (maxSteps := 10000000) only [go_sem, seval, ↓gA, ↓gB, ↓gC, ↓gD, ↓gE, ↓gF, hx, hlt, hw, s_validPane_ev]
      refine ⟨fun h => fin_f (fun hh => h (hp.1 hh.2).1), fun h => ih (k + 1) _ ⟨by omega, ?_⟩ (by omega) ?_⟩
      · rw [hp]; exact ⟨fun hh => hh.2, fun hh => ⟨h, hh⟩⟩
      · simp +contextual -implicitDefEqProofs (maxSteps := 10000000) only [go_sem, seval, ↓gA, ↓gB, ↓gC, ↓gD, ↓gE, ↓gF]
    · have : k = ps.length := by omega
      subst this
      simp +contextual -implicitDefEqProofs (maxSteps := 10000000) only [go_sem, seval, ↓gA, ↓gB, ↓gC, ↓gD, ↓gE, ↓gF]
      have hv : VPs ps := hp.2 (by simp [VPs])
      exact fin_b ⟨fun h => ⟨by omega, hv⟩, fun h => by omega⟩
theorem s_validWork_ev (kW : Int) (kH : Int) (kP : List Pane) (hl : kP.length < 4611686018427387904) : vcall Xs Ms n_s_validWork [(.d (.agg [.int .i64 kW, .int .i64 kH, .sl (kP.map Pane.enc)]))] [] = some ((.d (.bool (decide (VW (Work.mk kW kH kP))))), []) := by
  refine callE Xs Ms f_s_validWork x_s_validWork (by show 1 ≤ _; decide) ?_
  simp +contextual -implicitDefEqProofs (maxSteps := 10000000) only [go_sem, seval, ↓gA, ↓gB, ↓gC, ↓gD, ↓gE, ↓gF, f_s_validWork, s_inRange_ev, s_validPanes_ev kP hl]
  exact fin_b (by simp only [VW, and_assoc])
theorem i_ValidWork_ev (kW : Int) (kH : Int) (kP : List Pane) : vcall Xs Ms n_i_ValidWork [(.d (.agg [.int .i64 kW, .int .i64 kH, .sl (kP.map Pane.enc)]))] [] = some ((.d (.bool (decide (VW (Work.mk kW kH kP))))), []) := by
  refine callE Xs Ms f_i_ValidWork x_i_ValidWork (by show 1 ≤ _; decide) ?_
  by_cases h0 : ((((kW < 1 ∨ 200 < kW) ∨ kH < 1) ∨ 200 < kH) ∨ (24 : Int) < kP.length)
  · simp +contextual -implicitDefEqProofs (maxSteps := 10000000) only [go_sem, seval, ↓gA, ↓gB, ↓gC, ↓gD, ↓gE, ↓gF, f_i_ValidWork, h0]
    exact fin_f (by simp only [VW]; omega)
  · simp +contextual -implicitDefEqProofs (maxSteps := 10000000) only [go_sem, seval, ↓gA, ↓gB, ↓gC, ↓gD, ↓gE, ↓gF, f_i_ValidWork, h0]
    refine LW_over Xs Ms (st0 := ?st0) (α := Nat) (fun k => [(32, .d (.int .i64 (k : Int)))]) (fun _ => []) (fun k => k ≤ kP.length ∧ (VPs kP ↔ VPs (kP.drop k))) (fun k => kP.length - k) 0 ?hc ⟨by omega, by simp⟩ ?h0 ?step
    case hc => simp +contextual -implicitDefEqProofs (maxSteps := 10000000) only [go_sem, seval, ↓gA, ↓gB, ↓gC, ↓gD, ↓gE, ↓gF]; exact rfl
    case h0 => rfl
    case step =>
      intro k ⟨hk, hp⟩ ih
      by_cases hlt : k < kP.length
      · obtain ⟨x, hx⟩ := get_lt hlt
        rw [VPs_drop hx] at hp
        have hw := wrap_succ (k := k) (by omega)
        simp +contextual -implicitDefEqProofs (maxSteps := 10000000) only [go_sem, seval, ↓gA, ↓gB, ↓gC, ↓gD, ↓gE, ↓gF, hx, hlt, hw, i_ValidPane_ev]
        refine ⟨fun h => fin_f (fun hh => h (hp.1 hh.2.2.2.2.2).1), fun h => ih (k + 1) _ ⟨by omega, ?_⟩ (by omega) ?_⟩
        · rw [hp]; exact ⟨fun hh => hh.2, fun hh => ⟨h, hh⟩⟩
        · simp +contextual -implicitDefEqProofs (maxSteps := 10000000) only [go_sem, seval, ↓gA, ↓gB, ↓gC, ↓gD, ↓gE, ↓gF, h0]
      · have : k = kP.length := by omega
        subst this
        simp +contextual -implicitDefEqProofs (maxSteps := 10000000) only [go_sem, seval, ↓gA, ↓gB, ↓gC, ↓gD, ↓gE, ↓gF]
        have hv : VPs kP := hp.2 (by simp [VPs])
        exact fin_t (by simp only [VW]; exact ⟨by omega, by omega, by omega, by omega, by omega, hv⟩)
theorem i_countParts_all : ∀ (n : Nat) (p : Plan), p.nodes ≤ n → ∀ m : Int, -10 ≤ m → m ≤ 255 → vcall Xs Ms n_i_countParts [.d p.enc, (.d (.int .i64 (m)))] [] = some ((.d (.int .i64 (sizeIn m (toBT p)))), [])
  | 0, .mk o a p t ks, hn, m, _, _ => by simp [Plan.nodes] at hn
  | n + 1, .mk o a p t ks, hn, m, hm1, hm2 => by
    by_cases hm : m < 1
    · rw [sizeIn_low hm]
      refine callE Xs Ms f_i_countParts x_i_countParts (by show 2 ≤ _; decide) ?_
      simp +contextual -implicitDefEqProofs (maxSteps := 10000000) only [go_sem, seval, ↓gA, ↓gB, ↓gC, ↓gD, ↓gE, ↓gF, f_i_countParts, hm]
    by_cases ho : o = 2 ∨ o = 3
    · have ho0 : ¬ o = 0 := by omega
      have ho1 : ¬ o = 1 := by omega
      by_cases hk : ks.length = 2
      · obtain ⟨x, hx⟩ := get_lt (l := ks) (k := 0) (by omega)
        obtain ⟨y, hy⟩ := get_lt (l := ks) (k := 1) (by omega)
        rw [toBT_two' ho hk hx hy]
        have hk2 : (ks.length : Int) = 2 := by omega
        by_cases hp : p = 0
        · cases t with
          | true =>
            have hb := sizeIn_bad m o a p true (toBT x) (toBT y) (by simp)
            rw [hb]
            refine callE Xs Ms f_i_countParts x_i_countParts (by show 2 ≤ _; decide) ?_
            rcases ho with ho | ho <;> simp +contextual -implicitDefEqProofs (maxSteps := 10000000) only [go_sem, seval, ↓gA, ↓gB, ↓gC, ↓gD, ↓gE, ↓gF, f_i_countParts, ho, hp, hm, hk2]
          | false =>
            subst hp
            rw [sizeIn_cut2]
            have ihx := i_countParts_all n x (nodes_get hn hx) (m - 1) (by omega) (by omega)
            have rx := sizeIn_range (m - 1) (by omega) (toBT x)
            have ihy := i_countParts_all n y (nodes_get hn hy) (m - 1 - sizeIn (m - 1) (toBT x)) (by omega) (by omega)
            have ry := sizeIn_range (m - 1 - sizeIn (m - 1) (toBT x)) (by omega) (toBT y)
            obtain ⟨sy, hsy⟩ : ∃ s, s = sizeIn (m - 1 - sizeIn (m - 1) (toBT x)) (toBT y) := ⟨_, rfl⟩
            rw [← hsy] at ihy ry ⊢
            obtain ⟨sx, hsx⟩ : ∃ s, s = sizeIn (m - 1) (toBT x) := ⟨_, rfl⟩
            rw [← hsx] at ihx ihy rx ry ⊢
            clear hsx hsy
            have w0 := wi (m - 1) (by omega) (by omega)
            have w1 := wi (m - 1 - sx) (by omega) (by omega)
            have w2 := wi (1 + sx) (by omega) (by omega)
            have w3 := wi (1 + sx + sy) (by omega) (by omega)
            refine callE Xs Ms f_i_countParts x_i_countParts (by show 2 ≤ _; decide) ?_
            rcases ho with ho | ho <;> simp +contextual -implicitDefEqProofs (maxSteps := 10000000) only [go_sem, seval, ↓gA, ↓gB, ↓gC, ↓gD, ↓gE, ↓gF, f_i_countParts, ho, hm, hk2, hx, hy, ihx, ihy, w0, w1, w2, w3]
        · have hb := sizeIn_bad m o a p t (toBT x) (toBT y) (by simp [hp])
          rw [hb]
          refine callE Xs Ms f_i_countParts x_i_countParts (by show 2 ≤ _; decide) ?_
          rcases ho with ho | ho <;> simp +contextual -implicitDefEqProofs (maxSteps := 10000000) only [go_sem, seval, ↓gA, ↓gB, ↓gC, ↓gD, ↓gE, ↓gF, f_i_countParts, ho, hp, hm, hk2]
      · rw [toBT_not2 _ _ _ _ _ ho hk]
        have hk' : ¬ (ks.length : Int) = 2 := by omega
        refine callE Xs Ms f_i_countParts x_i_countParts (by show 2 ≤ _; decide) ?_
        rcases ho with ho | ho <;> simp +contextual -implicitDefEqProofs (maxSteps := 10000000) only [go_sem, seval, ↓gA, ↓gB, ↓gC, ↓gD, ↓gE, ↓gF, f_i_countParts, ho, hk', hm, sizeIn]
    · rw [toBT_other ho]
      have h2' : ¬ o = 2 := by omega
      have h3' : ¬ o = 3 := by omega
      have hm' : (1 : Int) ≤ m := by omega
      by_cases h1 : ks.length = 0 ∧ a = 0 ∧ o = 1
      · rw [if_pos h1]
        obtain ⟨h1, rfl, rfl⟩ := h1
        refine callE Xs Ms f_i_countParts x_i_countParts (by show 2 ≤ _; decide) ?_
        simp +contextual -implicitDefEqProofs (maxSteps := 10000000) only [go_sem, seval, ↓gA, ↓gB, ↓gC, ↓gD, ↓gE, ↓gF, f_i_countParts, h1, hm, sizeIn, BT.cnt, hm']
      · rw [if_neg h1]
        by_cases h2 : ks.length = 0 ∧ a = 0 ∧ o = 0 ∧ p = 0 ∧ t = false
        · rw [if_pos h2]
          obtain ⟨h2, rfl, rfl, rfl, rfl⟩ := h2
          refine callE Xs Ms f_i_countParts x_i_countParts (by show 2 ≤ _; decide) ?_
          simp +contextual -implicitDefEqProofs (maxSteps := 10000000) only [go_sem, seval, ↓gA, ↓gB, ↓gC, ↓gD, ↓gE, ↓gF, f_i_countParts, h2, hm, sizeIn, BT.cnt, hm']
        · rw [if_neg h2]
          by_cases c1 : ks.length = 0
          · by_cases c2 : a = 0
            · by_cases c3 : o = 1
              · exact absurd ⟨c1, c2, c3⟩ h1
              · by_cases c4 : o = 0
                · by_cases c5 : p = 0
                  · cases t with
                    | false => exact absurd ⟨c1, c2, c4, c5, rfl⟩ h2
                    | true =>
                      refine callE Xs Ms f_i_countParts x_i_countParts (by show 2 ≤ _; decide) ?_
                      simp +contextual -implicitDefEqProofs (maxSteps := 10000000) only [go_sem, seval, ↓gA, ↓gB, ↓gC, ↓gD, ↓gE, ↓gF, f_i_countParts, hm, c1, c2, c3, c4, c5, sizeIn]
                  · refine callE Xs Ms f_i_countParts x_i_countParts (by show 2 ≤ _; decide) ?_
                    simp +contextual -implicitDefEqProofs (maxSteps := 10000000) only [go_sem, seval, ↓gA, ↓gB, ↓gC, ↓gD, ↓gE, ↓gF, f_i_countParts, hm, c1, c2, c3, c4, c5, sizeIn]
                · refine callE Xs Ms f_i_countParts x_i_countParts (by show 2 ≤ _; decide) ?_
                  simp +contextual -implicitDefEqProofs (maxSteps := 10000000) only [go_sem, seval, ↓gA, ↓gB, ↓gC, ↓gD, ↓gE, ↓gF, f_i_countParts, hm, c1, c2, c3, c4, h2', h3', sizeIn]
            · refine callE Xs Ms f_i_countParts x_i_countParts (by show 2 ≤ _; decide) ?_
              by_cases c3 : o = 1
              · simp +contextual -implicitDefEqProofs (maxSteps := 10000000) only [go_sem, seval, ↓gA, ↓gB, ↓gC, ↓gD, ↓gE, ↓gF, f_i_countParts, hm, c1, c2, c3, sizeIn]
              · by_cases c4 : o = 0
                · simp +contextual -implicitDefEqProofs (maxSteps := 10000000) only [go_sem, seval, ↓gA, ↓gB, ↓gC, ↓gD, ↓gE, ↓gF, f_i_countParts, hm, c1, c2, c3, c4, sizeIn]
                · simp +contextual -implicitDefEqProofs (maxSteps := 10000000) only [go_sem, seval, ↓gA, ↓gB, ↓gC, ↓gD, ↓gE, ↓gF, f_i_countParts, hm, c1, c2, c3, c4, h2', h3', sizeIn]
          · have c1' : ¬ (ks.length : Int) = 0 := by omega
            refine callE Xs Ms f_i_countParts x_i_countParts (by show 2 ≤ _; decide) ?_
            by_cases c3 : o = 1
            · simp +contextual -implicitDefEqProofs (maxSteps := 10000000) only [go_sem, seval, ↓gA, ↓gB, ↓gC, ↓gD, ↓gE, ↓gF, f_i_countParts, hm, c1', c3, sizeIn]
            · by_cases c4 : o = 0
              · simp +contextual -implicitDefEqProofs (maxSteps := 10000000) only [go_sem, seval, ↓gA, ↓gB, ↓gC, ↓gD, ↓gE, ↓gF, f_i_countParts, hm, c1', c3, c4, sizeIn]
              · simp +contextual -implicitDefEqProofs (maxSteps := 10000000) only [go_sem, seval, ↓gA, ↓gB, ↓gC, ↓gD, ↓gE, ↓gF, f_i_countParts, hm, c1', c3, c4, h2', h3', sizeIn]
theorem i_PlanSize_ev (p : Plan) : vcall Xs Ms n_i_PlanSize [.d p.enc] [] = some ((.d (.int .i64 (sizeIn 255 (toBT p)))), []) := by
  have h := i_countParts_all _ p (Nat.le_refl _) 255 (by omega) (by omega)
  obtain ⟨o, a, q, t, ks⟩ := p
  rw [Plan.enc_mk] at h ⊢
  refine callE Xs Ms f_i_PlanSize x_i_PlanSize (by show 1 ≤ _; decide) ?_
  simp +contextual -implicitDefEqProofs (maxSteps := 10000000) only [go_sem, seval, ↓gA, ↓gB, ↓gC, ↓gD, ↓gE, ↓gF, f_i_PlanSize, h]

theorem i_sheetOf_ev (kW : Int) (kH : Int) (kP : List Pane) : vcall Xs Ms n_i_sheetOf [(.d (.agg [.int .i64 kW, .int .i64 kH, .sl (kP.map Pane.enc)]))] [] = some (.d (.agg [.int .i64 0, .int .i64 0, .int .i64 kW, .int .i64 kH]), []) := by
  refine callE Xs Ms f_i_sheetOf x_i_sheetOf (by show 1 ≤ _; decide) ?_
  simp +contextual -implicitDefEqProofs (maxSteps := 10000000) only [go_sem, seval, ↓gA, ↓gB, ↓gC, ↓gD, ↓gE, ↓gF, f_i_sheetOf]
theorem paneFits_some {ps : List Pane} {i : Int} {t : Bool} {w h : Int} {k : Nat} {q : Pane} (hi : i = (k : Int)) (hq : ps[k]? = some q) : paneFits ps i t w h = if t then q.Turns && decide (¬ q.W = q.H) && decide (q.H = w) && decide (q.W = h) else decide (q.W = w ∧ q.H = h) := by
  subst hi
  simp [paneFits, hq]
theorem paneFits_out {ps : List Pane} {i : Int} {t : Bool} {w h : Int} (hi : i < 0 ∨ (ps.length : Int) ≤ i) : paneFits ps i t w h = false := by
  unfold paneFits
  rcases hi with hi | hi
  · have : ¬ 0 ≤ i := by omega
    simp [this]
  · have : ps[i.toNat]? = none := List.getElem?_eq_none (by omega)
    simp [this]
theorem i_paneFills_ev (kW : Int) (kH : Int) (kP : List Pane) (i : Int) (t : Bool) (w h : Int) : vcall Xs Ms n_i_paneFills [(.d (.agg [.int .i64 kW, .int .i64 kH, .sl (kP.map Pane.enc)])), (.d (.int .i64 (i))), (.d (.bool (t))), (.d (.int .i64 (w))), (.d (.int .i64 (h)))] [] = some ((.d (.bool (paneFits kP i t w h))), []) := by
  by_cases h0 : i < 0
  · rw [paneFits_out (.inl h0)]
    refine callE Xs Ms f_i_paneFills x_i_paneFills (by show 5 ≤ _; decide) ?_
    simp +contextual -implicitDefEqProofs (maxSteps := 10000000) only [go_sem, seval, ↓gA, ↓gB, ↓gC, ↓gD, ↓gE, ↓gF, f_i_paneFills, h0]
  · by_cases h1 : (kP.length : Int) ≤ i
    · rw [paneFits_out (.inr h1)]
      refine callE Xs Ms f_i_paneFills x_i_paneFills (by show 5 ≤ _; decide) ?_
      simp +contextual -implicitDefEqProofs (maxSteps := 10000000) only [go_sem, seval, ↓gA, ↓gB, ↓gC, ↓gD, ↓gE, ↓gF, f_i_paneFills, h0, h1]
    · obtain ⟨n, rfl⟩ : ∃ n : Nat, i = (n : Int) := ⟨i.toNat, by omega⟩
      obtain ⟨q, hq⟩ := get_lt (l := kP) (k := n) (by omega)
      have hn : ¬ kP.length ≤ n := by omega
      have hn' : n < kP.length := by omega
      have hn0 : ¬ (n : Int) < 0 := by omega
      rw [paneFits_some rfl hq]
      refine callE Xs Ms f_i_paneFills x_i_paneFills (by show 5 ≤ _; decide) ?_
      cases t
      · simp +contextual -implicitDefEqProofs (maxSteps := 10000000) only [go_sem, seval, ↓gA, ↓gB, ↓gC, ↓gD, ↓gE, ↓gF, f_i_paneFills, hn0, hn, hq, hn']
      · simp +contextual -implicitDefEqProofs (maxSteps := 10000000) only [go_sem, seval, ↓gA, ↓gB, ↓gC, ↓gD, ↓gE, ↓gF, f_i_paneFills, hn0, hn, hq, hn']
theorem i_splitBox_down (o a p : Int) (t : Bool) (ks : List D) (gX : Int) (gY : Int) (gW : Int) (gH : Int) (ho : o = 2) (h1 : R64 (gX + a)) (h2 : R64 (gW - a)) : vcall Xs Ms n_i_splitBox [.d (.agg [.int .i64 o, .int .i64 a, .int .i64 p, .bool t, .sl ks]), (.d (.agg [.int .i64 gX, .int .i64 gY, .int .i64 gW, .int .i64 gH]))] [] =
    some (.tup [.d (.agg [.int .i64 gX, .int .i64 gY, .int .i64 a, .int .i64 gH]), .d (.agg [.int .i64 (gX + a), .int .i64 gY, .int .i64 (gW - a), .int .i64 gH])], []) := by
  have w1 := wi (gX + a) h1.1 h1.2
  have w2 := wi (gW - a) h2.1 h2.2
  refine callE Xs Ms f_i_splitBox x_i_splitBox (by show 2 ≤ _; decide) ?_
  simp +contextual -implicitDefEqProofs (maxSteps := 10000000) only [go_sem, seval, ↓gA, ↓gB, ↓gC, ↓gD, ↓gE, ↓gF, f_i_splitBox, ho, w1, w2]
theorem i_splitBox_across (o a p : Int) (t : Bool) (ks : List D) (gX : Int) (gY : Int) (gW : Int) (gH : Int) (ho : ¬ o = 2) (h1 : R64 (gY + a)) (h2 : R64 (gH - a)) : vcall Xs Ms n_i_splitBox [.d (.agg [.int .i64 o, .int .i64 a, .int .i64 p, .bool t, .sl ks]), (.d (.agg [.int .i64 gX, .int .i64 gY, .int .i64 gW, .int .i64 gH]))] [] =
    some (.tup [.d (.agg [.int .i64 gX, .int .i64 gY, .int .i64 gW, .int .i64 a]), .d (.agg [.int .i64 gX, .int .i64 (gY + a), .int .i64 gW, .int .i64 (gH - a)])], []) := by
  have w1 := wi (gY + a) h1.1 h1.2
  have w2 := wi (gH - a) h2.1 h2.2
  refine callE Xs Ms f_i_splitBox x_i_splitBox (by show 2 ≤ _; decide) ?_
  simp +contextual -implicitDefEqProofs (maxSteps := 10000000) only [go_sem, seval, ↓gA, ↓gB, ↓gC, ↓gD, ↓gE, ↓gF, f_i_splitBox, ho, w1, w2]
def inB (g : Box) : Prop := 0 ≤ g.X ∧ 0 ≤ g.Y ∧ 0 ≤ g.W ∧ 0 ≤ g.H ∧ g.X + g.W ≤ 1000 ∧ g.Y + g.H ≤ 1000
theorem i_planFits_ev (kW : Int) (kH : Int) (kP : List Pane) : ∀ (b : BT) (gX : Int) (gY : Int) (gW : Int) (gH : Int), inB (Box.mk gX gY gW gH) → vcall Xs Ms n_i_planFits [(.d (.agg [.int .i64 kW, .int .i64 kH, .sl (kP.map Pane.enc)])), .d b.plan.enc, (.d (.agg [.int .i64 gX, .int .i64 gY, .int .i64 gW, .int .i64 gH]))] [] = some ((.d (.bool (fits kP b gW gH))), [])
  | .waste, gX, gY, gW, gH, hg => by
    simp only [BT.plan, Plan.enc_mk]
    refine callE Xs Ms f_i_planFits x_i_planFits (by show 3 ≤ _; decide) ?_
    simp +contextual -implicitDefEqProofs (maxSteps := 10000000) only [go_sem, seval, ↓gA, ↓gB, ↓gC, ↓gD, ↓gE, ↓gF, f_i_planFits, fits]
  | .pane i t, gX, gY, gW, gH, hg => by
    simp only [BT.plan, Plan.enc_mk]
    refine callE Xs Ms f_i_planFits x_i_planFits (by show 3 ≤ _; decide) ?_
    simp +contextual -implicitDefEqProofs (maxSteps := 10000000) only [go_sem, seval, ↓gA, ↓gB, ↓gC, ↓gD, ↓gE, ↓gF, f_i_planFits, i_paneFills_ev, fits]
  | .cut d a l r, gX, gY, gW, gH, hg => by
    simp only [inB] at hg
    simp only [BT.plan, Plan.enc_mk]
    cases d with
    | true =>
      by_cases h1 : a < 1
      · have h2 : ¬ (1 ≤ a ∧ a ≤ gW - 1) := by omega
        refine callE Xs Ms f_i_planFits x_i_planFits (by show 3 ≤ _; decide) ?_
        simp +contextual -implicitDefEqProofs (maxSteps := 10000000) only [go_sem, seval, ↓gA, ↓gB, ↓gC, ↓gD, ↓gE, ↓gF, f_i_planFits, fits, opOf, h1, h2]
      · by_cases h2 : gW ≤ a
        · have h3 : ¬ (1 ≤ a ∧ a ≤ gW - 1) := by omega
          refine callE Xs Ms f_i_planFits x_i_planFits (by show 3 ≤ _; decide) ?_
          simp +contextual -implicitDefEqProofs (maxSteps := 10000000) only [go_sem, seval, ↓gA, ↓gB, ↓gC, ↓gD, ↓gE, ↓gF, f_i_planFits, fits, opOf, h1, h2, h3]
        · have h3 : 1 ≤ a ∧ a ≤ gW - 1 := by omega
          have e0 := i_splitBox_down 2 a 0 false [l.plan.enc, r.plan.enc] gX gY gW gH rfl ⟨by omega, by omega⟩ ⟨by omega, by omega⟩
          have e1 := i_planFits_ev kW kH kP l gX gY a gH (by simp only [inB]; omega)
          have e2 := i_planFits_ev kW kH kP r (gX + a) gY (gW - a) gH (by simp only [inB]; omega)
          refine callE Xs Ms f_i_planFits x_i_planFits (by show 3 ≤ _; decide) ?_
          simp +contextual -implicitDefEqProofs (maxSteps := 10000000) only [go_sem, seval, ↓gA, ↓gB, ↓gC, ↓gD, ↓gE, ↓gF, f_i_planFits, fits, opOf, h1, h2, h3, e0, e1, e2]
    | false =>
      by_cases h1 : a < 1
      · have h2 : ¬ (1 ≤ a ∧ a ≤ gH - 1) := by omega
        refine callE Xs Ms f_i_planFits x_i_planFits (by show 3 ≤ _; decide) ?_
        simp +contextual -implicitDefEqProofs (maxSteps := 10000000) only [go_sem, seval, ↓gA, ↓gB, ↓gC, ↓gD, ↓gE, ↓gF, f_i_planFits, fits, opOf, h1, h2]
      · by_cases h2 : gH ≤ a
        · have h3 : ¬ (1 ≤ a ∧ a ≤ gH - 1) := by omega
          refine callE Xs Ms f_i_planFits x_i_planFits (by show 3 ≤ _; decide) ?_
          simp +contextual -implicitDefEqProofs (maxSteps := 10000000) only [go_sem, seval, ↓gA, ↓gB, ↓gC, ↓gD, ↓gE, ↓gF, f_i_planFits, fits, opOf, h1, h2, h3]
        · have h3 : 1 ≤ a ∧ a ≤ gH - 1 := by omega
          have e0 := i_splitBox_across 3 a 0 false [l.plan.enc, r.plan.enc] gX gY gW gH (by decide) ⟨by omega, by omega⟩ ⟨by omega, by omega⟩
          have e1 := i_planFits_ev kW kH kP l gX gY gW a (by simp only [inB]; omega)
          have e2 := i_planFits_ev kW kH kP r gX (gY + a) gW (gH - a) (by simp only [inB]; omega)
          refine callE Xs Ms f_i_planFits x_i_planFits (by show 3 ≤ _; decide) ?_
          simp +contextual -implicitDefEqProofs (maxSteps := 10000000) only [go_sem, seval, ↓gA, ↓gB, ↓gC, ↓gD, ↓gE, ↓gF, f_i_planFits, fits, opOf, h1, h2, h3, e0, e1, e2]
theorem s_fitsPlan_pane (kW : Int) (kH : Int) (kP : List Pane) (i : Int) (t : Bool) (w h : Int) (hl : kP.length < 4611686018427387904) : vcall Xs Ms n_s_fitsPlan [(.d (.agg [.int .i64 kW, .int .i64 kH, .sl (kP.map Pane.enc)])), .d (BT.pane i t).plan.enc, (.d (.int .i64 (w))), (.d (.int .i64 (h)))] [] = some ((.d (.bool (paneFits kP i t w h))), []) := by
  have hw := wi ((kP.length : Int) - 1) (by omega) (by omega)
  simp only [BT.plan, Plan.enc_mk]
  by_cases h0 : 0 ≤ i ∧ i ≤ (kP.length : Int) - 1
  · obtain ⟨n, rfl⟩ : ∃ n : Nat, i = (n : Int) := ⟨i.toNat, by omega⟩
    obtain ⟨q, hq⟩ := get_lt (l := kP) (k := n) (by omega)
    rw [paneFits_some rfl hq]
    refine callE Xs Ms f_s_fitsPlan x_s_fitsPlan (by show 4 ≤ _; decide) ?_
    cases t
    · simp +contextual -implicitDefEqProofs (maxSteps := 10000000) only [go_sem, seval, ↓gA, ↓gB, ↓gC, ↓gD, ↓gE, ↓gF, f_s_fitsPlan, s_inRange_ev, h0, hw, hq]
    · simp +contextual -implicitDefEqProofs (maxSteps := 10000000) only [go_sem, seval, ↓gA, ↓gB, ↓gC, ↓gD, ↓gE, ↓gF, f_s_fitsPlan, s_inRange_ev, h0, hw, hq]
  · rw [paneFits_out (by omega)]
    refine callE Xs Ms f_s_fitsPlan x_s_fitsPlan (by show 4 ≤ _; decide) ?_
    simp +contextual -implicitDefEqProofs (maxSteps := 10000000) only [go_sem, seval, ↓gA, ↓gB, ↓gC, ↓gD, ↓gE, ↓gF, f_s_fitsPlan, s_inRange_ev, h0, hw]
theorem s_fitsPlan_ev (kW : Int) (kH : Int) (kP : List Pane) (hl : kP.length < 4611686018427387904) : ∀ (b : BT) (w h : Int), 0 ≤ w → w ≤ 1000 → 0 ≤ h → h ≤ 1000 → vcall Xs Ms n_s_fitsPlan [(.d (.agg [.int .i64 kW, .int .i64 kH, .sl (kP.map Pane.enc)])), .d b.plan.enc, (.d (.int .i64 (w))), (.d (.int .i64 (h)))] [] = some ((.d (.bool (fits kP b w h))), [])
  | .waste, w, h, hw0, hw1, hh0, hh1 => by
    simp only [BT.plan, Plan.enc_mk]
    refine callE Xs Ms f_s_fitsPlan x_s_fitsPlan (by show 4 ≤ _; decide) ?_
    simp +contextual -implicitDefEqProofs (maxSteps := 10000000) only [go_sem, seval, ↓gA, ↓gB, ↓gC, ↓gD, ↓gE, ↓gF, f_s_fitsPlan, fits]
  | .pane i t, w, h, hw0, hw1, hh0, hh1 => s_fitsPlan_pane kW kH kP i t w h hl
  | .cut d a l r, w, h, hw0, hw1, hh0, hh1 => by
    have w1 := wi (w - 1) (by omega) (by omega)
    have w2 := wi (h - 1) (by omega) (by omega)
    simp only [BT.plan, Plan.enc_mk]
    cases d with
    | true =>
      by_cases h3 : 1 ≤ a ∧ a ≤ w - 1
      · have w3 := wi (w - a) (by omega) (by omega)
        have e1 := s_fitsPlan_ev kW kH kP hl l a h (by omega) (by omega) hh0 hh1
        have e2 := s_fitsPlan_ev kW kH kP hl r (w - a) h (by omega) (by omega) hh0 hh1
        refine callE Xs Ms f_s_fitsPlan x_s_fitsPlan (by show 4 ≤ _; decide) ?_
        simp +contextual -implicitDefEqProofs (maxSteps := 10000000) only [go_sem, seval, ↓gA, ↓gB, ↓gC, ↓gD, ↓gE, ↓gF, f_s_fitsPlan, fits, opOf, h3, s_inRange_ev, w1, w2, w3, e1, e2]
      · refine callE Xs Ms f_s_fitsPlan x_s_fitsPlan (by show 4 ≤ _; decide) ?_
        simp +contextual -implicitDefEqProofs (maxSteps := 10000000) only [go_sem, seval, ↓gA, ↓gB, ↓gC, ↓gD, ↓gE, ↓gF, f_s_fitsPlan, fits, opOf, h3, s_inRange_ev, w1, w2]
    | false =>
      by_cases h3 : 1 ≤ a ∧ a ≤ h - 1
      · have w3 := wi (h - a) (by omega) (by omega)
        have e1 := s_fitsPlan_ev kW kH kP hl l w a hw0 hw1 (by omega) (by omega)
        have e2 := s_fitsPlan_ev kW kH kP hl r w (h - a) hw0 hw1 (by omega) (by omega)
        refine callE Xs Ms f_s_fitsPlan x_s_fitsPlan (by show 4 ≤ _; decide) ?_
        simp +contextual -implicitDefEqProofs (maxSteps := 10000000) only [go_sem, seval, ↓gA, ↓gB, ↓gC, ↓gD, ↓gE, ↓gF, f_s_fitsPlan, fits, opOf, h3, s_inRange_ev, w1, w2, w3, e1, e2]
      · refine callE Xs Ms f_s_fitsPlan x_s_fitsPlan (by show 4 ≤ _; decide) ?_
        simp +contextual -implicitDefEqProofs (maxSteps := 10000000) only [go_sem, seval, ↓gA, ↓gB, ↓gC, ↓gD, ↓gE, ↓gF, f_s_fitsPlan, fits, opOf, h3, s_inRange_ev, w1, w2]
theorem i_ValidPlan_ev (kW : Int) (kH : Int) (kP : List Pane) (p : Plan) : vcall Xs Ms n_i_ValidPlan [(.d (.agg [.int .i64 kW, .int .i64 kH, .sl (kP.map Pane.enc)])), .d p.enc] [] = some ((.d (.bool (vplan (Work.mk kW kH kP) p))), []) := by
  have hs := i_PlanSize_ev p
  unfold vplan
  cases hb : toBT p with
  | none =>
    obtain ⟨o, a, q, t, ks⟩ := p
    rw [hb] at hs
    rw [Plan.enc_mk] at hs ⊢
    refine callE Xs Ms f_i_ValidPlan x_i_ValidPlan (by show 2 ≤ _; decide) ?_
    simp +contextual -implicitDefEqProofs (maxSteps := 10000000) only [go_sem, seval, ↓gA, ↓gB, ↓gC, ↓gD, ↓gE, ↓gF, f_i_ValidPlan, i_ValidWork_ev, hs, sizeIn]
  | some b =>
    have hp := toBT_some hb
    rw [hb] at hs
    have hc := b.cnt_pos
    have hz := sizeIn_some 255 b
    by_cases hv : VW (Work.mk kW kH kP)
    · have hv' := hv
      simp only [VW] at hv'
      have hf := i_planFits_ev kW kH kP b 0 0 kW kH (by simp only [inB]; omega)
      rw [← hp] at hf
      obtain ⟨o, a, q, t, ks⟩ := p
      rw [Plan.enc_mk] at hs hf ⊢
      by_cases h2 : b.cnt ≤ 255
      · have h3 : sizeIn 255 (some b) = b.cnt := by omega
        have h4 : (0 : Int) < b.cnt := by omega
        rw [h3] at hs
        refine callE Xs Ms f_i_ValidPlan x_i_ValidPlan (by show 2 ≤ _; decide) ?_
        simp +contextual -implicitDefEqProofs (maxSteps := 10000000) only [go_sem, seval, ↓gA, ↓gB, ↓gC, ↓gD, ↓gE, ↓gF, f_i_ValidPlan, i_ValidWork_ev, i_sheetOf_ev, hs, hf, hv, h2, h4]
      · have h3 : sizeIn 255 (some b) = -1 := by omega
        rw [h3] at hs
        refine callE Xs Ms f_i_ValidPlan x_i_ValidPlan (by show 2 ≤ _; decide) ?_
        simp +contextual -implicitDefEqProofs (maxSteps := 10000000) only [go_sem, seval, ↓gA, ↓gB, ↓gC, ↓gD, ↓gE, ↓gF, f_i_ValidPlan, i_ValidWork_ev, hs, hv, h2]
    · obtain ⟨o, a, q, t, ks⟩ := p
      rw [Plan.enc_mk] at hs ⊢
      refine callE Xs Ms f_i_ValidPlan x_i_ValidPlan (by show 2 ≤ _; decide) ?_
      simp +contextual -implicitDefEqProofs (maxSteps := 10000000) only [go_sem, seval, ↓gA, ↓gB, ↓gC, ↓gD, ↓gE, ↓gF, f_i_ValidPlan, i_ValidWork_ev, hs, hv]
theorem s_validPlan_ev (kW : Int) (kH : Int) (kP : List Pane) (p : Plan) (hl : kP.length < 4611686018427387904) : vcall Xs Ms n_s_validPlan [(.d (.agg [.int .i64 kW, .int .i64 kH, .sl (kP.map Pane.enc)])), .d p.enc] [] = some ((.d (.bool (vplan (Work.mk kW kH kP) p))), []) := by
  have hs := s_planSize_ev p
  unfold vplan
  cases hb : toBT p with
  | none =>
    obtain ⟨o, a, q, t, ks⟩ := p
    rw [hb] at hs
    rw [Plan.enc_mk] at hs ⊢
    refine callE Xs Ms f_s_validPlan x_s_validPlan (by show 2 ≤ _; decide) ?_
    simp +contextual -implicitDefEqProofs (maxSteps := 10000000) only [go_sem, seval, ↓gA, ↓gB, ↓gC, ↓gD, ↓gE, ↓gF, f_s_validPlan, s_validWork_ev kW kH kP hl, hs, sizeIn]
  | some b =>
    have hp := toBT_some hb
    rw [hb] at hs
    have hc := b.cnt_pos
    have hz := sizeIn_some 255 b
    by_cases hv : VW (Work.mk kW kH kP)
    · have hv' := hv
      simp only [VW] at hv'
      have hf := s_fitsPlan_ev kW kH kP hl b kW kH (by omega) (by omega) (by omega) (by omega)
      rw [← hp] at hf
      obtain ⟨o, a, q, t, ks⟩ := p
      rw [Plan.enc_mk] at hs hf ⊢
      by_cases h2 : b.cnt ≤ 255
      · have h3 : sizeIn 255 (some b) = b.cnt := by omega
        have h4 : (0 : Int) < b.cnt := by omega
        rw [h3] at hs
        refine callE Xs Ms f_s_validPlan x_s_validPlan (by show 2 ≤ _; decide) ?_
        simp +contextual -implicitDefEqProofs (maxSteps := 10000000) only [go_sem, seval, ↓gA, ↓gB, ↓gC, ↓gD, ↓gE, ↓gF, f_s_validPlan, s_validWork_ev kW kH kP hl, hs, hf, hv, h2, h4]
      · have h3 : sizeIn 255 (some b) = -1 := by omega
        rw [h3] at hs
        refine callE Xs Ms f_s_validPlan x_s_validPlan (by show 2 ≤ _; decide) ?_
        simp +contextual -implicitDefEqProofs (maxSteps := 10000000) only [go_sem, seval, ↓gA, ↓gB, ↓gC, ↓gD, ↓gE, ↓gF, f_s_validPlan, s_validWork_ev kW kH kP hl, hs, hv, h2]
    · obtain ⟨o, a, q, t, ks⟩ := p
      rw [Plan.enc_mk] at hs ⊢
      refine callE Xs Ms f_s_validPlan x_s_validPlan (by show 2 ≤ _; decide) ?_
      simp +contextual -implicitDefEqProofs (maxSteps := 10000000) only [go_sem, seval, ↓gA, ↓gB, ↓gC, ↓gD, ↓gE, ↓gF, f_s_validPlan, s_validWork_ev kW kH kP hl, hs, hv]

end Go.Proofs.Ytbodfpboklcgoaa
