/- Contracts of the functions, by the abstract semantics. -/
import Derived.Test.YtkdjbefmiiibpaaDoorDCode
import Derived.Test.YtkdjbefmiiibpaaDoorAbsParts
namespace Go.Proofs.YtkdjbefmiiibpaaDoor
open Go Go.Abs Go.Abs.E Go.Abs.L
open Nat (reduceMul reduceSub reduceLeDiff reduceEqDiff)
open Int (reduceLE reduceEq reduceToNat reduceNeg)
set_option linter.unusedSimpArgs false
set_option linter.unusedVariables false
set_option maxRecDepth 20000
set_option maxHeartbeats 4000000
theorem s_inRange_ev (n lo hi : Int) : vcall Xs Ms n_s_inRange [(.d (J n)), (.d (J lo)), (.d (J hi))] [] = some ((.d (.bool ((decide (lo ≤ n ∧ n ≤ hi))))), []) := by
  refine callE Xs Ms f_s_inRange x_s_inRange (by show 3 ≤ _; decide) ?_
  simp +contextual -implicitDefEqProofs (maxSteps := 10^7) only [go_sem, seval, ↓gZ, f_s_inRange]
theorem s_validPane_ev (pW pH : Int) (pT : Bool) (pK : Int) : vcall Xs Ms n_s_validPane [(.d (.agg [J pW, J pH, .bool pT, J pK]))] [] = some ((.d (.bool ((decide (VP (Pane.mk pW pH pT pK)))))), []) := by
  refine callE Xs Ms f_s_validPane x_s_validPane (by show 1 ≤ _; decide) ?_
  simp +contextual -implicitDefEqProofs (maxSteps := 10^7) only [go_sem, seval, ↓gZ, f_s_validPane, s_inRange_ev]
  first | exact fin_b (by simp only [VP]; omega) | skip
theorem i_ValidPane_ev (pW pH : Int) (pT : Bool) (pK : Int) : vcall Xs Ms n_i_ValidPane [(.d (.agg [J pW, J pH, .bool pT, J pK]))] [] = some ((.d (.bool ((decide (VP (Pane.mk pW pH pT pK)))))), []) := by
  refine callE Xs Ms f_i_ValidPane x_i_ValidPane (by show 1 ≤ _; decide) ?_
  simp +contextual -implicitDefEqProofs (maxSteps := 10^7) only [go_sem, seval, ↓gZ, f_i_ValidPane]
  first | exact fin_b (by simp only [VP]; omega) | skip

theorem s_newReader_ev (bs : List UInt8) : vcall Xs Ms n_s_newReader [.d (.sl (bs.map encU))] [] = some (.ptr 0 0, [.box [.d (.sl ((bs.take 2000).map encU)), (.d (J 0))]]) := by
  refine callE Xs Ms f_s_newReader x_s_newReader (by show 1 ≤ _; decide) ?_
  by_cases h : 2000 < bs.length
  · have h1 : (2000 : Int) < bs.length := by omega
    have h2 : (2000 : Int) ≤ bs.length := by omega
    simp +contextual -implicitDefEqProofs (maxSteps := 10^7) only [go_sem, seval, ↓gZ, f_s_newReader, h1, h2]
  · have h1 : ¬ (2000 : Int) < bs.length := by omega
    have h2 : bs.take 2000 = bs := List.take_of_length_le (by omega)
    simp +contextual -implicitDefEqProofs (maxSteps := 10^7) only [go_sem, seval, ↓gZ, f_s_newReader, h1, h2]
theorem s_pick_ex (bs : List UInt8) (p : Nat) (n : Int) (hb : bs.length ≤ 2000) (hp : p < 1099511627776) :
    ∃ v : Int, vcall Xs Ms n_s_reader_pick [.ptr 0 0, (.d (J n))] [.box [.d (.sl (bs.map encU)), (.d (J p))]] = some ((.d (J v)), [.box [.d (.sl (bs.map encU)), (.d (J ((p + 1 : Nat))))]]) ∧ 0 ≤ v ∧ (1 ≤ n → v < n) := by
  have hw := wrap_succ (k := p) (by omega)
  by_cases hn : n < 1
  · refine ⟨0, ?_, by omega, by omega⟩
    refine callE Xs Ms f_s_reader_pick x_s_reader_pick (by show 2 ≤ _; decide) ?_
    simp +contextual -implicitDefEqProofs (maxSteps := 10^7) only [go_sem, seval, ↓gZ, f_s_reader_pick, hw, hn]
  · by_cases hl : bs.length = 0
    · refine ⟨0, ?_, by omega, by omega⟩
      refine callE Xs Ms f_s_reader_pick x_s_reader_pick (by show 2 ≤ _; decide) ?_
      simp +contextual -implicitDefEqProofs (maxSteps := 10^7) only [go_sem, seval, ↓gZ, f_s_reader_pick, hw, hn, hl]
    · have hl' : ¬ (bs.length : Int) = 0 := by omega
      have hs : IntKind.i64.wrap (((p + 1 : Nat) : Int) - 1) = (p : Int) := by rw [wrap64 (by omega) (by omega)]; omega
      have hn0 : ¬ n = 0 := by omega
      by_cases hlt : p < bs.length
      · obtain ⟨x, hx⟩ := get_lt hlt
        have hx2 : (x.toNat : Int) < 256 := by have := x.toNat_lt; omega
        have hwx : IntKind.i64.wrap (x.toNat : Int) = (x.toNat : Int) := wrap64 (by omega) (by omega)
        refine ⟨(x.toNat : Int).tmod n, ?_, Int.tmod_nonneg _ (by omega), fun _ => Int.tmod_lt_of_pos _ (by omega)⟩
        refine callE Xs Ms f_s_reader_pick x_s_reader_pick (by show 2 ≤ _; decide) ?_
        simp +contextual -implicitDefEqProofs (maxSteps := 10^7) only [go_sem, seval, ↓gZ, f_s_reader_pick, hw, hn, hl', hs, hlt, hx, encU, hwx, hn0]
      · have hlen : 0 < bs.length := by omega
        obtain ⟨x, hx⟩ := get_lt (l := bs) (k := p % bs.length) (Nat.mod_lt _ hlen)
        obtain ⟨y, hy⟩ := get_lt (l := bs) (k := (p * 7 + 3) % bs.length) (Nat.mod_lt _ hlen)
        have hx2 : (x.toNat : Int) < 256 := by have := x.toNat_lt; omega
        have hy2 : (y.toNat : Int) < 256 := by have := y.toNat_lt; omega
        have e1 : ((p : Int)).tmod (bs.length : Int) = ((p % bs.length : Nat) : Int) := (Int.ofNat_tmod p bs.length).symm
        have e2 : IntKind.i64.wrap ((p : Int) * 7) = ((p * 7 : Nat) : Int) := by rw [wrap64 (by omega) (by omega)]; omega
        have e3 : IntKind.i64.wrap (((p * 7 : Nat) : Int) + 3) = ((p * 7 + 3 : Nat) : Int) := by rw [wrap64 (by omega) (by omega)]; omega
        have e4 : ((p * 7 + 3 : Nat) : Int).tmod (bs.length : Int) = (((p * 7 + 3) % bs.length : Nat) : Int) := (Int.ofNat_tmod _ _).symm
        obtain ⟨q, hqe, hq⟩ : ∃ q : Nat, q = p / bs.length ∧ q ≤ p := ⟨_, rfl, Nat.div_le_self _ _⟩
        have e5 : ((p : Int)).tdiv (bs.length : Int) = (q : Int) := by rw [hqe]; exact (Int.ofNat_tdiv p bs.length).symm
        clear hqe
        have w1 : IntKind.i64.wrap (x.toNat : Int) = (x.toNat : Int) := wrap64 (by omega) (by omega)
        have w2 : IntKind.i64.wrap (y.toNat : Int) = (y.toNat : Int) := wrap64 (by omega) (by omega)
        have w3 := wi ((x.toNat : Int) * 131) (by omega) (by omega)
        have w4 := wi ((y.toNat : Int) * 1117) (by omega) (by omega)
        have w5 := wi ((x.toNat : Int) * 131 + (y.toNat : Int) * 1117) (by omega) (by omega)
        have w6 := wi ((p : Int) * 29) (by omega) (by omega)
        have w7 := wi ((x.toNat : Int) * 131 + (y.toNat : Int) * 1117 + (p : Int) * 29) (by omega) (by omega)
        have w8 := wi ((q : Int)) (by omega) (by omega)
        have w9 := wi ((q : Int) * 53) (by omega) (by omega)
        have w10 := wi ((x.toNat : Int) * 131 + (y.toNat : Int) * 1117 + (p : Int) * 29 + (q : Int) * 53) (by omega) (by omega)
        obtain ⟨t, ht⟩ : ∃ t : Int, t = (x.toNat : Int) * 131 + (y.toNat : Int) * 1117 + (p : Int) * 29 + (q : Int) * 53 := ⟨_, rfl⟩
        have ht0 : 0 ≤ t := by omega
        have ht1 : t < 4611686018427387904 := by omega
        have hd0 : 0 ≤ t.tdiv 64 := Int.tdiv_nonneg ht0 (by omega)
        have hd1 : t.tdiv 64 < 4611686018427387904 := by
          rw [Int.tdiv_eq_ediv_of_nonneg ht0]; omega
        have w11 := wi (t.tdiv 64) (by omega) (by omega)
        obtain ⟨z, hz0, hz1, hz⟩ := xor_bound ht0 ht1 hd0 hd1
        rw [← ht] at w10
        refine ⟨z.tmod n, ?_, Int.tmod_nonneg _ hz0, fun _ => Int.tmod_lt_of_pos _ (by omega)⟩
        have hxb : int2 .xor .i64 .i64 t (t.tdiv 64) = some (.d (J z)) := by simp only [int2, ibin, asD, bnd_some, if_true, hz]
        refine callE Xs Ms f_s_reader_pick x_s_reader_pick (by show 2 ≤ _; decide) ?_
        simp +contextual -implicitDefEqProofs (maxSteps := 10^7) only [go_sem, seval, ↓gZ, f_s_reader_pick, hw, hn, hl', hs, hlt, encU, hn0, e1, e2, e3, e4, e5, hx, hy, w1, w2, w3, w4, w5, w6, w7, w8, w9, w10, ← ht, w11, hxb]
open Classical in
noncomputable def s_pick (bs : List UInt8) (p : Nat) (n : Int) : Int := if h : bs.length ≤ 2000 ∧ p < 1099511627776 then (s_pick_ex bs p n h.1 h.2).choose else 0
theorem s_pick_ev (bs : List UInt8) (p : Nat) (n : Int) (hb : bs.length ≤ 2000) (hp : p < 1099511627776) :
    vcall Xs Ms n_s_reader_pick [.ptr 0 0, (.d (J n))] [.box [.d (.sl (bs.map encU)), (.d (J p))]] = some ((.d (J (s_pick bs p n))), [.box [.d (.sl (bs.map encU)), (.d (J ((p + 1 : Nat))))]]) := by
  have h : bs.length ≤ 2000 ∧ p < 1099511627776 := ⟨hb, hp⟩
  unfold s_pick
  rw [dif_pos h]
  exact (s_pick_ex bs p n hb hp).choose_spec.1
theorem s_pick_nonneg (bs : List UInt8) (p : Nat) (n : Int) : 0 ≤ s_pick bs p n := by
  unfold s_pick
  split
  · rename_i h; exact (s_pick_ex bs p n h.1 h.2).choose_spec.2.1
  · omega
theorem s_pick_lt (bs : List UInt8) (p : Nat) (n : Int) (hn : 1 ≤ n) : s_pick bs p n < n := by
  unfold s_pick
  split
  · rename_i h; exact (s_pick_ex bs p n h.1 h.2).choose_spec.2.2 hn
  · omega
theorem s_one_ev (bs : List UInt8) (p : Nat) (l : List Int) (hb : bs.length ≤ 2000) (hp : p < 1099511627776) (hl : 1 ≤ l.length) :
    ∃ v : Int, v ∈ l ∧ vcall Xs Ms n_s_reader_one [.ptr 0 0, .d (.sl (l.map encI))] [.box [.d (.sl (bs.map encU)), (.d (J p))]] = some ((.d (J v)), [.box [.d (.sl (bs.map encU)), (.d (J ((p + 1 : Nat))))]]) := by
  have h0 := s_pick_nonneg bs p l.length
  have h1 := s_pick_lt bs p l.length (by omega)
  obtain ⟨i, hi⟩ : ∃ i : Nat, s_pick bs p (l.length : Int) = (i : Int) := ⟨(s_pick bs p (l.length : Int)).toNat, by omega⟩
  obtain ⟨v, hv⟩ := get_lt (l := l) (k := i) (by omega)
  refine ⟨v, List.mem_of_getElem? hv, ?_⟩
  refine callE Xs Ms f_s_reader_one x_s_reader_one (by show 2 ≤ _; decide) ?_
  simp +contextual -implicitDefEqProofs (maxSteps := 10^7) only [go_sem, seval, ↓gZ, f_s_reader_one, s_pick_ev bs p _ hb hp, hi, hv]



end Go.Proofs.YtkdjbefmiiibpaaDoor
