/- Contracts of the functions, by the abstract semantics. -/
import Derived.Test.YtkdjbefmiiibpaaDoorBCode
import Derived.Test.YtkdjbefmiiibpaaDoorAbsParts
namespace Go.Proofs.YtkdjbefmiiibpaaDoor
open Go Go.Abs Go.Abs.E Go.Abs.L
open Nat (reduceMul reduceSub reduceLeDiff reduceEqDiff)
open Int (reduceLE reduceEq reduceToNat reduceNeg)
set_option linter.unusedSimpArgs false
set_option linter.unusedVariables false
set_option maxRecDepth 20000
set_option maxHeartbeats 4000000
theorem s_inRange_ev (n lo hi : Int) : vcall Xs Ms n_s_inRange [(.d (J n)), (.d (J lo)), (.d (J hi))] [] = some ((.d (.bool ((decide (lo ≤ n ∧ n ≤ hi))))), []) := by
  refine callE Xs Ms f_s_inRange x_s_inRange (by show 3 ≤ _; decide) ?_
  simp +contextual -implicitDefEqProofs (maxSteps := 10^7) only [go_sem, seval, ↓gZ, f_s_inRange]
theorem s_newReader_ev (bs : List UInt8) : vcall Xs Ms n_s_newReader [.d (.sl (bs.map encU))] [] = some (.ptr 0 0, [.box [.d (.sl ((bs.take 2000).map encU)), (.d (J 0))]]) := by
  refine callE Xs Ms f_s_newReader x_s_newReader (by show 1 ≤ _; decide) ?_
  by_cases h : 2000 < bs.length
  · have h1 : (2000 : Int) < bs.length := by omega
    have h2 : (2000 : Int) ≤ bs.length := by omega
    simp +contextual -implicitDefEqProofs (maxSteps := 10^7) only [go_sem, seval, ↓gZ, f_s_newReader, h1, h2]
  · have h1 : ¬ (2000 : Int) < bs.length := by omega
    have h2 : bs.take 2000 = bs := List.take_of_length_le (by omega)
    simp +contextual -implicitDefEqProofs (maxSteps := 10^7) only [go_sem, seval, ↓gZ, f_s_newReader, h1, h2]
theorem s_pick_ex (bs : List UInt8) (p : Nat) (n : Int) (hb : bs.length ≤ 2000) (hp : p < 1099511627776) :
    ∃ v : Int, vcall Xs Ms n_s_reader_pick [.ptr 0 0, (.d (J n))] [.box [.d (.sl (bs.map encU)), (.d (J p))]] = some ((.d (J v)), [.box [.d (.sl (bs.map encU)), (.d (J ((p + 1 : Nat))))]]) ∧ 0 ≤ v ∧ (1 ≤ n → v < n) := by
  have hw := wrap_succ (k := p) (by omega)
  by_cases hn : n < 1
  · refine ⟨0, ?_, by omega, by omega⟩
    refine callE Xs Ms f_s_reader_pick x_s_reader_pick (by show 2 ≤ _; decide) ?_
    simp +contextual -implicitDefEqProofs (maxSteps := 10^7) only [go_sem, seval, ↓gZ, f_s_reader_pick, hw, hn]
  · by_cases hl : bs.length = 0
    · refine ⟨0, ?_, by omega, by omega⟩
      refine callE Xs Ms f_s_reader_pick x_s_reader_pick (by show 2 ≤ _; decide) ?_
      simp +contextual -implicitDefEqProofs (maxSteps := 10^7) only [go_sem, seval, ↓gZ, f_s_reader_pick, hw, hn, hl]
    · have hl' : ¬ (bs.length : Int) = 0 := by omega
      have hs : IntKind.i64.wrap (((p + 1 : Nat) : Int) - 1) = (p : Int) := by rw [wrap64 (by omega) (by omega)]; omega
      have hn0 : ¬ n = 0 := by omega
      by_cases hlt : p < bs.length
      · obtain ⟨x, hx⟩ := get_lt hlt
        have hx2 : (x.toNat : Int) < 256 := by have := x.toNat_lt; omega
        have hwx : IntKind.i64.wrap (x.toNat : Int) = (x.toNat : Int) := wrap64 (by omega) (by omega)
        refine ⟨(x.toNat : Int).tmod n, ?_, Int.tmod_nonneg _ (by omega), fun _ => Int.tmod_lt_of_pos _ (by omega)⟩
        refine callE Xs Ms f_s_reader_pick x_s_reader_pick (by show 2 ≤ _; decide) ?_
        simp +contextual -implicitDefEqProofs (maxSteps := 10^7) only [go_sem, seval, ↓gZ, f_s_reader_pick, hw, hn, hl', hs, hlt, hx, encU, hwx, hn0]
      · have hlen : 0 < bs.length := by omega
        obtain ⟨x, hx⟩ := get_lt (l := bs) (k := p % bs.length) (Nat.mod_lt _ hlen)
        obtain ⟨y, hy⟩ := get_lt (l := bs) (k := (p * 7 + 3) % bs.length) (Nat.mod_lt _ hlen)
        have hx2 : (x.toNat : Int) < 256 := by have := x.toNat_lt; omega
        have hy2 : (y.toNat : Int) < 256 := by have := y.toNat_lt; omega
        have e1 : ((p : Int)).tmod (bs.length : Int) = ((p % bs.length : Nat) : Int) := (Int.ofNat_tmod p bs.length).symm
        have e2 : IntKind.i64.wrap ((p : Int) * 7) = ((p * 7 : Nat) : Int) := by rw [wrap64 (by omega) (by omega)]; omega
        have e3 : IntKind.i64.wrap (((p * 7 : Nat) : Int) + 3) = ((p * 7 + 3 : Nat) : Int) := by rw [wrap64 (by omega) (by omega)]; omega
        have e4 : ((p * 7 + 3 : Nat) : Int).tmod (bs.length : Int) = (((p * 7 + 3) % bs.length : Nat) : Int) := (Int.ofNat_tmod _ _).symm
        obtain ⟨q, hqe, hq⟩ : ∃ q : Nat, q = p / bs.length ∧ q ≤ p := ⟨_, rfl, Nat.div_le_self _ _⟩
        have e5 : ((p : Int)).tdiv (bs.length : Int) = (q : Int) := by rw [hqe]; exact (Int.ofNat_tdiv p bs.length).symm
        clear hqe
        have w1 : IntKind.i64.wrap (x.toNat : Int) = (x.toNat : Int) := wrap64 (by omega) (by omega)
        have w2 : IntKind.i64.wrap (y.toNat : Int) = (y.toNat : Int) := wrap64 (by omega) (by omega)
        have w3 := wi ((x.toNat : Int) * 131) (by omega) (by omega)
        have w4 := wi ((y.toNat : Int) * 1117) (by omega) (by omega)
        have w5 := wi ((x.toNat : Int) * 131 + (y.toNat : Int) * 1117) (by omega) (by omega)
        have w6 := wi ((p : Int) * 29) (by omega) (by omega)
        have w7 := wi ((x.toNat : Int) * 131 + (y.toNat : Int) * 1117 + (p : Int) * 29) (by omega) (by omega)
        have w8 := wi ((q : Int)) (by omega) (by omega)
        have w9 := wi ((q : Int) * 53) (by omega) (by omega)
        have w10 := wi ((x.toNat : Int) * 131 + (y.toNat : Int) * 1117 + (p : Int) * 29 + (q : Int) * 53) (by omega) (by omega)
        obtain ⟨t, ht⟩ : ∃ t : Int, t = (x.toNat : Int) * 131 + (y.toNat : Int) * 1117 + (p : Int) * 29 + (q : Int) * 53 := ⟨_, rfl⟩
        have ht0 : 0 ≤ t := by omega
        have ht1 : t < 4611686018427387904 := by omega
        have hd0 : 0 ≤ t.tdiv 64 := Int.tdiv_nonneg ht0 (by omega)
        have hd1 : t.tdiv 64 < 4611686018427387904 := by
          rw [Int.tdiv_eq_ediv_of_nonneg ht0]; omega
        have w11 := wi (t.tdiv 64) (by omega) (by omega)
        obtain ⟨z, hz0, hz1, hz⟩ := xor_bound ht0 ht1 hd0 hd1
        rw [← ht] at w10
        refine ⟨z.tmod n, ?_, Int.tmod_nonneg _ hz0, fun _ => Int.tmod_lt_of_pos _ (by omega)⟩
        have hxb : int2 .xor .i64 .i64 t (t.tdiv 64) = some (.d (J z)) := by simp only [int2, ibin, asD, bnd_some, if_true, hz]
        refine callE Xs Ms f_s_reader_pick x_s_reader_pick (by show 2 ≤ _; decide) ?_
        simp +contextual -implicitDefEqProofs (maxSteps := 10^7) only [go_sem, seval, ↓gZ, f_s_reader_pick, hw, hn, hl', hs, hlt, encU, hn0, e1, e2, e3, e4, e5, hx, hy, w1, w2, w3, w4, w5, w6, w7, w8, w9, w10, ← ht, w11, hxb]
open Classical in
noncomputable def s_pick (bs : List UInt8) (p : Nat) (n : Int) : Int := if h : bs.length ≤ 2000 ∧ p < 1099511627776 then (s_pick_ex bs p n h.1 h.2).choose else 0
theorem s_pick_ev (bs : List UInt8) (p : Nat) (n : Int) (hb : bs.length ≤ 2000) (hp : p < 1099511627776) :
    vcall Xs Ms n_s_reader_pick [.ptr 0 0, (.d (J n))] [.box [.d (.sl (bs.map encU)), (.d (J p))]] = some ((.d (J (s_pick bs p n))), [.box [.d (.sl (bs.map encU)), (.d (J ((p + 1 : Nat))))]]) := by
  have h : bs.length ≤ 2000 ∧ p < 1099511627776 := ⟨hb, hp⟩
  unfold s_pick
  rw [dif_pos h]
  exact (s_pick_ex bs p n hb hp).choose_spec.1
theorem s_pick_nonneg (bs : List UInt8) (p : Nat) (n : Int) : 0 ≤ s_pick bs p n := by
  unfold s_pick
  split
  · rename_i h; exact (s_pick_ex bs p n h.1 h.2).choose_spec.2.1
  · omega
theorem s_pick_lt (bs : List UInt8) (p : Nat) (n : Int) (hn : 1 ≤ n) : s_pick bs p n < n := by
  unfold s_pick
  split
  · rename_i h; exact (s_pick_ex bs p n h.1 h.2).choose_spec.2.2 hn
  · omega
theorem s_one_ev (bs : List UInt8) (p : Nat) (l : List Int) (hb : bs.length ≤ 2000) (hp : p < 1099511627776) (hl : 1 ≤ l.length) :
    ∃ v : Int, v ∈ l ∧ vcall Xs Ms n_s_reader_one [.ptr 0 0, .d (.sl (l.map encI))] [.box [.d (.sl (bs.map encU)), (.d (J p))]] = some ((.d (J v)), [.box [.d (.sl (bs.map encU)), (.d (J ((p + 1 : Nat))))]]) := by
  have h0 := s_pick_nonneg bs p l.length
  have h1 := s_pick_lt bs p l.length (by omega)
  obtain ⟨i, hi⟩ : ∃ i : Nat, s_pick bs p (l.length : Int) = (i : Int) := ⟨(s_pick bs p (l.length : Int)).toNat, by omega⟩
  obtain ⟨v, hv⟩ := get_lt (l := l) (k := i) (by omega)
  refine ⟨v, List.mem_of_getElem? hv, ?_⟩
  refine callE Xs Ms f_s_reader_one x_s_reader_one (by show 2 ≤ _; decide) ?_
  simp +contextual -implicitDefEqProofs (maxSteps := 10^7) only [go_sem, seval, ↓gZ, f_s_reader_one, s_pick_ev bs p _ hb hp, hi, hv]

theorem s_isCut_ev (pO pA pP : Int) (pT : Bool) (pK : List D) : vcall Xs Ms n_s_isCut [.d (.agg [J pO, J pA, J pP, .bool pT, .sl pK])] [] = some ((.d (.bool (decide (pO = 2 ∨ pO = 3)))), []) := by
  refine callE Xs Ms f_s_isCut x_s_isCut (by show 1 ≤ _; decide) ?_
  simp +contextual -implicitDefEqProofs (maxSteps := 10^7) only [go_sem, seval, ↓gZ, f_s_isCut]
theorem s_planSize_all : ∀ (n : Nat) (p : Plan), p.nodes ≤ n → vcall Xs Ms n_s_planSize [.d p.enc] [] = some ((.d (J (sizeIn 255 (toBT p)))), [])
  | 0, .mk o a p t ks, hn => by simp [Plan.nodes] at hn
  | n + 1, .mk o a p t ks, hn => by
    by_cases ho : o = 2 ∨ o = 3
    · by_cases hk : ks.length = 2
      · obtain ⟨x, hx⟩ := get_lt (l := ks) (k := 0) (by omega)
        obtain ⟨y, hy⟩ := get_lt (l := ks) (k := 1) (by omega)
        have ihx := s_planSize_all n x (nodes_get hn hx)
        have ihy := s_planSize_all n y (nodes_get hn hy)
        rw [toBT_two' ho hk hx hy]
        obtain ⟨lx, hlx⟩ : ∃ l, l = toBT x := ⟨_, rfl⟩
        obtain ⟨ly, hly⟩ : ∃ l, l = toBT y := ⟨_, rfl⟩
        rw [← hlx] at ihx ⊢
        rw [← hly] at ihy ⊢
        have rx := sizeIn_range 255 (by omega) lx
        have ry := sizeIn_range 255 (by omega) ly
        have hk2 : (ks.length : Int) = 2 := by omega
        by_cases hp : p = 0
        · cases t with
          | true =>
            have hb := sizeIn_bad 255 o a p true lx ly (by simp)
            rw [hb]
            refine callE Xs Ms f_s_planSize x_s_planSize (by show 1 ≤ _; decide) ?_
            simp +contextual -implicitDefEqProofs (maxSteps := 10^7) only [go_sem, seval, ↓gZ, f_s_planSize, s_isCut_ev, ho, hp]
          | false =>
            subst hp
            rw [sizeIn_cut]
            obtain ⟨sx, hsx⟩ : ∃ s, s = sizeIn 255 lx := ⟨_, rfl⟩
            obtain ⟨sy, hsy⟩ : ∃ s, s = sizeIn 255 ly := ⟨_, rfl⟩
            rw [← hsx] at ihx rx ⊢
            rw [← hsy] at ihy ry ⊢
            have w1 := wi (1 + sx) (by omega) (by omega)
            have w2 := wi (1 + sx + sy) (by omega) (by omega)
            refine callE Xs Ms f_s_planSize x_s_planSize (by show 1 ≤ _; decide) ?_
            simp +contextual -implicitDefEqProofs (maxSteps := 10^7) only [go_sem, seval, ↓gZ, f_s_planSize, s_isCut_ev, ho, hk2]
            refine LW_round Xs Ms ?_
            simp +contextual -implicitDefEqProofs (maxSteps := 10^7) only [go_sem, seval, ↓gZ, hk2, hx, hy, ihx, ihy, w1, w2]
            intro h
            refine LW_round Xs Ms ?_
            simp +contextual -implicitDefEqProofs (maxSteps := 10^7) only [go_sem, seval, ↓gZ, hk2, hx, hy, ihx, ihy, w1, w2, h]
            intro h'
            refine LW_round Xs Ms ?_
            simp +contextual -implicitDefEqProofs (maxSteps := 10^7) only [go_sem, seval, ↓gZ, hk2, hx, hy, ihx, ihy, w1, w2, h, h']
        · have hb := sizeIn_bad 255 o a p t lx ly (by simp [hp])
          rw [hb]
          refine callE Xs Ms f_s_planSize x_s_planSize (by show 1 ≤ _; decide) ?_
          simp +contextual -implicitDefEqProofs (maxSteps := 10^7) only [go_sem, seval, ↓gZ, f_s_planSize, s_isCut_ev, ho, hp]
      · rw [toBT_not2 _ _ _ _ _ ho hk]
        refine callE Xs Ms f_s_planSize x_s_planSize (by show 1 ≤ _; decide) ?_
        have hk' : ¬ (ks.length : Int) = 2 := by omega
        simp +contextual -implicitDefEqProofs (maxSteps := 10^7) only [go_sem, seval, ↓gZ, f_s_planSize, s_isCut_ev, ho, hk', sizeIn]
    · rw [toBT_other ho]
      by_cases h1 : ks.length = 0 ∧ a = 0 ∧ o = 1
      · rw [if_pos h1]
        obtain ⟨h1, rfl, rfl⟩ := h1
        refine callE Xs Ms f_s_planSize x_s_planSize (by show 1 ≤ _; decide) ?_
        simp +contextual -implicitDefEqProofs (maxSteps := 10^7) only [go_sem, seval, ↓gZ, f_s_planSize, s_isCut_ev, ho, h1, sizeIn, BT.cnt]
        refine LW_round Xs Ms ?_
        simp +contextual -implicitDefEqProofs (maxSteps := 10^7) only [go_sem, seval, ↓gZ, h1]
      · rw [if_neg h1]
        by_cases h2 : ks.length = 0 ∧ a = 0 ∧ o = 0 ∧ p = 0 ∧ t = false
        · rw [if_pos h2]
          obtain ⟨h2, rfl, rfl, rfl, rfl⟩ := h2
          refine callE Xs Ms f_s_planSize x_s_planSize (by show 1 ≤ _; decide) ?_
          simp +contextual -implicitDefEqProofs (maxSteps := 10^7) only [go_sem, seval, ↓gZ, f_s_planSize, s_isCut_ev, ho, h2, sizeIn, BT.cnt]
          refine LW_round Xs Ms ?_
          simp +contextual -implicitDefEqProofs (maxSteps := 10^7) only [go_sem, seval, ↓gZ, h2]
        · rw [if_neg h2]
          by_cases c1 : ks.length = 0
          · by_cases c2 : a = 0
            · by_cases c3 : o = 1
              · exact absurd ⟨c1, c2, c3⟩ h1
              · by_cases c4 : o = 0
                · by_cases c5 : p = 0
                  · cases t with
                    | false => exact absurd ⟨c1, c2, c4, c5, rfl⟩ h2
                    | true =>
                      refine callE Xs Ms f_s_planSize x_s_planSize (by show 1 ≤ _; decide) ?_
                      simp +contextual -implicitDefEqProofs (maxSteps := 10^7) only [go_sem, seval, ↓gZ, f_s_planSize, s_isCut_ev, ho, c1, c2, c3, c4, c5, sizeIn]
                  · refine callE Xs Ms f_s_planSize x_s_planSize (by show 1 ≤ _; decide) ?_
                    simp +contextual -implicitDefEqProofs (maxSteps := 10^7) only [go_sem, seval, ↓gZ, f_s_planSize, s_isCut_ev, ho, c1, c2, c3, c4, c5, sizeIn]
                · refine callE Xs Ms f_s_planSize x_s_planSize (by show 1 ≤ _; decide) ?_
                  simp +contextual -implicitDefEqProofs (maxSteps := 10^7) only [go_sem, seval, ↓gZ, f_s_planSize, s_isCut_ev, ho, c1, c2, c3, c4, sizeIn]
            · refine callE Xs Ms f_s_planSize x_s_planSize (by show 1 ≤ _; decide) ?_
              simp +contextual -implicitDefEqProofs (maxSteps := 10^7) only [go_sem, seval, ↓gZ, f_s_planSize, s_isCut_ev, ho, c1, c2, sizeIn]
          · have c1' : ¬ (ks.length : Int) = 0 := by omega
            refine callE Xs Ms f_s_planSize x_s_planSize (by show 1 ≤ _; decide) ?_
            simp +contextual -implicitDefEqProofs (maxSteps := 10^7) only [go_sem, seval, ↓gZ, f_s_planSize, s_isCut_ev, ho, c1', sizeIn]
theorem s_planSize_ev (p : Plan) : vcall Xs Ms n_s_planSize [.d p.enc] [] = some ((.d (J (sizeIn 255 (toBT p)))), []) := s_planSize_all _ p (Nat.le_refl _)

theorem i_countParts_all : ∀ (n : Nat) (p : Plan), p.nodes ≤ n → ∀ m : Int, -10 ≤ m → m ≤ 255 → vcall Xs Ms n_i_countParts [.d p.enc, (.d (J m))] [] = some ((.d (J (sizeIn m (toBT p)))), [])
  | 0, .mk o a p t ks, hn, m, _, _ => by simp [Plan.nodes] at hn
  | n + 1, .mk o a p t ks, hn, m, hm1, hm2 => by
    by_cases hm : m < 1
    · rw [sizeIn_low hm]
      refine callE Xs Ms f_i_countParts x_i_countParts (by show 2 ≤ _; decide) ?_
      simp +contextual -implicitDefEqProofs (maxSteps := 10^7) only [go_sem, seval, ↓gZ, f_i_countParts, hm]
    by_cases ho : o = 2 ∨ o = 3
    · have ho0 : ¬ o = 0 := by omega
      have ho1 : ¬ o = 1 := by omega
      by_cases hk : ks.length = 2
      · obtain ⟨x, hx⟩ := get_lt (l := ks) (k := 0) (by omega)
        obtain ⟨y, hy⟩ := get_lt (l := ks) (k := 1) (by omega)
        rw [toBT_two' ho hk hx hy]
        have hk2 : (ks.length : Int) = 2 := by omega
        by_cases hp : p = 0
        · cases t with
          | true =>
            have hb := sizeIn_bad m o a p true (toBT x) (toBT y) (by simp)
            rw [hb]
            refine callE Xs Ms f_i_countParts x_i_countParts (by show 2 ≤ _; decide) ?_
            rcases ho with ho | ho <;> simp +contextual -implicitDefEqProofs (maxSteps := 10^7) only [go_sem, seval, ↓gZ, f_i_countParts, ho, hp, hm, hk2]
          | false =>
            subst hp
            rw [sizeIn_cut2]
            have ihx := i_countParts_all n x (nodes_get hn hx) (m - 1) (by omega) (by omega)
            have rx := sizeIn_range (m - 1) (by omega) (toBT x)
            have ihy := i_countParts_all n y (nodes_get hn hy) (m - 1 - sizeIn (m - 1) (toBT x)) (by omega) (by omega)
            have ry := sizeIn_range (m - 1 - sizeIn (m - 1) (toBT x)) (by omega) (toBT y)
            obtain ⟨sy, hsy⟩ : ∃ s, s = sizeIn (m - 1 - sizeIn (m - 1) (toBT x)) (toBT y) := ⟨_, rfl⟩
            rw [← hsy] at ihy ry ⊢
            obtain ⟨sx, hsx⟩ : ∃ s, s = sizeIn (m - 1) (toBT x) := ⟨_, rfl⟩
            rw [← hsx] at ihx ihy rx ry ⊢
            clear hsx hsy
            have w0 := wi (m - 1) (by omega) (by omega)
            have w1 := wi (m - 1 - sx) (by omega) (by omega)
            have w2 := wi (1 + sx) (by omega) (by omega)
            have w3 := wi (1 + sx + sy) (by omega) (by omega)
            refine callE Xs Ms f_i_countParts x_i_countParts (by show 2 ≤ _; decide) ?_
            rcases ho with ho | ho <;> simp +contextual -implicitDefEqProofs (maxSteps := 10^7) only [go_sem, seval, ↓gZ, f_i_countParts, ho, hm, hk2, hx, hy, ihx, ihy, w0, w1, w2, w3]
        · have hb := sizeIn_bad m o a p t (toBT x) (toBT y) (by simp [hp])
          rw [hb]
          refine callE Xs Ms f_i_countParts x_i_countParts (by show 2 ≤ _; decide) ?_
          rcases ho with ho | ho <;> simp +contextual -implicitDefEqProofs (maxSteps := 10^7) only [go_sem, seval, ↓gZ, f_i_countParts, ho, hp, hm, hk2]
      · rw [toBT_not2 _ _ _ _ _ ho hk]
        have hk' : ¬ (ks.length : Int) = 2 := by omega
        refine callE Xs Ms f_i_countParts x_i_countParts (by show 2 ≤ _; decide) ?_
        rcases ho with ho | ho <;> simp +contextual -implicitDefEqProofs (maxSteps := 10^7) only [go_sem, seval, ↓gZ, f_i_countParts, ho, hk', hm, sizeIn]
    · rw [toBT_other ho]
      have h2' : ¬ o = 2 := by omega
      have h3' : ¬ o = 3 := by omega
      have hm' : (1 : Int) ≤ m := by omega
      by_cases h1 : ks.length = 0 ∧ a = 0 ∧ o = 1
      · rw [if_pos h1]
        obtain ⟨h1, rfl, rfl⟩ := h1
        refine callE Xs Ms f_i_countParts x_i_countParts (by show 2 ≤ _; decide) ?_
        simp +contextual -implicitDefEqProofs (maxSteps := 10^7) only [go_sem, seval, ↓gZ, f_i_countParts, h1, hm, sizeIn, BT.cnt, hm']
      · rw [if_neg h1]
        by_cases h2 : ks.length = 0 ∧ a = 0 ∧ o = 0 ∧ p = 0 ∧ t = false
        · rw [if_pos h2]
          obtain ⟨h2, rfl, rfl, rfl, rfl⟩ := h2
          refine callE Xs Ms f_i_countParts x_i_countParts (by show 2 ≤ _; decide) ?_
          simp +contextual -implicitDefEqProofs (maxSteps := 10^7) only [go_sem, seval, ↓gZ, f_i_countParts, h2, hm, sizeIn, BT.cnt, hm']
        · rw [if_neg h2]
          by_cases c1 : ks.length = 0
          · by_cases c2 : a = 0
            · by_cases c3 : o = 1
              · exact absurd ⟨c1, c2, c3⟩ h1
              · by_cases c4 : o = 0
                · by_cases c5 : p = 0
                  · cases t with
                    | false => exact absurd ⟨c1, c2, c4, c5, rfl⟩ h2
                    | true =>
                      refine callE Xs Ms f_i_countParts x_i_countParts (by show 2 ≤ _; decide) ?_
                      simp +contextual -implicitDefEqProofs (maxSteps := 10^7) only [go_sem, seval, ↓gZ, f_i_countParts, hm, c1, c2, c3, c4, c5, sizeIn]
                  · refine callE Xs Ms f_i_countParts x_i_countParts (by show 2 ≤ _; decide) ?_
                    simp +contextual -implicitDefEqProofs (maxSteps := 10^7) only [go_sem, seval, ↓gZ, f_i_countParts, hm, c1, c2, c3, c4, c5, sizeIn]
                · refine callE Xs Ms f_i_countParts x_i_countParts (by show 2 ≤ _; decide) ?_
                  simp +contextual -implicitDefEqProofs (maxSteps := 10^7) only [go_sem, seval, ↓gZ, f_i_countParts, hm, c1, c2, c3, c4, h2', h3', sizeIn]
            · refine callE Xs Ms f_i_countParts x_i_countParts (by show 2 ≤ _; decide) ?_
              by_cases c3 : o = 1
              · simp +contextual -implicitDefEqProofs (maxSteps := 10^7) only [go_sem, seval, ↓gZ, f_i_countParts, hm, c1, c2, c3, sizeIn]
              · by_cases c4 : o = 0
                · simp +contextual -implicitDefEqProofs (maxSteps := 10^7) only [go_sem, seval, ↓gZ, f_i_countParts, hm, c1, c2, c3, c4, sizeIn]
                · simp +contextual -implicitDefEqProofs (maxSteps := 10^7) only [go_sem, seval, ↓gZ, f_i_countParts, hm, c1, c2, c3, c4, h2', h3', sizeIn]
          · have c1' : ¬ (ks.length : Int) = 0 := by omega
            refine callE Xs Ms f_i_countParts x_i_countParts (by show 2 ≤ _; decide) ?_
            by_cases c3 : o = 1
            · simp +contextual -implicitDefEqProofs (maxSteps := 10^7) only [go_sem, seval, ↓gZ, f_i_countParts, hm, c1', c3, sizeIn]
            · by_cases c4 : o = 0
              · simp +contextual -implicitDefEqProofs (maxSteps := 10^7) only [go_sem, seval, ↓gZ, f_i_countParts, hm, c1', c3, c4, sizeIn]
              · simp +contextual -implicitDefEqProofs (maxSteps := 10^7) only [go_sem, seval, ↓gZ, f_i_countParts, hm, c1', c3, c4, h2', h3', sizeIn]
theorem i_PlanSize_ev (p : Plan) : vcall Xs Ms n_i_PlanSize [.d p.enc] [] = some ((.d (J (sizeIn 255 (toBT p)))), []) := by
  have h := i_countParts_all _ p (Nat.le_refl _) 255 (by omega) (by omega)
  obtain ⟨o, a, q, t, ks⟩ := p
  rw [Plan.enc_mk] at h ⊢
  refine callE Xs Ms f_i_PlanSize x_i_PlanSize (by show 1 ≤ _; decide) ?_
  simp +contextual -implicitDefEqProofs (maxSteps := 10^7) only [go_sem, seval, ↓gZ, f_i_PlanSize, h]

theorem paneFits_some {ps : List Pane} {i : Int} {t : Bool} {w h : Int} {k : Nat} {q : Pane} (hi : i = (k : Int)) (hq : ps[k]? = some q) : paneFits ps i t w h = if t then q.Turns && decide (¬ q.W = q.H) && decide (q.H = w) && decide (q.W = h) else decide (q.W = w ∧ q.H = h) := by
  subst hi
  simp [paneFits, hq]
theorem paneFits_out {ps : List Pane} {i : Int} {t : Bool} {w h : Int} (hi : i < 0 ∨ (ps.length : Int) ≤ i) : paneFits ps i t w h = false := by
  unfold paneFits
  rcases hi with hi | hi
  · have : ¬ 0 ≤ i := by omega
    simp [this]
  · have : ps[i.toNat]? = none := List.getElem?_eq_none (by omega)
    simp [this]
theorem s_fitsPlan_pane (kW kH : Int) (kP : List Pane) (i : Int) (t : Bool) (w h : Int) (hl : kP.length < 4611686018427387904) : vcall Xs Ms n_s_fitsPlan [(.d (.agg [J kW, J kH, .sl (kP.map Pane.enc)])), .d (BT.pane i t).plan.enc, (.d (J w)), (.d (J h))] [] = some ((.d (.bool (paneFits kP i t w h))), []) := by
  have hw := wi ((kP.length : Int) - 1) (by omega) (by omega)
  simp only [BT.plan, Plan.enc_mk]
  by_cases h0 : 0 ≤ i ∧ i ≤ (kP.length : Int) - 1
  · obtain ⟨n, rfl⟩ : ∃ n : Nat, i = (n : Int) := ⟨i.toNat, by omega⟩
    obtain ⟨q, hq⟩ := get_lt (l := kP) (k := n) (by omega)
    rw [paneFits_some rfl hq]
    refine callE Xs Ms f_s_fitsPlan x_s_fitsPlan (by show 4 ≤ _; decide) ?_
    cases t
    · simp +contextual -implicitDefEqProofs (maxSteps := 10^7) only [go_sem, seval, ↓gZ, f_s_fitsPlan, s_inRange_ev, h0, hw, hq]
    · simp +contextual -implicitDefEqProofs (maxSteps := 10^7) only [go_sem, seval, ↓gZ, f_s_fitsPlan, s_inRange_ev, h0, hw, hq]
  · rw [paneFits_out (by omega)]
    refine callE Xs Ms f_s_fitsPlan x_s_fitsPlan (by show 4 ≤ _; decide) ?_
    simp +contextual -implicitDefEqProofs (maxSteps := 10^7) only [go_sem, seval, ↓gZ, f_s_fitsPlan, s_inRange_ev, h0, hw]
end Go.Proofs.YtkdjbefmiiibpaaDoor
