/- Contracts of the functions, by the abstract semantics. -/
import Derived.Test.YtkdjbefmiiibpaaDoorBCode
import Derived.Test.YtkdjbefmiiibpaaDoorAbsParts
import Derived.Test.YtkdjbefmiiibpaaDoorBC3
namespace Go.Proofs.YtkdjbefmiiibpaaDoor
open Go Go.Abs Go.Abs.E Go.Abs.L
open Nat (reduceMul reduceSub reduceLeDiff reduceEqDiff)
open Int (reduceLE reduceEq reduceToNat reduceNeg)
set_option linter.unusedSimpArgs false
set_option linter.unusedVariables false
set_option maxRecDepth 20000
set_option maxHeartbeats 4000000
theorem tw_in {p : UInt8 → Bool} : ∀ {s : List UInt8} {k : Nat}, k < (s.takeWhile p).length → ∃ c, s[k]? = some c ∧ p c = true
  | [], k, h => by simp at h
  | x :: s, k, h => by
    by_cases hx : p x = true
    · rw [List.takeWhile_cons_of_pos hx] at h
      cases k with
      | zero => exact ⟨x, rfl, hx⟩
      | succ k => simpa using tw_in (s := s) (k := k) (by simpa using h)
    · rw [List.takeWhile_cons_of_neg hx] at h; simp at h
theorem tw_end {p : UInt8 → Bool} : ∀ {s : List UInt8}, (s.takeWhile p).length = s.length ∨ ∃ c, s[(s.takeWhile p).length]? = some c ∧ ¬ p c = true
  | [] => .inl rfl
  | x :: s => by
    by_cases hx : p x = true
    · rw [List.takeWhile_cons_of_pos hx]
      rcases tw_end (p := p) (s := s) with h | ⟨c, h, h'⟩
      · exact .inl (by simp [h])
      · exact .inr ⟨c, by simpa using h, h'⟩
    · rw [List.takeWhile_cons_of_neg hx]
      exact .inr ⟨x, rfl, hx⟩
theorem tw_le {p : UInt8 → Bool} (s : List UInt8) : (s.takeWhile p).length ≤ s.length := List.IsPrefix.length_le (List.takeWhile_prefix p)
theorem tw_take (p : UInt8 → Bool) (s : List UInt8) : s.take (s.takeWhile p).length = s.takeWhile p := by
  conv => lhs; rw [← List.takeWhile_append_dropWhile (p := p) (l := s), List.takeWhile_append_dropWhile]
  exact (List.prefix_iff_eq_take.1 (List.takeWhile_prefix p)).symm
theorem tw_drop (p : UInt8 → Bool) (s : List UInt8) : s.drop (s.takeWhile p).length = s.dropWhile p := by
  have h := List.takeWhile_append_dropWhile (p := p) (l := s)
  conv => lhs; arg 2; rw [← h]
  rw [List.drop_left]
def tnV (s : List UInt8) : AV := match rd (s.takeWhile isD) with
  | some v => .tup [(.d (J ((v : Nat)))), .d (.str (s.dropWhile isD)), (.d (.bool true))]
  | none => .tup [(.d (J 0)), .d (.str (s.dropWhile isD)), (.d (.bool false))]
theorem i_takeNumber_ev (s : List UInt8) (hs : s.length ≤ 1000000) : vcall Xs Ms n_i_takeNumber [.d (.str s)] [] = some (tnV s, []) := by
  have hle := tw_le (p := isD) s
  generalize hres : tnV s = res
  refine callE Xs Ms f_i_takeNumber x_i_takeNumber (by show 1 ≤ _; decide) ?_
  simp +contextual -implicitDefEqProofs (maxSteps := 10^7) only [go_sem, seval, ↓gZ, f_i_takeNumber]
  refine LW_over Xs Ms (st0 := ?st0) (α := Nat) (fun k => [(5, .d (J (k : Int)))]) (fun _ => []) (fun k => k ≤ (s.takeWhile isD).length) (fun k => s.length - k) 0 ?hc (by omega) ?h0 ?step
  case hc => simp +contextual -implicitDefEqProofs (maxSteps := 10^7) only [go_sem, seval, ↓gZ] <;> exact rfl
  case h0 => rfl
  case step =>
    intro k hk ih
    have w5 := wrap_succ (k := k) (by omega)
    have e1 := i_readNumber_ev (s.takeWhile isD)
    have d1 := tw_take isD s
    have d2 := tw_drop isD s
    have d3 : s.take s.length = s := List.take_length
    by_cases hlt : k < (s.takeWhile isD).length
    · obtain ⟨c, hc, hD⟩ := tw_in hlt
      have hlt' : (k : Int) < (s.length : Int) := by omega
      have hD' := (isD_iff c).1 hD
      have h1 : (48 : Int) ≤ c.toNat := by omega
      have h2 : (c.toNat : Int) ≤ 57 := by omega
      simp +contextual -implicitDefEqProofs (maxSteps := 10^7) only [go_sem, seval, ↓gZ, hlt', hc, h1, h2, w5]
      refine ih (k + 1) _ (by omega) (by omega) ?_
      simp +contextual -implicitDefEqProofs (maxSteps := 10^7) only [go_sem, seval, ↓gZ]
    · have hke : k = (s.takeWhile isD).length := by omega
      subst hke
      unfold tnV at hres
      have hkl : ((s.takeWhile isD).length : Int) ≤ (s.length : Int) := by omega
      rcases tw_end (p := isD) (s := s) with h | ⟨c, hc, hD⟩
      · have hge : ¬ ((s.takeWhile isD).length : Int) < (s.length : Int) := by omega
        cases hr : rd (s.takeWhile isD) with
        | none =>
          rw [hr] at hres e1
          simp only [numV] at e1 hres
          subst hres
          simp +contextual -implicitDefEqProofs (maxSteps := 10^7) only [go_sem, seval, ↓gZ, hge, hkl, e1, d1, d2, d3]
        | some v =>
          rw [hr] at hres e1
          simp only [numV] at e1 hres
          subst hres
          simp +contextual -implicitDefEqProofs (maxSteps := 10^7) only [go_sem, seval, ↓gZ, hge, hkl, e1, d1, d2, d3]
      · have hlt : ((s.takeWhile isD).length : Int) < (s.length : Int) := by have := (List.getElem?_eq_some_iff.1 hc).1; omega
        have hnd : ¬ ((48 : Int) ≤ c.toNat ∧ (c.toNat : Int) ≤ 57) := fun h => hD ((isD_iff c).2 (by omega))
        by_cases h1 : (48 : Int) ≤ c.toNat
        · have h2 : ¬ (c.toNat : Int) ≤ 57 := fun h => hnd ⟨h1, h⟩
          cases hr : rd (s.takeWhile isD) with
          | none =>
            rw [hr] at hres e1
            simp only [numV] at e1 hres
            subst hres
            simp +contextual -implicitDefEqProofs (maxSteps := 10^7) only [go_sem, seval, ↓gZ, hlt, hc, h1, h2, hkl, e1, d1, d2, d3]
          | some v =>
            rw [hr] at hres e1
            simp only [numV] at e1 hres
            subst hres
            simp +contextual -implicitDefEqProofs (maxSteps := 10^7) only [go_sem, seval, ↓gZ, hlt, hc, h1, h2, hkl, e1, d1, d2, d3]
        · cases hr : rd (s.takeWhile isD) with
          | none =>
            rw [hr] at hres e1
            simp only [numV] at e1 hres
            subst hres
            simp +contextual -implicitDefEqProofs (maxSteps := 10^7) only [go_sem, seval, ↓gZ, hlt, hc, h1, hkl, e1, d1, d2, d3]
          | some v =>
            rw [hr] at hres e1
            simp only [numV] at e1 hres
            subst hres
            simp +contextual -implicitDefEqProofs (maxSteps := 10^7) only [go_sem, seval, ↓gZ, hlt, hc, h1, hkl, e1, d1, d2, d3]
def TkR (res : Option (AV × List AObj)) (m : Option (BT × List UInt8)) : Prop := ∃ (o a q : Int) (t : Bool) (ks : List Plan) (r : List UInt8) (ok : Bool),
  res = some (.tup [.agg [(.d (J o)), (.d (J a)), (.d (J q)), (.d (.bool t)), .own 0], .d (.str r), (.d (.bool ok))], [.row 5 (ks.map Plan.enc) true false]) ∧ (match m with | some (b, r') => ok = true ∧ b.plan = .mk o a q t ks ∧ r' = r | none => ok = false)
theorem TkR_no {res : Option (AV × List AObj)} {o a q : Int} {t : Bool} {ks : List Plan} {r : List UInt8} (h : res = some (.tup [.agg [(.d (J o)), (.d (J a)), (.d (J q)), (.d (.bool t)), .own 0], .d (.str r), (.d (.bool false))], [.row 5 (ks.map Plan.enc) true false])) : TkR res none := ⟨o, a, q, t, ks, r, false, h, rfl⟩
theorem TkR_yes {res : Option (AV × List AObj)} {b : BT} {o a q : Int} {t : Bool} {ks : List Plan} {r : List UInt8} (hb : b.plan = .mk o a q t ks) (h : res = some (.tup [.agg [(.d (J o)), (.d (J a)), (.d (J q)), (.d (.bool t)), .own 0], .d (.str r), (.d (.bool true))], [.row 5 (ks.map Plan.enc) true false])) : TkR res (some (b, r)) := ⟨o, a, q, t, ks, r, true, h, rfl, hb, rfl⟩
theorem u8eq (c : UInt8) {k : Int} (d : UInt8) (hd : (d.toNat : Int) = k) : (c.toNat : Int) = k ↔ c = d := by
  constructor
  · intro h; apply UInt8.toNat_inj.1; omega
  · rintro rfl; exact hd
theorem tk_nil (n : Nat) : tk n [] = none := by cases n <;> rfl
theorem i_takePlan_ev : ∀ (n : Nat) (s : List UInt8), s.length ≤ n → s.length ≤ 1000000 → TkR (vcall Xs Ms n_i_takePlan [.d (.str s)] []) (tk n s) := by
  intro n
  induction n with
  | zero =>
    intro s hs _
    obtain rfl := List.eq_nil_of_length_eq_zero (Nat.le_zero.1 hs)
    rw [tk_nil]
    refine TkR_no (o := 0) (a := 0) (q := 0) (t := false) (ks := []) (r := []) ?_
    refine callE Xs Ms f_i_takePlan x_i_takePlan (by show 1 ≤ _; decide) ?_
    simp +contextual -implicitDefEqProofs (maxSteps := 10^7) only [go_sem, seval, ↓gZ, f_i_takePlan]
  | succ n IH =>
    intro s hs hsz
    cases s with
    | nil =>
      rw [tk_nil]
      refine TkR_no (o := 0) (a := 0) (q := 0) (t := false) (ks := []) (r := []) ?_
      refine callE Xs Ms f_i_takePlan x_i_takePlan (by show 1 ≤ _; decide) ?_
      simp +contextual -implicitDefEqProofs (maxSteps := 10^7) only [go_sem, seval, ↓gZ, f_i_takePlan]
    | cons c s =>
      simp only [List.length_cons] at hs hsz
      have hb : (c :: s == []) = false := rfl
      have d3 : s.take s.length = s := List.take_length
      have hp1 : (1 : Int) ≤ ((s.length + 1 : Nat) : Int) := by omega
      have e1 := i_takeNumber_ev s (by omega)
      by_cases c1 : c = 119
      · have n1 : (c.toNat : Int) = 119 := (u8eq c 119 rfl).2 c1
        have htk : tk (n + 1) (c :: s) = some (.waste, s) := by rw [tk, if_pos c1]
        rw [htk]
        refine TkR_yes (b := .waste) rfl ?_
        refine callE Xs Ms f_i_takePlan x_i_takePlan (by show 1 ≤ _; decide) ?_
        simp +contextual -implicitDefEqProofs (maxSteps := 10^7) only [go_sem, seval, ↓gZ, f_i_takePlan, hb, d3, hp1, n1]
      have n1 : ¬ (c.toNat : Int) = 119 := fun h => c1 ((u8eq c 119 rfl).1 h)
      rw [tk, if_neg c1]
      cases hr : rd (s.takeWhile isD) with
      | none =>
        simp only [tnV, hr] at e1
        refine TkR_no (o := 0) (a := 0) (q := 0) (t := false) (ks := []) (r := []) ?_
        refine callE Xs Ms f_i_takePlan x_i_takePlan (by show 1 ≤ _; decide) ?_
        simp +contextual -implicitDefEqProofs (maxSteps := 10^7) only [go_sem, seval, ↓gZ, f_i_takePlan, hb, d3, hp1, n1, e1]
      | some v =>
        simp only [tnV, hr] at e1
        have hv := (rd_some hr).2
        obtain ⟨r1, hr1⟩ : ∃ r1, s.dropWhile isD = r1 := ⟨_, rfl⟩
        rw [hr1] at e1
        have hl1 : r1.length ≤ s.length := by rw [← hr1]; exact List.IsSuffix.length_le (List.dropWhile_suffix isD)
        simp only [Option.bind_some, hr1]
        by_cases c2 : c = 112
        · have n2 : (c.toNat : Int) = 112 := (u8eq c 112 rfl).2 c2
          have n3 : ¬ (c.toNat : Int) = 116 := by omega
          rw [tkLet, if_pos c2]
          refine TkR_yes (b := .pane v false) rfl ?_
          refine callE Xs Ms f_i_takePlan x_i_takePlan (by show 1 ≤ _; decide) ?_
          simp +contextual -implicitDefEqProofs (maxSteps := 10^7) only [go_sem, seval, ↓gZ, f_i_takePlan, hb, d3, hp1, n1, n2, n3, e1]
        have n2 : ¬ (c.toNat : Int) = 112 := fun h => c2 ((u8eq c 112 rfl).1 h)
        rw [tkLet, if_neg c2]
        by_cases c3 : c = 116
        · have n3 : (c.toNat : Int) = 116 := (u8eq c 116 rfl).2 c3
          rw [if_pos c3]
          refine TkR_yes (b := .pane v true) rfl ?_
          refine callE Xs Ms f_i_takePlan x_i_takePlan (by show 1 ≤ _; decide) ?_
          simp +contextual -implicitDefEqProofs (maxSteps := 10^7) only [go_sem, seval, ↓gZ, f_i_takePlan, hb, d3, hp1, n1, n2, n3, e1]
        have n3 : ¬ (c.toNat : Int) = 116 := fun h => c3 ((u8eq c 116 rfl).1 h)
        rw [if_neg c3]
        have cutCase : ∀ d : Bool, (if d then (c.toNat : Int) = 100 else ¬ (c.toNat : Int) = 100 ∧ (c.toNat : Int) = 97) → TkR (vcall Xs Ms n_i_takePlan [.d (.str (c :: s))] []) (tkCut d v (tk n) r1) := by
          intro d hd
          have k1 := strings_CutPrefix_ev r1 40 (by omega)
          unfold tkCut cutV at *
          cases h40 : expect 40 r1 with
          | none =>
            simp only [h40] at k1
            simp only [Option.bind_none]
            obtain ⟨o1, a1, q1, t1, ks1, r3, ok1, i1, _⟩ := IH r1 (by omega) (by omega)
            refine TkR_no (o := 0) (a := 0) (q := 0) (t := false) (ks := []) (r := []) ?_
            refine callE Xs Ms f_i_takePlan x_i_takePlan (by show 1 ≤ _; decide) ?_
            cases d with
            | true =>
              simp only [if_true] at hd
              simp +contextual -implicitDefEqProofs (maxSteps := 10^7) only [go_sem, seval, ↓gZ, f_i_takePlan, hb, d3, hp1, n1, n2, n3, e1, hd, k1, i1]
            | false =>
              simp only [Bool.false_eq_true, if_false] at hd
              simp +contextual -implicitDefEqProofs (maxSteps := 10^7) only [go_sem, seval, ↓gZ, f_i_takePlan, hb, d3, hp1, n1, n2, n3, e1, hd.1, hd.2, k1, i1]
          | some r2 =>
            simp only [h40] at k1
            simp only [Option.bind_some]
            have x2 := expect_some h40
            have hl2 : r2.length ≤ n ∧ r2.length ≤ 1000000 := by
              have : r1.length = r2.length + 1 := by rw [x2]; rfl
              omega
            obtain ⟨o1, a1, q1, t1, ks1, r3, ok1, i1, m1⟩ := IH r2 hl2.1 hl2.2
            cases h2 : tk n r2 with
            | none =>
              rw [h2] at m1
              simp only at m1
              subst m1
              simp only [Option.bind_none]
              refine TkR_no (o := 0) (a := 0) (q := 0) (t := false) (ks := []) (r := []) ?_
              refine callE Xs Ms f_i_takePlan x_i_takePlan (by show 1 ≤ _; decide) ?_
              cases d with
              | true =>
                simp only [if_true] at hd
                simp +contextual -implicitDefEqProofs (maxSteps := 10^7) only [go_sem, seval, ↓gZ, f_i_takePlan, hb, d3, hp1, n1, n2, n3, e1, hd, k1, i1]
              | false =>
                simp only [Bool.false_eq_true, if_false] at hd
                simp +contextual -implicitDefEqProofs (maxSteps := 10^7) only [go_sem, seval, ↓gZ, f_i_takePlan, hb, d3, hp1, n1, n2, n3, e1, hd.1, hd.2, k1, i1]
            | some p1 =>
              obtain ⟨b1, r3'⟩ := p1
              rw [h2] at m1
              simp only at m1
              obtain ⟨rfl, hb1, rfl⟩ := m1
              simp only [Option.bind_some]
              have s1 := (tk_sound n r2 b1 r3' h2).1
              have hl3 : r3'.length ≤ n ∧ r3'.length ≤ 1000000 := by
                have : r2.length = (shw b1).length + r3'.length := by rw [s1, List.length_append]
                omega
              have k2 := strings_CutPrefix_ev r3' 44 (by omega)
              unfold cutV at k2
              cases h44 : expect 44 r3' with
              | none =>
                simp only [h44] at k2
                simp only [Option.bind_none]
                obtain ⟨o2, a2, q2, t2, ks2, r5, ok2, i2, _⟩ := IH r3' hl3.1 hl3.2
                refine TkR_no (o := 0) (a := 0) (q := 0) (t := false) (ks := []) (r := []) ?_
                refine callE Xs Ms f_i_takePlan x_i_takePlan (by show 1 ≤ _; decide) ?_
                cases d with
                | true =>
                  simp only [if_true] at hd
                  simp +contextual -implicitDefEqProofs (maxSteps := 10^7) only [go_sem, seval, ↓gZ, f_i_takePlan, hb, d3, hp1, n1, n2, n3, e1, hd, k1, i1, k2, i2]
                | false =>
                  simp only [Bool.false_eq_true, if_false] at hd
                  simp +contextual -implicitDefEqProofs (maxSteps := 10^7) only [go_sem, seval, ↓gZ, f_i_takePlan, hb, d3, hp1, n1, n2, n3, e1, hd.1, hd.2, k1, i1, k2, i2]
              | some r4 =>
                simp only [h44] at k2
                simp only [Option.bind_some]
                have x4 := expect_some h44
                have hl4 : r4.length ≤ n ∧ r4.length ≤ 1000000 := by
                  have : r3'.length = r4.length + 1 := by rw [x4]; rfl
                  omega
                obtain ⟨o2, a2, q2, t2, ks2, r5, ok2, i2, m2⟩ := IH r4 hl4.1 hl4.2
                cases h4 : tk n r4 with
                | none =>
                  rw [h4] at m2
                  simp only at m2
                  subst m2
                  simp only [Option.bind_none]
                  refine TkR_no (o := 0) (a := 0) (q := 0) (t := false) (ks := []) (r := []) ?_
                  refine callE Xs Ms f_i_takePlan x_i_takePlan (by show 1 ≤ _; decide) ?_
                  cases d with
                  | true =>
                    simp only [if_true] at hd
                    simp +contextual -implicitDefEqProofs (maxSteps := 10^7) only [go_sem, seval, ↓gZ, f_i_takePlan, hb, d3, hp1, n1, n2, n3, e1, hd, k1, i1, k2, i2]
                  | false =>
                    simp only [Bool.false_eq_true, if_false] at hd
                    simp +contextual -implicitDefEqProofs (maxSteps := 10^7) only [go_sem, seval, ↓gZ, f_i_takePlan, hb, d3, hp1, n1, n2, n3, e1, hd.1, hd.2, k1, i1, k2, i2]
                | some p2 =>
                  obtain ⟨b2, r5'⟩ := p2
                  rw [h4] at m2
                  simp only at m2
                  obtain ⟨rfl, hb2, rfl⟩ := m2
                  simp only [Option.bind_some]
                  have s2 := (tk_sound n r4 b2 r5' h4).1
                  have hl5 : r5'.length ≤ 1000000 := by
                    have : r4.length = (shw b2).length + r5'.length := by rw [s2, List.length_append]
                    omega
                  have k3 := strings_CutPrefix_ev r5' 41 (by omega)
                  unfold cutV at k3
                  cases h41 : expect 41 r5' with
                  | none =>
                    simp only [h41] at k3
                    simp only [Option.bind_none]
                    refine TkR_no (o := opOf d) (a := v) (q := 0) (t := false) (ks := [.mk o1 a1 q1 t1 ks1, .mk o2 a2 q2 t2 ks2]) (r := r5') ?_
                    refine callE Xs Ms f_i_takePlan x_i_takePlan (by show 1 ≤ _; decide) ?_
                    cases d with
                    | true =>
                      simp only [if_true] at hd
                      simp +contextual -implicitDefEqProofs (maxSteps := 10^7) only [go_sem, seval, ↓gZ, f_i_takePlan, hb, d3, hp1, n1, n2, n3, e1, hd, k1, i1, k2, i2, k3, opOf]
                    | false =>
                      simp only [Bool.false_eq_true, if_false] at hd
                      simp +contextual -implicitDefEqProofs (maxSteps := 10^7) only [go_sem, seval, ↓gZ, f_i_takePlan, hb, d3, hp1, n1, n2, n3, e1, hd.1, hd.2, k1, i1, k2, i2, k3, opOf]
                  | some r6 =>
                    simp only [h41] at k3
                    simp only [Option.bind_some]
                    refine TkR_yes (b := .cut d v b1 b2) (o := opOf d) (a := v) (q := 0) (t := false) (ks := [.mk o1 a1 q1 t1 ks1, .mk o2 a2 q2 t2 ks2]) (by rw [BT.plan, hb1, hb2]) ?_
                    refine callE Xs Ms f_i_takePlan x_i_takePlan (by show 1 ≤ _; decide) ?_
                    cases d with
                    | true =>
                      simp only [if_true] at hd
                      simp +contextual -implicitDefEqProofs (maxSteps := 10^7) only [go_sem, seval, ↓gZ, f_i_takePlan, hb, d3, hp1, n1, n2, n3, e1, hd, k1, i1, k2, i2, k3, opOf]
                    | false =>
                      simp only [Bool.false_eq_true, if_false] at hd
                      simp +contextual -implicitDefEqProofs (maxSteps := 10^7) only [go_sem, seval, ↓gZ, f_i_takePlan, hb, d3, hp1, n1, n2, n3, e1, hd.1, hd.2, k1, i1, k2, i2, k3, opOf]
        by_cases c4 : c = 100
        · have n4 : (c.toNat : Int) = 100 := (u8eq c 100 rfl).2 c4
          rw [if_pos c4]
          exact cutCase true n4
        have n4 : ¬ (c.toNat : Int) = 100 := fun h => c4 ((u8eq c 100 rfl).1 h)
        rw [if_neg c4]
        by_cases c5 : c = 97
        · have n5 : (c.toNat : Int) = 97 := (u8eq c 97 rfl).2 c5
          rw [if_pos c5]
          exact cutCase false ⟨n4, n5⟩
        have n5 : ¬ (c.toNat : Int) = 97 := fun h => c5 ((u8eq c 97 rfl).1 h)
        rw [if_neg c5]
        refine TkR_no (o := 0) (a := 0) (q := 0) (t := false) (ks := []) (r := []) ?_
        refine callE Xs Ms f_i_takePlan x_i_takePlan (by show 1 ≤ _; decide) ?_
        simp +contextual -implicitDefEqProofs (maxSteps := 10^7) only [go_sem, seval, ↓gZ, f_i_takePlan, hb, d3, hp1, n1, n2, n3, n4, n5, e1]

def prsP (s : List UInt8) : Option BT := if s.length ≤ 1600 then parseB s else none
def PrR (res : Option (AV × List AObj)) (m : Option BT) : Prop := ∃ (o a q : Int) (t : Bool) (ks : List Plan),
  res = some (.tup [.agg [(.d (J o)), (.d (J a)), (.d (J q)), (.d (.bool t)), .own 0], (.d (.bool (m.isSome)))], [.row 5 (ks.map Plan.enc) true false]) ∧ Plan.mk o a q t ks = (m.getD .waste).plan
theorem PrR_no {res : Option (AV × List AObj)} (h : res = some (.tup [.agg [(.d (J 0)), (.d (J 0)), (.d (J 0)), (.d (.bool false)), .own 0], (.d (.bool false))], [.row 5 [] true false])) : PrR res none := ⟨0, 0, 0, false, [], h, rfl⟩
theorem i_ParsePlan_ev (s : List UInt8) (hs : s.length ≤ 1000000) : PrR (vcall Xs Ms n_i_ParsePlan [.d (.str s)] []) (prsP s) := by
  unfold prsP
  by_cases hl : s.length ≤ 1600
  · rw [if_pos hl]
    have hl' : ¬ (1600 : Int) < (s.length : Int) := by omega
    obtain ⟨o, a, q, t, ks, r, ok, e1, m1⟩ := i_takePlan_ev s.length s (Nat.le_refl _) hs
    unfold parseB
    cases h1 : tk s.length s with
    | none =>
      rw [h1] at m1
      simp only at m1
      subst m1
      refine PrR_no ?_
      refine callE Xs Ms f_i_ParsePlan x_i_ParsePlan (by show 1 ≤ _; decide) ?_
      simp +contextual -implicitDefEqProofs (maxSteps := 10^7) only [go_sem, seval, ↓gZ, f_i_ParsePlan, hl', e1]
    | some p1 =>
      obtain ⟨b, r'⟩ := p1
      rw [h1] at m1
      simp only at m1
      obtain ⟨rfl, hb, rfl⟩ := m1
      cases r' with
      | cons x r2 =>
        have hx : (x :: r2 == []) = false := rfl
        refine PrR_no ?_
        refine callE Xs Ms f_i_ParsePlan x_i_ParsePlan (by show 1 ≤ _; decide) ?_
        simp +contextual -implicitDefEqProofs (maxSteps := 10^7) only [go_sem, seval, ↓gZ, f_i_ParsePlan, hl', e1, hx]
      | nil =>
        have e2 := i_PlanSize_ev b.plan
        have e3 := i_numbersFit_ev b
        rw [toBT_plan] at e2
        rw [hb, Plan.enc_mk] at e2 e3
        show PrR _ (if b.cnt ≤ 255 ∧ cntb b = true then some b else none)
        rcases sizeIn_some 255 b with ⟨hc, hz⟩ | ⟨hc, hz⟩
        · rw [hz] at e2
          have h0 : ¬ (b.cnt : Int) < 0 := by omega
          cases hcb : cntb b with
          | false =>
            rw [hcb] at e3
            rw [if_neg (fun h => by cases h.2)]
            refine PrR_no ?_
            refine callE Xs Ms f_i_ParsePlan x_i_ParsePlan (by show 1 ≤ _; decide) ?_
            simp +contextual -implicitDefEqProofs (maxSteps := 10^7) only [go_sem, seval, ↓gZ, f_i_ParsePlan, hl', e1, e2, e3, h0]
          | true =>
            rw [hcb] at e3
            rw [if_pos ⟨by omega, rfl⟩]
            refine ⟨o, a, q, t, ks, ?_, hb.symm⟩
            refine callE Xs Ms f_i_ParsePlan x_i_ParsePlan (by show 1 ≤ _; decide) ?_
            simp +contextual -implicitDefEqProofs (maxSteps := 10^7) only [go_sem, seval, ↓gZ, f_i_ParsePlan, hl', e1, e2, e3, h0]
            rfl
        · rw [hz] at e2
          rw [if_neg (fun h => by omega)]
          refine PrR_no ?_
          refine callE Xs Ms f_i_ParsePlan x_i_ParsePlan (by show 1 ≤ _; decide) ?_
          simp +contextual -implicitDefEqProofs (maxSteps := 10^7) only [go_sem, seval, ↓gZ, f_i_ParsePlan, hl', e1, e2]
  · rw [if_neg hl]
    have hl' : (1600 : Int) < (s.length : Int) := by omega
    refine PrR_no ?_
    refine callE Xs Ms f_i_ParsePlan x_i_ParsePlan (by show 1 ≤ _; decide) ?_
    simp +contextual -implicitDefEqProofs (maxSteps := 10^7) only [go_sem, seval, ↓gZ, f_i_ParsePlan, hl']

def numS (s : List UInt8) : Int := match rd s with
  | some v => (v : Int)
  | none => -1
theorem numS_no {s : List UInt8} (h : rd s = none) : numS s = -1 := by unfold numS; rw [h]
theorem numS_yes {s : List UInt8} {v : Nat} (h : rd s = some v) : numS s = v := by unfold numS; rw [h]
theorem rd_iff {s : List UInt8} {v : Nat} : rd s = some v ↔ s = num v ∧ v ≤ 999999 := ⟨rd_some, fun ⟨h1, h2⟩ => by rw [h1]; exact rd_num h2⟩
theorem val_mono (s : List UInt8) (k : Nat) : val (s.take k) ≤ val s := by
  have key : ∀ (u : List UInt8) (n : Nat), n ≤ u.foldl (fun n c => 10 * n + (c.toNat - 48)) n := by
    intro u
    induction u with
    | nil => intro n; exact Nat.le_refl _
    | cons c u ih => intro n; exact Nat.le_trans (show n ≤ 10 * n + (c.toNat - 48) by omega) (ih _)
  conv => rhs; rw [← List.take_append_drop k s]
  unfold val
  rw [List.foldl_append]
  exact key _ _
theorem s_readNumber_ev (s : List UInt8) (hs : s.length ≤ 1000000) : vcall Xs Ms n_s_readNumber [.d (.str s)] [] = some ((.d (J (numS s))), []) := by
  generalize hres : numS s = res
  refine callE Xs Ms f_s_readNumber x_s_readNumber (by show 1 ≤ _; decide) ?_
  simp +contextual -implicitDefEqProofs (maxSteps := 10^7) only [go_sem, seval, ↓gZ, f_s_readNumber]
  refine LW_over Xs Ms (st0 := ?st0) (α := Nat) (fun k => [(4, .d (J (k : Int))), (3, .d (J (val (s.take k) : Nat)))]) (fun _ => []) (fun k => k ≤ s.length ∧ (∀ c ∈ s.take k, isD c = true) ∧ val (s.take k) ≤ 999999) (fun k => s.length - k) 0 ?hc (by simp [val]) ?h0 ?step
  case hc => simp +contextual -implicitDefEqProofs (maxSteps := 10^7) only [go_sem, seval, ↓gZ] <;> exact rfl
  case h0 => rfl
  case step =>
    intro k ⟨hk, hd, hv⟩ ih
    by_cases hlt : k < s.length
    · obtain ⟨c, hc⟩ : ∃ c, s[k]? = some c := ⟨_, List.getElem?_eq_getElem hlt⟩
      have hlt' : (k : Int) < (s.length : Int) := by omega
      by_cases hD : isD c = true
      · have hD' := (isD_iff c).1 hD
        have w1 := wi (10 * (val (s.take k) : Nat)) (by omega) (by omega)
        have w2 := wu8 ((c.toNat : Int) - 48) (by omega) (by omega)
        have w3 := wi ((c.toNat : Int) - 48) (by omega) (by omega)
        have w4 : IntKind.i64.wrap (10 * (val (s.take k) : Nat) + ((c.toNat : Int) - 48)) = ((val (s.take (k + 1)) : Nat) : Int) := by
          rw [wi _ (by omega) (by omega), val_take hc]; omega
        have w5 := wrap_succ (k := k) (by omega)
        by_cases hbig : val (s.take (k + 1)) ≤ 999999
        · have hb : ¬ (999999 : Int) < ((val (s.take (k + 1)) : Nat) : Int) := by omega
          simp +contextual -implicitDefEqProofs (maxSteps := 10^7) only [go_sem, seval, ↓gZ, hlt', hc, hD'.1, hD'.2, w1, w2, w3, w4, w5, hb]
          refine ih (k + 1) _ ⟨by omega, fun d hdm => ?_, hbig⟩ (by omega) ?_
          · rw [List.take_succ_eq_append_getElem hlt] at hdm
            rcases List.mem_append.1 hdm with hdm | hdm
            · exact hd d hdm
            · simp only [List.mem_singleton] at hdm
              rw [hdm, (List.getElem?_eq_some_iff.1 hc).2]
              exact hD
          · simp +contextual -implicitDefEqProofs (maxSteps := 10^7) only [go_sem, seval, ↓gZ]
        · have hb : (999999 : Int) < ((val (s.take (k + 1)) : Nat) : Int) := by omega
          have hno : rd s = none := by
            cases hr : rd s with
            | none => rfl
            | some v =>
              obtain ⟨h1, h2⟩ := rd_some hr
              have := val_mono s (k + 1)
              rw [h1, val_num] at this
              rw [h1] at hbig
              omega
          rw [numS_no hno] at hres
          subst hres
          simp +contextual -implicitDefEqProofs (maxSteps := 10^7) only [go_sem, seval, ↓gZ, hlt', hc, hD'.1, hD'.2, w1, w2, w3, w4, w5, hb]
      · have hno : rd s = none := by
          cases hr : rd s with
          | none => rfl
          | some v =>
            obtain ⟨h1, h2⟩ := rd_some hr
            rw [h1] at hc
            exact absurd (num_dig v c (List.mem_of_getElem? hc)) hD
        rw [numS_no hno] at hres
        subst hres
        by_cases hlo : (c.toNat : Int) < 48
        · simp +contextual -implicitDefEqProofs (maxSteps := 10^7) only [go_sem, seval, ↓gZ, hlt', hc, hlo]
        · have hhi : (57 : Int) < (c.toNat : Int) := Classical.byContradiction fun h => hD ((isD_iff c).2 ⟨hlo, h⟩)
          simp +contextual -implicitDefEqProofs (maxSteps := 10^7) only [go_sem, seval, ↓gZ, hlt', hc, hlo, hhi]
    · have hke : k = s.length := by omega
      subst hke
      have ht : s.take s.length = s := List.take_length
      rw [ht] at hd hv
      have hge : ¬ (s.length : Int) < (s.length : Int) := by omega
      have e1 := s_number_ev (val s) (by omega)
      by_cases hn : s = []
      · subst hn
        rw [numS_no (rd_not fun h => h.1 rfl)] at hres
        subst hres
        simp +contextual -implicitDefEqProofs (maxSteps := 10^7) only [go_sem, seval, ↓gZ]
      · have hb : (s == []) = false := by
          cases s with
          | nil => exact absurd rfl hn
          | cons x r => rfl
        by_cases heq : s = num (val s)
        · have hne : (s == num (val s)) = true := by rw [beq_iff_eq]; exact heq
          rw [numS_yes (rd_iff.2 ⟨heq, hv⟩)] at hres
          subst hres
          simp +contextual -implicitDefEqProofs (maxSteps := 10^7) only [go_sem, seval, ↓gZ, ht, hge, e1, hb, hne]
        · have hne : (s == num (val s)) = false := by simpa using heq
          have hno : rd s = none := by
            cases hr : rd s with
            | none => rfl
            | some v =>
              obtain ⟨h1, h2⟩ := rd_some hr
              exact absurd (by conv => rhs; rw [h1, val_num]
                               exact h1) heq
          rw [numS_no hno] at hres
          subst hres
          simp +contextual -implicitDefEqProofs (maxSteps := 10^7) only [go_sem, seval, ↓gZ, ht, hge, e1, hb, hne]

def nxB (s : List UInt8) (k : Nat) : Int := match s[k]? with
  | some c => (c.toNat : Int)
  | none => 0
theorem nxB_some {s : List UInt8} {k : Nat} {c : UInt8} (h : s[k]? = some c) : nxB s k = c.toNat := by unfold nxB; rw [h]
theorem nxB_none {s : List UInt8} {k : Nat} (h : s[k]? = none) : nxB s k = 0 := by unfold nxB; rw [h]
theorem s_next_ev (s : List UInt8) (k : Nat) (bad : Bool) : vcall Xs Ms n_s_planText_next [.ptr 0 0] [.box [.d (.str s), (.d (J k)), (.d (.bool bad))]] = some (.d (.int .u8 (nxB s k)), [.box [.d (.str s), (.d (J k)), (.d (.bool bad))]]) := by
  by_cases h : k < s.length
  · obtain ⟨c, hc⟩ : ∃ c, s[k]? = some c := ⟨_, List.getElem?_eq_getElem h⟩
    rw [nxB_some hc]
    have h' : ¬ (s.length : Int) ≤ (k : Int) := by omega
    refine callE Xs Ms f_s_planText_next x_s_planText_next (by show 1 ≤ _; decide) ?_
    simp +contextual -implicitDefEqProofs (maxSteps := 10^7) only [go_sem, seval, ↓gZ, f_s_planText_next, h', hc]
  · rw [nxB_none (by simp; omega)]
    have h' : (s.length : Int) ≤ (k : Int) := by omega
    refine callE Xs Ms f_s_planText_next x_s_planText_next (by show 1 ≤ _; decide) ?_
    simp +contextual -implicitDefEqProofs (maxSteps := 10^7) only [go_sem, seval, ↓gZ, f_s_planText_next, h']
theorem s_skip_ok (s : List UInt8) (k : Nat) (n : Int) (hk : k ≤ 10000000) (h : nxB s k = n) : vcall Xs Ms n_s_planText_skip [.ptr 0 0, .d (.int .u8 n)] [.box [.d (.str s), (.d (J k)), (.d (.bool false))]] = some (.tup [], [.box [.d (.str s), (.d (J ((k + 1 : Nat)))), (.d (.bool false))]]) := by
  have e1 := s_next_ev s k false
  rw [h] at e1
  have w := wrap_succ (k := k) (by omega)
  refine callE Xs Ms f_s_planText_skip x_s_planText_skip (by show 2 ≤ _; decide) ?_
  simp +contextual -implicitDefEqProofs (maxSteps := 10^7) only [go_sem, seval, ↓gZ, f_s_planText_skip, e1, w]
theorem s_skip_bad (s : List UInt8) (k : Nat) (n : Int) (bad : Bool) (hk : k ≤ 10000000) (h : ¬ nxB s k = n) : vcall Xs Ms n_s_planText_skip [.ptr 0 0, .d (.int .u8 n)] [.box [.d (.str s), (.d (J k)), (.d (.bool bad))]] = some (.tup [], [.box [.d (.str s), (.d (J ((k + 1 : Nat)))), (.d (.bool true))]]) := by
  have e1 := s_next_ev s k bad
  have w := wrap_succ (k := k) (by omega)
  refine callE Xs Ms f_s_planText_skip x_s_planText_skip (by show 2 ≤ _; decide) ?_
  cases bad with
  | false => simp +contextual -implicitDefEqProofs (maxSteps := 10^7) only [go_sem, seval, ↓gZ, f_s_planText_skip, e1, w, h]
  | true => simp +contextual -implicitDefEqProofs (maxSteps := 10^7) only [go_sem, seval, ↓gZ, f_s_planText_skip, e1, w, h]
theorem s_count_ev (s : List UInt8) (k : Nat) (hk : k ≤ s.length) (hs : s.length ≤ 1000000) (x : List UInt8) (hx : (s.drop k).takeWhile isD = x) :
    vcall Xs Ms n_s_planText_count [.ptr 0 0] [.box [.d (.str s), (.d (J k)), (.d (.bool false))]] = some ((.d (J (numS x))), [.box [.d (.str s), (.d (J ((k + x.length : Nat)))), (.d (.bool (decide (numS x < 0))))]]) := by
  have hle : x.length ≤ s.length - k := by have := tw_le (p := isD) (s.drop k); rw [hx, List.length_drop] at this; exact this
  generalize hres : numS x = res
  refine callE Xs Ms f_s_planText_count x_s_planText_count (by show 1 ≤ _; decide) ?_
  simp +contextual -implicitDefEqProofs (maxSteps := 10^7) only [go_sem, seval, ↓gZ, f_s_planText_count]
  refine LW_over Xs Ms (st0 := ?st0) (α := Nat) (fun _ => []) (fun j => [(0, .box [.d (.str s), (.d (J ((k + j : Nat)))), (.d (.bool false))])]) (fun j => j ≤ x.length) (fun j => s.length - j) 0 ?hc (by omega) ?h0 ?step
  case hc => simp +contextual -implicitDefEqProofs (maxSteps := 10^7) only [go_sem, seval, ↓gZ] <;> exact rfl
  case h0 => rfl
  case step =>
    intro j hj ih
    have e1 := s_next_ev s (k + j) false
    have w : IntKind.i64.wrap (((k + j : Nat) : Int) + 1) = ((k + (j + 1) : Nat) : Int) := by rw [wrap_succ (k := k + j) (by omega)]; rfl
    by_cases hlt : j < x.length
    · obtain ⟨c, hc, hD⟩ := tw_in (p := isD) (s := s.drop k) (k := j) (by rw [hx]; exact hlt)
      rw [List.getElem?_drop] at hc
      rw [nxB_some hc] at e1
      have hD' := (isD_iff c).1 hD
      have h1 : (48 : Int) ≤ c.toNat := by omega
      have h2 : (c.toNat : Int) ≤ 57 := by omega
      simp +contextual -implicitDefEqProofs (maxSteps := 10^7) only [go_sem, seval, ↓gZ, e1, h1, h2, w]
      refine ih (j + 1) _ (by omega) (by omega) ?_
      simp +contextual -implicitDefEqProofs (maxSteps := 10^7) only [go_sem, seval, ↓gZ]
    · have hje : j = x.length := by omega
      subst hje
      have hnd : ¬ ((48 : Int) ≤ nxB s (k + x.length) ∧ nxB s (k + x.length) ≤ 57) := by
        rcases tw_end (p := isD) (s := s.drop k) with h | ⟨c, hc, hD⟩
        · rw [hx, List.length_drop] at h
          rw [nxB_none (by simp; omega)]
          omega
        · rw [hx, List.getElem?_drop] at hc
          rw [nxB_some hc]
          intro h
          exact hD ((isD_iff c).2 (by omega))
      have hsl : (s.take (k + x.length)).drop k = x := by
        rw [List.drop_take, show k + x.length - k = x.length by omega]
        conv => lhs; rw [← hx]
        rw [tw_take, hx]
      have e2 := s_readNumber_ev x (by omega)
      rw [hres] at e2
      have q1 : ((k + x.length : Nat) : Int) ≤ (s.length : Int) := by omega
      have q2 : (k : Int) ≤ ((k + x.length : Nat) : Int) := by omega
      by_cases h1 : (48 : Int) ≤ nxB s (k + x.length)
      · have h2 : ¬ nxB s (k + x.length) ≤ 57 := fun h => hnd ⟨h1, h⟩
        simp +contextual -implicitDefEqProofs (maxSteps := 10^7) only [go_sem, seval, ↓gZ, e1, h1, h2, hsl, e2, q1, q2]
      · simp +contextual -implicitDefEqProofs (maxSteps := 10^7) only [go_sem, seval, ↓gZ, e1, h1, hsl, e2, q1, q2]

theorem drop_add {s u v : List UInt8} {k : Nat} (h : s.drop k = u ++ v) : s.drop (k + u.length) = v := by
  have := congrArg (List.drop u.length) h
  rw [List.drop_drop, List.drop_left] at this
  exact this
theorem nx_drop {s t : List UInt8} {k : Nat} {c : UInt8} (h : s.drop k = c :: t) : nxB s k = c.toNat := by
  refine nxB_some ?_
  have : (s.drop k)[0]? = some c := by rw [h]; rfl
  rwa [List.getElem?_drop, Nat.add_zero] at this
theorem nx_lt {s : List UInt8} {k : Nat} {n : Int} (h : nxB s k = n) (hn : n ≠ 0) : k < s.length := by
  rcases Nat.lt_or_ge k s.length with h' | h'
  · exact h'
  · rw [nxB_none (by simp; omega)] at h; exact absurd h.symm hn
theorem shw_cases (b : BT) (r : List UInt8) : (b = .waste ∧ shw b ++ r = 119 :: r) ∨ (∃ i t, b = .pane i t ∧ shw b ++ r = (if t then 116 else 112) :: (num i.toNat ++ r)) ∨
    ∃ d a x y, b = .cut d a x y ∧ shw b ++ r = (if d then 100 else 97) :: (num a.toNat ++ 40 :: (shw x ++ 44 :: (shw y ++ 41 :: r))) := by
  cases b with
  | waste => exact .inl ⟨rfl, rfl⟩
  | pane i t => exact .inr (.inl ⟨i, t, rfl, by simp [shw]⟩)
  | cut d a x y => exact .inr (.inr ⟨d, a, x, y, rfl, by simp [shw]⟩)
theorem cut_head {s : List UInt8} {k : Nat} {c : UInt8} {d : Bool} (hdc : s.drop k = c :: s.drop (k + 1)) (hd : c = (if d then 100 else 97)) {b : BT} {r : List UInt8} (h2 : sixd b = true) (h3 : s.drop k = shw b ++ r) :
    ∃ a x y, b = .cut d a x y ∧ (0 ≤ a ∧ a ≤ 999999) ∧ sixd x = true ∧ sixd y = true ∧ s.drop (k + 1) = num a.toNat ++ 40 :: (shw x ++ 44 :: (shw y ++ 41 :: r)) := by
  rw [hdc] at h3
  rcases shw_cases b r with ⟨rfl, h4⟩ | ⟨i, t, rfl, h4⟩ | ⟨d', a, x, y, rfl, h4⟩
  · rw [h4, hd] at h3; cases d <;> cases h3
  · rw [h4, hd] at h3; cases d <;> cases t <;> cases h3
  · rw [h4] at h3
    simp only [List.cons.injEq] at h3
    obtain ⟨h5, h6⟩ := h3
    rw [hd] at h5
    have hdd : d = d' := by cases d <;> cases d' <;> first | rfl | cases h5
    subst hdd
    simp only [sixd, Bool.and_eq_true, decide_eq_true_eq] at h2
    exact ⟨a, x, y, rfl, h2.1.1, h2.1.2, h2.2, h6⟩
theorem num_at {s r : List UInt8} {k v : Nat} (hv : v ≤ 999999) (hr : noDig r) (h : s.drop k = num v ++ r) : (s.drop k).takeWhile isD = num v ∧ numS (num v) = v := by
  rw [h]
  exact ⟨(take_num v hr).1, numS_yes (rd_num hv)⟩
theorem noDig_of {c : UInt8} {r : List UInt8} (h : isD c = false) : noDig (c :: r) := fun d t e => by cases e; exact h
theorem s_skip_ev (s : List UInt8) (k : Nat) (n : Int) (bad : Bool) (hk : k ≤ 10000000) : vcall Xs Ms n_s_planText_skip [.ptr 0 0, .d (.int .u8 n)] [.box [.d (.str s), (.d (J k)), (.d (.bool bad))]] = some (.tup [], [.box [.d (.str s), (.d (J ((k + 1 : Nat)))), (.d (.bool (bad || !decide (nxB s k = n))))]]) := by
  by_cases h : nxB s k = n
  · cases bad with
    | false =>
      rw [s_skip_ok s k n hk h]
      simp [h]
    | true =>
      have e1 := s_next_ev s k true
      have w := wrap_succ (k := k) (by omega)
      refine callE Xs Ms f_s_planText_skip x_s_planText_skip (by show 2 ≤ _; decide) ?_
      simp +contextual -implicitDefEqProofs (maxSteps := 10^7) only [go_sem, seval, ↓gZ, f_s_planText_skip, e1, w]
  · rw [s_skip_bad s k n bad hk h]
    simp [h]
def SpR (s : List UInt8) (n k : Nat) (res : Option (AV × List AObj)) : Prop := ∃ (o a q : Int) (t : Bool) (ks : List Plan) (k' : Nat) (bad : Bool),
  res = some (.agg [(.d (J o)), (.d (J a)), (.d (J q)), (.d (.bool t)), .own 1], [.box [.d (.str s), (.d (J (k'))), (.d (.bool bad))], .row 5 (ks.map Plan.enc) true false]) ∧ k' ≤ s.length + 2 + n ∧ (bad = false → k' ≤ s.length ∧ k < k') ∧
  ∀ b r, noDig r → sixd b = true → s.drop k = shw b ++ r → Plan.mk o a q t ks = b.plan ∧ k' = k + (shw b).length ∧ bad = false
theorem SpR_bad {s : List UInt8} {n k k' : Nat} {res : Option (AV × List AObj)} (h : res = some (.agg [(.d (J 0)), (.d (J 0)), (.d (J 0)), (.d (.bool false)), .own 1], [.box [.d (.str s), (.d (J (k'))), (.d (.bool true))], .row 5 [] true false])) (hk : k' ≤ s.length + 2 + n) (hno : ∀ b r, noDig r → sixd b = true → s.drop k ≠ shw b ++ r) : SpR s n k res :=
  ⟨0, 0, 0, false, [], k', true, h, hk, (fun h => by cases h), fun b r h1 h2 h3 => absurd h3 (hno b r h1 h2)⟩
theorem s_plan_ev (s : List UInt8) (hs : s.length ≤ 1000000) : ∀ (n k : Nat), s.length - k < n → n ≤ 2000000 → k ≤ s.length → SpR s n k (vcall Xs Ms n_s_planText_plan [.ptr 0 0] [.box [.d (.str s), (.d (J k)), (.d (.bool false))]]) := by
  intro n
  induction n with
  | zero => intro k h; omega
  | succ n IH =>
    intro k hn hn2 hk
    have e1 := s_next_ev s k false
    have w := wrap_succ (k := k) (by omega)
    by_cases hlt : k < s.length
    · obtain ⟨c, hc⟩ : ∃ c, s[k]? = some c := ⟨_, List.getElem?_eq_getElem hlt⟩
      have hdc : s.drop k = c :: s.drop (k + 1) := by rw [List.drop_eq_getElem_cons hlt, (List.getElem?_eq_some_iff.1 hc).2]
      rw [nxB_some hc] at e1
      by_cases c1 : c = 119
      · have n1 : (c.toNat : Int) = 119 := (u8eq c 119 rfl).2 c1
        refine ⟨0, 0, 0, false, [], k + 1, false, ?_, by omega, fun _ => by omega, fun b r h1 h2 h3 => ?_⟩
        · refine callE Xs Ms f_s_planText_plan x_s_planText_plan (by show 1 ≤ _; decide) ?_
          simp +contextual -implicitDefEqProofs (maxSteps := 10^7) only [go_sem, seval, ↓gZ, f_s_planText_plan, e1, w, n1]
        · rw [hdc, c1] at h3
          rcases shw_cases b r with ⟨rfl, _⟩ | ⟨i, t, rfl, h4⟩ | ⟨d, a, x, y, rfl, h4⟩
          · exact ⟨rfl, rfl, rfl⟩
          · rw [h4] at h3; cases t <;> cases h3
          · rw [h4] at h3; cases d <;> cases h3
      have n1 : ¬ (c.toNat : Int) = 119 := fun h => c1 ((u8eq c 119 rfl).1 h)
      obtain ⟨x, hx⟩ : ∃ x, (s.drop (k + 1)).takeWhile isD = x := ⟨_, rfl⟩
      have hxl : x.length ≤ s.length - (k + 1) := by have := tw_le (p := isD) (s.drop (k + 1)); rw [hx, List.length_drop] at this; exact this
      have e2 := s_count_ev s (k + 1) (by omega) hs x hx
      by_cases c2 : c = 112 ∨ c = 116
      · have key : ∀ t : Bool, c = (if t then 116 else 112) → SpR s (n + 1) k (vcall Xs Ms n_s_planText_plan [.ptr 0 0] [.box [.d (.str s), (.d (J k)), (.d (.bool false))]]) := by
          intro t ht
          refine ⟨1, 0, numS x, t, [], k + 1 + x.length, decide (numS x < 0), ?_, by omega, fun _ => by omega, fun b r h1 h2 h3 => ?_⟩
          · refine callE Xs Ms f_s_planText_plan x_s_planText_plan (by show 1 ≤ _; decide) ?_
            cases t with
            | false =>
              have n2 : (c.toNat : Int) = 112 := (u8eq c 112 rfl).2 ht
              have n3 : ¬ (c.toNat : Int) = 116 := by omega
              simp +contextual -implicitDefEqProofs (maxSteps := 10^7) only [go_sem, seval, ↓gZ, f_s_planText_plan, e1, w, n1, n2, n3, e2]
            | true =>
              have n3 : (c.toNat : Int) = 116 := (u8eq c 116 rfl).2 ht
              have n2 : ¬ (c.toNat : Int) = 112 := by omega
              simp +contextual -implicitDefEqProofs (maxSteps := 10^7) only [go_sem, seval, ↓gZ, f_s_planText_plan, e1, w, n1, n2, n3, e2]
          · rw [hdc, ht] at h3
            rcases shw_cases b r with ⟨rfl, h4⟩ | ⟨i, t', rfl, h4⟩ | ⟨d, a, x, y, rfl, h4⟩
            · rw [h4] at h3; cases t <;> cases h3
            · rw [h4] at h3
              simp only [List.cons.injEq] at h3
              obtain ⟨h5, h6⟩ := h3
              have htt : t = t' := by cases t <;> cases t' <;> first | rfl | cases h5
              subst htt
              simp only [sixd, decide_eq_true_eq] at h2
              obtain ⟨g1, g2⟩ := num_at (v := i.toNat) (by omega) h1 h6
              rw [hx] at g1
              rw [g1, g2, Int.toNat_of_nonneg h2.1]
              refine ⟨rfl, by simp [shw]; omega, by simp; omega⟩
            · rw [h4] at h3; cases d <;> cases t <;> cases h3
        rcases c2 with c2 | c2
        · exact key false c2
        · exact key true c2
      have n2 : ¬ (c.toNat : Int) = 112 := fun h => c2 (.inl ((u8eq c 112 rfl).1 h))
      have n3 : ¬ (c.toNat : Int) = 116 := fun h => c2 (.inr ((u8eq c 116 rfl).1 h))
      by_cases c4 : c = 100 ∨ c = 97
      · have key : ∀ d : Bool, c = (if d then 100 else 97) → SpR s (n + 1) k (vcall Xs Ms n_s_planText_plan [.ptr 0 0] [.box [.d (.str s), (.d (J k)), (.d (.bool false))]]) := by
          intro d hd
          have hf : (if d then (c.toNat : Int) = 100 else ¬ (c.toNat : Int) = 100 ∧ (c.toNat : Int) = 97) := by
            cases d with
            | true => exact (u8eq c 100 rfl).2 hd
            | false =>
              have h97 : (c.toNat : Int) = 97 := (u8eq c 97 rfl).2 hd
              exact ⟨by omega, h97⟩
          have e3 := s_skip_ev s (k + 1 + x.length) 40 (decide (numS x < 0)) (by omega)
          have first : ∀ b r, noDig r → sixd b = true → s.drop k = shw b ++ r → ∃ a l y, b = .cut d a l y ∧ sixd l = true ∧ sixd y = true ∧ numS x = a ∧ 0 ≤ a ∧ x = num a.toNat ∧ nxB s (k + 1 + x.length) = 40 ∧ s.drop (k + 1 + x.length + 1) = shw l ++ 44 :: (shw y ++ 41 :: r) := by
            intro b r h1 h2 h3
            obtain ⟨a, l, y, rfl, ha, hl, hy, h6⟩ := cut_head hdc hd h2 h3
            obtain ⟨g1, g2⟩ := num_at (v := a.toNat) (by omega) (noDig_of rfl) h6
            rw [hx] at g1
            have h7 := drop_add h6
            rw [← g1] at h7
            refine ⟨a, l, y, rfl, hl, hy, by rw [g1, g2]; omega, ha.1, g1, nx_drop h7, ?_⟩
            exact drop_add (u := [40]) h7
          by_cases hb1 : numS x < 0 ∨ ¬ nxB s (k + 1 + x.length) = 40
          · have hbv : (decide (numS x < 0) || !decide (nxB s (k + 1 + x.length) = 40)) = true := by
              rcases hb1 with h | h <;> simp [h]
            rw [hbv] at e3
            refine SpR_bad (k' := k + 1 + x.length + 1) ?_ (by omega) fun b r h1 h2 h3 => ?_
            · refine callE Xs Ms f_s_planText_plan x_s_planText_plan (by show 1 ≤ _; decide) ?_
              cases d with
              | true =>
                simp only [if_true] at hf
                simp +contextual -implicitDefEqProofs (maxSteps := 10^7) only [go_sem, seval, ↓gZ, f_s_planText_plan, e1, w, n1, n2, n3, hf, e2, e3]
              | false =>
                simp only [Bool.false_eq_true, if_false] at hf
                simp +contextual -implicitDefEqProofs (maxSteps := 10^7) only [go_sem, seval, ↓gZ, f_s_planText_plan, e1, w, n1, n2, n3, hf.1, hf.2, e2, e3]
            · obtain ⟨a, l, y, _, _, _, m1, m2, _, m3, _⟩ := first b r h1 h2 h3
              rcases hb1 with h | h
              · omega
              · exact h m3
          have hb1' : ¬ numS x < 0 ∧ nxB s (k + 1 + x.length) = 40 := ⟨fun h => hb1 (.inl h), Classical.byContradiction fun h => hb1 (.inr h)⟩
          have hbv : (decide (numS x < 0) || !decide (nxB s (k + 1 + x.length) = 40)) = false := by simp [hb1'.1, hb1'.2] <;> omega
          rw [hbv] at e3
          have hlt1 := nx_lt hb1'.2 (by decide)
          obtain ⟨o1, a1, q1, t1, ks1, k3, b3, i1, g1, g2, g3⟩ := IH (k + 1 + x.length + 1) (by omega) (by omega) (by omega)
          have e4 := s_skip_ev s k3 44 b3 (by omega)
          by_cases hb2 : b3 = true ∨ ¬ nxB s k3 = 44
          · have hbv2 : (b3 || !decide (nxB s k3 = 44)) = true := by
              rcases hb2 with h | h <;> simp [h]
            rw [hbv2] at e4
            refine SpR_bad (k' := k3 + 1) ?_ (by omega) fun b r h1 h2 h3 => ?_
            · refine callE Xs Ms f_s_planText_plan x_s_planText_plan (by show 1 ≤ _; decide) ?_
              cases d with
              | true =>
                simp only [if_true] at hf
                simp +contextual -implicitDefEqProofs (maxSteps := 10^7) only [go_sem, seval, ↓gZ, f_s_planText_plan, e1, w, n1, n2, n3, hf, e2, e3, i1, e4]
              | false =>
                simp only [Bool.false_eq_true, if_false] at hf
                simp +contextual -implicitDefEqProofs (maxSteps := 10^7) only [go_sem, seval, ↓gZ, f_s_planText_plan, e1, w, n1, n2, n3, hf.1, hf.2, e2, e3, i1, e4]
            · obtain ⟨a, l, y, _, hl, _, _, _, _, _, m4⟩ := first b r h1 h2 h3
              obtain ⟨_, m5, m6⟩ := g3 l _ (noDig_of rfl) hl m4
              rcases hb2 with h | h
              · rw [m6] at h; cases h
              · exact h (by rw [m5]; exact nx_drop (drop_add m4))
          have hb2' : b3 = false ∧ nxB s k3 = 44 := ⟨by cases b3 <;> first | rfl | exact absurd (.inl rfl) hb2, Classical.byContradiction fun h => hb2 (.inr h)⟩
          obtain ⟨rfl, hnx2⟩ := hb2'
          have hbv2 : (false || !decide (nxB s k3 = 44)) = false := by simp [hnx2]
          rw [hbv2] at e4
          have hlt2 := nx_lt hnx2 (by decide)
          have g2 := g2 rfl
          obtain ⟨o2, a2, q2, t2, ks2, k5, b5, i2, f1, f2, f3⟩ := IH (k3 + 1) (by omega) (by omega) (by omega)
          have e5 := s_skip_ev s k5 41 b5 (by omega)
          refine ⟨opOf d, numS x, 0, false, [.mk o1 a1 q1 t1 ks1, .mk o2 a2 q2 t2 ks2], k5 + 1, b5 || !decide (nxB s k5 = 41), ?_, by omega, fun hbf => ?_, fun b r h1 h2 h3 => ?_⟩
          · refine callE Xs Ms f_s_planText_plan x_s_planText_plan (by show 1 ≤ _; decide) ?_
            cases d with
            | true =>
              simp only [if_true] at hf
              simp +contextual -implicitDefEqProofs (maxSteps := 10^7) only [go_sem, seval, ↓gZ, f_s_planText_plan, e1, w, n1, n2, n3, hf, e2, e3, i1, e4, i2, e5, opOf]
            | false =>
              simp only [Bool.false_eq_true, if_false] at hf
              simp +contextual -implicitDefEqProofs (maxSteps := 10^7) only [go_sem, seval, ↓gZ, f_s_planText_plan, e1, w, n1, n2, n3, hf.1, hf.2, e2, e3, i1, e4, i2, e5, opOf]
          · cases b5 with
            | true => cases hbf
            | false =>
              have hnx3 : nxB s k5 = 41 := by simpa using hbf
              have := nx_lt hnx3 (by decide)
              have := f2 rfl
              omega
          · obtain ⟨a, l, y, rfl, hl, hy, m1, m2, m2', m3, m4⟩ := first b r h1 h2 h3
            obtain ⟨p1, p2, _⟩ := g3 l _ (noDig_of rfl) hl m4
            have m7 := drop_add m4
            rw [← p2] at m7
            have m8 : s.drop (k3 + 1) = shw y ++ 41 :: r := drop_add (u := [44]) m7
            obtain ⟨p3, p4, p5⟩ := f3 y _ (noDig_of rfl) hy m8
            have m9 := nx_drop (drop_add m8)
            rw [← p4] at m9
            refine ⟨by rw [BT.plan, p1, p3, m1], ?_, ?_⟩
            · rw [p4, p2, m2']
              simp only [shw, List.length_cons, List.length_append, List.length_nil]
              omega
            · rw [p5, m9]; rfl
        rcases c4 with c4 | c4
        · exact key true c4
        · exact key false c4
      have n4 : ¬ (c.toNat : Int) = 100 := fun h => c4 (.inl ((u8eq c 100 rfl).1 h))
      have n5 : ¬ (c.toNat : Int) = 97 := fun h => c4 (.inr ((u8eq c 97 rfl).1 h))
      refine SpR_bad (k' := k + 1) ?_ (by omega) fun b r h1 h2 h3 => ?_
      · refine callE Xs Ms f_s_planText_plan x_s_planText_plan (by show 1 ≤ _; decide) ?_
        simp +contextual -implicitDefEqProofs (maxSteps := 10^7) only [go_sem, seval, ↓gZ, f_s_planText_plan, e1, w, n1, n2, n3, n4, n5]
      · rw [hdc] at h3
        rcases shw_cases b r with ⟨rfl, h4⟩ | ⟨i, t, rfl, h4⟩ | ⟨d, a, x, y, rfl, h4⟩
        · rw [h4] at h3; cases h3; exact c1 rfl
        · rw [h4] at h3
          simp only [List.cons.injEq] at h3
          cases t
          · exact c2 (.inl h3.1)
          · exact c2 (.inr h3.1)
        · rw [h4] at h3
          simp only [List.cons.injEq] at h3
          cases d
          · exact c4 (.inr h3.1)
          · exact c4 (.inl h3.1)
    · rw [nxB_none (by simp; omega)] at e1
      refine SpR_bad (k' := k + 1) ?_ (by omega) fun b r h1 h2 h3 => ?_
      · refine callE Xs Ms f_s_planText_plan x_s_planText_plan (by show 1 ≤ _; decide) ?_
        simp +contextual -implicitDefEqProofs (maxSteps := 10^7) only [go_sem, seval, ↓gZ, f_s_planText_plan, e1, w]
      · have hl := congrArg List.length h3
        have := shw_len b
        rw [List.length_drop, List.length_append] at hl
        omega

end Go.Proofs.YtkdjbefmiiibpaaDoor
