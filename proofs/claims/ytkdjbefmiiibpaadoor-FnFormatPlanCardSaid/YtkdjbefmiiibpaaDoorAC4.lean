/- Contracts of the functions, by the abstract semantics. -/
import Derived.Test.YtkdjbefmiiibpaaDoorACode
import Derived.Test.YtkdjbefmiiibpaaDoorAbsParts
import Derived.Test.YtkdjbefmiiibpaaDoorAC3
namespace Go.Proofs.YtkdjbefmiiibpaaDoor
open Go Go.Abs Go.Abs.E Go.Abs.L
open Nat (reduceMul reduceSub reduceLeDiff reduceEqDiff)
open Int (reduceLE reduceEq reduceToNat reduceNeg)
set_option linter.unusedSimpArgs false
set_option linter.unusedVariables false
set_option maxRecDepth 20000
set_option maxHeartbeats 4000000
theorem tw_in {p : UInt8 → Bool} : ∀ {s : List UInt8} {k : Nat}, k < (s.takeWhile p).length → ∃ c, s[k]? = some c ∧ p c = true
  | [], k, h => by simp at h
  | x :: s, k, h => by
    by_cases hx : p x = true
    · rw [List.takeWhile_cons_of_pos hx] at h
      cases k with
      | zero => exact ⟨x, rfl, hx⟩
      | succ k => simpa using tw_in (s := s) (k := k) (by simpa using h)
    · rw [List.takeWhile_cons_of_neg hx] at h; simp at h
theorem tw_end {p : UInt8 → Bool} : ∀ {s : List UInt8}, (s.takeWhile p).length = s.length ∨ ∃ c, s[(s.takeWhile p).length]? = some c ∧ ¬ p c = true
  | [] => .inl rfl
  | x :: s => by
    by_cases hx : p x = true
    · rw [List.takeWhile_cons_of_pos hx]
      rcases tw_end (p := p) (s := s) with h | ⟨c, h, h'⟩
      · exact .inl (by simp [h])
      · exact .inr ⟨c, by simpa using h, h'⟩
    · rw [List.takeWhile_cons_of_neg hx]
      exact .inr ⟨x, rfl, hx⟩
theorem tw_le {p : UInt8 → Bool} (s : List UInt8) : (s.takeWhile p).length ≤ s.length := List.IsPrefix.length_le (List.takeWhile_prefix p)
theorem tw_take (p : UInt8 → Bool) (s : List UInt8) : s.take (s.takeWhile p).length = s.takeWhile p := by
  conv => lhs; rw [← List.takeWhile_append_dropWhile (p := p) (l := s), List.takeWhile_append_dropWhile]
  exact (List.prefix_iff_eq_take.1 (List.takeWhile_prefix p)).symm
theorem tw_drop (p : UInt8 → Bool) (s : List UInt8) : s.drop (s.takeWhile p).length = s.dropWhile p := by
  have h := List.takeWhile_append_dropWhile (p := p) (l := s)
  conv => lhs; arg 2; rw [← h]
  rw [List.drop_left]
def tnV (s : List UInt8) : AV := match rd (s.takeWhile isD) with
  | some v => .tup [(.d (J ((v : Nat)))), .d (.str (s.dropWhile isD)), (.d (.bool true))]
  | none => .tup [(.d (J 0)), .d (.str (s.dropWhile isD)), (.d (.bool false))]
theorem i_takeNumber_ev (s : List UInt8) (hs : s.length ≤ 1000000) : vcall Xs Ms n_i_takeNumber [.d (.str s)] [] = some (tnV s, []) := by
  have hle := tw_le (p := isD) s
  generalize hres : tnV s = res
  refine callE Xs Ms f_i_takeNumber x_i_takeNumber (by show 1 ≤ _; decide) ?_
  simp +contextual -implicitDefEqProofs (maxSteps := 10^7) only [go_sem, seval, ↓gZ, f_i_takeNumber]
  refine LW_over Xs Ms (st0 := ?st0) (α := Nat) (fun k => [(5, .d (J (k : Int)))]) (fun _ => []) (fun k => k ≤ (s.takeWhile isD).length) (fun k => s.length - k) 0 ?hc (by omega) ?h0 ?step
  case hc => simp +contextual -implicitDefEqProofs (maxSteps := 10^7) only [go_sem, seval, ↓gZ] <;> exact rfl
  case h0 => rfl
  case step =>
    intro k hk ih
    have w5 := wrap_succ (k := k) (by omega)
    have e1 := i_readNumber_ev (s.takeWhile isD)
    have d1 := tw_take isD s
    have d2 := tw_drop isD s
    have d3 : s.take s.length = s := List.take_length
    by_cases hlt : k < (s.takeWhile isD).length
    · obtain ⟨c, hc, hD⟩ := tw_in hlt
      have hlt' : (k : Int) < (s.length : Int) := by omega
      have hD' := (isD_iff c).1 hD
      have h1 : (48 : Int) ≤ c.toNat := by omega
      have h2 : (c.toNat : Int) ≤ 57 := by omega
      simp +contextual -implicitDefEqProofs (maxSteps := 10^7) only [go_sem, seval, ↓gZ, hlt', hc, h1, h2, w5]
      refine ih (k + 1) _ (by omega) (by omega) ?_
      simp +contextual -implicitDefEqProofs (maxSteps := 10^7) only [go_sem, seval, ↓gZ]
    · have hke : k = (s.takeWhile isD).length := by omega
      subst hke
      unfold tnV at hres
      have hkl : ((s.takeWhile isD).length : Int) ≤ (s.length : Int) := by omega
      rcases tw_end (p := isD) (s := s) with h | ⟨c, hc, hD⟩
      · have hge : ¬ ((s.takeWhile isD).length : Int) < (s.length : Int) := by omega
        cases hr : rd (s.takeWhile isD) with
        | none =>
          rw [hr] at hres e1
          simp only [numV] at e1 hres
          subst hres
          simp +contextual -implicitDefEqProofs (maxSteps := 10^7) only [go_sem, seval, ↓gZ, hge, hkl, e1, d1, d2, d3]
        | some v =>
          rw [hr] at hres e1
          simp only [numV] at e1 hres
          subst hres
          simp +contextual -implicitDefEqProofs (maxSteps := 10^7) only [go_sem, seval, ↓gZ, hge, hkl, e1, d1, d2, d3]
      · have hlt : ((s.takeWhile isD).length : Int) < (s.length : Int) := by have := (List.getElem?_eq_some_iff.1 hc).1; omega
        have hnd : ¬ ((48 : Int) ≤ c.toNat ∧ (c.toNat : Int) ≤ 57) := fun h => hD ((isD_iff c).2 (by omega))
        by_cases h1 : (48 : Int) ≤ c.toNat
        · have h2 : ¬ (c.toNat : Int) ≤ 57 := fun h => hnd ⟨h1, h⟩
          cases hr : rd (s.takeWhile isD) with
          | none =>
            rw [hr] at hres e1
            simp only [numV] at e1 hres
            subst hres
            simp +contextual -implicitDefEqProofs (maxSteps := 10^7) only [go_sem, seval, ↓gZ, hlt, hc, h1, h2, hkl, e1, d1, d2, d3]
          | some v =>
            rw [hr] at hres e1
            simp only [numV] at e1 hres
            subst hres
            simp +contextual -implicitDefEqProofs (maxSteps := 10^7) only [go_sem, seval, ↓gZ, hlt, hc, h1, h2, hkl, e1, d1, d2, d3]
        · cases hr : rd (s.takeWhile isD) with
          | none =>
            rw [hr] at hres e1
            simp only [numV] at e1 hres
            subst hres
            simp +contextual -implicitDefEqProofs (maxSteps := 10^7) only [go_sem, seval, ↓gZ, hlt, hc, h1, hkl, e1, d1, d2, d3]
          | some v =>
            rw [hr] at hres e1
            simp only [numV] at e1 hres
            subst hres
            simp +contextual -implicitDefEqProofs (maxSteps := 10^7) only [go_sem, seval, ↓gZ, hlt, hc, h1, hkl, e1, d1, d2, d3]
def TkR (res : Option (AV × List AObj)) (m : Option (BT × List UInt8)) : Prop := ∃ (o a q : Int) (t : Bool) (ks : List Plan) (r : List UInt8) (ok : Bool),
  res = some (.tup [.agg [(.d (J o)), (.d (J a)), (.d (J q)), (.d (.bool t)), .own 0], .d (.str r), (.d (.bool ok))], [.row 5 (ks.map Plan.enc) true false]) ∧ (match m with | some (b, r') => ok = true ∧ b.plan = .mk o a q t ks ∧ r' = r | none => ok = false)
theorem TkR_no {res : Option (AV × List AObj)} {o a q : Int} {t : Bool} {ks : List Plan} {r : List UInt8} (h : res = some (.tup [.agg [(.d (J o)), (.d (J a)), (.d (J q)), (.d (.bool t)), .own 0], .d (.str r), (.d (.bool false))], [.row 5 (ks.map Plan.enc) true false])) : TkR res none := ⟨o, a, q, t, ks, r, false, h, rfl⟩
theorem TkR_yes {res : Option (AV × List AObj)} {b : BT} {o a q : Int} {t : Bool} {ks : List Plan} {r : List UInt8} (hb : b.plan = .mk o a q t ks) (h : res = some (.tup [.agg [(.d (J o)), (.d (J a)), (.d (J q)), (.d (.bool t)), .own 0], .d (.str r), (.d (.bool true))], [.row 5 (ks.map Plan.enc) true false])) : TkR res (some (b, r)) := ⟨o, a, q, t, ks, r, true, h, rfl, hb, rfl⟩
theorem u8eq (c : UInt8) {k : Int} (d : UInt8) (hd : (d.toNat : Int) = k) : (c.toNat : Int) = k ↔ c = d := by
  constructor
  · intro h; apply UInt8.toNat_inj.1; omega
  · rintro rfl; exact hd
theorem tk_nil (n : Nat) : tk n [] = none := by cases n <;> rfl
theorem i_takePlan_ev : ∀ (n : Nat) (s : List UInt8), s.length ≤ n → s.length ≤ 1000000 → TkR (vcall Xs Ms n_i_takePlan [.d (.str s)] []) (tk n s) := by
  intro n
  induction n with
  | zero =>
    intro s hs _
    obtain rfl := List.eq_nil_of_length_eq_zero (Nat.le_zero.1 hs)
    rw [tk_nil]
    refine TkR_no (o := 0) (a := 0) (q := 0) (t := false) (ks := []) (r := []) ?_
    refine callE Xs Ms f_i_takePlan x_i_takePlan (by show 1 ≤ _; decide) ?_
    simp +contextual -implicitDefEqProofs (maxSteps := 10^7) only [go_sem, seval, ↓gZ, f_i_takePlan]
  | succ n IH =>
    intro s hs hsz
    cases s with
    | nil =>
      rw [tk_nil]
      refine TkR_no (o := 0) (a := 0) (q := 0) (t := false) (ks := []) (r := []) ?_
      refine callE Xs Ms f_i_takePlan x_i_takePlan (by show 1 ≤ _; decide) ?_
      simp +contextual -implicitDefEqProofs (maxSteps := 10^7) only [go_sem, seval, ↓gZ, f_i_takePlan]
    | cons c s =>
      simp only [List.length_cons] at hs hsz
      have hb : (c :: s == []) = false := rfl
      have d3 : s.take s.length = s := List.take_length
      have hp1 : (1 : Int) ≤ ((s.length + 1 : Nat) : Int) := by omega
      have e1 := i_takeNumber_ev s (by omega)
      by_cases c1 : c = 119
      · have n1 : (c.toNat : Int) = 119 := (u8eq c 119 rfl).2 c1
        have htk : tk (n + 1) (c :: s) = some (.waste, s) := by rw [tk, if_pos c1]
        rw [htk]
        refine TkR_yes (b := .waste) rfl ?_
        refine callE Xs Ms f_i_takePlan x_i_takePlan (by show 1 ≤ _; decide) ?_
        simp +contextual -implicitDefEqProofs (maxSteps := 10^7) only [go_sem, seval, ↓gZ, f_i_takePlan, hb, d3, hp1, n1]
      have n1 : ¬ (c.toNat : Int) = 119 := fun h => c1 ((u8eq c 119 rfl).1 h)
      rw [tk, if_neg c1]
      cases hr : rd (s.takeWhile isD) with
      | none =>
        simp only [tnV, hr] at e1
        refine TkR_no (o := 0) (a := 0) (q := 0) (t := false) (ks := []) (r := []) ?_
        refine callE Xs Ms f_i_takePlan x_i_takePlan (by show 1 ≤ _; decide) ?_
        simp +contextual -implicitDefEqProofs (maxSteps := 10^7) only [go_sem, seval, ↓gZ, f_i_takePlan, hb, d3, hp1, n1, e1]
      | some v =>
        simp only [tnV, hr] at e1
        have hv := (rd_some hr).2
        obtain ⟨r1, hr1⟩ : ∃ r1, s.dropWhile isD = r1 := ⟨_, rfl⟩
        rw [hr1] at e1
        have hl1 : r1.length ≤ s.length := by rw [← hr1]; exact List.IsSuffix.length_le (List.dropWhile_suffix isD)
        simp only [Option.bind_some, hr1]
        by_cases c2 : c = 112
        · have n2 : (c.toNat : Int) = 112 := (u8eq c 112 rfl).2 c2
          have n3 : ¬ (c.toNat : Int) = 116 := by omega
          rw [tkLet, if_pos c2]
          refine TkR_yes (b := .pane v false) rfl ?_
          refine callE Xs Ms f_i_takePlan x_i_takePlan (by show 1 ≤ _; decide) ?_
          simp +contextual -implicitDefEqProofs (maxSteps := 10^7) only [go_sem, seval, ↓gZ, f_i_takePlan, hb, d3, hp1, n1, n2, n3, e1]
        have n2 : ¬ (c.toNat : Int) = 112 := fun h => c2 ((u8eq c 112 rfl).1 h)
        rw [tkLet, if_neg c2]
        by_cases c3 : c = 116
        · have n3 : (c.toNat : Int) = 116 := (u8eq c 116 rfl).2 c3
          rw [if_pos c3]
          refine TkR_yes (b := .pane v true) rfl ?_
          refine callE Xs Ms f_i_takePlan x_i_takePlan (by show 1 ≤ _; decide) ?_
          simp +contextual -implicitDefEqProofs (maxSteps := 10^7) only [go_sem, seval, ↓gZ, f_i_takePlan, hb, d3, hp1, n1, n2, n3, e1]
        have n3 : ¬ (c.toNat : Int) = 116 := fun h => c3 ((u8eq c 116 rfl).1 h)
        rw [if_neg c3]
        have cutCase : ∀ d : Bool, (if d then (c.toNat : Int) = 100 else ¬ (c.toNat : Int) = 100 ∧ (c.toNat : Int) = 97) → TkR (vcall Xs Ms n_i_takePlan [.d (.str (c :: s))] []) (tkCut d v (tk n) r1) := by
          intro d hd
          have k1 := strings_CutPrefix_ev r1 40 (by omega)
          unfold tkCut cutV at *
          cases h40 : expect 40 r1 with
          | none =>
            simp only [h40] at k1
            simp only [Option.bind_none]
            obtain ⟨o1, a1, q1, t1, ks1, r3, ok1, i1, _⟩ := IH r1 (by omega) (by omega)
            refine TkR_no (o := 0) (a := 0) (q := 0) (t := false) (ks := []) (r := []) ?_
            refine callE Xs Ms f_i_takePlan x_i_takePlan (by show 1 ≤ _; decide) ?_
            cases d with
            | true =>
              simp only [if_true] at hd
              simp +contextual -implicitDefEqProofs (maxSteps := 10^7) only [go_sem, seval, ↓gZ, f_i_takePlan, hb, d3, hp1, n1, n2, n3, e1, hd, k1, i1]
            | false =>
              simp only [Bool.false_eq_true, if_false] at hd
              simp +contextual -implicitDefEqProofs (maxSteps := 10^7) only [go_sem, seval, ↓gZ, f_i_takePlan, hb, d3, hp1, n1, n2, n3, e1, hd.1, hd.2, k1, i1]
          | some r2 =>
            simp only [h40] at k1
            simp only [Option.bind_some]
            have x2 := expect_some h40
            have hl2 : r2.length ≤ n ∧ r2.length ≤ 1000000 := by
              have : r1.length = r2.length + 1 := by rw [x2]; rfl
              omega
            obtain ⟨o1, a1, q1, t1, ks1, r3, ok1, i1, m1⟩ := IH r2 hl2.1 hl2.2
            cases h2 : tk n r2 with
            | none =>
              rw [h2] at m1
              simp only at m1
              subst m1
              simp only [Option.bind_none]
              refine TkR_no (o := 0) (a := 0) (q := 0) (t := false) (ks := []) (r := []) ?_
              refine callE Xs Ms f_i_takePlan x_i_takePlan (by show 1 ≤ _; decide) ?_
              cases d with
              | true =>
                simp only [if_true] at hd
                simp +contextual -implicitDefEqProofs (maxSteps := 10^7) only [go_sem, seval, ↓gZ, f_i_takePlan, hb, d3, hp1, n1, n2, n3, e1, hd, k1, i1]
              | false =>
                simp only [Bool.false_eq_true, if_false] at hd
                simp +contextual -implicitDefEqProofs (maxSteps := 10^7) only [go_sem, seval, ↓gZ, f_i_takePlan, hb, d3, hp1, n1, n2, n3, e1, hd.1, hd.2, k1, i1]
            | some p1 =>
              obtain ⟨b1, r3'⟩ := p1
              rw [h2] at m1
              simp only at m1
              obtain ⟨rfl, hb1, rfl⟩ := m1
              simp only [Option.bind_some]
              have s1 := (tk_sound n r2 b1 r3' h2).1
              have hl3 : r3'.length ≤ n ∧ r3'.length ≤ 1000000 := by
                have : r2.length = (shw b1).length + r3'.length := by rw [s1, List.length_append]
                omega
              have k2 := strings_CutPrefix_ev r3' 44 (by omega)
              unfold cutV at k2
              cases h44 : expect 44 r3' with
              | none =>
                simp only [h44] at k2
                simp only [Option.bind_none]
                obtain ⟨o2, a2, q2, t2, ks2, r5, ok2, i2, _⟩ := IH r3' hl3.1 hl3.2
                refine TkR_no (o := 0) (a := 0) (q := 0) (t := false) (ks := []) (r := []) ?_
                refine callE Xs Ms f_i_takePlan x_i_takePlan (by show 1 ≤ _; decide) ?_
                cases d with
                | true =>
                  simp only [if_true] at hd
                  simp +contextual -implicitDefEqProofs (maxSteps := 10^7) only [go_sem, seval, ↓gZ, f_i_takePlan, hb, d3, hp1, n1, n2, n3, e1, hd, k1, i1, k2, i2]
                | false =>
                  simp only [Bool.false_eq_true, if_false] at hd
                  simp +contextual -implicitDefEqProofs (maxSteps := 10^7) only [go_sem, seval, ↓gZ, f_i_takePlan, hb, d3, hp1, n1, n2, n3, e1, hd.1, hd.2, k1, i1, k2, i2]
              | some r4 =>
                simp only [h44] at k2
                simp only [Option.bind_some]
                have x4 := expect_some h44
                have hl4 : r4.length ≤ n ∧ r4.length ≤ 1000000 := by
                  have : r3'.length = r4.length + 1 := by rw [x4]; rfl
                  omega
                obtain ⟨o2, a2, q2, t2, ks2, r5, ok2, i2, m2⟩ := IH r4 hl4.1 hl4.2
                cases h4 : tk n r4 with
                | none =>
                  rw [h4] at m2
                  simp only at m2
                  subst m2
                  simp only [Option.bind_none]
                  refine TkR_no (o := 0) (a := 0) (q := 0) (t := false) (ks := []) (r := []) ?_
                  refine callE Xs Ms f_i_takePlan x_i_takePlan (by show 1 ≤ _; decide) ?_
                  cases d with
                  | true =>
                    simp only [if_true] at hd
                    simp +contextual -implicitDefEqProofs (maxSteps := 10^7) only [go_sem, seval, ↓gZ, f_i_takePlan, hb, d3, hp1, n1, n2, n3, e1, hd, k1, i1, k2, i2]
                  | false =>
                    simp only [Bool.false_eq_true, if_false] at hd
                    simp +contextual -implicitDefEqProofs (maxSteps := 10^7) only [go_sem, seval, ↓gZ, f_i_takePlan, hb, d3, hp1, n1, n2, n3, e1, hd.1, hd.2, k1, i1, k2, i2]
                | some p2 =>
                  obtain ⟨b2, r5'⟩ := p2
                  rw [h4] at m2
                  simp only at m2
                  obtain ⟨rfl, hb2, rfl⟩ := m2
                  simp only [Option.bind_some]
                  have s2 := (tk_sound n r4 b2 r5' h4).1
                  have hl5 : r5'.length ≤ 1000000 := by
                    have : r4.length = (shw b2).length + r5'.length := by rw [s2, List.length_append]
                    omega
                  have k3 := strings_CutPrefix_ev r5' 41 (by omega)
                  unfold cutV at k3
                  cases h41 : expect 41 r5' with
                  | none =>
                    simp only [h41] at k3
                    simp only [Option.bind_none]
                    refine TkR_no (o := opOf d) (a := v) (q := 0) (t := false) (ks := [.mk o1 a1 q1 t1 ks1, .mk o2 a2 q2 t2 ks2]) (r := r5') ?_
                    refine callE Xs Ms f_i_takePlan x_i_takePlan (by show 1 ≤ _; decide) ?_
                    cases d with
                    | true =>
                      simp only [if_true] at hd
                      simp +contextual -implicitDefEqProofs (maxSteps := 10^7) only [go_sem, seval, ↓gZ, f_i_takePlan, hb, d3, hp1, n1, n2, n3, e1, hd, k1, i1, k2, i2, k3, opOf]
                    | false =>
                      simp only [Bool.false_eq_true, if_false] at hd
                      simp +contextual -implicitDefEqProofs (maxSteps := 10^7) only [go_sem, seval, ↓gZ, f_i_takePlan, hb, d3, hp1, n1, n2, n3, e1, hd.1, hd.2, k1, i1, k2, i2, k3, opOf]
                  | some r6 =>
                    simp only [h41] at k3
                    simp only [Option.bind_some]
                    refine TkR_yes (b := .cut d v b1 b2) (o := opOf d) (a := v) (q := 0) (t := false) (ks := [.mk o1 a1 q1 t1 ks1, .mk o2 a2 q2 t2 ks2]) (by rw [BT.plan, hb1, hb2]) ?_
                    refine callE Xs Ms f_i_takePlan x_i_takePlan (by show 1 ≤ _; decide) ?_
                    cases d with
                    | true =>
                      simp only [if_true] at hd
                      simp +contextual -implicitDefEqProofs (maxSteps := 10^7) only [go_sem, seval, ↓gZ, f_i_takePlan, hb, d3, hp1, n1, n2, n3, e1, hd, k1, i1, k2, i2, k3, opOf]
                    | false =>
                      simp only [Bool.false_eq_true, if_false] at hd
                      simp +contextual -implicitDefEqProofs (maxSteps := 10^7) only [go_sem, seval, ↓gZ, f_i_takePlan, hb, d3, hp1, n1, n2, n3, e1, hd.1, hd.2, k1, i1, k2, i2, k3, opOf]
        by_cases c4 : c = 100
        · have n4 : (c.toNat : Int) = 100 := (u8eq c 100 rfl).2 c4
          rw [if_pos c4]
          exact cutCase true n4
        have n4 : ¬ (c.toNat : Int) = 100 := fun h => c4 ((u8eq c 100 rfl).1 h)
        rw [if_neg c4]
        by_cases c5 : c = 97
        · have n5 : (c.toNat : Int) = 97 := (u8eq c 97 rfl).2 c5
          rw [if_pos c5]
          exact cutCase false ⟨n4, n5⟩
        have n5 : ¬ (c.toNat : Int) = 97 := fun h => c5 ((u8eq c 97 rfl).1 h)
        rw [if_neg c5]
        refine TkR_no (o := 0) (a := 0) (q := 0) (t := false) (ks := []) (r := []) ?_
        refine callE Xs Ms f_i_takePlan x_i_takePlan (by show 1 ≤ _; decide) ?_
        simp +contextual -implicitDefEqProofs (maxSteps := 10^7) only [go_sem, seval, ↓gZ, f_i_takePlan, hb, d3, hp1, n1, n2, n3, n4, n5, e1]

def prsP (s : List UInt8) : Option BT := if s.length ≤ 1600 then parseB s else none
def PrR (res : Option (AV × List AObj)) (m : Option BT) : Prop := ∃ (o a q : Int) (t : Bool) (ks : List Plan),
  res = some (.tup [.agg [(.d (J o)), (.d (J a)), (.d (J q)), (.d (.bool t)), .own 0], (.d (.bool (m.isSome)))], [.row 5 (ks.map Plan.enc) true false]) ∧ Plan.mk o a q t ks = (m.getD .waste).plan
theorem PrR_no {res : Option (AV × List AObj)} (h : res = some (.tup [.agg [(.d (J 0)), (.d (J 0)), (.d (J 0)), (.d (.bool false)), .own 0], (.d (.bool false))], [.row 5 [] true false])) : PrR res none := ⟨0, 0, 0, false, [], h, rfl⟩
theorem i_ParsePlan_ev (s : List UInt8) (hs : s.length ≤ 1000000) : PrR (vcall Xs Ms n_i_ParsePlan [.d (.str s)] []) (prsP s) := by
  unfold prsP
  by_cases hl : s.length ≤ 1600
  · rw [if_pos hl]
    have hl' : ¬ (1600 : Int) < (s.length : Int) := by omega
    obtain ⟨o, a, q, t, ks, r, ok, e1, m1⟩ := i_takePlan_ev s.length s (Nat.le_refl _) hs
    unfold parseB
    cases h1 : tk s.length s with
    | none =>
      rw [h1] at m1
      simp only at m1
      subst m1
      refine PrR_no ?_
      refine callE Xs Ms f_i_ParsePlan x_i_ParsePlan (by show 1 ≤ _; decide) ?_
      simp +contextual -implicitDefEqProofs (maxSteps := 10^7) only [go_sem, seval, ↓gZ, f_i_ParsePlan, hl', e1]
    | some p1 =>
      obtain ⟨b, r'⟩ := p1
      rw [h1] at m1
      simp only at m1
      obtain ⟨rfl, hb, rfl⟩ := m1
      cases r' with
      | cons x r2 =>
        have hx : (x :: r2 == []) = false := rfl
        refine PrR_no ?_
        refine callE Xs Ms f_i_ParsePlan x_i_ParsePlan (by show 1 ≤ _; decide) ?_
        simp +contextual -implicitDefEqProofs (maxSteps := 10^7) only [go_sem, seval, ↓gZ, f_i_ParsePlan, hl', e1, hx]
      | nil =>
        have e2 := i_PlanSize_ev b.plan
        have e3 := i_numbersFit_ev b
        rw [toBT_plan] at e2
        rw [hb, Plan.enc_mk] at e2 e3
        show PrR _ (if b.cnt ≤ 255 ∧ cntb b = true then some b else none)
        rcases sizeIn_some 255 b with ⟨hc, hz⟩ | ⟨hc, hz⟩
        · rw [hz] at e2
          have h0 : ¬ (b.cnt : Int) < 0 := by omega
          cases hcb : cntb b with
          | false =>
            rw [hcb] at e3
            rw [if_neg (fun h => by cases h.2)]
            refine PrR_no ?_
            refine callE Xs Ms f_i_ParsePlan x_i_ParsePlan (by show 1 ≤ _; decide) ?_
            simp +contextual -implicitDefEqProofs (maxSteps := 10^7) only [go_sem, seval, ↓gZ, f_i_ParsePlan, hl', e1, e2, e3, h0]
          | true =>
            rw [hcb] at e3
            rw [if_pos ⟨by omega, rfl⟩]
            refine ⟨o, a, q, t, ks, ?_, hb.symm⟩
            refine callE Xs Ms f_i_ParsePlan x_i_ParsePlan (by show 1 ≤ _; decide) ?_
            simp +contextual -implicitDefEqProofs (maxSteps := 10^7) only [go_sem, seval, ↓gZ, f_i_ParsePlan, hl', e1, e2, e3, h0]
            rfl
        · rw [hz] at e2
          rw [if_neg (fun h => by omega)]
          refine PrR_no ?_
          refine callE Xs Ms f_i_ParsePlan x_i_ParsePlan (by show 1 ≤ _; decide) ?_
          simp +contextual -implicitDefEqProofs (maxSteps := 10^7) only [go_sem, seval, ↓gZ, f_i_ParsePlan, hl', e1, e2]
  · rw [if_neg hl]
    have hl' : (1600 : Int) < (s.length : Int) := by omega
    refine PrR_no ?_
    refine callE Xs Ms f_i_ParsePlan x_i_ParsePlan (by show 1 ≤ _; decide) ?_
    simp +contextual -implicitDefEqProofs (maxSteps := 10^7) only [go_sem, seval, ↓gZ, f_i_ParsePlan, hl']

theorem s_anyPlan_ev (bs : List UInt8) (hb : bs.length ≤ 2000) (p : Nat) (hp : p < 900000000) : ∃ (K : AV) (p' : Nat) (W H : Int) (ps : List Pane) (o a q : Int) (t : Bool) (ks : List Plan), (K = .own 2 ∨ K = .ownv 2 0 1 ∧ ks.length = 2) ∧
    vcall Xs Ms n_s_anyPlan [.ptr 0 0] [.box [.d (.sl (bs.map encU)), (.d (J p))]] = some (.tup [.agg [(.d (J W)), (.d (J H)), .own 1], .agg [(.d (J o)), (.d (J a)), (.d (J q)), (.d (.bool t)), K]], [.box [.d (.sl (bs.map encU)), (.d (J (p')))], .row 4 (ps.map Pane.enc) true false, .row 5 (ks.map Plan.enc) true false]) := by
  obtain ⟨W, H, b, p', ps, o, a, q, t, ks, hbp, h1, h2, h3, h4, h5, h6, h7, h8, h9, e1⟩ := s_workPlan_ev bs hb p hp
  have e2 := s_pick_ev bs p' 20 hb (by omega)
  obtain ⟨c, hc⟩ : ∃ c, s_pick bs p' 20 = c := ⟨_, rfl⟩
  rw [hc] at e2
  have hks : ks.length = 0 ∨ ks.length = 2 := by
    cases b with
    | waste => simp only [BT.plan, Plan.mk.injEq] at hbp; left; rw [← hbp.2.2.2.2]; rfl
    | pane i t => simp only [BT.plan, Plan.mk.injEq] at hbp; left; rw [← hbp.2.2.2.2]; rfl
    | cut d a l r => simp only [BT.plan, Plan.mk.injEq] at hbp; right; rw [← hbp.2.2.2.2]; rfl
  by_cases c0 : c = 0
  · obtain ⟨v, _, e3⟩ := s_one_ev bs (p' + 1) [0, 201, W + 1] hb (by omega) (by simp)
    have w1 := wi (W + 1) (by omega) (by omega)
    simp only [List.map_cons, List.map_nil, encI] at e3
    refine ⟨.own 2, p' + 2, v, H, ps, o, a, q, t, ks, .inl rfl, ?_⟩
    refine callE Xs Ms f_s_anyPlan x_s_anyPlan (by show 1 ≤ _; decide) ?_
    simp +contextual -implicitDefEqProofs (maxSteps := 10^7) only [go_sem, seval, ↓gZ, f_s_anyPlan, e1, e2, c0, w1, e3]
  by_cases c1 : c = 1
  · obtain ⟨v, _, e3⟩ := s_one_ev bs (p' + 1) [0, 200, -1] hb (by omega) (by simp)
    simp only [List.map_cons, List.map_nil, encI] at e3
    refine ⟨.own 2, p' + 2, W, H, ps, o, v, q, t, ks, .inl rfl, ?_⟩
    refine callE Xs Ms f_s_anyPlan x_s_anyPlan (by show 1 ≤ _; decide) ?_
    simp +contextual -implicitDefEqProofs (maxSteps := 10^7) only [go_sem, seval, ↓gZ, f_s_anyPlan, e1, e2, c0, c1, e3]
  by_cases c2 : c = 2
  · obtain ⟨v, _, e3⟩ := s_one_ev bs (p' + 1) [4, -1, 1, 0] hb (by omega) (by simp)
    simp only [List.map_cons, List.map_nil, encI] at e3
    refine ⟨.own 2, p' + 2, W, H, ps, v, a, q, t, ks, .inl rfl, ?_⟩
    refine callE Xs Ms f_s_anyPlan x_s_anyPlan (by show 1 ≤ _; decide) ?_
    simp +contextual -implicitDefEqProofs (maxSteps := 10^7) only [go_sem, seval, ↓gZ, f_s_anyPlan, e1, e2, c0, c1, c2, e3]
  by_cases c3 : c = 3
  · rcases hks with hks | hks
    · have hn : ¬ (0 : Int) < (ks.length : Int) := by omega
      refine ⟨.own 2, p' + 1, W, H, ps, o, a, q, t, ks, .inl rfl, ?_⟩
      refine callE Xs Ms f_s_anyPlan x_s_anyPlan (by show 1 ≤ _; decide) ?_
      simp +contextual -implicitDefEqProofs (maxSteps := 10^7) only [go_sem, seval, ↓gZ, f_s_anyPlan, e1, e2, c0, c1, c2, c3, hn]
    · have hn : (0 : Int) < (ks.length : Int) := by omega
      have hn1 : (1 : Int) ≤ (ks.length : Int) := by omega
      refine ⟨.ownv 2 0 1, p' + 1, W, H, ps, o, a, q, t, ks, .inr ⟨rfl, hks⟩, ?_⟩
      refine callE Xs Ms f_s_anyPlan x_s_anyPlan (by show 1 ≤ _; decide) ?_
      simp +contextual -implicitDefEqProofs (maxSteps := 10^7) only [go_sem, seval, ↓gZ, f_s_anyPlan, e1, e2, c0, c1, c2, c3, hn, hn1]
  by_cases c4 : c = 4
  · obtain ⟨v, _, e3⟩ := s_one_ev bs (p' + 1) [1, 30, -1] hb (by omega) (by simp)
    simp only [List.map_cons, List.map_nil, encI] at e3
    refine ⟨.own 2, p' + 2, W, H, ps, o, a, v, t, ks, .inl rfl, ?_⟩
    refine callE Xs Ms f_s_anyPlan x_s_anyPlan (by show 1 ≤ _; decide) ?_
    simp +contextual -implicitDefEqProofs (maxSteps := 10^7) only [go_sem, seval, ↓gZ, f_s_anyPlan, e1, e2, c0, c1, c2, c3, c4, e3]
  by_cases c5 : c = 5
  · refine ⟨.own 2, p' + 1, W, H, ps, o, a, q, !t, ks, .inl rfl, ?_⟩
    refine callE Xs Ms f_s_anyPlan x_s_anyPlan (by show 1 ≤ _; decide) ?_
    simp +contextual -implicitDefEqProofs (maxSteps := 10^7) only [go_sem, seval, ↓gZ, f_s_anyPlan, e1, e2, c0, c1, c2, c3, c4, c5]
  · refine ⟨.own 2, p' + 1, W, H, ps, o, a, q, t, ks, .inl rfl, ?_⟩
    refine callE Xs Ms f_s_anyPlan x_s_anyPlan (by show 1 ≤ _; decide) ?_
    simp +contextual -implicitDefEqProofs (maxSteps := 10^7) only [go_sem, seval, ↓gZ, f_s_anyPlan, e1, e2, c0, c1, c2, c3, c4, c5]
theorem s_DrawPlanSize_ev (code : List UInt8) : ∃ (K : AV) (o a q : Int) (t : Bool) (ks : List Plan), (K = .own 0 ∨ K = .ownv 0 0 1 ∧ ks.length = 2) ∧
    vcall Xs Ms n_s_DrawPlanSize [.d (.sl (code.map encU))] [] = some (.agg [(.d (J o)), (.d (J a)), (.d (J q)), (.d (.bool t)), K], [.row 5 (ks.map Plan.enc) true false]) := by
  have e1 := s_newReader_ev code
  obtain ⟨K, p', W, H, ps, o, a, q, t, ks, hK, e2⟩ := s_anyPlan_ev (code.take 2000) (by simp; omega) 0 (by decide)
  rw [show ((0 : Nat) : Int) = 0 from rfl] at e2
  rcases hK with rfl | ⟨rfl, hks⟩
  · refine ⟨.own 0, o, a, q, t, ks, .inl rfl, ?_⟩
    refine callE Xs Ms f_s_DrawPlanSize x_s_DrawPlanSize (by show 1 ≤ _; decide) ?_
    simp +contextual -implicitDefEqProofs (maxSteps := 10^7) only [go_sem, seval, ↓gZ, f_s_DrawPlanSize, e1, e2]
  · refine ⟨.ownv 0 0 1, o, a, q, t, ks, .inr ⟨rfl, hks⟩, ?_⟩
    refine callE Xs Ms f_s_DrawPlanSize x_s_DrawPlanSize (by show 1 ≤ _; decide) ?_
    simp +contextual -implicitDefEqProofs (maxSteps := 10^7) only [go_sem, seval, ↓gZ, f_s_DrawPlanSize, e1, e2]
theorem s_DrawFormatPlan_ev (code : List UInt8) : ∃ (K : AV) (o a q : Int) (t : Bool) (ks : List Plan), (K = .own 0 ∨ K = .ownv 0 0 1 ∧ ks.length = 2) ∧
    vcall Xs Ms n_s_DrawFormatPlan [.d (.sl (code.map encU))] [] = some (.agg [(.d (J o)), (.d (J a)), (.d (J q)), (.d (.bool t)), K], [.row 5 (ks.map Plan.enc) true false]) := by
  obtain ⟨K, o, a, q, t, ks, hK, e2⟩ := s_DrawPlanSize_ev code
  rcases hK with rfl | ⟨rfl, hks⟩
  · refine ⟨.own 0, o, a, q, t, ks, .inl rfl, ?_⟩
    refine callE Xs Ms f_s_DrawFormatPlan x_s_DrawFormatPlan (by show 1 ≤ _; decide) ?_
    simp +contextual -implicitDefEqProofs (maxSteps := 10^7) only [go_sem, seval, ↓gZ, f_s_DrawFormatPlan, e2]
  · refine ⟨.ownv 0 0 1, o, a, q, t, ks, .inr ⟨rfl, hks⟩, ?_⟩
    refine callE Xs Ms f_s_DrawFormatPlan x_s_DrawFormatPlan (by show 1 ≤ _; decide) ?_
    simp +contextual -implicitDefEqProofs (maxSteps := 10^7) only [go_sem, seval, ↓gZ, f_s_DrawFormatPlan, e2]

theorem fmtP_cases (p : Plan) : fmtP p = [] ∨ ∃ b, p = b.plan ∧ b.cnt ≤ 255 ∧ cntb b = true ∧ fmtP p = shw b := by
  cases h : toBT p with
  | none => exact .inl (fmtP_none h)
  | some b =>
    rw [fmtP_some h]
    by_cases hc : b.cnt ≤ 255 ∧ cntb b = true
    · rw [if_pos hc]
      exact .inr ⟨b, toBT_some h, hc.1, hc.2, rfl⟩
    · rw [if_neg hc]; exact .inl rfl
theorem l_FnFormatPlan_ev (code : List UInt8) : vcall Xs Ms n_l_FnFormatPlan [.d (.sl (code.map encU))] [] = some ((.d (.bool true)), []) := by
  by_cases hc : code.length ≤ 1048576
  · have hc' : ¬ (1048576 : Int) < (code.length : Int) := by omega
    obtain ⟨K, o, a, q, t, ks, hK, e1⟩ := s_DrawFormatPlan_ev code
    obtain ⟨ks', hks', hKD⟩ : ∃ ks' : List Plan, (K = .own 0 ∧ ks' = ks ∨ K = .ownv 0 0 1 ∧ ks.length = 2 ∧ ks' = ks.take 1) ∧ True := by
      rcases hK with h | ⟨h, h2⟩
      · exact ⟨ks, .inl ⟨h, rfl⟩, trivial⟩
      · exact ⟨ks.take 1, .inr ⟨h, h2, rfl⟩, trivial⟩
    obtain ⟨p, hp⟩ : ∃ p : Plan, p = .mk o a q t ks' := ⟨_, rfl⟩
    have e2 := i_FormatPlan_ev p
    have e3 := s_FormatPlan_ev p
    have hne : (fmtP p != fmtP p) = false := by simp
    have hq : (fmtP p == fmtP p) = true := by simp
    have main : vcall Xs Ms n_l_FnFormatPlan [.d (.sl (code.map encU))] [] = some ((.d (.bool true)), []) := by
      rcases fmtP_cases p with hf | ⟨b, hb, hb1, hb2, hf⟩
      · rw [hf] at e2 e3
        rw [hp, Plan.enc_mk] at e2 e3
        rcases hks' with ⟨rfl, rfl⟩ | ⟨rfl, h2, rfl⟩
        · refine callE Xs Ms f_l_FnFormatPlan x_l_FnFormatPlan (by show 1 ≤ _; decide) ?_
          simp +contextual -implicitDefEqProofs (maxSteps := 10^7) only [go_sem, seval, ↓gZ, f_l_FnFormatPlan, hc', e1, e2, e3]
        · refine callE Xs Ms f_l_FnFormatPlan x_l_FnFormatPlan (by show 1 ≤ _; decide) ?_
          simp +contextual -implicitDefEqProofs (maxSteps := 10^7) only [go_sem, seval, ↓gZ, f_l_FnFormatPlan, hc', e1, e2, e3]
      · have hnil : (shw b == []) = false := by cases b <;> rfl
        have hself : (shw b == shw b) = true := by simp
        have hself' : (shw b != shw b) = false := by simp
        rw [hf] at e2 e3
        by_cases hl : (shw b).length ≤ 1600
        · have hl' : ¬ (1600 : Int) < ((shw b).length : Int) := by omega
          obtain ⟨o', a', q', t', k', e4, hm⟩ := i_ParsePlan_ev (shw b) (by omega)
          have hpr : prsP (shw b) = some b := by unfold prsP; rw [if_pos hl, parse_shw hb1 hb2]
          rw [hpr] at e4 hm
          have hm : Plan.mk o' a' q' t' k' = .mk o a q t ks' := by rw [hm, ← hp, hb]; rfl
          simp only [Plan.mk.injEq] at hm
          obtain ⟨rfl, rfl, rfl, rfl, rfl⟩ := hm
          have e5 := l_equalPlan_same b
          rw [← hb, hp, Plan.enc_mk] at e5
          rw [hp, Plan.enc_mk] at e2 e3
          simp only [Option.isSome_some] at e4
          rcases hks' with ⟨rfl, rfl⟩ | ⟨rfl, h2, rfl⟩
          · refine callE Xs Ms f_l_FnFormatPlan x_l_FnFormatPlan (by show 1 ≤ _; decide) ?_
            simp +contextual -implicitDefEqProofs (maxSteps := 10^7) only [go_sem, seval, ↓gZ, f_l_FnFormatPlan, hc', e1, e2, e3, e4, e5, hnil, hself, hself', hl']
          · refine callE Xs Ms f_l_FnFormatPlan x_l_FnFormatPlan (by show 1 ≤ _; decide) ?_
            simp +contextual -implicitDefEqProofs (maxSteps := 10^7) only [go_sem, seval, ↓gZ, f_l_FnFormatPlan, hc', e1, e2, e3, e4, e5, hnil, hself, hself', hl']
        · have hl' : (1600 : Int) < ((shw b).length : Int) := by omega
          rw [hp, Plan.enc_mk] at e2 e3
          rcases hks' with ⟨rfl, rfl⟩ | ⟨rfl, h2, rfl⟩
          · refine callE Xs Ms f_l_FnFormatPlan x_l_FnFormatPlan (by show 1 ≤ _; decide) ?_
            simp +contextual -implicitDefEqProofs (maxSteps := 10^7) only [go_sem, seval, ↓gZ, f_l_FnFormatPlan, hc', e1, e2, e3, hnil, hself, hself', hl']
          · refine callE Xs Ms f_l_FnFormatPlan x_l_FnFormatPlan (by show 1 ≤ _; decide) ?_
            simp +contextual -implicitDefEqProofs (maxSteps := 10^7) only [go_sem, seval, ↓gZ, f_l_FnFormatPlan, hc', e1, e2, e3, hnil, hself, hself', hl']
    exact main
  · have hc' : (1048576 : Int) < (code.length : Int) := by omega
    refine callE Xs Ms f_l_FnFormatPlan x_l_FnFormatPlan (by show 1 ≤ _; decide) ?_
    simp +contextual -implicitDefEqProofs (maxSteps := 10^7) only [go_sem, seval, ↓gZ, f_l_FnFormatPlan, hc']

end Go.Proofs.YtkdjbefmiiibpaaDoor
