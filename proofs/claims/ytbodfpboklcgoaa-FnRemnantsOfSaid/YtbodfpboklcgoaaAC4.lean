/- Contracts of the functions, by the abstract semantics. -/
import Derived.Test.YtbodfpboklcgoaaACode
import Derived.Test.YtbodfpboklcgoaaAbsParts
import Derived.Test.YtbodfpboklcgoaaAC3
namespace Go.Proofs.Ytbodfpboklcgoaa
open Go Go.Abs Go.Abs.E Go.Abs.L
set_option linter.unusedSimpArgs false
set_option linter.unusedVariables false
set_option maxRecDepth 20000
set_option maxHeartbeats 4000000
theorem grow_waste (bs : List UInt8) (hb : bs.length ≤ 2000) (kW kH : Int) (n : Nat) (p : Nat) (w h : Int) (ps : List Pane) (hps : ps.length ≤ 24) (hp : p + growN n < 1000000000)
    (c : Int) (p0 : vcall Xs Ms n_s_reader_pick [.ptr 0 0, (.d (.int .i64 (8)))] [.box [.d (.sl (bs.map encU)), (.d (.int .i64 (p)))]] = some ((.d (.int .i64 (c))), [.box [.d (.sl (bs.map encU)), (.d (.int .i64 ((p + 1 : Nat))))]]))
    (hD1 : ¬ ((0 < (n : Int) ∧ 1 < w) ∧ (c < 3 ∨ (c < 4 ∧ h = 1)))) (hD2 : ¬ ((0 < (n : Int) ∧ 1 < h) ∧ c < 6)) (h7 : c = 7) : Grown bs kW kH n p w h ps := by
  have gn5 : 5 ≤ growN n := by cases n <;> simp [growN]
  subst h7
  refine ⟨.waste, p + 1, [], 0, 0, 0, false, [], true, rfl, by omega, by omega, by simpa using hps, rfl, by simp [BT.cnt]; omega, ?_⟩
  simp only [List.append_nil, growOut]
  simp only [Int.reduceLT, false_or, false_and, or_false, and_false, not_false_eq_true] at hD1 hD2
  refine callE Xs Ms f_s_grow x_s_grow (by show 5 ≤ _; decide) ?_
  simp +contextual -implicitDefEqProofs (maxSteps := 10000000) only [go_sem, ite_self, Bool.false_eq_true, Nat.reduceAdd, Nat.reduceMul, Nat.reduceSub, Nat.reduceLT, Nat.reduceLeDiff, Nat.reduceEqDiff, Nat.reduceBEq, Nat.reduceBNe, Int.reduceAdd, Int.reduceLT, Int.reduceLE, Int.reduceEq, Int.reduceToNat, Int.reduceNeg, reduceCtorEq, ↓reduceIte, ↓gstepW_true, ↓gstepW_false, ↓gstepDW_true, ↓gstepDW_false, ↓gone_eq, ↓flat_eq, f_s_grow, ← Bool.decide_and, ← Bool.decide_or, p0]
theorem grow_pane (bs : List UInt8) (hb : bs.length ≤ 2000) (kW kH : Int) (n : Nat) (p : Nat) (w h : Int) (ps : List Pane) (hw0 : 1 ≤ w) (hw1 : w ≤ 1000) (hh0 : 1 ≤ h) (hh1 : h ≤ 1000) (hps : ps.length ≤ 24) (hp : p + growN n < 1000000000)
    (c : Int) (p0 : vcall Xs Ms n_s_reader_pick [.ptr 0 0, (.d (.int .i64 (8)))] [.box [.d (.sl (bs.map encU)), (.d (.int .i64 (p)))]] = some ((.d (.int .i64 (c))), [.box [.d (.sl (bs.map encU)), (.d (.int .i64 ((p + 1 : Nat))))]]))
    (hD1 : ¬ ((0 < (n : Int) ∧ 1 < w) ∧ (c < 3 ∨ (c < 4 ∧ h = 1)))) (hD2 : ¬ ((0 < (n : Int) ∧ 1 < h) ∧ c < 6)) (h7 : ¬ c = 7)
    (k0 : Nat) (hk0 : k0 < ps.length) (t0 : Bool) (hf0 : paneFits ps k0 t0 w h = true) (ht0 : t0 = true → paneFits ps k0 false w h = false) (hmin : ∀ k, k < k0 → ∀ t, paneFits ps k t w h = false) : Grown bs kW kH n p w h ps := by
  have gn5 : 5 ≤ growN n := by cases n <;> simp [growN]
  refine ⟨.pane k0 t0, p + 1, [], 1, 0, k0, t0, [], true, rfl, by omega, by omega, by simpa using hps, by simpa [fits] using hf0, by simp [BT.cnt]; omega, ?_⟩
  simp only [List.append_nil, growOut]
  refine callE Xs Ms f_s_grow x_s_grow (by show 5 ≤ _; decide) ?_
  simp +contextual -implicitDefEqProofs (maxSteps := 10000000) only [go_sem, ite_self, Bool.false_eq_true, Nat.reduceAdd, Nat.reduceMul, Nat.reduceSub, Nat.reduceLT, Nat.reduceLeDiff, Nat.reduceEqDiff, Nat.reduceBEq, Nat.reduceBNe, Int.reduceAdd, Int.reduceLT, Int.reduceLE, Int.reduceEq, Int.reduceToNat, Int.reduceNeg, reduceCtorEq, ↓reduceIte, ↓gstepW_true, ↓gstepW_false, ↓gstepDW_true, ↓gstepDW_false, ↓gone_eq, ↓flat_eq, f_s_grow, ← Bool.decide_and, ← Bool.decide_or, p0, hD1, hD2, h7]
  refine LW_over Xs Ms (st0 := ?st0) (α := Nat) (fun k => [(16, .d (.int .i64 (k : Int)))]) (fun _ => []) (fun k => k ≤ k0) (fun k => ps.length - k) 0 ?hc (by omega) ?h0 ?step
  case hc => simp +contextual -implicitDefEqProofs (maxSteps := 10000000) only [go_sem, ite_self, Bool.false_eq_true, Nat.reduceAdd, Nat.reduceMul, Nat.reduceSub, Nat.reduceLT, Nat.reduceLeDiff, Nat.reduceEqDiff, Nat.reduceBEq, Nat.reduceBNe, Int.reduceAdd, Int.reduceLT, Int.reduceLE, Int.reduceEq, Int.reduceToNat, Int.reduceNeg, reduceCtorEq, ↓reduceIte, ↓gstepW_true, ↓gstepW_false, ↓gstepDW_true, ↓gstepDW_false, ↓gone_eq, ↓flat_eq] <;> exact rfl
  case h0 => rfl
  case step =>
    intro k hk ih
    have hlt : k < ps.length := by omega
    have hw := wrap_succ (k := k) (by omega)
    have ef := s_fitsPlan_pane kW kH ps k false w h (by omega)
    have et := s_fitsPlan_pane kW kH ps k true w h (by omega)
    simp only [BT.plan, Plan.enc_mk, List.map_nil] at ef et
    by_cases hk' : k = k0
    · subst hk'
      cases t0 with
      | false =>
        rw [hf0] at ef
        simp +contextual -implicitDefEqProofs (maxSteps := 10000000) only [go_sem, ite_self, Bool.false_eq_true, Nat.reduceAdd, Nat.reduceMul, Nat.reduceSub, Nat.reduceLT, Nat.reduceLeDiff, Nat.reduceEqDiff, Nat.reduceBEq, Nat.reduceBNe, Int.reduceAdd, Int.reduceLT, Int.reduceLE, Int.reduceEq, Int.reduceToNat, Int.reduceNeg, reduceCtorEq, ↓reduceIte, ↓gstepW_true, ↓gstepW_false, ↓gstepDW_true, ↓gstepDW_false, ↓gone_eq, ↓flat_eq, hlt, hw]
        refine LW_round Xs Ms ?_
        simp +contextual -implicitDefEqProofs (maxSteps := 10000000) only [go_sem, ite_self, Bool.false_eq_true, Nat.reduceAdd, Nat.reduceMul, Nat.reduceSub, Nat.reduceLT, Nat.reduceLeDiff, Nat.reduceEqDiff, Nat.reduceBEq, Nat.reduceBNe, Int.reduceAdd, Int.reduceLT, Int.reduceLE, Int.reduceEq, Int.reduceToNat, Int.reduceNeg, reduceCtorEq, ↓reduceIte, ↓gstepW_true, ↓gstepW_false, ↓gstepDW_true, ↓gstepDW_false, ↓gone_eq, ↓flat_eq, ef]
      | true =>
        rw [ht0 rfl] at ef
        rw [hf0] at et
        simp +contextual -implicitDefEqProofs (maxSteps := 10000000) only [go_sem, ite_self, Bool.false_eq_true, Nat.reduceAdd, Nat.reduceMul, Nat.reduceSub, Nat.reduceLT, Nat.reduceLeDiff, Nat.reduceEqDiff, Nat.reduceBEq, Nat.reduceBNe, Int.reduceAdd, Int.reduceLT, Int.reduceLE, Int.reduceEq, Int.reduceToNat, Int.reduceNeg, reduceCtorEq, ↓reduceIte, ↓gstepW_true, ↓gstepW_false, ↓gstepDW_true, ↓gstepDW_false, ↓gone_eq, ↓flat_eq, hlt, hw]
        refine LW_round Xs Ms ?_
        simp +contextual -implicitDefEqProofs (maxSteps := 10000000) only [go_sem, ite_self, Bool.false_eq_true, Nat.reduceAdd, Nat.reduceMul, Nat.reduceSub, Nat.reduceLT, Nat.reduceLeDiff, Nat.reduceEqDiff, Nat.reduceBEq, Nat.reduceBNe, Int.reduceAdd, Int.reduceLT, Int.reduceLE, Int.reduceEq, Int.reduceToNat, Int.reduceNeg, reduceCtorEq, ↓reduceIte, ↓gstepW_true, ↓gstepW_false, ↓gstepDW_true, ↓gstepDW_false, ↓gone_eq, ↓flat_eq, ef]
        refine LW_round Xs Ms ?_
        simp +contextual -implicitDefEqProofs (maxSteps := 10000000) only [go_sem, ite_self, Bool.false_eq_true, Nat.reduceAdd, Nat.reduceMul, Nat.reduceSub, Nat.reduceLT, Nat.reduceLeDiff, Nat.reduceEqDiff, Nat.reduceBEq, Nat.reduceBNe, Int.reduceAdd, Int.reduceLT, Int.reduceLE, Int.reduceEq, Int.reduceToNat, Int.reduceNeg, reduceCtorEq, ↓reduceIte, ↓gstepW_true, ↓gstepW_false, ↓gstepDW_true, ↓gstepDW_false, ↓gone_eq, ↓flat_eq, et]
    · rw [hmin k (by omega) false] at ef
      rw [hmin k (by omega) true] at et
      simp +contextual -implicitDefEqProofs (maxSteps := 10000000) only [go_sem, ite_self, Bool.false_eq_true, Nat.reduceAdd, Nat.reduceMul, Nat.reduceSub, Nat.reduceLT, Nat.reduceLeDiff, Nat.reduceEqDiff, Nat.reduceBEq, Nat.reduceBNe, Int.reduceAdd, Int.reduceLT, Int.reduceLE, Int.reduceEq, Int.reduceToNat, Int.reduceNeg, reduceCtorEq, ↓reduceIte, ↓gstepW_true, ↓gstepW_false, ↓gstepDW_true, ↓gstepDW_false, ↓gone_eq, ↓flat_eq, hlt, hw]
      refine LW_round Xs Ms ?_
      simp +contextual -implicitDefEqProofs (maxSteps := 10000000) only [go_sem, ite_self, Bool.false_eq_true, Nat.reduceAdd, Nat.reduceMul, Nat.reduceSub, Nat.reduceLT, Nat.reduceLeDiff, Nat.reduceEqDiff, Nat.reduceBEq, Nat.reduceBNe, Int.reduceAdd, Int.reduceLT, Int.reduceLE, Int.reduceEq, Int.reduceToNat, Int.reduceNeg, reduceCtorEq, ↓reduceIte, ↓gstepW_true, ↓gstepW_false, ↓gstepDW_true, ↓gstepDW_false, ↓gone_eq, ↓flat_eq, ef]
      refine LW_round Xs Ms ?_
      simp +contextual -implicitDefEqProofs (maxSteps := 10000000) only [go_sem, ite_self, Bool.false_eq_true, Nat.reduceAdd, Nat.reduceMul, Nat.reduceSub, Nat.reduceLT, Nat.reduceLeDiff, Nat.reduceEqDiff, Nat.reduceBEq, Nat.reduceBNe, Int.reduceAdd, Int.reduceLT, Int.reduceLE, Int.reduceEq, Int.reduceToNat, Int.reduceNeg, reduceCtorEq, ↓reduceIte, ↓gstepW_true, ↓gstepW_false, ↓gstepDW_true, ↓gstepDW_false, ↓gone_eq, ↓flat_eq, et]
      refine LW_round Xs Ms ?_
      simp +contextual -implicitDefEqProofs (maxSteps := 10000000) only [go_sem, ite_self, Bool.false_eq_true, Nat.reduceAdd, Nat.reduceMul, Nat.reduceSub, Nat.reduceLT, Nat.reduceLeDiff, Nat.reduceEqDiff, Nat.reduceBEq, Nat.reduceBNe, Int.reduceAdd, Int.reduceLT, Int.reduceLE, Int.reduceEq, Int.reduceToNat, Int.reduceNeg, reduceCtorEq, ↓reduceIte, ↓gstepW_true, ↓gstepW_false, ↓gstepDW_true, ↓gstepDW_false, ↓gone_eq, ↓flat_eq, hw]
      refine ih (k + 1) _ (by omega) (by omega) ?_
      simp +contextual -implicitDefEqProofs (maxSteps := 10000000) only [go_sem, ite_self, Bool.false_eq_true, Nat.reduceAdd, Nat.reduceMul, Nat.reduceSub, Nat.reduceLT, Nat.reduceLeDiff, Nat.reduceEqDiff, Nat.reduceBEq, Nat.reduceBNe, Int.reduceAdd, Int.reduceLT, Int.reduceLE, Int.reduceEq, Int.reduceToNat, Int.reduceNeg, reduceCtorEq, ↓reduceIte, ↓gstepW_true, ↓gstepW_false, ↓gstepDW_true, ↓gstepDW_false, ↓gone_eq, ↓flat_eq]
theorem grow_full (bs : List UInt8) (hb : bs.length ≤ 2000) (kW kH : Int) (n : Nat) (p : Nat) (w h : Int) (ps : List Pane) (hw0 : 1 ≤ w) (hw1 : w ≤ 1000) (hh0 : 1 ≤ h) (hh1 : h ≤ 1000) (hps : ps.length = 24) (hp : p + growN n < 1000000000)
    (c : Int) (p0 : vcall Xs Ms n_s_reader_pick [.ptr 0 0, (.d (.int .i64 (8)))] [.box [.d (.sl (bs.map encU)), (.d (.int .i64 (p)))]] = some ((.d (.int .i64 (c))), [.box [.d (.sl (bs.map encU)), (.d (.int .i64 ((p + 1 : Nat))))]]))
    (hD1 : ¬ ((0 < (n : Int) ∧ 1 < w) ∧ (c < 3 ∨ (c < 4 ∧ h = 1)))) (hD2 : ¬ ((0 < (n : Int) ∧ 1 < h) ∧ c < 6)) (h7 : ¬ c = 7)
    (hmin : ∀ k, k < ps.length → ∀ t, paneFits ps k t w h = false) : Grown bs kW kH n p w h ps := by
  have gn5 : 5 ≤ growN n := by cases n <;> simp [growN]
  refine ⟨.waste, p + 1, [], 0, 0, 0, false, [], true, rfl, by omega, by omega, by simpa using (by omega : ps.length ≤ 24), rfl, by simp [BT.cnt]; omega, ?_⟩
  simp only [List.append_nil, growOut]
  have h24 : ((ps.length : Nat) : Int) = 24 := by omega
  refine callE Xs Ms f_s_grow x_s_grow (by show 5 ≤ _; decide) ?_
  simp +contextual -implicitDefEqProofs (maxSteps := 10000000) only [go_sem, ite_self, Bool.false_eq_true, Nat.reduceAdd, Nat.reduceMul, Nat.reduceSub, Nat.reduceLT, Nat.reduceLeDiff, Nat.reduceEqDiff, Nat.reduceBEq, Nat.reduceBNe, Int.reduceAdd, Int.reduceLT, Int.reduceLE, Int.reduceEq, Int.reduceToNat, Int.reduceNeg, reduceCtorEq, ↓reduceIte, ↓gstepW_true, ↓gstepW_false, ↓gstepDW_true, ↓gstepDW_false, ↓gone_eq, ↓flat_eq, f_s_grow, ← Bool.decide_and, ← Bool.decide_or, p0, hD1, hD2, h7]
  refine LW_over Xs Ms (st0 := ?st0) (α := Nat) (fun k => [(16, .d (.int .i64 (k : Int)))]) (fun _ => []) (fun k => k ≤ ps.length) (fun k => ps.length - k) 0 ?hc (by omega) ?h0 ?step
  case hc => simp +contextual -implicitDefEqProofs (maxSteps := 10000000) only [go_sem, ite_self, Bool.false_eq_true, Nat.reduceAdd, Nat.reduceMul, Nat.reduceSub, Nat.reduceLT, Nat.reduceLeDiff, Nat.reduceEqDiff, Nat.reduceBEq, Nat.reduceBNe, Int.reduceAdd, Int.reduceLT, Int.reduceLE, Int.reduceEq, Int.reduceToNat, Int.reduceNeg, reduceCtorEq, ↓reduceIte, ↓gstepW_true, ↓gstepW_false, ↓gstepDW_true, ↓gstepDW_false, ↓gone_eq, ↓flat_eq] <;> exact rfl
  case h0 => rfl
  case step =>
    intro k hk ih
    by_cases hlt : k < ps.length
    · have hw := wrap_succ (k := k) (by omega)
      have ef := s_fitsPlan_pane kW kH ps k false w h (by omega)
      have et := s_fitsPlan_pane kW kH ps k true w h (by omega)
      simp only [BT.plan, Plan.enc_mk, List.map_nil] at ef et
      rw [hmin k hlt false] at ef
      rw [hmin k hlt true] at et
      simp +contextual -implicitDefEqProofs (maxSteps := 10000000) only [go_sem, ite_self, Bool.false_eq_true, Nat.reduceAdd, Nat.reduceMul, Nat.reduceSub, Nat.reduceLT, Nat.reduceLeDiff, Nat.reduceEqDiff, Nat.reduceBEq, Nat.reduceBNe, Int.reduceAdd, Int.reduceLT, Int.reduceLE, Int.reduceEq, Int.reduceToNat, Int.reduceNeg, reduceCtorEq, ↓reduceIte, ↓gstepW_true, ↓gstepW_false, ↓gstepDW_true, ↓gstepDW_false, ↓gone_eq, ↓flat_eq, hlt, hw]
      refine LW_round Xs Ms ?_
      simp +contextual -implicitDefEqProofs (maxSteps := 10000000) only [go_sem, ite_self, Bool.false_eq_true, Nat.reduceAdd, Nat.reduceMul, Nat.reduceSub, Nat.reduceLT, Nat.reduceLeDiff, Nat.reduceEqDiff, Nat.reduceBEq, Nat.reduceBNe, Int.reduceAdd, Int.reduceLT, Int.reduceLE, Int.reduceEq, Int.reduceToNat, Int.reduceNeg, reduceCtorEq, ↓reduceIte, ↓gstepW_true, ↓gstepW_false, ↓gstepDW_true, ↓gstepDW_false, ↓gone_eq, ↓flat_eq, ef]
      refine LW_round Xs Ms ?_
      simp +contextual -implicitDefEqProofs (maxSteps := 10000000) only [go_sem, ite_self, Bool.false_eq_true, Nat.reduceAdd, Nat.reduceMul, Nat.reduceSub, Nat.reduceLT, Nat.reduceLeDiff, Nat.reduceEqDiff, Nat.reduceBEq, Nat.reduceBNe, Int.reduceAdd, Int.reduceLT, Int.reduceLE, Int.reduceEq, Int.reduceToNat, Int.reduceNeg, reduceCtorEq, ↓reduceIte, ↓gstepW_true, ↓gstepW_false, ↓gstepDW_true, ↓gstepDW_false, ↓gone_eq, ↓flat_eq, et]
      refine LW_round Xs Ms ?_
      simp +contextual -implicitDefEqProofs (maxSteps := 10000000) only [go_sem, ite_self, Bool.false_eq_true, Nat.reduceAdd, Nat.reduceMul, Nat.reduceSub, Nat.reduceLT, Nat.reduceLeDiff, Nat.reduceEqDiff, Nat.reduceBEq, Nat.reduceBNe, Int.reduceAdd, Int.reduceLT, Int.reduceLE, Int.reduceEq, Int.reduceToNat, Int.reduceNeg, reduceCtorEq, ↓reduceIte, ↓gstepW_true, ↓gstepW_false, ↓gstepDW_true, ↓gstepDW_false, ↓gone_eq, ↓flat_eq, hw]
      refine ih (k + 1) _ (by omega) (by omega) ?_
      simp +contextual -implicitDefEqProofs (maxSteps := 10000000) only [go_sem, ite_self, Bool.false_eq_true, Nat.reduceAdd, Nat.reduceMul, Nat.reduceSub, Nat.reduceLT, Nat.reduceLeDiff, Nat.reduceEqDiff, Nat.reduceBEq, Nat.reduceBNe, Int.reduceAdd, Int.reduceLT, Int.reduceLE, Int.reduceEq, Int.reduceToNat, Int.reduceNeg, reduceCtorEq, ↓reduceIte, ↓gstepW_true, ↓gstepW_false, ↓gstepDW_true, ↓gstepDW_false, ↓gone_eq, ↓flat_eq]
    · have : k = ps.length := by omega
      subst this
      simp +contextual -implicitDefEqProofs (maxSteps := 10000000) only [go_sem, ite_self, Bool.false_eq_true, Nat.reduceAdd, Nat.reduceMul, Nat.reduceSub, Nat.reduceLT, Nat.reduceLeDiff, Nat.reduceEqDiff, Nat.reduceBEq, Nat.reduceBNe, Int.reduceAdd, Int.reduceLT, Int.reduceLE, Int.reduceEq, Int.reduceToNat, Int.reduceNeg, reduceCtorEq, ↓reduceIte, ↓gstepW_true, ↓gstepW_false, ↓gstepDW_true, ↓gstepDW_false, ↓gone_eq, ↓flat_eq, h24]
theorem grow_new (bs : List UInt8) (hb : bs.length ≤ 2000) (kW kH : Int) (n : Nat) (p : Nat) (w h : Int) (ps : List Pane) (hw0 : 1 ≤ w) (hw1 : w ≤ 1000) (hh0 : 1 ≤ h) (hh1 : h ≤ 1000) (hps : ps.length < 24) (hp : p + growN n < 1000000000)
    (c : Int) (p0 : vcall Xs Ms n_s_reader_pick [.ptr 0 0, (.d (.int .i64 (8)))] [.box [.d (.sl (bs.map encU)), (.d (.int .i64 (p)))]] = some ((.d (.int .i64 (c))), [.box [.d (.sl (bs.map encU)), (.d (.int .i64 ((p + 1 : Nat))))]]))
    (hD1 : ¬ ((0 < (n : Int) ∧ 1 < w) ∧ (c < 3 ∨ (c < 4 ∧ h = 1)))) (hD2 : ¬ ((0 < (n : Int) ∧ 1 < h) ∧ c < 6)) (h7 : ¬ c = 7)
    (hmin : ∀ k, k < ps.length → ∀ t, paneFits ps k t w h = false) : Grown bs kW kH n p w h ps := by
  have gn5 : 5 ≤ growN n := by cases n <;> simp [growN]
  have h24 : ¬ ((ps.length : Nat) : Int) = 24 := by omega
  have p1 := s_pick_ev bs (p + 1) 3 hb (by omega)
  generalize s_pick bs (p + 1) 3 = v1 at p1
  have w5 : IntKind.i64.wrap (((ps.length + 1 : Nat) : Int) - 1) = ((ps.length : Nat) : Int) := by rw [wrap64 (by omega) (by omega)]; omega
  have hr : (ps.length + 1) * 32 ≤ 140737488355328 ∧ ps.length ≤ 140737488355327 := by omega
  by_cases htr : v1 = 0 ∧ ¬ w = h
  · have p2 := s_pick_ev bs (p + 2) 2 hb (by omega)
    generalize s_pick bs (p + 2) 2 = v3 at p2
    refine ⟨.pane ps.length true, p + 3, [⟨h, w, true, v3⟩], 1, 0, ps.length, true, [], false, rfl, by omega, by omega, by simp <;> omega, ?_, by simp only [BT.cnt] <;> omega, ?_⟩
    · have : ¬ h = w := fun e => htr.2 e.symm
      simp [fits, paneFits, this]
    simp only [growOut]
    refine callE Xs Ms f_s_grow x_s_grow (by show 5 ≤ _; decide) ?_
    simp +contextual -implicitDefEqProofs (maxSteps := 10000000) only [go_sem, ite_self, Bool.false_eq_true, Nat.reduceAdd, Nat.reduceMul, Nat.reduceSub, Nat.reduceLT, Nat.reduceLeDiff, Nat.reduceEqDiff, Nat.reduceBEq, Nat.reduceBNe, Int.reduceAdd, Int.reduceLT, Int.reduceLE, Int.reduceEq, Int.reduceToNat, Int.reduceNeg, reduceCtorEq, ↓reduceIte, ↓gstepW_true, ↓gstepW_false, ↓gstepDW_true, ↓gstepDW_false, ↓gone_eq, ↓flat_eq, f_s_grow, ← Bool.decide_and, ← Bool.decide_or, p0, hD1, hD2, h7]
    refine LW_over Xs Ms (st0 := ?st0) (α := Nat) (fun k => [(16, .d (.int .i64 (k : Int)))]) (fun _ => []) (fun k => k ≤ ps.length) (fun k => ps.length - k) 0 ?hc (by omega) ?h0 ?step
    case hc => simp +contextual -implicitDefEqProofs (maxSteps := 10000000) only [go_sem, ite_self, Bool.false_eq_true, Nat.reduceAdd, Nat.reduceMul, Nat.reduceSub, Nat.reduceLT, Nat.reduceLeDiff, Nat.reduceEqDiff, Nat.reduceBEq, Nat.reduceBNe, Int.reduceAdd, Int.reduceLT, Int.reduceLE, Int.reduceEq, Int.reduceToNat, Int.reduceNeg, reduceCtorEq, ↓reduceIte, ↓gstepW_true, ↓gstepW_false, ↓gstepDW_true, ↓gstepDW_false, ↓gone_eq, ↓flat_eq] <;> exact rfl
    case h0 => rfl
    case step =>
      intro k hk ih
      by_cases hlt : k < ps.length
      · have hw := wrap_succ (k := k) (by omega)
        have ef := s_fitsPlan_pane kW kH ps k false w h (by omega)
        have et := s_fitsPlan_pane kW kH ps k true w h (by omega)
        simp only [BT.plan, Plan.enc_mk, List.map_nil] at ef et
        rw [hmin k hlt false] at ef
        rw [hmin k hlt true] at et
        simp +contextual -implicitDefEqProofs (maxSteps := 10000000) only [go_sem, ite_self, Bool.false_eq_true, Nat.reduceAdd, Nat.reduceMul, Nat.reduceSub, Nat.reduceLT, Nat.reduceLeDiff, Nat.reduceEqDiff, Nat.reduceBEq, Nat.reduceBNe, Int.reduceAdd, Int.reduceLT, Int.reduceLE, Int.reduceEq, Int.reduceToNat, Int.reduceNeg, reduceCtorEq, ↓reduceIte, ↓gstepW_true, ↓gstepW_false, ↓gstepDW_true, ↓gstepDW_false, ↓gone_eq, ↓flat_eq, hlt, hw]
        refine LW_round Xs Ms ?_
        simp +contextual -implicitDefEqProofs (maxSteps := 10000000) only [go_sem, ite_self, Bool.false_eq_true, Nat.reduceAdd, Nat.reduceMul, Nat.reduceSub, Nat.reduceLT, Nat.reduceLeDiff, Nat.reduceEqDiff, Nat.reduceBEq, Nat.reduceBNe, Int.reduceAdd, Int.reduceLT, Int.reduceLE, Int.reduceEq, Int.reduceToNat, Int.reduceNeg, reduceCtorEq, ↓reduceIte, ↓gstepW_true, ↓gstepW_false, ↓gstepDW_true, ↓gstepDW_false, ↓gone_eq, ↓flat_eq, ef]
        refine LW_round Xs Ms ?_
        simp +contextual -implicitDefEqProofs (maxSteps := 10000000) only [go_sem, ite_self, Bool.false_eq_true, Nat.reduceAdd, Nat.reduceMul, Nat.reduceSub, Nat.reduceLT, Nat.reduceLeDiff, Nat.reduceEqDiff, Nat.reduceBEq, Nat.reduceBNe, Int.reduceAdd, Int.reduceLT, Int.reduceLE, Int.reduceEq, Int.reduceToNat, Int.reduceNeg, reduceCtorEq, ↓reduceIte, ↓gstepW_true, ↓gstepW_false, ↓gstepDW_true, ↓gstepDW_false, ↓gone_eq, ↓flat_eq, et]
        refine LW_round Xs Ms ?_
        simp +contextual -implicitDefEqProofs (maxSteps := 10000000) only [go_sem, ite_self, Bool.false_eq_true, Nat.reduceAdd, Nat.reduceMul, Nat.reduceSub, Nat.reduceLT, Nat.reduceLeDiff, Nat.reduceEqDiff, Nat.reduceBEq, Nat.reduceBNe, Int.reduceAdd, Int.reduceLT, Int.reduceLE, Int.reduceEq, Int.reduceToNat, Int.reduceNeg, reduceCtorEq, ↓reduceIte, ↓gstepW_true, ↓gstepW_false, ↓gstepDW_true, ↓gstepDW_false, ↓gone_eq, ↓flat_eq, hw]
        refine ih (k + 1) _ (by omega) (by omega) ?_
        simp +contextual -implicitDefEqProofs (maxSteps := 10000000) only [go_sem, ite_self, Bool.false_eq_true, Nat.reduceAdd, Nat.reduceMul, Nat.reduceSub, Nat.reduceLT, Nat.reduceLeDiff, Nat.reduceEqDiff, Nat.reduceBEq, Nat.reduceBNe, Int.reduceAdd, Int.reduceLT, Int.reduceLE, Int.reduceEq, Int.reduceToNat, Int.reduceNeg, reduceCtorEq, ↓reduceIte, ↓gstepW_true, ↓gstepW_false, ↓gstepDW_true, ↓gstepDW_false, ↓gone_eq, ↓flat_eq]
      · have : k = ps.length := by omega
        subst this
        simp +contextual -implicitDefEqProofs (maxSteps := 10000000) only [go_sem, ite_self, Bool.false_eq_true, Nat.reduceAdd, Nat.reduceMul, Nat.reduceSub, Nat.reduceLT, Nat.reduceLeDiff, Nat.reduceEqDiff, Nat.reduceBEq, Nat.reduceBNe, Int.reduceAdd, Int.reduceLT, Int.reduceLE, Int.reduceEq, Int.reduceToNat, Int.reduceNeg, reduceCtorEq, ↓reduceIte, ↓gstepW_true, ↓gstepW_false, ↓gstepDW_true, ↓gstepDW_false, ↓gone_eq, ↓flat_eq, h24, p1, p2, htr, w5, hr]
        first | rfl | (simp [Pane.enc] <;> omega)
  · have p2 := s_pick_ev bs (p + 2) 2 hb (by omega)
    generalize s_pick bs (p + 2) 2 = v2 at p2
    have p3 := s_pick_ev bs (p + 3) 2 hb (by omega)
    generalize s_pick bs (p + 3) 2 = v3 at p3
    refine ⟨.pane ps.length false, p + 4, [⟨w, h, decide (v2 = 0), v3⟩], 1, 0, ps.length, false, [], false, rfl, by omega, by omega, by simp <;> omega, ?_, by simp only [BT.cnt] <;> omega, ?_⟩
    · simp [fits, paneFits]
    simp only [growOut]
    refine callE Xs Ms f_s_grow x_s_grow (by show 5 ≤ _; decide) ?_
    simp +contextual -implicitDefEqProofs (maxSteps := 10000000) only [go_sem, ite_self, Bool.false_eq_true, Nat.reduceAdd, Nat.reduceMul, Nat.reduceSub, Nat.reduceLT, Nat.reduceLeDiff, Nat.reduceEqDiff, Nat.reduceBEq, Nat.reduceBNe, Int.reduceAdd, Int.reduceLT, Int.reduceLE, Int.reduceEq, Int.reduceToNat, Int.reduceNeg, reduceCtorEq, ↓reduceIte, ↓gstepW_true, ↓gstepW_false, ↓gstepDW_true, ↓gstepDW_false, ↓gone_eq, ↓flat_eq, f_s_grow, ← Bool.decide_and, ← Bool.decide_or, p0, hD1, hD2, h7]
    refine LW_over Xs Ms (st0 := ?st0) (α := Nat) (fun k => [(16, .d (.int .i64 (k : Int)))]) (fun _ => []) (fun k => k ≤ ps.length) (fun k => ps.length - k) 0 ?hc (by omega) ?h0 ?step
    case hc => simp +contextual -implicitDefEqProofs (maxSteps := 10000000) only [go_sem, ite_self, Bool.false_eq_true, Nat.reduceAdd, Nat.reduceMul, Nat.reduceSub, Nat.reduceLT, Nat.reduceLeDiff, Nat.reduceEqDiff, Nat.reduceBEq, Nat.reduceBNe, Int.reduceAdd, Int.reduceLT, Int.reduceLE, Int.reduceEq, Int.reduceToNat, Int.reduceNeg, reduceCtorEq, ↓reduceIte, ↓gstepW_true, ↓gstepW_false, ↓gstepDW_true, ↓gstepDW_false, ↓gone_eq, ↓flat_eq] <;> exact rfl
    case h0 => rfl
    case step =>
      intro k hk ih
      by_cases hlt : k < ps.length
      · have hw := wrap_succ (k := k) (by omega)
        have ef := s_fitsPlan_pane kW kH ps k false w h (by omega)
        have et := s_fitsPlan_pane kW kH ps k true w h (by omega)
        simp only [BT.plan, Plan.enc_mk, List.map_nil] at ef et
        rw [hmin k hlt false] at ef
        rw [hmin k hlt true] at et
        simp +contextual -implicitDefEqProofs (maxSteps := 10000000) only [go_sem, ite_self, Bool.false_eq_true, Nat.reduceAdd, Nat.reduceMul, Nat.reduceSub, Nat.reduceLT, Nat.reduceLeDiff, Nat.reduceEqDiff, Nat.reduceBEq, Nat.reduceBNe, Int.reduceAdd, Int.reduceLT, Int.reduceLE, Int.reduceEq, Int.reduceToNat, Int.reduceNeg, reduceCtorEq, ↓reduceIte, ↓gstepW_true, ↓gstepW_false, ↓gstepDW_true, ↓gstepDW_false, ↓gone_eq, ↓flat_eq, hlt, hw]
        refine LW_round Xs Ms ?_
        simp +contextual -implicitDefEqProofs (maxSteps := 10000000) only [go_sem, ite_self, Bool.false_eq_true, Nat.reduceAdd, Nat.reduceMul, Nat.reduceSub, Nat.reduceLT, Nat.reduceLeDiff, Nat.reduceEqDiff, Nat.reduceBEq, Nat.reduceBNe, Int.reduceAdd, Int.reduceLT, Int.reduceLE, Int.reduceEq, Int.reduceToNat, Int.reduceNeg, reduceCtorEq, ↓reduceIte, ↓gstepW_true, ↓gstepW_false, ↓gstepDW_true, ↓gstepDW_false, ↓gone_eq, ↓flat_eq, ef]
        refine LW_round Xs Ms ?_
        simp +contextual -implicitDefEqProofs (maxSteps := 10000000) only [go_sem, ite_self, Bool.false_eq_true, Nat.reduceAdd, Nat.reduceMul, Nat.reduceSub, Nat.reduceLT, Nat.reduceLeDiff, Nat.reduceEqDiff, Nat.reduceBEq, Nat.reduceBNe, Int.reduceAdd, Int.reduceLT, Int.reduceLE, Int.reduceEq, Int.reduceToNat, Int.reduceNeg, reduceCtorEq, ↓reduceIte, ↓gstepW_true, ↓gstepW_false, ↓gstepDW_true, ↓gstepDW_false, ↓gone_eq, ↓flat_eq, et]
        refine LW_round Xs Ms ?_
        simp +contextual -implicitDefEqProofs (maxSteps := 10000000) only [go_sem, ite_self, Bool.false_eq_true, Nat.reduceAdd, Nat.reduceMul, Nat.reduceSub, Nat.reduceLT, Nat.reduceLeDiff, Nat.reduceEqDiff, Nat.reduceBEq, Nat.reduceBNe, Int.reduceAdd, Int.reduceLT, Int.reduceLE, Int.reduceEq, Int.reduceToNat, Int.reduceNeg, reduceCtorEq, ↓reduceIte, ↓gstepW_true, ↓gstepW_false, ↓gstepDW_true, ↓gstepDW_false, ↓gone_eq, ↓flat_eq, hw]
        refine ih (k + 1) _ (by omega) (by omega) ?_
        simp +contextual -implicitDefEqProofs (maxSteps := 10000000) only [go_sem, ite_self, Bool.false_eq_true, Nat.reduceAdd, Nat.reduceMul, Nat.reduceSub, Nat.reduceLT, Nat.reduceLeDiff, Nat.reduceEqDiff, Nat.reduceBEq, Nat.reduceBNe, Int.reduceAdd, Int.reduceLT, Int.reduceLE, Int.reduceEq, Int.reduceToNat, Int.reduceNeg, reduceCtorEq, ↓reduceIte, ↓gstepW_true, ↓gstepW_false, ↓gstepDW_true, ↓gstepDW_false, ↓gone_eq, ↓flat_eq]
      · have : k = ps.length := by omega
        subst this
        by_cases hv : v1 = 0
        · have hwh : w = h := by
            by_cases e : w = h
            · exact e
            · exact absurd ⟨hv, e⟩ htr
          subst hwh
          simp +contextual -implicitDefEqProofs (maxSteps := 10000000) only [go_sem, ite_self, Bool.false_eq_true, Nat.reduceAdd, Nat.reduceMul, Nat.reduceSub, Nat.reduceLT, Nat.reduceLeDiff, Nat.reduceEqDiff, Nat.reduceBEq, Nat.reduceBNe, Int.reduceAdd, Int.reduceLT, Int.reduceLE, Int.reduceEq, Int.reduceToNat, Int.reduceNeg, reduceCtorEq, ↓reduceIte, ↓gstepW_true, ↓gstepW_false, ↓gstepDW_true, ↓gstepDW_false, ↓gone_eq, ↓flat_eq, h24, p1, p2, p3, hv, w5, hr]
          first | rfl | (simp [Pane.enc] <;> omega)
        · simp +contextual -implicitDefEqProofs (maxSteps := 10000000) only [go_sem, ite_self, Bool.false_eq_true, Nat.reduceAdd, Nat.reduceMul, Nat.reduceSub, Nat.reduceLT, Nat.reduceLeDiff, Nat.reduceEqDiff, Nat.reduceBEq, Nat.reduceBNe, Int.reduceAdd, Int.reduceLT, Int.reduceLE, Int.reduceEq, Int.reduceToNat, Int.reduceNeg, reduceCtorEq, ↓reduceIte, ↓gstepW_true, ↓gstepW_false, ↓gstepDW_true, ↓gstepDW_false, ↓gone_eq, ↓flat_eq, h24, p1, p2, p3, hv, w5, hr]
          first | rfl | (simp [Pane.enc] <;> omega)
theorem s_grow_ev (bs : List UInt8) (hb : bs.length ≤ 2000) (kW kH : Int) : ∀ (n p : Nat) (w h : Int) (ps : List Pane), n ≤ 4 → 1 ≤ w → w ≤ 1000 → 1 ≤ h → h ≤ 1000 → ps.length ≤ 24 → p + growN n < 1000000000 → Grown bs kW kH n p w h ps := by
  intro n
  induction n using Nat.strongRecOn with
  | _ n IH =>
  intro p w h ps hn4 hw0 hw1 hh0 hh1 hps hp
  have gn5 : 5 ≤ growN n := by cases n <;> simp [growN]
  have p0 := s_pick_ev bs p 8 hb (by omega)
  generalize s_pick bs p 8 = c at p0
  by_cases hD1 : (0 < (n : Int) ∧ 1 < w) ∧ (c < 3 ∨ (c < 4 ∧ h = 1))
  · exact grow_down bs hb kW kH n IH p w h ps hn4 hw0 hw1 hh0 hh1 hps hp c p0 hD1
  · by_cases hD2 : (0 < (n : Int) ∧ 1 < h) ∧ c < 6
    · exact grow_across bs hb kW kH n IH p w h ps hn4 hw0 hw1 hh0 hh1 hps hp c p0 hD1 hD2
    · by_cases h7 : c = 7
      · exact grow_waste bs hb kW kH n p w h ps hps hp c p0 hD1 hD2 h7
      · by_cases hx : ∃ k, k < ps.length ∧ ∃ t, paneFits ps k t w h = true
        · have hx' : ∃ k0, (k0 < ps.length ∧ ∃ t, paneFits ps k0 t w h = true) ∧ ∀ k, k < k0 → ¬ (k < ps.length ∧ ∃ t, paneFits ps k t w h = true) := by
            obtain ⟨k, hk⟩ := hx
            induction k using Nat.strongRecOn with
            | _ k ihk =>
              by_cases hm : ∃ j, j < k ∧ (j < ps.length ∧ ∃ t, paneFits ps j t w h = true)
              · obtain ⟨j, hj, hj'⟩ := hm
                exact ihk j hj hj'
              · exact ⟨k, hk, fun j hj hj' => hm ⟨j, hj, hj'⟩⟩
          obtain ⟨k0, ⟨hk0, t, ht⟩, hmin⟩ := hx'
          have hmin' : ∀ k, k < k0 → ∀ t, paneFits ps k t w h = false := fun k hk t => by
            cases hf : paneFits ps k t w h with
            | false => rfl
            | true => exact absurd ⟨by omega, t, hf⟩ (hmin k hk)
          cases hf : paneFits ps k0 false w h with
          | true => exact grow_pane bs hb kW kH n p w h ps hw0 hw1 hh0 hh1 hps hp c p0 hD1 hD2 h7 k0 hk0 false hf (fun e => by cases e) hmin'
          | false =>
            cases t with
            | false => rw [hf] at ht; cases ht
            | true => exact grow_pane bs hb kW kH n p w h ps hw0 hw1 hh0 hh1 hps hp c p0 hD1 hD2 h7 k0 hk0 true ht (fun _ => hf) hmin'
        · have hmin' : ∀ k, k < ps.length → ∀ t, paneFits ps k t w h = false := fun k hk t => by
            cases hf : paneFits ps k t w h with
            | false => rfl
            | true => exact absurd ⟨k, hk, t, hf⟩ hx
          by_cases h24 : ps.length = 24
          · exact grow_full bs hb kW kH n p w h ps hw0 hw1 hh0 hh1 h24 hp c p0 hD1 hD2 h7 hmin'
          · exact grow_new bs hb kW kH n p w h ps hw0 hw1 hh0 hh1 (by omega) hp c p0 hD1 hD2 h7 hmin'
theorem s_workPlan_ev (bs : List UInt8) (hb : bs.length ≤ 2000) (p : Nat) (hp : p < 900000000) : ∃ (W H : Int) (b : BT) (p' : Nat) (ps : List Pane) (o a q : Int) (t : Bool) (ks : List Plan), b.plan = .mk o a q t ks ∧ p ≤ p' ∧ p' ≤ p + 200 ∧ 1 ≤ W ∧ W ≤ 30 ∧ 1 ≤ H ∧ H ≤ 20 ∧ ps.length ≤ 24 ∧ fits ps b W H = true ∧ b.cnt ≤ 155 ∧
    vcall Xs Ms n_s_workPlan [.ptr 0 0] [.box [.d (.sl (bs.map encU)), (.d (.int .i64 (p)))]] = some (.tup [.agg [(.d (.int .i64 (W))), (.d (.int .i64 (H))), .own 1], .agg [(.d (.int .i64 (o))), (.d (.int .i64 (a))), (.d (.int .i64 (q))), (.d (.bool (t))), .own 2]], [.box [.d (.sl (bs.map encU)), (.d (.int .i64 (p')))], .row 4 (ps.map Pane.enc) true false, .row 5 (ks.map Plan.enc) true false]) := by
  obtain ⟨W, hW, eW⟩ := s_one_ev bs p [12, 20, 8, 30, 1, 5] hb (by omega) (by decide)
  obtain ⟨H, hH, eH⟩ := s_one_ev bs (p + 1) [10, 16, 6, 20, 1, 9] hb (by omega) (by decide)
  obtain ⟨dp, hd, eD⟩ := s_one_ev bs (p + 2) [3, 2, 4, 1, 0] hb (by omega) (by decide)
  have hW' : 1 ≤ W ∧ W ≤ 30 := by simp only [List.mem_cons, List.not_mem_nil, or_false] at hW; omega
  have hH' : 1 ≤ H ∧ H ≤ 20 := by simp only [List.mem_cons, List.not_mem_nil, or_false] at hH; omega
  obtain ⟨n, rfl, hn⟩ : ∃ n : Nat, dp = (n : Int) ∧ n ≤ 4 := by
    simp only [List.mem_cons, List.not_mem_nil, or_false] at hd
    exact ⟨dp.toNat, by omega, by omega⟩
  have hg : growN n ≤ 155 := by
    have growN_4 : growN 0 = 5 ∧ growN 1 = 15 ∧ growN 2 = 35 ∧ growN 3 = 75 ∧ growN 4 = 155 := ⟨rfl, rfl, rfl, rfl, rfl⟩
    rcases (by omega : n = 0 ∨ n = 1 ∨ n = 2 ∨ n = 3 ∨ n = 4) with rfl | rfl | rfl | rfl | rfl <;> omega
  obtain ⟨b, p', ps, o, a, q, t, ks, sh, g1, g2, g3, g4, g5, g6, g7⟩ := s_grow_ev bs hb W H n (p + 3) W H [] hn hW'.1 (by omega) hH'.1 (by omega) (by simp) (by omega)
  simp only [List.nil_append] at g4 g5 g7
  refine ⟨W, H, b, p', ps, o, a, q, t, ks, g1, by omega, by omega, hW'.1, hW'.2, hH'.1, hH'.2, g4, g5, by omega, ?_⟩
  simp only [List.map_cons, List.map_nil, encI] at eW eH eD g7
  cases sh <;> simp only [growOut] at g7
  all_goals
    refine callE Xs Ms f_s_workPlan x_s_workPlan (by show 1 ≤ _; decide) ?_
    simp +contextual -implicitDefEqProofs (maxSteps := 10000000) only [go_sem, ite_self, Bool.false_eq_true, Nat.reduceAdd, Nat.reduceMul, Nat.reduceSub, Nat.reduceLT, Nat.reduceLeDiff, Nat.reduceEqDiff, Nat.reduceBEq, Nat.reduceBNe, Int.reduceAdd, Int.reduceLT, Int.reduceLE, Int.reduceEq, Int.reduceToNat, Int.reduceNeg, reduceCtorEq, ↓reduceIte, ↓gstepW_true, ↓gstepW_false, ↓gstepDW_true, ↓gstepDW_false, ↓gone_eq, ↓flat_eq, f_s_workPlan, eW, eH, eD, g7]
theorem s_someBox_ev (bs : List UInt8) (hb : bs.length ≤ 2000) (p : Nat) (hp : p < 900000000) (w h : Int) : ∃ X Y W H : Int,
    vcall Xs Ms n_s_someBox [.ptr 0 0, (.d (.int .i64 (w))), (.d (.int .i64 (h)))] [.box [.d (.sl (bs.map encU)), (.d (.int .i64 (p)))]] = some (.d (.agg [.int .i64 X, .int .i64 Y, .int .i64 W, .int .i64 H]), [.box [.d (.sl (bs.map encU)), (.d (.int .i64 ((p + 4 : Nat))))]]) := by
  have p1 := s_pick_ev bs p w hb (by omega)
  generalize s_pick bs p w = a1 at p1
  have p2 := s_pick_ev bs (p + 1) h hb (by omega)
  generalize s_pick bs (p + 1) h = a2 at p2
  have p3 := s_pick_ev bs (p + 2) (IntKind.i64.wrap (IntKind.i64.wrap (w - IntKind.i64.wrap (1 + a1)) + 1)) hb (by omega)
  generalize s_pick bs (p + 2) (IntKind.i64.wrap (IntKind.i64.wrap (w - IntKind.i64.wrap (1 + a1)) + 1)) = a3 at p3
  have p4 := s_pick_ev bs (p + 3) (IntKind.i64.wrap (IntKind.i64.wrap (h - IntKind.i64.wrap (1 + a2)) + 1)) hb (by omega)
  generalize s_pick bs (p + 3) (IntKind.i64.wrap (IntKind.i64.wrap (h - IntKind.i64.wrap (1 + a2)) + 1)) = a4 at p4
  refine ⟨a3, a4, IntKind.i64.wrap (1 + a1), IntKind.i64.wrap (1 + a2), ?_⟩
  refine callE Xs Ms f_s_someBox x_s_someBox (by show 3 ≤ _; decide) ?_
  simp +contextual -implicitDefEqProofs (maxSteps := 10000000) only [go_sem, ite_self, Bool.false_eq_true, Nat.reduceAdd, Nat.reduceMul, Nat.reduceSub, Nat.reduceLT, Nat.reduceLeDiff, Nat.reduceEqDiff, Nat.reduceBEq, Nat.reduceBNe, Int.reduceAdd, Int.reduceLT, Int.reduceLE, Int.reduceEq, Int.reduceToNat, Int.reduceNeg, reduceCtorEq, ↓reduceIte, ↓gstepW_true, ↓gstepW_false, ↓gstepDW_true, ↓gstepDW_false, ↓gone_eq, ↓flat_eq, f_s_someBox, p1, p2, p3, p4]
def PPiece (label : Int) (bs : List UInt8) (p : Nat) (r : AV × List AObj) : Prop :=
  ∃ (qW qH : Int) (F : List Box) (kW kH : Int) (ps : List Pane) (o a q : Int) (t : Bool) (ks : List Plan) (p' : Nat), R64 qW ∧ R64 qH ∧ F.length ≤ 3 ∧ ps.length ≤ 24 ∧ p ≤ p' ∧ p' ≤ p + 300 ∧
    r = (.tup [.agg [(.d (.int .i64 (label))), (.d (.int .i64 (qW))), (.d (.int .i64 (qH))), .own 1], .agg [(.d (.int .i64 (kW))), (.d (.int .i64 (kH))), .own 2], .agg [(.d (.int .i64 (o))), (.d (.int .i64 (a))), (.d (.int .i64 (q))), (.d (.bool (t))), .own 3]],
      [.box [.d (.sl (bs.map encU)), (.d (.int .i64 (p')))], .row 4 (F.map Box.enc) true false, .row 4 (ps.map Pane.enc) true false, .row 5 (ks.map Plan.enc) true false])
theorem wrap_R64 (x : Int) : R64 (IntKind.i64.wrap x) := by
  unfold R64 IntKind.wrap
  simp only [IntKind.bits, IntKind.signed]
  simp
  split <;> omega
theorem s_planPiece_ev (bs : List UInt8) (hb : bs.length ≤ 2000) (p : Nat) (hp : p < 800000000) (label : Int) : ∃ r, vcall Xs Ms n_s_planPiece [.ptr 0 0, (.d (.int .i64 (label)))] [.box [.d (.sl (bs.map encU)), (.d (.int .i64 (p)))]] = some r ∧ PPiece label bs p r := by
  obtain ⟨W, H, b, p1, ps, o, a, q, t, ks, g1, g2, g3, g4, g5, g6, g7, g8, g9, g10, g11⟩ := s_workPlan_ev bs hb p (by omega)
  have ew := s_wastesOf_ev W H ps b.plan b rfl (by simp only [inB]; omega) g9 (by omega)
  have hl := wst_len b 0 0 W H
  rw [g1, Plan.enc_mk] at ew
  have n0 := s_pick_ev bs p1 3 hb (by omega)
  have n1 := s_pick_nonneg bs p1 3
  have n2 := s_pick_lt bs p1 3 (by omega)
  generalize s_pick bs p1 3 = n at n0 n1 n2
  generalize wst b 0 0 W H = L at ew hl
  have rW : R64 W := ⟨by omega, by omega⟩
  have rH : R64 H := ⟨by omega, by omega⟩
  refine callW Xs Ms f_s_planPiece x_s_planPiece (by show 2 ≤ _; decide) ?_
  simp +contextual -implicitDefEqProofs (maxSteps := 10000000) only [go_sem, ite_self, Bool.false_eq_true, Nat.reduceAdd, Nat.reduceMul, Nat.reduceSub, Nat.reduceLT, Nat.reduceLeDiff, Nat.reduceEqDiff, Nat.reduceBEq, Nat.reduceBNe, Int.reduceAdd, Int.reduceLT, Int.reduceLE, Int.reduceEq, Int.reduceToNat, Int.reduceNeg, reduceCtorEq, ↓reduceIte, ↓gstepW_true, ↓gstepW_false, ↓gstepDW_true, ↓gstepDW_false, ↓gone_eq, ↓flat_eq, f_s_planPiece, g11, ew, n0]
  refine LW_over Xs Ms (st0 := ?st0) (α := Int × List Box × Nat) (fun s => [(11, .d (.int .i64 s.1))]) (fun s => [(0, .box [.d (.sl (bs.map encU)), (.d (.int .i64 (s.2.2)))]), (8, .row 4 (s.2.1.map Box.enc) true false)]) (fun s => 0 ≤ s.1 ∧ s.1 ≤ 2 ∧ (s.2.1.length : Int) ≤ 2 - s.1 ∧ p1 + 1 ≤ s.2.2 ∧ (s.2.2 : Int) ≤ p1 + 1 + 3 * (2 - s.1)) (fun s => s.1.toNat) (n, [], p1 + 1) ?hc (by simp; omega) ?h0 ?step
  case hc => simp +contextual -implicitDefEqProofs (maxSteps := 10000000) only [go_sem, ite_self, Bool.false_eq_true, Nat.reduceAdd, Nat.reduceMul, Nat.reduceSub, Nat.reduceLT, Nat.reduceLeDiff, Nat.reduceEqDiff, Nat.reduceBEq, Nat.reduceBNe, Int.reduceAdd, Int.reduceLT, Int.reduceLE, Int.reduceEq, Int.reduceToNat, Int.reduceNeg, reduceCtorEq, ↓reduceIte, ↓gstepW_true, ↓gstepW_false, ↓gstepDW_true, ↓gstepDW_false, ↓gone_eq, ↓flat_eq] <;> exact rfl
  case h0 => rfl
  case step =>
    intro ⟨m, F, pp⟩ ⟨i1, i2, i3, i4, i5⟩ ih
    simp only at i1 i2 i3 i4 i5
    by_cases hm : 0 < m ∧ (0 : Int) < (L.length : Int)
    · have v0 := s_pick_ev bs pp L.length hb (by omega)
      have v1 := s_pick_nonneg bs pp L.length
      have v2 := s_pick_lt bs pp L.length (by omega)
      obtain ⟨i, hi⟩ : ∃ i : Nat, s_pick bs pp (L.length : Int) = (i : Int) := ⟨(s_pick bs pp (L.length : Int)).toNat, by omega⟩
      rw [hi] at v0 v2
      have hil : i < L.length := by omega
      obtain ⟨⟨X, Y, bW, bH⟩, hx⟩ := get_lt hil
      have a0 := s_pick_ev bs (pp + 1) bW hb (by omega)
      generalize s_pick bs (pp + 1) bW = c1 at a0
      have a1 := s_pick_ev bs (pp + 2) bH hb (by omega)
      generalize s_pick bs (pp + 2) bH = c2 at a1
      have hr : (F.length + 1) * 32 ≤ 140737488355328 ∧ F.length ≤ 140737488355327 := by omega
      have hw := wi (m - 1) (by omega) (by omega)
      simp +contextual -implicitDefEqProofs (maxSteps := 10000000) only [go_sem, ite_self, Bool.false_eq_true, Nat.reduceAdd, Nat.reduceMul, Nat.reduceSub, Nat.reduceLT, Nat.reduceLeDiff, Nat.reduceEqDiff, Nat.reduceBEq, Nat.reduceBNe, Int.reduceAdd, Int.reduceLT, Int.reduceLE, Int.reduceEq, Int.reduceToNat, Int.reduceNeg, reduceCtorEq, ↓reduceIte, ↓gstepW_true, ↓gstepW_false, ↓gstepDW_true, ↓gstepDW_false, ↓gone_eq, ↓flat_eq, ← Bool.decide_and, hm, v0, hil, hx, a0, a1, hr, hw]
      refine ih (m - 1, F ++ [⟨X, Y, IntKind.i64.wrap (1 + c1), IntKind.i64.wrap (1 + c2)⟩], pp + 3) _ ⟨by simp only; omega, by simp only; omega, by simp only [List.length_append, List.length_cons, List.length_nil]; omega, by simp only; omega, by simp only; omega⟩ (by simp only; omega) ?_
      simp +contextual -implicitDefEqProofs (maxSteps := 10000000) only [go_sem, ite_self, Bool.false_eq_true, Nat.reduceAdd, Nat.reduceMul, Nat.reduceSub, Nat.reduceLT, Nat.reduceLeDiff, Nat.reduceEqDiff, Nat.reduceBEq, Nat.reduceBNe, Int.reduceAdd, Int.reduceLT, Int.reduceLE, Int.reduceEq, Int.reduceToNat, Int.reduceNeg, reduceCtorEq, ↓reduceIte, ↓gstepW_true, ↓gstepW_false, ↓gstepDW_true, ↓gstepDW_false, ↓gone_eq, ↓flat_eq]
      try (simp [Box.enc] <;> omega)
    · have u0 := s_pick_ev bs pp 16 hb (by omega)
      generalize s_pick bs pp 16 = u at u0
      by_cases e0 : u = 0
      · subst e0
        simp +contextual -implicitDefEqProofs (maxSteps := 10000000) only [go_sem, ite_self, Bool.false_eq_true, Nat.reduceAdd, Nat.reduceMul, Nat.reduceSub, Nat.reduceLT, Nat.reduceLeDiff, Nat.reduceEqDiff, Nat.reduceBEq, Nat.reduceBNe, Int.reduceAdd, Int.reduceLT, Int.reduceLE, Int.reduceEq, Int.reduceToNat, Int.reduceNeg, reduceCtorEq, ↓reduceIte, ↓gstepW_true, ↓gstepW_false, ↓gstepDW_true, ↓gstepDW_false, ↓gone_eq, ↓flat_eq, ← Bool.decide_and, hm, u0]
        exact ⟨IntKind.i64.wrap (W + 1), H, F, W, H, ps, o, a, q, t, ks, pp + 1, wrap_R64 _, rH, by omega, g8, by omega, by omega, rfl⟩
      · by_cases e1 : u = 1
        · subst e1
          obtain ⟨X, Y, bW, bH, hsb⟩ := s_someBox_ev bs hb (pp + 1) (by omega) W H
          have hr : (F.length + 1) * 32 ≤ 140737488355328 ∧ F.length ≤ 140737488355327 := by omega
          simp +contextual -implicitDefEqProofs (maxSteps := 10000000) only [go_sem, ite_self, Bool.false_eq_true, Nat.reduceAdd, Nat.reduceMul, Nat.reduceSub, Nat.reduceLT, Nat.reduceLeDiff, Nat.reduceEqDiff, Nat.reduceBEq, Nat.reduceBNe, Int.reduceAdd, Int.reduceLT, Int.reduceLE, Int.reduceEq, Int.reduceToNat, Int.reduceNeg, reduceCtorEq, ↓reduceIte, ↓gstepW_true, ↓gstepW_false, ↓gstepDW_true, ↓gstepDW_false, ↓gone_eq, ↓flat_eq, ← Bool.decide_and, hm, u0, hsb, hr]
          exact ⟨W, H, F ++ [⟨X, Y, bW, bH⟩], W, H, ps, o, a, q, t, ks, pp + 5, rW, rH, by simp only [List.length_append, List.length_cons, List.length_nil]; omega, g8, by omega, by omega, by simp [Box.enc] <;> omega⟩
        · by_cases e2 : u = 2
          · subst e2
            simp +contextual -implicitDefEqProofs (maxSteps := 10000000) only [go_sem, ite_self, Bool.false_eq_true, Nat.reduceAdd, Nat.reduceMul, Nat.reduceSub, Nat.reduceLT, Nat.reduceLeDiff, Nat.reduceEqDiff, Nat.reduceBEq, Nat.reduceBNe, Int.reduceAdd, Int.reduceLT, Int.reduceLE, Int.reduceEq, Int.reduceToNat, Int.reduceNeg, reduceCtorEq, ↓reduceIte, ↓gstepW_true, ↓gstepW_false, ↓gstepDW_true, ↓gstepDW_false, ↓gone_eq, ↓flat_eq, ← Bool.decide_and, hm, u0]
            exact ⟨W, H, F, W, H, ps, o, IntKind.i64.wrap (a + 1), q, t, ks, pp + 1, rW, rH, by omega, g8, by omega, by omega, rfl⟩
          · simp +contextual -implicitDefEqProofs (maxSteps := 10000000) only [go_sem, ite_self, Bool.false_eq_true, Nat.reduceAdd, Nat.reduceMul, Nat.reduceSub, Nat.reduceLT, Nat.reduceLeDiff, Nat.reduceEqDiff, Nat.reduceBEq, Nat.reduceBNe, Int.reduceAdd, Int.reduceLT, Int.reduceLE, Int.reduceEq, Int.reduceToNat, Int.reduceNeg, reduceCtorEq, ↓reduceIte, ↓gstepW_true, ↓gstepW_false, ↓gstepDW_true, ↓gstepDW_false, ↓gone_eq, ↓flat_eq, ← Bool.decide_and, hm, u0, e0, e1, e2]
            exact ⟨W, H, F, W, H, ps, o, a, q, t, ks, pp + 1, rW, rH, by omega, g8, by omega, by omega, rfl⟩
def PDrawR (r : AV × List AObj) : Prop :=
  ∃ (qW qH : Int) (F : List Box) (kW kH : Int) (ps : List Pane) (o a q : Int) (t : Bool) (ks : List Plan) (least label : Int), R64 qW ∧ R64 qH ∧ F.length ≤ 3 ∧ ps.length ≤ 24 ∧
    r = (.tup [.agg [(.d (.int .i64 (4))), (.d (.int .i64 (qW))), (.d (.int .i64 (qH))), .own 0], .agg [(.d (.int .i64 (kW))), (.d (.int .i64 (kH))), .own 1], .agg [(.d (.int .i64 (o))), (.d (.int .i64 (a))), (.d (.int .i64 (q))), (.d (.bool (t))), .own 2], (.d (.int .i64 (least))), (.d (.int .i64 (label)))],
      [.row 4 (F.map Box.enc) true false, .row 4 (ps.map Pane.enc) true false, .row 5 (ks.map Plan.enc) true false])
theorem s_DrawRemnantsOf_ev (code : List UInt8) : ∃ r, vcall Xs Ms n_s_DrawRemnantsOf [.d (.sl (code.map encU))] [] = some r ∧ PDrawR r := by
  have hb : (code.take 2000).length ≤ 2000 := by simp; omega
  have en := s_newReader_ev code
  obtain ⟨r, e1, qW, qH, F, kW, kH, ps, o, a, q, t, ks, p', h1, h2, h3, h4, h5, h6, rfl⟩ := s_planPiece_ev (code.take 2000) hb 0 (by omega) 4
  obtain ⟨least, _, e2⟩ := s_one_ev (code.take 2000) p' [1, 2, 3, 5, 0, 201] hb (by omega) (by decide)
  obtain ⟨label, _, e3⟩ := s_one_ev (code.take 2000) (p' + 1) [10, 1, 9998, 0, 10000] hb (by omega) (by decide)
  simp only [List.map_cons, List.map_nil, encI] at e2 e3
  simp only [cast0] at e1
  generalize code.take 2000 = bs at *
  refine callW Xs Ms f_s_DrawRemnantsOf x_s_DrawRemnantsOf (by show 1 ≤ _; decide) ?_
  simp +contextual -implicitDefEqProofs (maxSteps := 10000000) only [go_sem, ite_self, Bool.false_eq_true, Nat.reduceAdd, Nat.reduceMul, Nat.reduceSub, Nat.reduceLT, Nat.reduceLeDiff, Nat.reduceEqDiff, Nat.reduceBEq, Nat.reduceBNe, Int.reduceAdd, Int.reduceLT, Int.reduceLE, Int.reduceEq, Int.reduceToNat, Int.reduceNeg, reduceCtorEq, ↓reduceIte, ↓gstepW_true, ↓gstepW_false, ↓gstepDW_true, ↓gstepDW_false, ↓gone_eq, ↓flat_eq, f_s_DrawRemnantsOf, en, e1, e2, e3]
  exact ⟨qW, qH, F, kW, kH, ps, o, a, q, t, ks, least, label, h1, h2, h3, h4, rfl⟩
def sumWH : List Piece → Int
  | [] => 0
  | x :: l => x.W * x.H + sumWH l
theorem sumWH_append (a b : List Piece) : sumWH (a ++ b) = sumWH a + sumWH b := by
  induction a with
  | nil => simp [sumWH]
  | cons c l ih => simp only [List.cons_append, sumWH, ih]; omega
theorem sumWH_take {L : List Piece} {i : Nat} {x : Piece} (hx : L[i]? = some x) : sumWH (L.take (i + 1)) = sumWH (L.take i) + x.W * x.H := by
  rw [List.take_add_one, hx, sumWH_append]; simp [sumWH]
theorem sumWH_cutN (q : Piece) : ∀ (n : Int) (l : List Box), sumWH (cutN q n l) = areaL l
  | n, [] => rfl
  | n, b :: l => by simp only [cutN, sumWH, areaL, sumWH_cutN q (n + 1) l, cutP]
theorem cutN_get (q : Piece) : ∀ (n : Int) (l : List Box) (i : Nat) (x : Piece), (cutN q n l)[i]? = some x → ∃ b, l[i]? = some b ∧ x = cutP q b (n + i)
  | n, [], i, x, h => by simp [cutN] at h
  | n, b :: l, 0, x, h => by
    simp only [cutN, List.getElem?_cons_zero, Option.some.injEq] at h
    exact ⟨b, rfl, by rw [← h]; simp⟩
  | n, b :: l, i + 1, x, h => by
    simp only [cutN, List.getElem?_cons_succ] at h
    obtain ⟨c, h1, h2⟩ := cutN_get q (n + 1) l i x h
    refine ⟨c, by simpa using h1, ?_⟩
    rw [h2]; congr 1; omega
theorem sumWH_nonneg : ∀ {l : List Piece}, (∀ x ∈ l, 1 ≤ x.W ∧ x.W ≤ 200 ∧ 1 ≤ x.H ∧ x.H ≤ 200) → 0 ≤ sumWH l ∧ sumWH l ≤ 40000 * l.length
  | [], _ => by simp [sumWH]
  | x :: l, h => by
    have h1 := h x (by simp)
    have h2 := sumWH_nonneg (l := l) fun y hy => h y (by simp [hy])
    have h3 : 0 ≤ x.W * x.H := Int.mul_nonneg (by omega) (by omega)
    have h4 : x.W * x.H ≤ 200 * 200 := Int.mul_le_mul (by omega) (by omega) (by omega) (by omega)
    simp only [sumWH, List.length_cons]
    omega
theorem remn_facts {q : Piece} {k : Work} {p : Plan} {least label : Int} (hne : remn q k p least label ≠ []) :
    vplan k p = true ∧ 1 ≤ least ∧ least ≤ 200 ∧ 1 ≤ label ∧ label ≤ 9999 ∧ (remn q k p least label).length ≤ 255 ∧ VPc q ∧
    (∀ (i : Nat) x, (remn q k p least label)[i]? = some x → least ≤ x.W ∧ least ≤ x.H ∧ x.Label = label + i ∧ VPc x) ∧
    sumWH (remn q k p least label) + areaL (lostL k p least) + areaL (((partsL k p).filterMap asPlace).map Place.Box) = q.W * q.H ∧
    (∀ b ∈ ((partsL k p).filterMap asPlace).map Place.Box, VB b) := by
  unfold remn at hne ⊢
  by_cases hc : (VPc q ∧ goodP q k p) ∧ 1 ≤ least ∧ least ≤ 200 ∧ 1 ≤ label ∧ label ≤ 9999 ∧ (keptL k p least).length ≤ 10000 - label
  · rw [if_pos hc] at hne ⊢
    obtain ⟨⟨hq, hg⟩, h1, h2, h3, h4, h5⟩ := hc
    have hv := hg.1
    obtain ⟨b, hb, hpb, hvw, hcnt, hfit, hpt⟩ := vplan_some hv
    refine ⟨hv, h1, h2, h3, h4, by rw [cutN_len]; exact keptL_len _ _ _, hq, fun i x hx => ?_, ?_, fun c hc => ?_⟩
    · obtain ⟨c, hc, rfl⟩ := cutN_get q label _ i x hx
      have hi : i < (keptL k p least).length := (List.getElem?_eq_some_iff.1 hc).1
      have hin := keptL_in (least := least) hv c (List.mem_of_getElem? hc)
      have hk : least ≤ c.W ∧ least ≤ c.H := by
        have := List.mem_of_getElem? hc
        unfold keptL at this
        obtain ⟨d, _, hd⟩ := List.mem_filterMap.1 this
        unfold keptB at hd
        split at hd
        · cases hd; assumption
        · cases hd
      refine ⟨hk.1, hk.2, rfl, cutP_valid hq hin.1 ?_ (by omega) (by omega)⟩
      rw [← hg.2.1, ← hg.2.2.1]; exact hin.2
    · rw [sumWH_cutN]
      unfold keptL lostL
      have := area_kept_lost least ((partsL k p).filterMap asWaste)
      have h6 := area_all (ps := k.Panes) (b := b) (x := 0) (y := 0) (w := k.W) (h := k.H)
      rw [hpt, pt_wastes] at *
      rw [pt_places, ← hg.2.1, ← hg.2.2.1]
      omega
    · obtain ⟨d, hd, rfl⟩ := List.mem_map.1 hc
      rw [hpt, pt_places] at hd
      exact vplan_places (p := p) hvw hfit d hd
  · rw [if_neg hc] at hne; exact absurd rfl hne
theorem remn_small (q : Piece) (k : Work) (p : Plan) (least label : Int) (hF : q.Flaws.length < 1000) : (remn q k p least label).length < 4611686018427387904 ∧ ∀ x ∈ remn q k p least label, x.Flaws.length < 4611686018427387904 := by
  unfold remn
  split
  · refine ⟨by rw [cutN_len]; have := keptL_len k p least; omega, fun x hx => ?_⟩
    obtain ⟨i, hi⟩ := List.getElem?_of_mem hx
    obtain ⟨b, _, rfl⟩ := cutN_get q label _ i x hi
    simp only [cutP]
    have := List.length_filterMap_le (cutFlaw b) q.Flaws
    omega
  · simp
theorem l_FnRemnantsOf_ev (code : List UInt8) : vcall Xs Ms n_l_FnRemnantsOf [.d (.sl (code.map encU))] [] = some ((.d (.bool (true))), []) := by
  by_cases hlen : (1048576 : Int) < code.length
  · refine callE Xs Ms f_l_FnRemnantsOf x_l_FnRemnantsOf (by show 1 ≤ _; decide) ?_
    simp +contextual -implicitDefEqProofs (maxSteps := 10000000) only [go_sem, ite_self, Bool.false_eq_true, Nat.reduceAdd, Nat.reduceMul, Nat.reduceSub, Nat.reduceLT, Nat.reduceLeDiff, Nat.reduceEqDiff, Nat.reduceBEq, Nat.reduceBNe, Int.reduceAdd, Int.reduceLT, Int.reduceLE, Int.reduceEq, Int.reduceToNat, Int.reduceNeg, reduceCtorEq, ↓reduceIte, ↓gstepW_true, ↓gstepW_false, ↓gstepDW_true, ↓gstepDW_false, ↓gone_eq, ↓flat_eq, f_l_FnRemnantsOf, hlen]
  · obtain ⟨r, ed, qW, qH, F, kW, kH, ps, o, a, n, t, ks, least, label, h1, h2, h3, h4, rfl⟩ := s_DrawRemnantsOf_ev code
    have ei := i_RemnantsOf_ev 4 qW qH F kW kH ps (.mk o a n t ks) least label
    have es := s_RemnantsOf_ev 4 qW qH F kW kH ps (.mk o a n t ks) least label (by omega) (by omega) h1 h2
    have hsm := remn_small ⟨4, qW, qH, F⟩ ⟨kW, kH, ps⟩ (.mk o a n t ks) least label (by simp only; omega)
    have hfa := @remn_facts ⟨4, qW, qH, F⟩ ⟨kW, kH, ps⟩ (.mk o a n t ks) least label
    have elost := i_LostArea_ev kW kH ps (.mk o a n t ks) least
    have epl := i_PlacesOf_ev kW kH ps (.mk o a n t ks)
    have hpl := partsL_len ⟨kW, kH, ps⟩ (.mk o a n t ks)
    have hfl : ((partsL ⟨kW, kH, ps⟩ (.mk o a n t ks)).filterMap asPlace).length ≤ 255 := Nat.le_trans (List.length_filterMap_le _ _) hpl
    generalize remn ⟨4, qW, qH, F⟩ ⟨kW, kH, ps⟩ (.mk o a n t ks) least label = R at ei es hsm hfa
    have eq := l_equalStock_ev R R hsm.1 hsm.2
    simp only [decide_true] at eq
    generalize (partsL ⟨kW, kH, ps⟩ (.mk o a n t ks)).filterMap asPlace = PL at epl hfl hfa
    generalize lostL ⟨kW, kH, ps⟩ (.mk o a n t ks) least = LL at elost hfa
    rw [Plan.enc_mk] at ei es epl elost
    by_cases hR : R = []
    · subst hR
      refine callE Xs Ms f_l_FnRemnantsOf x_l_FnRemnantsOf (by show 1 ≤ _; decide) ?_
      simp only [List.map_nil] at eq ei es
      simp +contextual -implicitDefEqProofs (maxSteps := 10000000) only [go_sem, ite_self, Bool.false_eq_true, Nat.reduceAdd, Nat.reduceMul, Nat.reduceSub, Nat.reduceLT, Nat.reduceLeDiff, Nat.reduceEqDiff, Nat.reduceBEq, Nat.reduceBNe, Int.reduceAdd, Int.reduceLT, Int.reduceLE, Int.reduceEq, Int.reduceToNat, Int.reduceNeg, reduceCtorEq, ↓reduceIte, ↓gstepW_true, ↓gstepW_false, ↓gstepDW_true, ↓gstepDW_false, ↓gone_eq, ↓flat_eq, f_l_FnRemnantsOf, hlen, ed, ei, es, eq]
    · obtain ⟨f1, f2, f3, f4, f5, f6, f7, f8, f9, f10⟩ := hfa hR
      have hel := elost f1 f2 f3
      have hRl : 0 < R.length := List.length_pos_iff.2 hR
      have hRn : ¬ (R.length : Int) = 0 := by omega
      have eb := l_boxesOf_ev PL (by omega)
      have ea := l_area_ev (PL.map Go.Abs.L.Place.Box) f10 (by simp; omega)
      have vq := f7
      simp only [VPc] at vq
      have hWH : qW * qH ≤ 200 * 200 := Int.mul_le_mul (by omega) (by omega) (by omega) (by omega)
      have hWH0 : 0 ≤ qW * qH := Int.mul_nonneg (by omega) (by omega)
      have hval : ∀ x ∈ R, 1 ≤ x.W ∧ x.W ≤ 200 ∧ 1 ≤ x.H ∧ x.H ≤ 200 := fun x hx => by
        obtain ⟨i, hi⟩ := List.getElem?_of_mem hx
        have := (f8 i x hi).2.2.2
        simp only [VPc] at this
        omega
      have hs0 := sumWH_nonneg hval
      have ha0 := (areaL_VB f10).1
      have ha1 := (areaL_VB f10).2
      have w1 := wi (qW * qH) (by omega) (by omega)
      simp only at f9
      have hs9 : sumWH R + areaL LL = qW * qH - areaL (PL.map Go.Abs.L.Place.Box) := by omega
      have hPl : (PL.map Go.Abs.L.Place.Box).length ≤ 255 := by simp; omega
      have w2 := wi (sumWH R + areaL LL) (by omega) (by omega)
      have w3 : IntKind.i64.wrap (sumWH R + areaL LL + areaL (PL.map Go.Abs.L.Place.Box)) = qW * qH := by rw [wi _ (by omega) (by omega)]; omega
      clear hfa elost hpl
      refine callE Xs Ms f_l_FnRemnantsOf x_l_FnRemnantsOf (by show 1 ≤ _; decide) ?_
      simp +contextual -implicitDefEqProofs (maxSteps := 10000000) only [go_sem, ite_self, Bool.false_eq_true, Nat.reduceAdd, Nat.reduceMul, Nat.reduceSub, Nat.reduceLT, Nat.reduceLeDiff, Nat.reduceEqDiff, Nat.reduceBEq, Nat.reduceBNe, Int.reduceAdd, Int.reduceLT, Int.reduceLE, Int.reduceEq, Int.reduceToNat, Int.reduceNeg, reduceCtorEq, ↓reduceIte, ↓gstepW_true, ↓gstepW_false, ↓gstepDW_true, ↓gstepDW_false, ↓gone_eq, ↓flat_eq, f_l_FnRemnantsOf, hlen, ed, ei, es, eq, hRn]
      refine LW_over Xs Ms (st0 := ?st0) (α := Nat) (fun i => [(10, .d (.int .i64 (i : Int))), (9, .d (.int .i64 (sumWH (R.take i))))]) (fun _ => []) (fun i => i ≤ R.length) (fun i => R.length - i) 0 ?hc (by omega) ?h0 ?step
      case hc => simp +contextual -implicitDefEqProofs (maxSteps := 10000000) only [go_sem, ite_self, Bool.false_eq_true, Nat.reduceAdd, Nat.reduceMul, Nat.reduceSub, Nat.reduceLT, Nat.reduceLeDiff, Nat.reduceEqDiff, Nat.reduceBEq, Nat.reduceBNe, Int.reduceAdd, Int.reduceLT, Int.reduceLE, Int.reduceEq, Int.reduceToNat, Int.reduceNeg, reduceCtorEq, ↓reduceIte, ↓gstepW_true, ↓gstepW_false, ↓gstepDW_true, ↓gstepDW_false, ↓gone_eq, ↓flat_eq] <;> exact rfl
      case h0 => rfl
      case step =>
        intro i hi ih
        by_cases hlt : i < R.length
        · obtain ⟨x, hx⟩ := get_lt hlt
          have hw := wrap_succ (k := i) (by omega)
          have hm := sumWH_take hx
          have hst := sumWH_nonneg (l := R.take i) (fun y hy => hval y (List.mem_of_mem_take hy))
          have hlk : (R.take i).length ≤ i := by simp; omega
          obtain ⟨g1, g2, g3, g4⟩ := f8 i x hx
          have g5 := hval x (List.mem_of_getElem? hx)
          have ev := i_ValidPiece_ev x.Label x.W x.H x.Flaws
          have hxx : x.W * x.H ≤ 200 * 200 := Int.mul_le_mul (by omega) (by omega) (by omega) (by omega)
          have hx0 : 0 ≤ x.W * x.H := Int.mul_nonneg (by omega) (by omega)
          obtain ⟨xL, xW, xH, xF⟩ := x
          simp only at g1 g2 g3 g5 hm ev hxx hx0
          have d1 : decide (VPc ⟨xL, xW, xH, xF⟩) = true := decide_eq_true g4
          rw [d1] at ev
          have u0 := wi (xW * xH) (by omega) (by omega)
          have u1 := wi (sumWH (R.take i) + xW * xH) (by omega) (by omega)
          have u2 : IntKind.i64.wrap (label + (i : Int)) = xL := by rw [wi _ (by omega) (by omega)]; omega
          have n1 : ¬ xW < least := by omega
          have n2 : ¬ xH < least := by omega
          simp +contextual -implicitDefEqProofs (maxSteps := 10000000) only [go_sem, ite_self, Bool.false_eq_true, Nat.reduceAdd, Nat.reduceMul, Nat.reduceSub, Nat.reduceLT, Nat.reduceLeDiff, Nat.reduceEqDiff, Nat.reduceBEq, Nat.reduceBNe, Int.reduceAdd, Int.reduceLT, Int.reduceLE, Int.reduceEq, Int.reduceToNat, Int.reduceNeg, reduceCtorEq, ↓reduceIte, ↓gstepW_true, ↓gstepW_false, ↓gstepDW_true, ↓gstepDW_false, ↓gone_eq, ↓flat_eq, hx, hlt, hw, u0, u1, u2, n1, n2, ev]
          refine ih (i + 1) _ (by omega) (by omega) ?_
          simp +contextual -implicitDefEqProofs (maxSteps := 10000000) only [go_sem, ite_self, Bool.false_eq_true, Nat.reduceAdd, Nat.reduceMul, Nat.reduceSub, Nat.reduceLT, Nat.reduceLeDiff, Nat.reduceEqDiff, Nat.reduceBEq, Nat.reduceBNe, Int.reduceAdd, Int.reduceLT, Int.reduceLE, Int.reduceEq, Int.reduceToNat, Int.reduceNeg, reduceCtorEq, ↓reduceIte, ↓gstepW_true, ↓gstepW_false, ↓gstepDW_true, ↓gstepDW_false, ↓gone_eq, ↓flat_eq, hm]
        · have : i = R.length := by omega
          subst this
          simp +contextual -implicitDefEqProofs (maxSteps := 10000000) only [go_sem, ite_self, Bool.false_eq_true, Nat.reduceAdd, Nat.reduceMul, Nat.reduceSub, Nat.reduceLT, Nat.reduceLeDiff, Nat.reduceEqDiff, Nat.reduceBEq, Nat.reduceBNe, Int.reduceAdd, Int.reduceLT, Int.reduceLE, Int.reduceEq, Int.reduceToNat, Int.reduceNeg, reduceCtorEq, ↓reduceIte, ↓gstepW_true, ↓gstepW_false, ↓gstepDW_true, ↓gstepDW_false, ↓gone_eq, ↓flat_eq, List.take_length, hel, epl, eb, ea, w1, w2, w3]
end Go.Proofs.Ytbodfpboklcgoaa
