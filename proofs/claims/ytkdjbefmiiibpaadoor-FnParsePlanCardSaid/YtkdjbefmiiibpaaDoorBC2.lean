/- Contracts of the functions, by the abstract semantics. -/
import Derived.Test.YtkdjbefmiiibpaaDoorBCode
import Derived.Test.YtkdjbefmiiibpaaDoorAbsParts
import Derived.Test.YtkdjbefmiiibpaaDoorBC1
namespace Go.Proofs.YtkdjbefmiiibpaaDoor
open Go Go.Abs Go.Abs.E Go.Abs.L
open Nat (reduceMul reduceSub reduceLeDiff reduceEqDiff)
open Int (reduceLE reduceEq reduceToNat reduceNeg)
set_option linter.unusedSimpArgs false
set_option linter.unusedVariables false
set_option maxRecDepth 20000
set_option maxHeartbeats 4000000



def growN : Nat → Nat
  | 0 => 5
  | n + 1 => 2 * growN n + 5
theorem fits_ext {ps ps' : List Pane} : ∀ {b : BT} {w h : Int}, fits ps b w h = true → fits (ps ++ ps') b w h = true
  | .waste, w, h, _ => rfl
  | .pane i t, w, h, hf => by
    simp only [fits, paneFits, Bool.and_eq_true, decide_eq_true_eq] at hf ⊢
    refine ⟨hf.1, ?_⟩
    have h2 := hf.2
    cases hq : ps[i.toNat]? with
    | none => rw [hq] at h2; cases h2
    | some q =>
      have hlt := (List.getElem?_eq_some_iff.1 hq).1
      rw [List.getElem?_append_left hlt, hq]
      rw [hq] at h2; exact h2
  | .cut d a l r, w, h, hf => by
    cases d <;> simp only [fits, Bool.and_eq_true, decide_eq_true_eq, if_true, Bool.false_eq_true, if_false] at hf ⊢ <;> exact ⟨⟨hf.1.1, fits_ext hf.1.2⟩, fits_ext hf.2⟩
/-- The reader, the work, its panes, the plan's kids. -/
def growOut (bs : List UInt8) (kW kH : Int) (p : Nat) (ps : List Pane) (ks : List Plan) : Bool → List AObj
  | true => [.box [.d (.sl (bs.map encU)), (.d (J p))], .box [(.d (J kW)), (.d (J kH)), .own 2], .row 4 (ps.map Pane.enc) true false, .row 5 (ks.map Plan.enc) true false]
  | false => [.box [.d (.sl (bs.map encU)), (.d (J p))], .box [(.d (J kW)), (.d (J kH)), .own 4], .row 0 [] true false, .row 5 (ks.map Plan.enc) true false, .row 4 (ps.map Pane.enc) true false]
def Grown (bs : List UInt8) (kW kH : Int) (n p : Nat) (w h : Int) (ps : List Pane) : Prop :=
  ∃ (b : BT) (p' : Nat) (ext : List Pane) (o a q : Int) (t : Bool) (ks : List Plan) (sh : Bool), b.plan = .mk o a q t ks ∧ p ≤ p' ∧ p' ≤ p + growN n ∧ (ps ++ ext).length ≤ 24 ∧ fits (ps ++ ext) b w h = true ∧ b.cnt ≤ growN n ∧
    vcall Xs Ms n_s_grow [.ptr 0 0, .ptr 1 0, (.d (J w)), (.d (J h)), (.d (J n))] [.box [.d (.sl (bs.map encU)), (.d (J p))], .box [(.d (J kW)), (.d (J kH)), .own 2], .row 4 (ps.map Pane.enc) true false] =
      some (.agg [(.d (J o)), (.d (J a)), (.d (J q)), (.d (.bool t)), .own 3], growOut bs kW kH p' (ps ++ ext) ks sh)
def GrowIH (bs : List UInt8) (kW kH : Int) (n : Nat) : Prop := ∀ (m : Nat), m < n → ∀ (p : Nat) (w h : Int) (ps : List Pane), m ≤ 4 → 1 ≤ w → w ≤ 1000 → 1 ≤ h → h ≤ 1000 → ps.length ≤ 24 → p + growN m < 1000000000 → Grown bs kW kH m p w h ps
theorem grow_down (bs : List UInt8) (hb : bs.length ≤ 2000) (kW kH : Int) (n : Nat) (IH : GrowIH bs kW kH n) (p : Nat) (w h : Int) (ps : List Pane) (hn4 : n ≤ 4) (hw0 : 1 ≤ w) (hw1 : w ≤ 1000) (hh0 : 1 ≤ h) (hh1 : h ≤ 1000) (hps : ps.length ≤ 24) (hp : p + growN n < 1000000000)
    (c : Int) (p0 : vcall Xs Ms n_s_reader_pick [.ptr 0 0, (.d (J 8))] [.box [.d (.sl (bs.map encU)), (.d (J p))]] = some ((.d (J c)), [.box [.d (.sl (bs.map encU)), (.d (J ((p + 1 : Nat))))]]))
    (hD1 : (0 < (n : Int) ∧ 1 < w) ∧ (c < 3 ∨ (c < 4 ∧ h = 1))) : Grown bs kW kH n p w h ps := by
  obtain ⟨m, rfl⟩ : ∃ m, n = m + 1 := ⟨n - 1, by omega⟩
  simp only [growN] at hp
  have w0 := wi (w - 1) (by omega) (by omega)
  have p1 := s_pick_ev bs (p + 1) (w - 1) hb (by omega)
  have q2 := s_pick_nonneg bs (p + 1) (w - 1)
  have q3 := s_pick_lt bs (p + 1) (w - 1) (by omega)
  generalize s_pick bs (p + 1) (w - 1) = a0 at p1 q2 q3
  have w2 := wi (1 + a0) (by omega) (by omega)
  have w3 := wi (w - (1 + a0)) (by omega) (by omega)
  have w4 : IntKind.i64.wrap (((m + 1 : Nat) : Int) - 1) = (m : Int) := by rw [wrap64 (by omega) (by omega)]; omega
  obtain ⟨b1, p2, e1, o1, a1, r1, t1, k1, s1, g1, g2, g3, g4, g5, g6, g7⟩ := IH m (by omega) (p + 2) (1 + a0) h ps (by omega) (by omega) (by omega) hh0 hh1 hps (by omega)
  obtain ⟨b2, p3, e2, o2, a2, r2, t2, k2, s2, f1, f2, f3, f4, f5, f6, f7⟩ := IH m (by omega) p2 (w - (1 + a0)) h (ps ++ e1) (by omega) (by omega) (by omega) hh0 hh1 g4 (by omega)
  refine ⟨.cut true (1 + a0) b1 b2, p3, e1 ++ e2, 2, 1 + a0, 0, false, [.mk o1 a1 r1 t1 k1, .mk o2 a2 r2 t2 k2], s1 && s2, ?_, by omega, by simp only [growN]; omega, by rw [← List.append_assoc]; exact f4, ?_, by simp only [BT.cnt, growN]; omega, ?_⟩
  · simp [BT.plan, opOf, g1, f1]
  · simp only [fits, if_true, Bool.false_eq_true, if_false, Bool.and_eq_true, decide_eq_true_eq, ← List.append_assoc]
    exact ⟨⟨⟨by omega, by omega⟩, fits_ext g5⟩, f5⟩
  · simp only [← List.append_assoc]
    cases s1 <;> cases s2 <;> simp only [growOut, Bool.and_true, Bool.and_false, Bool.true_and, Bool.false_and] at g7 f7 ⊢
    all_goals
      refine callE Xs Ms f_s_grow x_s_grow (by show 5 ≤ _; decide) ?_
      simp +contextual -implicitDefEqProofs (maxSteps := 10^7) only [go_sem, seval, ↓gZ, f_s_grow, ← Bool.decide_and, ← Bool.decide_or, p0, hD1, w0, p1, w2, w3, w4, g7, f7]

theorem grow_across (bs : List UInt8) (hb : bs.length ≤ 2000) (kW kH : Int) (n : Nat) (IH : GrowIH bs kW kH n) (p : Nat) (w h : Int) (ps : List Pane) (hn4 : n ≤ 4) (hw0 : 1 ≤ w) (hw1 : w ≤ 1000) (hh0 : 1 ≤ h) (hh1 : h ≤ 1000) (hps : ps.length ≤ 24) (hp : p + growN n < 1000000000)
    (c : Int) (p0 : vcall Xs Ms n_s_reader_pick [.ptr 0 0, (.d (J 8))] [.box [.d (.sl (bs.map encU)), (.d (J p))]] = some ((.d (J c)), [.box [.d (.sl (bs.map encU)), (.d (J ((p + 1 : Nat))))]]))
    (hD1 : ¬ ((0 < (n : Int) ∧ 1 < w) ∧ (c < 3 ∨ (c < 4 ∧ h = 1)))) (hD2 : (0 < (n : Int) ∧ 1 < h) ∧ c < 6) : Grown bs kW kH n p w h ps := by
  obtain ⟨m, rfl⟩ : ∃ m, n = m + 1 := ⟨n - 1, by omega⟩
  simp only [growN] at hp
  have w0 := wi (h - 1) (by omega) (by omega)
  have p1 := s_pick_ev bs (p + 1) (h - 1) hb (by omega)
  have q2 := s_pick_nonneg bs (p + 1) (h - 1)
  have q3 := s_pick_lt bs (p + 1) (h - 1) (by omega)
  generalize s_pick bs (p + 1) (h - 1) = a0 at p1 q2 q3
  have w2 := wi (1 + a0) (by omega) (by omega)
  have w3 := wi (h - (1 + a0)) (by omega) (by omega)
  have w4 : IntKind.i64.wrap (((m + 1 : Nat) : Int) - 1) = (m : Int) := by rw [wrap64 (by omega) (by omega)]; omega
  have hD1' : ¬ (1 < w ∧ (c < 3 ∨ (c < 4 ∧ h = 1))) := fun h => hD1 ⟨⟨hD2.1.1, h.1⟩, h.2⟩
  obtain ⟨b1, p2, e1, o1, a1, r1, t1, k1, s1, g1, g2, g3, g4, g5, g6, g7⟩ := IH m (by omega) (p + 2) w (1 + a0) ps (by omega) hw0 hw1 (by omega) (by omega) hps (by omega)
  obtain ⟨b2, p3, e2, o2, a2, r2, t2, k2, s2, f1, f2, f3, f4, f5, f6, f7⟩ := IH m (by omega) p2 w (h - (1 + a0)) (ps ++ e1) (by omega) hw0 hw1 (by omega) (by omega) g4 (by omega)
  refine ⟨.cut false (1 + a0) b1 b2, p3, e1 ++ e2, 3, 1 + a0, 0, false, [.mk o1 a1 r1 t1 k1, .mk o2 a2 r2 t2 k2], s1 && s2, ?_, by omega, by simp only [growN]; omega, by rw [← List.append_assoc]; exact f4, ?_, by simp only [BT.cnt, growN]; omega, ?_⟩
  · simp [BT.plan, opOf, g1, f1]
  · simp only [fits, if_true, Bool.false_eq_true, if_false, Bool.and_eq_true, decide_eq_true_eq, ← List.append_assoc]
    exact ⟨⟨⟨by omega, by omega⟩, fits_ext g5⟩, f5⟩
  · simp only [← List.append_assoc]
    cases s1 <;> cases s2 <;> simp only [growOut, Bool.and_true, Bool.and_false, Bool.true_and, Bool.false_and] at g7 f7 ⊢
    all_goals
      refine callE Xs Ms f_s_grow x_s_grow (by show 5 ≤ _; decide) ?_
      simp +contextual -implicitDefEqProofs (maxSteps := 10^7) only [go_sem, seval, ↓gZ, f_s_grow, ← Bool.decide_and, ← Bool.decide_or, p0, hD1', hD2, w0, p1, w2, w3, w4, g7, f7]

theorem grow_waste (bs : List UInt8) (hb : bs.length ≤ 2000) (kW kH : Int) (n : Nat) (p : Nat) (w h : Int) (ps : List Pane) (hps : ps.length ≤ 24) (hp : p + growN n < 1000000000)
    (c : Int) (p0 : vcall Xs Ms n_s_reader_pick [.ptr 0 0, (.d (J 8))] [.box [.d (.sl (bs.map encU)), (.d (J p))]] = some ((.d (J c)), [.box [.d (.sl (bs.map encU)), (.d (J ((p + 1 : Nat))))]]))
    (hD1 : ¬ ((0 < (n : Int) ∧ 1 < w) ∧ (c < 3 ∨ (c < 4 ∧ h = 1)))) (hD2 : ¬ ((0 < (n : Int) ∧ 1 < h) ∧ c < 6)) (h7 : c = 7) : Grown bs kW kH n p w h ps := by
  have gn5 : 5 ≤ growN n := by cases n <;> simp [growN]
  subst h7
  refine ⟨.waste, p + 1, [], 0, 0, 0, false, [], true, rfl, by omega, by omega, by simpa using hps, rfl, by simp [BT.cnt]; omega, ?_⟩
  simp only [List.append_nil, growOut]
  simp only [Int.reduceLT, false_or, false_and, or_false, and_false, not_false_eq_true] at hD1 hD2
  refine callE Xs Ms f_s_grow x_s_grow (by show 5 ≤ _; decide) ?_
  simp +contextual -implicitDefEqProofs (maxSteps := 10^7) only [go_sem, seval, ↓gZ, f_s_grow, ← Bool.decide_and, ← Bool.decide_or, p0]
theorem grow_pane (bs : List UInt8) (hb : bs.length ≤ 2000) (kW kH : Int) (n : Nat) (p : Nat) (w h : Int) (ps : List Pane) (hw0 : 1 ≤ w) (hw1 : w ≤ 1000) (hh0 : 1 ≤ h) (hh1 : h ≤ 1000) (hps : ps.length ≤ 24) (hp : p + growN n < 1000000000)
    (c : Int) (p0 : vcall Xs Ms n_s_reader_pick [.ptr 0 0, (.d (J 8))] [.box [.d (.sl (bs.map encU)), (.d (J p))]] = some ((.d (J c)), [.box [.d (.sl (bs.map encU)), (.d (J ((p + 1 : Nat))))]]))
    (hD1 : ¬ ((0 < (n : Int) ∧ 1 < w) ∧ (c < 3 ∨ (c < 4 ∧ h = 1)))) (hD2 : ¬ ((0 < (n : Int) ∧ 1 < h) ∧ c < 6)) (h7 : ¬ c = 7)
    (k0 : Nat) (hk0 : k0 < ps.length) (t0 : Bool) (hf0 : paneFits ps k0 t0 w h = true) (ht0 : t0 = true → paneFits ps k0 false w h = false) (hmin : ∀ k, k < k0 → ∀ t, paneFits ps k t w h = false) : Grown bs kW kH n p w h ps := by
  have gn5 : 5 ≤ growN n := by cases n <;> simp [growN]
  refine ⟨.pane k0 t0, p + 1, [], 1, 0, k0, t0, [], true, rfl, by omega, by omega, by simpa using hps, by simpa [fits] using hf0, by simp [BT.cnt]; omega, ?_⟩
  simp only [List.append_nil, growOut]
  refine callE Xs Ms f_s_grow x_s_grow (by show 5 ≤ _; decide) ?_
  simp +contextual -implicitDefEqProofs (maxSteps := 10^7) only [go_sem, seval, ↓gZ, f_s_grow, ← Bool.decide_and, ← Bool.decide_or, p0, hD1, hD2, h7]
  refine LW_over Xs Ms (st0 := ?st0) (α := Nat) (fun k => [(16, .d (J (k : Int)))]) (fun _ => []) (fun k => k ≤ k0) (fun k => ps.length - k) 0 ?hc (by omega) ?h0 ?step
  case hc => simp +contextual -implicitDefEqProofs (maxSteps := 10^7) only [go_sem, seval, ↓gZ] <;> exact rfl
  case h0 => rfl
  case step =>
    intro k hk ih
    have hlt : k < ps.length := by omega
    have hw := wrap_succ (k := k) (by omega)
    have ef := s_fitsPlan_pane kW kH ps k false w h (by omega)
    have et := s_fitsPlan_pane kW kH ps k true w h (by omega)
    simp only [BT.plan, Plan.enc_mk, List.map_nil] at ef et
    by_cases hk' : k = k0
    · subst hk'
      cases t0 with
      | false =>
        rw [hf0] at ef
        simp +contextual -implicitDefEqProofs (maxSteps := 10^7) only [go_sem, seval, ↓gZ, hlt, hw]
        refine LW_round Xs Ms ?_
        simp +contextual -implicitDefEqProofs (maxSteps := 10^7) only [go_sem, seval, ↓gZ, ef]
      | true =>
        rw [ht0 rfl] at ef
        rw [hf0] at et
        simp +contextual -implicitDefEqProofs (maxSteps := 10^7) only [go_sem, seval, ↓gZ, hlt, hw]
        refine LW_round Xs Ms ?_
        simp +contextual -implicitDefEqProofs (maxSteps := 10^7) only [go_sem, seval, ↓gZ, ef]
        refine LW_round Xs Ms ?_
        simp +contextual -implicitDefEqProofs (maxSteps := 10^7) only [go_sem, seval, ↓gZ, et]
    · rw [hmin k (by omega) false] at ef
      rw [hmin k (by omega) true] at et
      simp +contextual -implicitDefEqProofs (maxSteps := 10^7) only [go_sem, seval, ↓gZ, hlt, hw]
      refine LW_round Xs Ms ?_
      simp +contextual -implicitDefEqProofs (maxSteps := 10^7) only [go_sem, seval, ↓gZ, ef]
      refine LW_round Xs Ms ?_
      simp +contextual -implicitDefEqProofs (maxSteps := 10^7) only [go_sem, seval, ↓gZ, et]
      refine LW_round Xs Ms ?_
      simp +contextual -implicitDefEqProofs (maxSteps := 10^7) only [go_sem, seval, ↓gZ, hw]
      refine ih (k + 1) _ (by omega) (by omega) ?_
      simp +contextual -implicitDefEqProofs (maxSteps := 10^7) only [go_sem, seval, ↓gZ]

theorem grow_full (bs : List UInt8) (hb : bs.length ≤ 2000) (kW kH : Int) (n : Nat) (p : Nat) (w h : Int) (ps : List Pane) (hw0 : 1 ≤ w) (hw1 : w ≤ 1000) (hh0 : 1 ≤ h) (hh1 : h ≤ 1000) (hps : ps.length = 24) (hp : p + growN n < 1000000000)
    (c : Int) (p0 : vcall Xs Ms n_s_reader_pick [.ptr 0 0, (.d (J 8))] [.box [.d (.sl (bs.map encU)), (.d (J p))]] = some ((.d (J c)), [.box [.d (.sl (bs.map encU)), (.d (J ((p + 1 : Nat))))]]))
    (hD1 : ¬ ((0 < (n : Int) ∧ 1 < w) ∧ (c < 3 ∨ (c < 4 ∧ h = 1)))) (hD2 : ¬ ((0 < (n : Int) ∧ 1 < h) ∧ c < 6)) (h7 : ¬ c = 7)
    (hmin : ∀ k, k < ps.length → ∀ t, paneFits ps k t w h = false) : Grown bs kW kH n p w h ps := by
  have gn5 : 5 ≤ growN n := by cases n <;> simp [growN]
  refine ⟨.waste, p + 1, [], 0, 0, 0, false, [], true, rfl, by omega, by omega, by simpa using (by omega : ps.length ≤ 24), rfl, by simp [BT.cnt]; omega, ?_⟩
  simp only [List.append_nil, growOut]
  have h24 : ((ps.length : Nat) : Int) = 24 := by omega
  refine callE Xs Ms f_s_grow x_s_grow (by show 5 ≤ _; decide) ?_
  simp +contextual -implicitDefEqProofs (maxSteps := 10^7) only [go_sem, seval, ↓gZ, f_s_grow, ← Bool.decide_and, ← Bool.decide_or, p0, hD1, hD2, h7]
  refine LW_over Xs Ms (st0 := ?st0) (α := Nat) (fun k => [(16, .d (J (k : Int)))]) (fun _ => []) (fun k => k ≤ ps.length) (fun k => ps.length - k) 0 ?hc (by omega) ?h0 ?step
  case hc => simp +contextual -implicitDefEqProofs (maxSteps := 10^7) only [go_sem, seval, ↓gZ] <;> exact rfl
  case h0 => rfl
  case step =>
    intro k hk ih
    by_cases hlt : k < ps.length
    · have hw := wrap_succ (k := k) (by omega)
      have ef := s_fitsPlan_pane kW kH ps k false w h (by omega)
      have et := s_fitsPlan_pane kW kH ps k true w h (by omega)
      simp only [BT.plan, Plan.enc_mk, List.map_nil] at ef et
      rw [hmin k hlt false] at ef
      rw [hmin k hlt true] at et
      simp +contextual -implicitDefEqProofs (maxSteps := 10^7) only [go_sem, seval, ↓gZ, hlt, hw]
      refine LW_round Xs Ms ?_
      simp +contextual -implicitDefEqProofs (maxSteps := 10^7) only [go_sem, seval, ↓gZ, ef]
      refine LW_round Xs Ms ?_
      simp +contextual -implicitDefEqProofs (maxSteps := 10^7) only [go_sem, seval, ↓gZ, et]
      refine LW_round Xs Ms ?_
      simp +contextual -implicitDefEqProofs (maxSteps := 10^7) only [go_sem, seval, ↓gZ, hw]
      refine ih (k + 1) _ (by omega) (by omega) ?_
      simp +contextual -implicitDefEqProofs (maxSteps := 10^7) only [go_sem, seval, ↓gZ]
    · have : k = ps.length := by omega
      subst this
      simp +contextual -implicitDefEqProofs (maxSteps := 10^7) only [go_sem, seval, ↓gZ, h24]
theorem grow_new (bs : List UInt8) (hb : bs.length ≤ 2000) (kW kH : Int) (n : Nat) (p : Nat) (w h : Int) (ps : List Pane) (hw0 : 1 ≤ w) (hw1 : w ≤ 1000) (hh0 : 1 ≤ h) (hh1 : h ≤ 1000) (hps : ps.length < 24) (hp : p + growN n < 1000000000)
    (c : Int) (p0 : vcall Xs Ms n_s_reader_pick [.ptr 0 0, (.d (J 8))] [.box [.d (.sl (bs.map encU)), (.d (J p))]] = some ((.d (J c)), [.box [.d (.sl (bs.map encU)), (.d (J ((p + 1 : Nat))))]]))
    (hD1 : ¬ ((0 < (n : Int) ∧ 1 < w) ∧ (c < 3 ∨ (c < 4 ∧ h = 1)))) (hD2 : ¬ ((0 < (n : Int) ∧ 1 < h) ∧ c < 6)) (h7 : ¬ c = 7)
    (hmin : ∀ k, k < ps.length → ∀ t, paneFits ps k t w h = false) : Grown bs kW kH n p w h ps := by
  have gn5 : 5 ≤ growN n := by cases n <;> simp [growN]
  have h24 : ¬ ((ps.length : Nat) : Int) = 24 := by omega
  have p1 := s_pick_ev bs (p + 1) 3 hb (by omega)
  generalize s_pick bs (p + 1) 3 = v1 at p1
  have w5 : IntKind.i64.wrap (((ps.length + 1 : Nat) : Int) - 1) = ((ps.length : Nat) : Int) := by rw [wrap64 (by omega) (by omega)]; omega
  have hr : (ps.length + 1) * 32 ≤ 140737488355328 ∧ ps.length ≤ 140737488355327 := by omega
  by_cases htr : v1 = 0 ∧ ¬ w = h
  · have p2 := s_pick_ev bs (p + 2) 2 hb (by omega)
    generalize s_pick bs (p + 2) 2 = v3 at p2
    refine ⟨.pane ps.length true, p + 3, [⟨h, w, true, v3⟩], 1, 0, ps.length, true, [], false, rfl, by omega, by omega, by simp <;> omega, ?_, by simp only [BT.cnt] <;> omega, ?_⟩
    · have : ¬ h = w := fun e => htr.2 e.symm
      simp [fits, paneFits, this]
    simp only [growOut]
    refine callE Xs Ms f_s_grow x_s_grow (by show 5 ≤ _; decide) ?_
    simp +contextual -implicitDefEqProofs (maxSteps := 10^7) only [go_sem, seval, ↓gZ, f_s_grow, ← Bool.decide_and, ← Bool.decide_or, p0, hD1, hD2, h7]
    refine LW_over Xs Ms (st0 := ?st0) (α := Nat) (fun k => [(16, .d (J (k : Int)))]) (fun _ => []) (fun k => k ≤ ps.length) (fun k => ps.length - k) 0 ?hc (by omega) ?h0 ?step
    case hc => simp +contextual -implicitDefEqProofs (maxSteps := 10^7) only [go_sem, seval, ↓gZ] <;> exact rfl
    case h0 => rfl
    case step =>
      intro k hk ih
      by_cases hlt : k < ps.length
      · have hw := wrap_succ (k := k) (by omega)
        have ef := s_fitsPlan_pane kW kH ps k false w h (by omega)
        have et := s_fitsPlan_pane kW kH ps k true w h (by omega)
        simp only [BT.plan, Plan.enc_mk, List.map_nil] at ef et
        rw [hmin k hlt false] at ef
        rw [hmin k hlt true] at et
        simp +contextual -implicitDefEqProofs (maxSteps := 10^7) only [go_sem, seval, ↓gZ, hlt, hw]
        refine LW_round Xs Ms ?_
        simp +contextual -implicitDefEqProofs (maxSteps := 10^7) only [go_sem, seval, ↓gZ, ef]
        refine LW_round Xs Ms ?_
        simp +contextual -implicitDefEqProofs (maxSteps := 10^7) only [go_sem, seval, ↓gZ, et]
        refine LW_round Xs Ms ?_
        simp +contextual -implicitDefEqProofs (maxSteps := 10^7) only [go_sem, seval, ↓gZ, hw]
        refine ih (k + 1) _ (by omega) (by omega) ?_
        simp +contextual -implicitDefEqProofs (maxSteps := 10^7) only [go_sem, seval, ↓gZ]
      · have : k = ps.length := by omega
        subst this
        simp +contextual -implicitDefEqProofs (maxSteps := 10^7) only [go_sem, seval, ↓gZ, h24, p1, p2, htr, w5, hr]
        first | rfl | (simp [Pane.enc] <;> omega)
  · have p2 := s_pick_ev bs (p + 2) 2 hb (by omega)
    generalize s_pick bs (p + 2) 2 = v2 at p2
    have p3 := s_pick_ev bs (p + 3) 2 hb (by omega)
    generalize s_pick bs (p + 3) 2 = v3 at p3
    refine ⟨.pane ps.length false, p + 4, [⟨w, h, decide (v2 = 0), v3⟩], 1, 0, ps.length, false, [], false, rfl, by omega, by omega, by simp <;> omega, ?_, by simp only [BT.cnt] <;> omega, ?_⟩
    · simp [fits, paneFits]
    simp only [growOut]
    refine callE Xs Ms f_s_grow x_s_grow (by show 5 ≤ _; decide) ?_
    simp +contextual -implicitDefEqProofs (maxSteps := 10^7) only [go_sem, seval, ↓gZ, f_s_grow, ← Bool.decide_and, ← Bool.decide_or, p0, hD1, hD2, h7]
    refine LW_over Xs Ms (st0 := ?st0) (α := Nat) (fun k => [(16, .d (J (k : Int)))]) (fun _ => []) (fun k => k ≤ ps.length) (fun k => ps.length - k) 0 ?hc (by omega) ?h0 ?step
    case hc => simp +contextual -implicitDefEqProofs (maxSteps := 10^7) only [go_sem, seval, ↓gZ] <;> exact rfl
    case h0 => rfl
    case step =>
      intro k hk ih
      by_cases hlt : k < ps.length
      · have hw := wrap_succ (k := k) (by omega)
        have ef := s_fitsPlan_pane kW kH ps k false w h (by omega)
        have et := s_fitsPlan_pane kW kH ps k true w h (by omega)
        simp only [BT.plan, Plan.enc_mk, List.map_nil] at ef et
        rw [hmin k hlt false] at ef
        rw [hmin k hlt true] at et
        simp +contextual -implicitDefEqProofs (maxSteps := 10^7) only [go_sem, seval, ↓gZ, hlt, hw]
        refine LW_round Xs Ms ?_
        simp +contextual -implicitDefEqProofs (maxSteps := 10^7) only [go_sem, seval, ↓gZ, ef]
        refine LW_round Xs Ms ?_
        simp +contextual -implicitDefEqProofs (maxSteps := 10^7) only [go_sem, seval, ↓gZ, et]
        refine LW_round Xs Ms ?_
        simp +contextual -implicitDefEqProofs (maxSteps := 10^7) only [go_sem, seval, ↓gZ, hw]
        refine ih (k + 1) _ (by omega) (by omega) ?_
        simp +contextual -implicitDefEqProofs (maxSteps := 10^7) only [go_sem, seval, ↓gZ]
      · have : k = ps.length := by omega
        subst this
        by_cases hv : v1 = 0
        · have hwh : w = h := by
            by_cases e : w = h
            · exact e
            · exact absurd ⟨hv, e⟩ htr
          subst hwh
          simp +contextual -implicitDefEqProofs (maxSteps := 10^7) only [go_sem, seval, ↓gZ, h24, p1, p2, p3, hv, w5, hr]
          first | rfl | (simp [Pane.enc] <;> omega)
        · simp +contextual -implicitDefEqProofs (maxSteps := 10^7) only [go_sem, seval, ↓gZ, h24, p1, p2, p3, hv, w5, hr]
          first | rfl | (simp [Pane.enc] <;> omega)

theorem s_grow_ev (bs : List UInt8) (hb : bs.length ≤ 2000) (kW kH : Int) : ∀ (n p : Nat) (w h : Int) (ps : List Pane), n ≤ 4 → 1 ≤ w → w ≤ 1000 → 1 ≤ h → h ≤ 1000 → ps.length ≤ 24 → p + growN n < 1000000000 → Grown bs kW kH n p w h ps := by
  intro n
  induction n using Nat.strongRecOn with
  | _ n IH =>
  intro p w h ps hn4 hw0 hw1 hh0 hh1 hps hp
  have gn5 : 5 ≤ growN n := by cases n <;> simp [growN]
  have p0 := s_pick_ev bs p 8 hb (by omega)
  generalize s_pick bs p 8 = c at p0
  by_cases hD1 : (0 < (n : Int) ∧ 1 < w) ∧ (c < 3 ∨ (c < 4 ∧ h = 1))
  · exact grow_down bs hb kW kH n IH p w h ps hn4 hw0 hw1 hh0 hh1 hps hp c p0 hD1
  · by_cases hD2 : (0 < (n : Int) ∧ 1 < h) ∧ c < 6
    · exact grow_across bs hb kW kH n IH p w h ps hn4 hw0 hw1 hh0 hh1 hps hp c p0 hD1 hD2
    · by_cases h7 : c = 7
      · exact grow_waste bs hb kW kH n p w h ps hps hp c p0 hD1 hD2 h7
      · by_cases hx : ∃ k, k < ps.length ∧ ∃ t, paneFits ps k t w h = true
        · have hx' : ∃ k0, (k0 < ps.length ∧ ∃ t, paneFits ps k0 t w h = true) ∧ ∀ k, k < k0 → ¬ (k < ps.length ∧ ∃ t, paneFits ps k t w h = true) := by
            obtain ⟨k, hk⟩ := hx
            induction k using Nat.strongRecOn with
            | _ k ihk =>
              by_cases hm : ∃ j, j < k ∧ (j < ps.length ∧ ∃ t, paneFits ps j t w h = true)
              · obtain ⟨j, hj, hj'⟩ := hm
                exact ihk j hj hj'
              · exact ⟨k, hk, fun j hj hj' => hm ⟨j, hj, hj'⟩⟩
          obtain ⟨k0, ⟨hk0, t, ht⟩, hmin⟩ := hx'
          have hmin' : ∀ k, k < k0 → ∀ t, paneFits ps k t w h = false := fun k hk t => by
            cases hf : paneFits ps k t w h with
            | false => rfl
            | true => exact absurd ⟨by omega, t, hf⟩ (hmin k hk)
          cases hf : paneFits ps k0 false w h with
          | true => exact grow_pane bs hb kW kH n p w h ps hw0 hw1 hh0 hh1 hps hp c p0 hD1 hD2 h7 k0 hk0 false hf (fun e => by cases e) hmin'
          | false =>
            cases t with
            | false => rw [hf] at ht; cases ht
            | true => exact grow_pane bs hb kW kH n p w h ps hw0 hw1 hh0 hh1 hps hp c p0 hD1 hD2 h7 k0 hk0 true ht (fun _ => hf) hmin'
        · have hmin' : ∀ k, k < ps.length → ∀ t, paneFits ps k t w h = false := fun k hk t => by
            cases hf : paneFits ps k t w h with
            | false => rfl
            | true => exact absurd ⟨k, hk, t, hf⟩ hx
          by_cases h24 : ps.length = 24
          · exact grow_full bs hb kW kH n p w h ps hw0 hw1 hh0 hh1 h24 hp c p0 hD1 hD2 h7 hmin'
          · exact grow_new bs hb kW kH n p w h ps hw0 hw1 hh0 hh1 (by omega) hp c p0 hD1 hD2 h7 hmin'
theorem s_workPlan_ev (bs : List UInt8) (hb : bs.length ≤ 2000) (p : Nat) (hp : p < 900000000) : ∃ (W H : Int) (b : BT) (p' : Nat) (ps : List Pane) (o a q : Int) (t : Bool) (ks : List Plan), b.plan = .mk o a q t ks ∧ p ≤ p' ∧ p' ≤ p + 200 ∧ 1 ≤ W ∧ W ≤ 30 ∧ 1 ≤ H ∧ H ≤ 20 ∧ ps.length ≤ 24 ∧ fits ps b W H = true ∧ b.cnt ≤ 155 ∧
    vcall Xs Ms n_s_workPlan [.ptr 0 0] [.box [.d (.sl (bs.map encU)), (.d (J p))]] = some (.tup [.agg [(.d (J W)), (.d (J H)), .own 1], .agg [(.d (J o)), (.d (J a)), (.d (J q)), (.d (.bool t)), .own 2]], [.box [.d (.sl (bs.map encU)), (.d (J (p')))], .row 4 (ps.map Pane.enc) true false, .row 5 (ks.map Plan.enc) true false]) := by
  obtain ⟨W, hW, eW⟩ := s_one_ev bs p [12, 20, 8, 30, 1, 5] hb (by omega) (by decide)
  obtain ⟨H, hH, eH⟩ := s_one_ev bs (p + 1) [10, 16, 6, 20, 1, 9] hb (by omega) (by decide)
  obtain ⟨dp, hd, eD⟩ := s_one_ev bs (p + 2) [3, 2, 4, 1, 0] hb (by omega) (by decide)
  have hW' : 1 ≤ W ∧ W ≤ 30 := by simp only [List.mem_cons, List.not_mem_nil, or_false] at hW; omega
  have hH' : 1 ≤ H ∧ H ≤ 20 := by simp only [List.mem_cons, List.not_mem_nil, or_false] at hH; omega
  obtain ⟨n, rfl, hn⟩ : ∃ n : Nat, dp = (n : Int) ∧ n ≤ 4 := by
    simp only [List.mem_cons, List.not_mem_nil, or_false] at hd
    exact ⟨dp.toNat, by omega, by omega⟩
  have hg : growN n ≤ 155 := by
    have growN_4 : growN 0 = 5 ∧ growN 1 = 15 ∧ growN 2 = 35 ∧ growN 3 = 75 ∧ growN 4 = 155 := ⟨rfl, rfl, rfl, rfl, rfl⟩
    rcases (by omega : n = 0 ∨ n = 1 ∨ n = 2 ∨ n = 3 ∨ n = 4) with rfl | rfl | rfl | rfl | rfl <;> omega
  obtain ⟨b, p', ps, o, a, q, t, ks, sh, g1, g2, g3, g4, g5, g6, g7⟩ := s_grow_ev bs hb W H n (p + 3) W H [] hn hW'.1 (by omega) hH'.1 (by omega) (by simp) (by omega)
  simp only [List.nil_append] at g4 g5 g7
  refine ⟨W, H, b, p', ps, o, a, q, t, ks, g1, by omega, by omega, hW'.1, hW'.2, hH'.1, hH'.2, g4, g5, by omega, ?_⟩
  simp only [List.map_cons, List.map_nil, encI] at eW eH eD g7
  cases sh <;> simp only [growOut] at g7
  all_goals
    refine callE Xs Ms f_s_workPlan x_s_workPlan (by show 1 ≤ _; decide) ?_
    simp +contextual -implicitDefEqProofs (maxSteps := 10^7) only [go_sem, seval, ↓gZ, f_s_workPlan, eW, eH, eD, g7]
end Go.Proofs.YtkdjbefmiiibpaaDoor
