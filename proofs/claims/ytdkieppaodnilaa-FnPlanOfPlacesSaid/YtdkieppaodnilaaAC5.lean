/- Contracts of the functions, by the abstract semantics. -/
import Derived.Test.YtdkieppaodnilaaACode
import Derived.Test.YtdkieppaodnilaaAbsParts
import Derived.Test.YtdkieppaodnilaaAC4
namespace Go.Proofs.Ytdkieppaodnilaa
open Go Go.Abs Go.Abs.E Go.Abs.L
open Nat (reduceMul reduceSub reduceLeDiff reduceEqDiff)
open Int (reduceLE reduceEq reduceToNat reduceNeg)
set_option linter.unusedSimpArgs false
set_option linter.unusedVariables false
set_option maxRecDepth 20000
set_option maxHeartbeats 4000000
def hasB : BT → Bool
  | .waste => false
  | .pane _ _ => true
  | .cut _ _ l r => hasB l || hasB r
def cutsB : BT → Nat
  | .waste => 0
  | .pane _ _ => 0
  | .cut _ _ l r => 1 + cutsB l + cutsB r
theorem cnt_cuts : ∀ (b : BT), b.cnt = 2 * cutsB b + 1
  | .waste => rfl
  | .pane _ _ => rfl
  | .cut _ _ l r => by simp only [BT.cnt, cutsB, cnt_cuts l, cnt_cuts r]; omega
def potC (b c : Box) : Nat := (if b.X < c.X then 1 else 0) + (if c.X + c.W < b.X + b.W then 1 else 0) + (if b.Y < c.Y then 1 else 0) + (if c.Y + c.H < b.Y + b.H then 1 else 0)
def pot (b : Box) : List L.Place → Nat
  | [] => 0
  | c :: l => potC b c.Box + pot b l
theorem potC_le (b c : Box) : potC b c ≤ 4 := by
  unfold potC
  split <;> split <;> split <;> split <;> omega
theorem pot_le (b : Box) : ∀ (l : List L.Place), pot b l ≤ 4 * l.length
  | [] => by simp [pot]
  | c :: l => by
    have h1 := potC_le b c.Box
    have h2 := pot_le b l
    simp only [pot, List.length_cons]; omega
theorem potC_low {b c : Box} {d : Bool} {x : Int} (hc : VB c) (hi : inside c b) (hx : loP d b < x ∧ x < hiP d b) (h : hiP d c ≤ x) :
    potC (lowB d b (x - loP d b)) c + (if x = loP d c ∨ x = hiP d c then 1 else 0) ≤ potC b c := by
  simp only [VB] at hc
  simp only [inside] at hi
  cases d
  · simp only [loP, hiP, lowB, potC, Bool.false_eq_true, if_false] at hx h ⊢
    have e : b.Y + (x - b.Y) = x := by omega
    rw [e]
    by_cases h1 : c.Y + c.H < x
    · rw [if_pos h1, if_neg (show ¬ (x = c.Y ∨ x = c.Y + c.H) by omega), if_pos (show c.Y + c.H < b.Y + b.H by omega)]; omega
    · rw [if_neg h1, if_pos (show c.Y + c.H < b.Y + b.H by omega)]
      have hb1 : (if x = c.Y ∨ x = c.Y + c.H then 1 else 0 : Nat) ≤ 1 := by split <;> omega
      omega
  · simp only [loP, hiP, lowB, potC, if_true] at hx h ⊢
    have e : b.X + (x - b.X) = x := by omega
    rw [e]
    by_cases h1 : c.X + c.W < x
    · rw [if_pos h1, if_neg (show ¬ (x = c.X ∨ x = c.X + c.W) by omega), if_pos (show c.X + c.W < b.X + b.W by omega)]; omega
    · rw [if_neg h1, if_pos (show c.X + c.W < b.X + b.W by omega)]
      have hb1 : (if x = c.X ∨ x = c.X + c.W then 1 else 0 : Nat) ≤ 1 := by split <;> omega
      omega
theorem potC_high {b c : Box} {d : Bool} {x : Int} (hc : VB c) (hi : inside c b) (hx : loP d b < x ∧ x < hiP d b) (h : x ≤ loP d c) :
    potC (highB d b (x - loP d b)) c + (if x = loP d c ∨ x = hiP d c then 1 else 0) ≤ potC b c := by
  simp only [VB] at hc
  simp only [inside] at hi
  cases d
  · simp only [loP, hiP, highB, potC, Bool.false_eq_true, if_false] at hx h ⊢
    have e : b.Y + (x - b.Y) = x := by omega
    have e2 : x + (b.H - (x - b.Y)) = b.Y + b.H := by omega
    rw [e, e2]
    by_cases h1 : x < c.Y
    · rw [if_pos h1, if_neg (show ¬ (x = c.Y ∨ x = c.Y + c.H) by omega), if_pos (show b.Y < c.Y by omega)]; omega
    · rw [if_neg h1, if_pos (show b.Y < c.Y by omega)]
      have hb1 : (if x = c.Y ∨ x = c.Y + c.H then 1 else 0 : Nat) ≤ 1 := by split <;> omega
      omega
  · simp only [loP, hiP, highB, potC, if_true] at hx h ⊢
    have e : b.X + (x - b.X) = x := by omega
    have e2 : x + (b.W - (x - b.X)) = b.X + b.W := by omega
    rw [e, e2]
    by_cases h1 : x < c.X
    · rw [if_pos h1, if_neg (show ¬ (x = c.X ∨ x = c.X + c.W) by omega), if_pos (show b.X < c.X by omega)]; omega
    · rw [if_neg h1, if_pos (show b.X < c.X by omega)]
      have hb1 : (if x = c.X ∨ x = c.X + c.W then 1 else 0 : Nat) ≤ 1 := by split <;> omega
      omega
theorem pot_cut {b : Box} {d : Bool} {x : Int} (hx : loP d b < x ∧ x < hiP d b) : ∀ (l : List L.Place), InL l b → crs d l x = false →
    pot (lowB d b (x - loP d b)) (partL d l x true) + pot (highB d b (x - loP d b)) (partL d l x false) + (if tch d l x = true then 1 else 0) ≤ pot b l
  | [], _, _ => by simp [pot, partL, tch]
  | c :: l, hl, hc => by
    have h0 := hl c (by simp)
    have hcn := crs_not hc c (by simp)
    have hc2 : crs d l x = false := by
      have := List.any_eq_false.1 hc
      exact List.any_eq_false.2 fun y hy => this y (by simp [hy])
    have ih := pot_cut hx l (fun y hy => hl y (by simp [hy])) hc2
    have ht : tch d (c :: l) x = (decide (x = loP d c.Box ∨ x = hiP d c.Box) || tch d l x) := by simp [tch]
    rw [ht]
    by_cases h : hiP d c.Box ≤ x
    · have e1 : partL d (c :: l) x true = c :: partL d l x true := by unfold partL; rw [List.filter_cons, if_pos (by simp [h])]
      have e2 : partL d (c :: l) x false = partL d l x false := by unfold partL; rw [List.filter_cons, if_neg (by simp [h])]
      have hp := potC_low h0.1 h0.2 hx h
      rw [e1, e2]
      simp only [pot]
      by_cases hq : x = loP d c.Box ∨ x = hiP d c.Box
      · rw [if_pos hq] at hp
        rw [decide_eq_true hq, Bool.true_or, if_pos rfl]
        split at ih <;> omega
      · rw [if_neg hq] at hp
        rw [decide_eq_false hq, Bool.false_or]
        omega
    · have e1 : partL d (c :: l) x true = partL d l x true := by unfold partL; rw [List.filter_cons, if_neg (by simp [h])]
      have e2 : partL d (c :: l) x false = c :: partL d l x false := by unfold partL; rw [List.filter_cons, if_pos (by simp [h])]
      have hp := potC_high h0.1 h0.2 hx (by omega)
      rw [e1, e2]
      simp only [pot]
      by_cases hq : x = loP d c.Box ∨ x = hiP d c.Box
      · rw [if_pos hq] at hp
        rw [decide_eq_true hq, Bool.true_or, if_pos rfl]
        split at ih <;> omega
      · rw [if_neg hq] at hp
        rw [decide_eq_false hq, Bool.false_or]
        omega
theorem cutAt_tch {l : List L.Place} {b : Box} {d : Bool} {x : Int} (h : cutAt l b = some (d, x)) : tch d l x = true := by
  unfold cutAt at h
  split at h
  · rename_i y hy
    cases h
    exact (cutG_some hy).2.2.2
  · split at h
    · rename_i y hy
      cases h
      exact (cutG_some hy).2.2.2
    · cases h
theorem partL_perm (d : Bool) (l : List L.Place) (t : Int) : (partL d l t true ++ partL d l t false).Perm l := by
  have h := List.filter_append_perm (fun c : L.Place => true == decide (hiP d c.Box ≤ t)) l
  have e : partL d l t false = l.filter (fun c => !(true == decide (hiP d c.Box ≤ t))) := by
    unfold partL
    congr 1
    funext c
    cases decide (hiP d c.Box ≤ t) <;> rfl
  rw [e]
  exact h
def pruneB : BT → BT
  | .waste => .waste
  | .pane i t => .pane i t
  | .cut d a l r => if hasB l = false ∧ hasB r = false then .waste else .cut d a (pruneB l) (pruneB r)
/-- What is true of a plan that is found for places. -/
theorem planL_good (ps : List Pane) : ∀ (n : Nat) (l : List L.Place) (b : Box) (t : BT), VB b → InL l b → (∀ c ∈ l, paneFits ps c.Pane c.Turned c.Box.W c.Box.H = true) → planL n l b = some t →
    fits ps t b.W b.H = true ∧ cutsB t ≤ pot b l ∧ (plc t b.X b.Y b.W b.H).Perm l ∧ pruneB t = t ∧ (l ≠ [] → hasB t = true) := by
  intro n
  induction n with
  | zero => intro l b t _ _ _ h; simp [planL] at h
  | succ n IH =>
    intro l b t hb hl hf h
    cases l with
    | nil =>
      simp only [planL, Option.some.injEq] at h
      subst h
      exact ⟨rfl, by simp [cutsB], by simp [plc], rfl, fun h => absurd rfl h⟩
    | cons c r =>
      by_cases hp : r = [] ∧ c.Box = b
      · rw [planL, if_pos hp] at h
        obtain ⟨rfl, hcb⟩ := hp
        simp only [Option.some.injEq] at h
        subst h
        have h1 := hf c (by simp)
        rw [hcb] at h1
        refine ⟨h1, by simp [cutsB], ?_, rfl, fun _ => rfl⟩
        have : (⟨c.Pane, c.Turned, ⟨b.X, b.Y, b.W, b.H⟩⟩ : L.Place) = c := by
          cases c; simp only at hcb; rw [hcb]
        simp only [plc, this]
        exact List.Perm.refl _
      · cases hc : cutAt (c :: r) b with
        | none => rw [planL_no hp hc] at h; cases h
        | some dx =>
          obtain ⟨d, x⟩ := dx
          rw [planL_cut hp hc] at h
          obtain ⟨h1, h2, h3⟩ := cutAt_some hc
          obtain ⟨⟨g1, g2⟩, g3, g4⟩ := InL_low hb hl ⟨h1, h2⟩ h3
          have hpot := pot_cut ⟨h1, h2⟩ (c :: r) hl h3
          rw [if_pos (cutAt_tch hc)] at hpot
          have hperm := partL_perm d (c :: r) x
          cases hA : planL n (partL d (c :: r) x true) (lowB d b (x - loP d b)) with
          | none => rw [hA] at h; simp [bothL] at h
          | some A =>
            cases hB : planL n (partL d (c :: r) x false) (highB d b (x - loP d b)) with
            | none => rw [hA, hB] at h; simp [bothL] at h
            | some B =>
              rw [hA, hB] at h
              simp only [bothL, Option.some.injEq] at h
              subst h
              obtain ⟨a1, a2, a3, a4, a5⟩ := IH _ _ A g1 g2 (fun y hy => hf y (List.mem_filter.1 hy).1) hA
              obtain ⟨b1, b2, b3, b4, b5⟩ := IH _ _ B g3 g4 (fun y hy => hf y (List.mem_filter.1 hy).1) hB
              have hsome : hasB A = true ∨ hasB B = true := by
                by_cases hn : partL d (c :: r) x true = []
                · refine .inr (b5 fun hm => ?_)
                  rw [hn, hm] at hperm
                  have := hperm.length_eq
                  simp at this
                · exact .inl (a5 hn)
              have hnw : ¬ (hasB A = false ∧ hasB B = false) := fun hh => by rcases hsome with h' | h' <;> simp [hh.1, hh.2] at h'
              refine ⟨?_, by simp only [cutsB]; omega, ?_, by rw [pruneB, if_neg hnw, a4, b4], fun _ => by simp only [hasB, Bool.or_eq_true]; exact hsome⟩
              · cases d
                · simp only [loP, hiP, lowB, highB, Bool.false_eq_true, if_false] at h1 h2 a1 b1
                  simp only [fits, loP, Bool.false_eq_true, if_false, a1, b1, Bool.and_true, decide_eq_true_eq]
                  omega
                · simp only [loP, hiP, lowB, highB, if_true] at h1 h2 a1 b1
                  simp only [fits, loP, if_true, a1, b1, Bool.and_true, decide_eq_true_eq]
                  omega
              · have hp2 : (plc (.cut d (x - loP d b) A B) b.X b.Y b.W b.H) = plc A (lowB d b (x - loP d b)).X (lowB d b (x - loP d b)).Y (lowB d b (x - loP d b)).W (lowB d b (x - loP d b)).H ++ plc B (highB d b (x - loP d b)).X (highB d b (x - loP d b)).Y (highB d b (x - loP d b)).W (highB d b (x - loP d b)).H := by
                  cases d <;> simp [plc, lowB, highB]
                rw [hp2]
                exact (a3.append b3).trans hperm

def popL (k : Work) (l : List L.Place) : Option BT := if VPl k l then planL (k.W + k.H).toNat l ⟨0, 0, k.W, k.H⟩ else none
theorem VPl_facts {k : Work} {l : List L.Place} (h : VPl k l) : VB ⟨0, 0, k.W, k.H⟩ ∧ InL l ⟨0, 0, k.W, k.H⟩ ∧ Apt l ∧ (∀ c ∈ l, paneFits k.Panes c.Pane c.Turned c.Box.W c.Box.H = true) := by
  obtain ⟨⟨h1, h2⟩, h3, h4⟩ := h
  refine ⟨by simp only [VW] at h1; simp only [VB]; omega, fun c hc => (h3 c hc).1, ?_, fun c hc => (h3 c hc).2⟩
  unfold PairB at h4
  rw [List.pairwise_map] at h4
  exact h4
theorem i_PlanOfPlaces_ev (kW : Int) (kH : Int) (kP : List Pane) (l : List L.Place) : vcall Xs Ms n_i_PlanOfPlaces [(.d (.agg [.int .i64 kW, .int .i64 kH, .sl (kP.map Pane.enc)])), (.d (.sl (l.map Place.enc)))] [] = some (plV (popL (Work.mk kW kH kP) l)) := by
  have e1 := i_ValidPlaces_ev kW kH kP l
  unfold popL
  by_cases hv : VPl (Work.mk kW kH kP) l
  · obtain ⟨h1, h2, h3, _⟩ := VPl_facts hv
    rw [decide_eq_true hv] at e1
    rw [if_pos hv]
    have es := i_sheetOf_ev kW kH kP
    have ep := i_planPlaces_ev (kW + kH).toNat l 0 0 kW kH h1 h2 h3 (Nat.le_refl _) (by have := hv.1.2; omega)
    generalize planL (kW + kH).toNat l ⟨0, 0, kW, kH⟩ = X at ep ⊢
    cases X with
    | none =>
      unfold plV at ep ⊢
      refine callE Xs Ms f_i_PlanOfPlaces x_i_PlanOfPlaces (by show 2 ≤ _; decide) ?_
      simp +contextual -implicitDefEqProofs (maxSteps := 10000000) only [go_sem, seval, ↓gA, ↓gB, ↓gC, ↓gD, ↓gE, ↓gF, f_i_PlanOfPlaces, e1, es, ep]
    | some b =>
      obtain ⟨o, a, q, t, ks, eb⟩ := plV_some b
      simp only [plV, eb] at ep ⊢
      refine callE Xs Ms f_i_PlanOfPlaces x_i_PlanOfPlaces (by show 2 ≤ _; decide) ?_
      simp +contextual -implicitDefEqProofs (maxSteps := 10000000) only [go_sem, seval, ↓gA, ↓gB, ↓gC, ↓gD, ↓gE, ↓gF, f_i_PlanOfPlaces, e1, es, ep]
  · rw [decide_eq_false hv] at e1
    rw [if_neg hv]
    unfold plV
    refine callE Xs Ms f_i_PlanOfPlaces x_i_PlanOfPlaces (by show 2 ≤ _; decide) ?_
    simp +contextual -implicitDefEqProofs (maxSteps := 10000000) only [go_sem, seval, ↓gA, ↓gB, ↓gC, ↓gD, ↓gE, ↓gF, f_i_PlanOfPlaces, e1]
theorem s_PlanOfPlaces_ev (kW : Int) (kH : Int) (kP : List Pane) (l : List L.Place) (hk : 0 ≤ kW ∧ kW ≤ 1000 ∧ 0 ≤ kH ∧ kH ≤ 1000) (hP : kP.length ≤ 1000) (hl : l.length ≤ 1000) : vcall Xs Ms n_s_PlanOfPlaces [(.d (.agg [.int .i64 kW, .int .i64 kH, .sl (kP.map Pane.enc)])), (.d (.sl (l.map Place.enc)))] [] = some (plV (popL (Work.mk kW kH kP) l)) := by
  have e1 := s_validPlaces_ev kW kH kP l hk hP hl
  unfold popL
  by_cases hv : VPl (Work.mk kW kH kP) l
  · obtain ⟨h1, h2, h3, _⟩ := VPl_facts hv
    rw [decide_eq_true hv] at e1
    rw [if_pos hv]
    have ep := s_planForG_ev (kW + kH).toNat l 0 0 kW kH h1 h2 (Nat.le_refl _) hl
    generalize planL (kW + kH).toNat l ⟨0, 0, kW, kH⟩ = X at ep ⊢
    cases X with
    | none =>
      unfold plV at ep ⊢
      refine callE Xs Ms f_s_PlanOfPlaces x_s_PlanOfPlaces (by show 2 ≤ _; decide) ?_
      simp +contextual -implicitDefEqProofs (maxSteps := 10000000) only [go_sem, seval, ↓gA, ↓gB, ↓gC, ↓gD, ↓gE, ↓gF, f_s_PlanOfPlaces, e1, ep]
    | some b =>
      obtain ⟨o, a, q, t, ks, eb⟩ := plV_some b
      simp only [plV, eb] at ep ⊢
      refine callE Xs Ms f_s_PlanOfPlaces x_s_PlanOfPlaces (by show 2 ≤ _; decide) ?_
      simp +contextual -implicitDefEqProofs (maxSteps := 10000000) only [go_sem, seval, ↓gA, ↓gB, ↓gC, ↓gD, ↓gE, ↓gF, f_s_PlanOfPlaces, e1, ep]
  · rw [decide_eq_false hv] at e1
    rw [if_neg hv]
    unfold plV
    refine callE Xs Ms f_s_PlanOfPlaces x_s_PlanOfPlaces (by show 2 ≤ _; decide) ?_
    simp +contextual -implicitDefEqProofs (maxSteps := 10000000) only [go_sem, seval, ↓gA, ↓gB, ↓gC, ↓gD, ↓gE, ↓gF, f_s_PlanOfPlaces, e1]
theorem l_equalPlan_same : ∀ (b : BT), vcall Xs Ms n_l_equalPlan [.d b.plan.enc, .d b.plan.enc] [] = some ((.d (.bool (true))), [])
  | .waste => by
    have nb : ∀ a b : Bool, binV .neq true (.d (.bool a)) (.d (.bool b)) = only1 (.d (.bool (!(a == b)))) := fun _ _ => rfl
    simp only [BT.plan, Plan.enc_mk]
    refine callE Xs Ms f_l_equalPlan x_l_equalPlan (by show 2 ≤ _; decide) ?_
    simp +contextual -implicitDefEqProofs (maxSteps := 10000000) only [go_sem, seval, ↓gA, ↓gB, ↓gC, ↓gD, ↓gE, ↓gF, f_l_equalPlan, nb, beq_self_eq_true]
    refine LW_round Xs Ms ?_
    simp +contextual -implicitDefEqProofs (maxSteps := 10000000) only [go_sem, seval, ↓gA, ↓gB, ↓gC, ↓gD, ↓gE, ↓gF]
  | .pane i t => by
    have nb : ∀ a b : Bool, binV .neq true (.d (.bool a)) (.d (.bool b)) = only1 (.d (.bool (!(a == b)))) := fun _ _ => rfl
    simp only [BT.plan, Plan.enc_mk]
    refine callE Xs Ms f_l_equalPlan x_l_equalPlan (by show 2 ≤ _; decide) ?_
    simp +contextual -implicitDefEqProofs (maxSteps := 10000000) only [go_sem, seval, ↓gA, ↓gB, ↓gC, ↓gD, ↓gE, ↓gF, f_l_equalPlan, nb, beq_self_eq_true]
    refine LW_round Xs Ms ?_
    simp +contextual -implicitDefEqProofs (maxSteps := 10000000) only [go_sem, seval, ↓gA, ↓gB, ↓gC, ↓gD, ↓gE, ↓gF]
  | .cut d a l r => by
    have nb : ∀ a b : Bool, binV .neq true (.d (.bool a)) (.d (.bool b)) = only1 (.d (.bool (!(a == b)))) := fun _ _ => rfl
    have e1 := l_equalPlan_same l
    have e2 := l_equalPlan_same r
    have c2 : (1 : Int) < ((2 : Nat) : Int) := by omega
    have c3 : (0 : Int) < ((2 : Nat) : Int) := by omega
    have c4 : ¬ (2 : Int) < ((2 : Nat) : Int) := by omega
    simp only [BT.plan, Plan.enc_mk]
    refine callE Xs Ms f_l_equalPlan x_l_equalPlan (by show 2 ≤ _; decide) ?_
    simp +contextual -implicitDefEqProofs (maxSteps := 10000000) only [go_sem, seval, ↓gA, ↓gB, ↓gC, ↓gD, ↓gE, ↓gF, f_l_equalPlan, nb, beq_self_eq_true]
    refine LW_round Xs Ms ?_
    simp +contextual -implicitDefEqProofs (maxSteps := 10000000) only [go_sem, seval, ↓gA, ↓gB, ↓gC, ↓gD, ↓gE, ↓gF, e1, c3]
    refine LW_round Xs Ms ?_
    simp +contextual -implicitDefEqProofs (maxSteps := 10000000) only [go_sem, seval, ↓gA, ↓gB, ↓gC, ↓gD, ↓gE, ↓gF, e2, c2]
    refine LW_round Xs Ms ?_
    simp +contextual -implicitDefEqProofs (maxSteps := 10000000) only [go_sem, seval, ↓gA, ↓gB, ↓gC, ↓gD, ↓gE, ↓gF, c4]
def prV (b : BT) : AV × List AObj := match (pruneB b).plan with
  | .mk o a q t ks => (.tup [.agg [(.d (.int .i64 (o))), (.d (.int .i64 (a))), (.d (.int .i64 (q))), (.d (.bool (t))), .own 0], (.d (.bool (hasB b)))], [.row 5 (ks.map Plan.enc) true false])
theorem i_pruned_ev : ∀ (b : BT), vcall Xs Ms n_i_pruned [.d b.plan.enc] [] = some (prV b)
  | .waste => by
    simp only [prV, pruneB, hasB, BT.plan, Plan.enc_mk]
    refine callE Xs Ms f_i_pruned x_i_pruned (by show 1 ≤ _; decide) ?_
    simp +contextual -implicitDefEqProofs (maxSteps := 10000000) only [go_sem, seval, ↓gA, ↓gB, ↓gC, ↓gD, ↓gE, ↓gF, f_i_pruned, i_isCut_ev]
  | .pane i t => by
    simp only [prV, pruneB, hasB, BT.plan, Plan.enc_mk]
    refine callE Xs Ms f_i_pruned x_i_pruned (by show 1 ≤ _; decide) ?_
    simp +contextual -implicitDefEqProofs (maxSteps := 10000000) only [go_sem, seval, ↓gA, ↓gB, ↓gC, ↓gD, ↓gE, ↓gF, f_i_pruned, i_isCut_ev]
  | .cut d a l r => by
    have e1 := i_pruned_ev l
    have e2 := i_pruned_ev r
    obtain ⟨lo, la, lq, lt, lk, el⟩ := plV_some (pruneB l)
    obtain ⟨ro, ra, rq, rt, rk, er⟩ := plV_some (pruneB r)
    simp only [prV, el] at e1
    simp only [prV, er] at e2
    have hd : (opOf d = 2 ∨ opOf d = 3) = True := eq_true (by cases d <;> simp [opOf])
    cases hl : hasB l <;> rw [hl] at e1 <;> cases hr : hasB r <;> rw [hr] at e2
    · simp only [prV, pruneB, hasB, hl, hr, and_self, if_true, BT.plan, Plan.enc_mk, Bool.or_self]
      refine callE Xs Ms f_i_pruned x_i_pruned (by show 1 ≤ _; decide) ?_
      simp +contextual -implicitDefEqProofs (maxSteps := 10000000) only [go_sem, seval, ↓gA, ↓gB, ↓gC, ↓gD, ↓gE, ↓gF, f_i_pruned, i_isCut_ev, hd, e1, e2]
    · simp only [prV, pruneB, hasB, hl, hr, Bool.true_eq_false, and_false, if_false, BT.plan, Plan.enc_mk, el, er, Bool.or_true]
      refine callE Xs Ms f_i_pruned x_i_pruned (by show 1 ≤ _; decide) ?_
      simp +contextual -implicitDefEqProofs (maxSteps := 10000000) only [go_sem, seval, ↓gA, ↓gB, ↓gC, ↓gD, ↓gE, ↓gF, f_i_pruned, i_isCut_ev, hd, e1, e2]
    · simp only [prV, pruneB, hasB, hl, hr, Bool.true_eq_false, false_and, if_false, BT.plan, Plan.enc_mk, el, er, Bool.true_or]
      refine callE Xs Ms f_i_pruned x_i_pruned (by show 1 ≤ _; decide) ?_
      simp +contextual -implicitDefEqProofs (maxSteps := 10000000) only [go_sem, seval, ↓gA, ↓gB, ↓gC, ↓gD, ↓gE, ↓gF, f_i_pruned, i_isCut_ev, hd, e1, e2]
    · simp only [prV, pruneB, hasB, hl, hr, Bool.true_eq_false, false_and, if_false, BT.plan, Plan.enc_mk, el, er, Bool.true_or]
      refine callE Xs Ms f_i_pruned x_i_pruned (by show 1 ≤ _; decide) ?_
      simp +contextual -implicitDefEqProofs (maxSteps := 10000000) only [go_sem, seval, ↓gA, ↓gB, ↓gC, ↓gD, ↓gE, ↓gF, f_i_pruned, i_isCut_ev, hd, e1, e2]
theorem i_PrunePlan_ev (b : BT) (hp : pruneB b = b) (hc : b.cnt ≤ 255) (o a q : Int) (t : Bool) (ks : List Plan) (hb : b.plan = .mk o a q t ks) : vcall Xs Ms n_i_PrunePlan [.d b.plan.enc] [] = some (.agg [(.d (.int .i64 (o))), (.d (.int .i64 (a))), (.d (.int .i64 (q))), (.d (.bool (t))), .own 0], [.row 5 (ks.map Plan.enc) true false]) := by
  have e1 := i_PlanSize_ev b.plan
  rw [toBT_plan] at e1
  have hs : ¬ sizeIn 255 (some b) < 0 := by
    rcases sizeIn_some 255 b with ⟨_, h⟩ | ⟨h, _⟩
    · rw [h]; omega
    · omega
  have e2 := i_pruned_ev b
  unfold prV at e2
  rw [hp] at e2
  rw [hb] at e1 e2 ⊢
  simp only [Plan.enc_mk] at e1 e2 ⊢
  refine callE Xs Ms f_i_PrunePlan x_i_PrunePlan (by show 1 ≤ _; decide) ?_
  simp +contextual -implicitDefEqProofs (maxSteps := 10000000) only [go_sem, seval, ↓gA, ↓gB, ↓gC, ↓gD, ↓gE, ↓gF, f_i_PrunePlan, e1, e2, hs]

def PSP (bs : List UInt8) (p : Nat) (r : AV × List AObj) : Prop := ∃ (W H : Int) (ps : List Pane) (out : List L.Place) (p' : Nat), (0 ≤ W ∧ W ≤ 1000 ∧ 0 ≤ H ∧ H ≤ 1000) ∧ ps.length ≤ 24 ∧ out.length ≤ 9 ∧ p ≤ p' ∧ p' ≤ p + 400 ∧
  r = (.tup [.agg [(.d (.int .i64 (W))), (.d (.int .i64 (H))), .own 1], .own 2], [.box [.d (.sl (bs.map encU)), (.d (.int .i64 (p')))], .row 4 (ps.map Pane.enc) true false, .row 6 (out.map Place.enc) true false])
theorem s_somePlaces_ev (bs : List UInt8) (hb : bs.length ≤ 2000) (p : Nat) (hp : p < 800000000) : ∃ r, vcall Xs Ms n_s_somePlaces [.ptr 0 0] [.box [.d (.sl (bs.map encU)), (.d (.int .i64 (p)))]] = some r ∧ PSP bs p r := by
  obtain ⟨W, H, b, p1, ps, o, a, q, t, ks, hpl, h1, h2, h3, h4, h5, h6, h7, h8, h9, e1⟩ := s_workPlan_ev bs hb p (by omega)
  have e2 := s_placesOf_ev W H ps b.plan b rfl (by simp only [inB]; omega) h8 (by omega)
  have hln : (plc b 0 0 W H).length ≤ 155 := by
    have := pt_places b 0 0 W H
    rw [← this]
    refine Nat.le_trans (List.length_filterMap_le _ _) ?_
    rw [pt_len]; exact h9
  rw [hpl, Plan.enc_mk] at e2
  generalize plc b 0 0 W H = PL at e2 hln
  refine callW Xs Ms f_s_somePlaces x_s_somePlaces (by show 1 ≤ _; decide) ?_
  simp +contextual -implicitDefEqProofs (maxSteps := 10000000) only [go_sem, seval, ↓gA, ↓gB, ↓gC, ↓gD, ↓gE, ↓gF, f_s_somePlaces, e1, e2]
  refine LW_over Xs Ms (st0 := ?st0) (α := Nat × List L.Place × Nat) (fun s => [(8, .d (.int .i64 (s.1 : Int)))]) (fun s => [(0, .box [.d (.sl (bs.map encU)), (.d (.int .i64 (s.2.2)))]), (1, .row 6 (s.2.1.map Place.enc) true false)]) (fun s => s.1 ≤ PL.length ∧ s.2.1.length ≤ 9 ∧ s.2.1.length ≤ s.1 ∧ p1 ≤ s.2.2 ∧ s.2.2 ≤ p1 + s.1) (fun s => PL.length - s.1) (0, [], p1) ?hc (by simp) ?h0 ?step
  case hc => simp +contextual -implicitDefEqProofs (maxSteps := 10000000) only [go_sem, seval, ↓gA, ↓gB, ↓gC, ↓gD, ↓gE, ↓gF] <;> exact rfl
  case h0 => rfl
  case step =>
    intro ⟨i, out, pp⟩ ⟨i1, i2, i3, i4, i5⟩ ih
    simp only at i1 i2 i3 i4 i5
    by_cases hlt : i < PL.length
    · by_cases h9' : (out.length : Int) < 9
      · have hw := wrap_succ (k := i) (by omega)
        have c0 := s_pick_ev bs pp 5 hb (by omega)
        generalize s_pick bs pp 5 = c at c0
        by_cases hc : 0 < c
        · have w1 : IntKind.i64.wrap ((PL.length : Int) - 1) = ((PL.length - 1 : Nat) : Int) := by rw [wrap64 (by omega) (by omega)]; omega
          have w2 : IntKind.i64.wrap (((PL.length - 1 : Nat) : Int) - (i : Int)) = ((PL.length - 1 - i : Nat) : Int) := by rw [wrap64 (by omega) (by omega)]; omega
          have hil : PL.length - 1 - i < PL.length := by omega
          obtain ⟨x, hx⟩ := get_lt hil
          have hr : (out.length + 1) * 48 ≤ 140737488355328 ∧ out.length ≤ 140737488355327 := by omega
          obtain ⟨P, T, ⟨X, Y, W', H'⟩⟩ := x
          simp +contextual -implicitDefEqProofs (maxSteps := 10000000) only [go_sem, seval, ↓gA, ↓gB, ↓gC, ↓gD, ↓gE, ↓gF, hlt, h9', hw, c0, hc, w1, w2, hil, hx, hr]
          refine ih (i + 1, out ++ [⟨P, T, ⟨X, Y, W', H'⟩⟩], pp + 1) _ ⟨by simp only; omega, by simp only [List.length_append, List.length_cons, List.length_nil]; omega, by simp only [List.length_append, List.length_cons, List.length_nil]; omega, by simp only; omega, by simp only; omega⟩ (by simp only; omega) ?_
          simp +contextual -implicitDefEqProofs (maxSteps := 10000000) only [go_sem, seval, ↓gA, ↓gB, ↓gC, ↓gD, ↓gE, ↓gF, List.map_append]
        · simp +contextual -implicitDefEqProofs (maxSteps := 10000000) only [go_sem, seval, ↓gA, ↓gB, ↓gC, ↓gD, ↓gE, ↓gF, hlt, h9', hw, c0, hc]
          refine ih (i + 1, out, pp + 1) _ ⟨by simp only; omega, i2, by simp only; omega, by simp only; omega, by simp only; omega⟩ (by simp only; omega) ?_
          simp +contextual -implicitDefEqProofs (maxSteps := 10000000) only [go_sem, seval, ↓gA, ↓gB, ↓gC, ↓gD, ↓gE, ↓gF]
      · simp +contextual -implicitDefEqProofs (maxSteps := 10000000) only [go_sem, seval, ↓gA, ↓gB, ↓gC, ↓gD, ↓gE, ↓gF, hlt, h9']
        exact ⟨W, H, ps, out, pp, by omega, h7, i2, by omega, by omega, rfl⟩
    · simp +contextual -implicitDefEqProofs (maxSteps := 10000000) only [go_sem, seval, ↓gA, ↓gB, ↓gC, ↓gD, ↓gE, ↓gF, hlt]
      exact ⟨W, H, ps, out, pp, by omega, h7, i2, by omega, by omega, rfl⟩
def PDV (r : AV × List AObj) : Prop := ∃ (W H : Int) (ps : List Pane) (L : List L.Place), (0 ≤ W ∧ W ≤ 1000 ∧ 0 ≤ H ∧ H ≤ 1000) ∧ ps.length ≤ 24 ∧ L.length ≤ 20 ∧
  r = (.tup [.agg [(.d (.int .i64 (W))), (.d (.int .i64 (H))), .own 0], .own 1], [.row 4 (ps.map Pane.enc) true false, .row 6 (L.map Place.enc) true false])
theorem set_place (l : List L.Place) (i : Nat) (P : Int) (T : Bool) (X Y W H : Int) : (l.map Place.enc).set i (.agg [.int .i64 P, .bool T, .int .i64 X, .int .i64 Y, .int .i64 W, .int .i64 H]) = (l.set i ⟨P, T, ⟨X, Y, W, H⟩⟩).map Place.enc := (List.map_set (f := Place.enc) (l := l) (i := i) (a := ⟨P, T, ⟨X, Y, W, H⟩⟩)).symm
theorem s_DrawValidPlaces_ev (code : List UInt8) : ∃ r, vcall Xs Ms n_s_DrawValidPlaces [.d (.sl (code.map encU))] [] = some r ∧ PDV r := by
  have hb : (code.take 2000).length ≤ 2000 := by simp; omega
  have en := s_newReader_ev code
  obtain ⟨r, e1, W, H, ps, out, p', h1, h2, h3, h4, h5, rfl⟩ := s_somePlaces_ev (code.take 2000) hb 0 (by omega)
  simp only [cast0] at e1
  generalize code.take 2000 = bs at *
  refine callW Xs Ms f_s_DrawValidPlaces x_s_DrawValidPlaces (by show 1 ≤ _; decide) ?_
  by_cases h0 : (0 : Int) < (out.length : Int)
  · have u0 := s_pick_ev bs p' out.length hb (by omega)
    have u1 := s_pick_nonneg bs p' out.length
    have u2 := s_pick_lt bs p' out.length (by omega)
    obtain ⟨j, hj⟩ : ∃ j : Nat, s_pick bs p' (out.length : Int) = (j : Int) := ⟨(s_pick bs p' (out.length : Int)).toNat, by omega⟩
    rw [hj] at u0 u2
    have hjl : j < out.length := by omega
    obtain ⟨x, hx⟩ := get_lt hjl
    obtain ⟨P, T, ⟨X, Y, W', H'⟩⟩ := x
    have c0 := s_pick_ev bs (p' + 1) 8 hb (by omega)
    generalize s_pick bs (p' + 1) 8 = c at c0
    by_cases k0 : c = 0
    · subst k0
      simp +contextual -implicitDefEqProofs (maxSteps := 10000000) only [go_sem, seval, ↓gA, ↓gB, ↓gC, ↓gD, ↓gE, ↓gF, f_s_DrawValidPlaces, en, e1, h0, u0, hjl, hx, c0, set_place]
      exact ⟨W, H, ps, out.set j ⟨P, T, ⟨IntKind.i64.wrap (X + 1), Y, W', H'⟩⟩, h1, h2, by simp; omega, rfl⟩
    · by_cases k1 : c = 1
      · subst k1
        simp +contextual -implicitDefEqProofs (maxSteps := 10000000) only [go_sem, seval, ↓gA, ↓gB, ↓gC, ↓gD, ↓gE, ↓gF, f_s_DrawValidPlaces, en, e1, h0, u0, hjl, hx, c0, set_place]
        exact ⟨W, H, ps, out.set j ⟨P, !T, ⟨X, Y, W', H'⟩⟩, h1, h2, by simp; omega, rfl⟩
      · by_cases k2 : c = 2
        · subst k2
          have hr : (out.length + 1) * 48 ≤ 140737488355328 ∧ out.length ≤ 140737488355327 := by omega
          simp +contextual -implicitDefEqProofs (maxSteps := 10000000) only [go_sem, seval, ↓gA, ↓gB, ↓gC, ↓gD, ↓gE, ↓gF, f_s_DrawValidPlaces, en, e1, h0, u0, hjl, hx, c0, hr]
          refine ⟨W, H, ps, out ++ [⟨P, T, ⟨X, Y, W', H'⟩⟩], h1, h2, by simp only [List.length_append, List.length_cons, List.length_nil]; omega, ?_⟩
          simp [Place.enc]
        · by_cases k3 : c = 3
          · subst k3
            obtain ⟨v, _, eV⟩ := s_one_ev bs (p' + 2) [-1, 30, 0] hb (by omega) (by decide)
            simp only [List.map_cons, List.map_nil, encI] at eV
            simp +contextual -implicitDefEqProofs (maxSteps := 10000000) only [go_sem, seval, ↓gA, ↓gB, ↓gC, ↓gD, ↓gE, ↓gF, f_s_DrawValidPlaces, en, e1, h0, u0, hjl, hx, c0, eV, set_place]
            exact ⟨W, H, ps, out.set j ⟨v, T, ⟨X, Y, W', H'⟩⟩, h1, h2, by simp; omega, rfl⟩
          · simp +contextual -implicitDefEqProofs (maxSteps := 10000000) only [go_sem, seval, ↓gA, ↓gB, ↓gC, ↓gD, ↓gE, ↓gF, f_s_DrawValidPlaces, en, e1, h0, u0, c0, k0, k1, k2, k3]
            exact ⟨W, H, ps, out, h1, h2, by omega, rfl⟩
  · simp +contextual -implicitDefEqProofs (maxSteps := 10000000) only [go_sem, seval, ↓gA, ↓gB, ↓gC, ↓gD, ↓gE, ↓gF, f_s_DrawValidPlaces, en, e1, h0]
    exact ⟨W, H, ps, out, h1, h2, by omega, rfl⟩
def PDP (r : AV × List AObj) : Prop := ∃ (W H : Int) (ps : List Pane) (L : List L.Place) (n : Nat), (0 ≤ W ∧ W ≤ 1000 ∧ 0 ≤ H ∧ H ≤ 1000) ∧ ps.length ≤ 24 ∧ L.length ≤ 20 ∧ n ≤ L.length ∧
  (r = (.tup [.agg [(.d (.int .i64 (W))), (.d (.int .i64 (H))), .own 0], .own 1], [.row 4 (ps.map Pane.enc) true false, .row 6 ((L.take n).map Place.enc) true false]) ∨
   r = (.tup [.agg [(.d (.int .i64 (W))), (.d (.int .i64 (H))), .own 0], .ownv 1 0 n], [.row 4 (ps.map Pane.enc) true false, .row 6 (L.map Place.enc) true false]))
theorem s_DrawPlanOfPlaces_ev (code : List UInt8) : ∃ r, vcall Xs Ms n_s_DrawPlanOfPlaces [.d (.sl (code.map encU))] [] = some r ∧ PDP r := by
  have hb : (code.take 2000).length ≤ 2000 := by simp; omega
  have en := s_newReader_ev code
  obtain ⟨r1, eD, W1, H1, ps1, L1, d1, d2, d3, rfl⟩ := s_DrawValidPlaces_ev code
  generalize hbs : code.take 2000 = bs at *
  have c0 := s_pick_ev bs 0 4 hb (by omega)
  simp only [cast0] at c0
  generalize s_pick bs 0 4 = c at c0
  refine callW Xs Ms f_s_DrawPlanOfPlaces x_s_DrawPlanOfPlaces (by show 1 ≤ _; decide) ?_
  by_cases k0 : c = 0
  · subst k0
    have c1 : vcall Xs Ms n_s_reader_pick [.ptr 0 0, (.d (.int .i64 (3)))] [.box [.d (.sl (bs.map encU)), (.d (.int .i64 (1)))]] = some ((.d (.int .i64 (s_pick bs 1 3))), [.box [.d (.sl (bs.map encU)), (.d (.int .i64 (2)))]]) := s_pick_ev bs 1 3 hb (by omega)
    have c2 := s_pick_nonneg bs 1 3
    have c3 := s_pick_lt bs 1 3 (by omega)
    generalize s_pick bs 1 3 = v at c1 c2 c3
    have w := wi (5 + v) (by omega) (by omega)
    have w5 := wi 5 (by omega) (by omega)
    obtain ⟨n, hn, eN⟩ := s_one_ev bs 2 [4, 0, 1, 5] hb (by omega) (by decide)
    simp only [List.map_cons, List.map_nil, encI] at eN
    have eN : vcall Xs Ms n_s_reader_one [.ptr 0 0, .d (.sl [.int .i64 4, .int .i64 0, .int .i64 1, .int .i64 5])] [.box [.d (.sl (bs.map encU)), (.d (.int .i64 (2)))]] = some ((.d (.int .i64 (n))), [.box [.d (.sl (bs.map encU)), (.d (.int .i64 (3)))]]) := eN
    simp only [List.mem_cons, List.not_mem_nil, or_false] at hn
    rcases hn with rfl | rfl | rfl | rfl
    · simp +contextual -implicitDefEqProofs (maxSteps := 10000000) only [go_sem, seval, ↓gA, ↓gB, ↓gC, ↓gD, ↓gE, ↓gF, f_s_DrawPlanOfPlaces, optL, en, c0, c1, w, w5, eN]
      exact ⟨5 + v, 5, [⟨3, 2, true, 0⟩, ⟨1, 1, false, 0⟩], [⟨0, false, ⟨0, 0, 3, 2⟩⟩, ⟨0, true, ⟨3, 0, 2, 3⟩⟩, ⟨0, true, ⟨0, 2, 2, 3⟩⟩, ⟨0, false, ⟨2, 3, 3, 2⟩⟩, ⟨1, false, ⟨2, 2, 1, 1⟩⟩], 4, by omega, by simp, by simp, by simp, .inr rfl⟩
    · simp +contextual -implicitDefEqProofs (maxSteps := 10000000) only [go_sem, seval, ↓gA, ↓gB, ↓gC, ↓gD, ↓gE, ↓gF, f_s_DrawPlanOfPlaces, optL, en, c0, c1, w, w5, eN]
      exact ⟨5 + v, 5, [⟨3, 2, true, 0⟩, ⟨1, 1, false, 0⟩], [⟨0, true, ⟨3, 0, 2, 3⟩⟩, ⟨0, true, ⟨0, 2, 2, 3⟩⟩, ⟨0, false, ⟨2, 3, 3, 2⟩⟩, ⟨1, false, ⟨2, 2, 1, 1⟩⟩, ⟨1, false, ⟨2, 2, 1, 1⟩⟩], 4, by omega, by simp, by simp, by simp, .inr rfl⟩
    · simp +contextual -implicitDefEqProofs (maxSteps := 10000000) only [go_sem, seval, ↓gA, ↓gB, ↓gC, ↓gD, ↓gE, ↓gF, f_s_DrawPlanOfPlaces, optL, en, c0, c1, w, w5, eN]
      exact ⟨5 + v, 5, [⟨3, 2, true, 0⟩, ⟨1, 1, false, 0⟩], [⟨0, false, ⟨0, 0, 3, 2⟩⟩, ⟨0, true, ⟨0, 2, 2, 3⟩⟩, ⟨0, false, ⟨2, 3, 3, 2⟩⟩, ⟨1, false, ⟨2, 2, 1, 1⟩⟩, ⟨1, false, ⟨2, 2, 1, 1⟩⟩], 4, by omega, by simp, by simp, by simp, .inr rfl⟩
    · simp +contextual -implicitDefEqProofs (maxSteps := 10000000) only [go_sem, seval, ↓gA, ↓gB, ↓gC, ↓gD, ↓gE, ↓gF, f_s_DrawPlanOfPlaces, en, c0, c1, w, eN]
      exact ⟨5 + v, 5, [⟨3, 2, true, 0⟩, ⟨1, 1, false, 0⟩], [⟨0, false, ⟨0, 0, 3, 2⟩⟩, ⟨0, true, ⟨3, 0, 2, 3⟩⟩, ⟨0, true, ⟨0, 2, 2, 3⟩⟩, ⟨0, false, ⟨2, 3, 3, 2⟩⟩, ⟨1, false, ⟨2, 2, 1, 1⟩⟩], 5, by omega, by simp, by simp, by simp, .inl rfl⟩
  · have c1 : vcall Xs Ms n_s_reader_pick [.ptr 0 0, (.d (.int .i64 (6)))] [.box [.d (.sl (bs.map encU)), (.d (.int .i64 (1)))]] = some ((.d (.int .i64 (s_pick bs 1 6))), [.box [.d (.sl (bs.map encU)), (.d (.int .i64 (2)))]]) := s_pick_ev bs 1 6 hb (by omega)
    generalize s_pick bs 1 6 = v at c1
    by_cases k1 : v = 0
    · subst k1
      simp +contextual -implicitDefEqProofs (maxSteps := 10000000) only [go_sem, seval, ↓gA, ↓gB, ↓gC, ↓gD, ↓gE, ↓gF, f_s_DrawPlanOfPlaces, en, c0, k0, c1, eD]
      exact ⟨W1, H1, ps1, L1, L1.length, d1, d2, d3, Nat.le_refl _, .inl (by rw [List.take_length])⟩
    · obtain ⟨r2, e2, W, H, ps, out, p', h1, h2, h3, h4, h5, rfl⟩ := s_somePlaces_ev bs hb 2 (by omega)
      have e2 : vcall Xs Ms n_s_somePlaces [.ptr 0 0] [.box [.d (.sl (bs.map encU)), (.d (.int .i64 (2)))]] = _ := e2
      simp +contextual -implicitDefEqProofs (maxSteps := 10000000) only [go_sem, seval, ↓gA, ↓gB, ↓gC, ↓gD, ↓gE, ↓gF, f_s_DrawPlanOfPlaces, en, c0, k0, c1, k1, e2]
      exact ⟨W, H, ps, out, out.length, h1, h2, by omega, Nat.le_refl _, .inl (by rw [List.take_length])⟩

theorem popL_facts {k : Work} {l : List L.Place} {t : BT} (h : popL k l = some t) : vplan k t.plan = true ∧ ((partsL k t.plan).filterMap asPlace).Perm l ∧ pruneB t = t ∧ t.cnt ≤ 255 := by
  unfold popL at h
  by_cases hv : VPl k l
  · rw [if_pos hv] at h
    obtain ⟨h1, h2, h3, h4⟩ := VPl_facts hv
    obtain ⟨g1, g2, g3, g4, _⟩ := planL_good k.Panes _ l _ t h1 h2 h4 h
    have hp := pot_le ⟨0, 0, k.W, k.H⟩ l
    have hc := cnt_cuts t
    have hl := hv.1.2
    have hcnt : t.cnt ≤ 255 := by omega
    refine ⟨?_, ?_, g4, hcnt⟩
    · unfold vplan
      rw [toBT_plan]
      simp only [hv.1.1, hcnt, decide_true, Bool.true_and]
      exact g1
    · unfold partsL
      rw [toBT_plan]
      simp only [hv.1.1, hcnt, decide_true, Bool.true_and]
      rw [if_pos (show fits k.Panes t k.W k.H = true from g1), pt_places]
      exact g3
  · rw [if_neg hv] at h; cases h
theorem mem_take_succ {l : List L.Place} {x y : L.Place} {j : Nat} (hy : l[j]? = some y) : x ∈ l.take (j + 1) ↔ x ∈ l.take j ∨ y = x := by
  rw [List.take_add_one, hy]; simp [eq_comm]
theorem l_FnPlanOfPlaces_ev (code : List UInt8) : vcall Xs Ms n_l_FnPlanOfPlaces [.d (.sl (code.map encU))] [] = some ((.d (.bool (true))), []) := by
  have nb : ∀ a b : Bool, binV .neq true (.d (.bool a)) (.d (.bool b)) = only1 (.d (.bool (!(a == b)))) := fun _ _ => rfl
  have bb : ∀ a b : Bool, binV .eql true (.d (.bool a)) (.d (.bool b)) = only1 (.d (.bool (a == b))) := fun _ _ => rfl
  by_cases hlen : (1048576 : Int) < code.length
  · refine callE Xs Ms f_l_FnPlanOfPlaces x_l_FnPlanOfPlaces (by show 1 ≤ _; decide) ?_
    simp +contextual -implicitDefEqProofs (maxSteps := 10000000) only [go_sem, seval, ↓gA, ↓gB, ↓gC, ↓gD, ↓gE, ↓gF, f_l_FnPlanOfPlaces, hlen]
  · obtain ⟨r, ed, W, H, ps, Ls, n, d1, d2, d3, d4, hr⟩ := s_DrawPlanOfPlaces_ev code
    have hLL : (Ls.take n).length = n := by simp; omega
    have e1 := i_PlanOfPlaces_ev W H ps (Ls.take n)
    have e2 := s_PlanOfPlaces_ev W H ps (Ls.take n) d1 (by omega) (by omega)
    cases hp : popL ⟨W, H, ps⟩ (Ls.take n) with
    | none =>
      rw [hp] at e1 e2
      simp only [plV] at e1 e2
      have e3 := l_equalPlan_same .waste
      simp only [BT.plan, Plan.enc_mk, List.map_nil] at e3
      refine callE Xs Ms f_l_FnPlanOfPlaces x_l_FnPlanOfPlaces (by show 1 ≤ _; decide) ?_
      rcases hr with rfl | rfl
      · simp +contextual -implicitDefEqProofs (maxSteps := 10000000) only [go_sem, seval, ↓gA, ↓gB, ↓gC, ↓gD, ↓gE, ↓gF, f_l_FnPlanOfPlaces, nb, bb, hlen, ed, d4, e1, e2, e3]
      · simp +contextual -implicitDefEqProofs (maxSteps := 10000000) only [go_sem, seval, ↓gA, ↓gB, ↓gC, ↓gD, ↓gE, ↓gF, f_l_FnPlanOfPlaces, nb, bb, hlen, ed, d4, e1, e2, e3]
    | some b =>
      obtain ⟨o, a, q, t, ks, eb⟩ := plV_some b
      obtain ⟨f1, f2, f3, f4⟩ := popL_facts hp
      have e3 := l_equalPlan_same b
      have e4 := i_PlacesOf_ev W H ps b.plan
      have e5 := i_PrunePlan_ev b f3 f4 o a q t ks eb
      have e6 := i_ValidPlan_ev W H ps b.plan
      rw [f1] at e6
      rw [hp] at e1 e2
      simp only [plV, eb] at e1 e2
      simp only [eb, Plan.enc_mk] at e3 e4 e5 e6 f2
      generalize (partsL ⟨W, H, ps⟩ (.mk o a q t ks)).filterMap asPlace = PL at e4 f2
      have hPL := f2.length_eq
      rw [hLL] at hPL
      refine callE Xs Ms f_l_FnPlanOfPlaces x_l_FnPlanOfPlaces (by show 1 ≤ _; decide) ?_
      rcases hr with rfl | rfl
      · simp +contextual -implicitDefEqProofs (maxSteps := 10000000) only [go_sem, seval, ↓gA, ↓gB, ↓gC, ↓gD, ↓gE, ↓gF, f_l_FnPlanOfPlaces, nb, bb, hlen, ed, d4, e1, e2, e3, e4]
        refine LW_over Xs Ms (st0 := ?sa0) (α := Nat) (fun i => [(10, (.d (.int .i64 ((i : Int))))), (9, .own 0), (5, .ptr 1 0), (4, .own 2), (3, .ptr 3 0)]) (fun _ => [(5, .row 4 (ps.map Pane.enc) true false), (4, .row 5 (ks.map Plan.enc) true false), (3, .box [(.d (.int .i64 (W))), (.d (.int .i64 (H))), .own 5]), (2, .row 6 ((Ls.take n).map Place.enc) true false), (1, .box [(.d (.int .i64 (o))), (.d (.int .i64 (a))), (.d (.int .i64 (q))), (.d (.bool (t))), .own 4]), (0, .row 6 (PL.map Place.enc) true false)]) (fun i => i ≤ n) (fun i => n - i) 0 ?hca0 (by omega) ?h0a0 ?stepa0
        case hca0 => simp +contextual -implicitDefEqProofs (maxSteps := 10000000) only [go_sem, seval, ↓gA, ↓gB, ↓gC, ↓gD, ↓gE, ↓gF] <;> exact rfl
        case h0a0 => rfl
        case stepa0 =>
          intro i hi ih
          by_cases hlt : i < n
          · obtain ⟨x, hx⟩ : ∃ x, Ls[i]? = some x := get_lt (by omega)
            have hx' : (Ls.take n)[i]? = some x := by rw [List.getElem?_take, if_pos hlt]; exact hx
            have hmx : x ∈ PL := f2.mem_iff.2 (List.mem_of_getElem? hx')
            have hw := wrap_succ (k := i) (by omega)
            simp +contextual -implicitDefEqProofs (maxSteps := 10000000) only [go_sem, seval, ↓gA, ↓gB, ↓gC, ↓gD, ↓gE, ↓gF, hlt, hLL, hPL]
            refine LW_over Xs Ms (st0 := ?sb0) (α := Nat) (fun j => [(12, (.d (.int .i64 ((j : Int))))), (11, (.d (.bool (decide (x ∈ PL.take j))))), (10, (.d (.int .i64 ((i : Int))))), (9, .own 0), (5, .ptr 1 0), (4, .own 2), (3, .ptr 3 0)]) (fun _ => [(5, .row 4 (ps.map Pane.enc) true false), (4, .row 5 (ks.map Plan.enc) true false), (3, .box [(.d (.int .i64 (W))), (.d (.int .i64 (H))), .own 5]), (2, .row 6 ((Ls.take n).map Place.enc) true false), (1, .box [(.d (.int .i64 (o))), (.d (.int .i64 (a))), (.d (.int .i64 (q))), (.d (.bool (t))), .own 4]), (0, .row 6 (PL.map Place.enc) true false)]) (fun j => j ≤ n) (fun j => n - j) 0 ?hcb0 (by omega) ?h0b0 ?stepb0
            case hcb0 => simp +contextual -implicitDefEqProofs (maxSteps := 10000000) only [go_sem, seval, ↓gA, ↓gB, ↓gC, ↓gD, ↓gE, ↓gF] <;> exact rfl
            case h0b0 => simp only [List.take_zero, List.not_mem_nil, decide_false]; rfl
            case stepb0 =>
              intro j hj ih2
              by_cases hlj : j < n
              · obtain ⟨y, hy⟩ : ∃ y, PL[j]? = some y := get_lt (by omega)
                have hwj := wrap_succ (k := j) (by omega)
                have hms : (x ∈ PL.take (j + 1)) ↔ (x ∈ PL.take j ∨ y = x) := mem_take_succ hy
                by_cases hm : x ∈ PL.take j
                · simp +contextual -implicitDefEqProofs (maxSteps := 10000000) only [go_sem, seval, ↓gA, ↓gB, ↓gC, ↓gD, ↓gE, ↓gF, hlj, hLL, hPL, hx', hlt, hy, hwj, hm]
                  refine ih2 (j + 1) _ (by omega) (by omega) ?_
                  simp +contextual -implicitDefEqProofs (maxSteps := 10000000) only [go_sem, seval, ↓gA, ↓gB, ↓gC, ↓gD, ↓gE, ↓gF, hms, hm, true_or]
                · obtain ⟨xP, xT, xX, xY, xW, xH⟩ := x
                  obtain ⟨yP, yT, yX, yY, yW, yH⟩ := y
                  simp +contextual -implicitDefEqProofs (maxSteps := 10000000) only [go_sem, seval, ↓gA, ↓gB, ↓gC, ↓gD, ↓gE, ↓gF, hlj, hLL, hPL, hx', hlt, hy, hwj, hm]
                  refine ih2 (j + 1) _ (by omega) (by omega) ?_
                  simp +contextual -implicitDefEqProofs (maxSteps := 10000000) only [go_sem, seval, ↓gA, ↓gB, ↓gC, ↓gD, ↓gE, ↓gF, hms, hm, false_or, L.Place.mk.injEq, Box.mk.injEq]
              · have ht : PL.take j = PL := List.take_of_length_le (by omega)
                simp +contextual -implicitDefEqProofs (maxSteps := 10000000) only [go_sem, seval, ↓gA, ↓gB, ↓gC, ↓gD, ↓gE, ↓gF, hlj, hLL, hPL, ht, hmx]
                refine ih (i + 1) _ (by omega) (by omega) ?_
                simp +contextual -implicitDefEqProofs (maxSteps := 10000000) only [go_sem, seval, ↓gA, ↓gB, ↓gC, ↓gD, ↓gE, ↓gF, hw]
          · simp +contextual -implicitDefEqProofs (maxSteps := 10000000) only [go_sem, seval, ↓gA, ↓gB, ↓gC, ↓gD, ↓gE, ↓gF, hlt, hLL, hPL, e5, e6, e3]
      · simp +contextual -implicitDefEqProofs (maxSteps := 10000000) only [go_sem, seval, ↓gA, ↓gB, ↓gC, ↓gD, ↓gE, ↓gF, f_l_FnPlanOfPlaces, nb, bb, hlen, ed, d4, e1, e2, e3, e4]
        refine LW_over Xs Ms (st0 := ?sa1) (α := Nat) (fun i => [(10, (.d (.int .i64 ((i : Int))))), (9, .own 0), (5, .ptr 1 0), (4, .ownv 2 0 n), (3, .ptr 3 0)]) (fun _ => [(5, .row 4 (ps.map Pane.enc) true false), (4, .row 5 (ks.map Plan.enc) true false), (3, .box [(.d (.int .i64 (W))), (.d (.int .i64 (H))), .own 5]), (2, .row 6 (Ls.map Place.enc) true false), (1, .box [(.d (.int .i64 (o))), (.d (.int .i64 (a))), (.d (.int .i64 (q))), (.d (.bool (t))), .own 4]), (0, .row 6 (PL.map Place.enc) true false)]) (fun i => i ≤ n) (fun i => n - i) 0 ?hca1 (by omega) ?h0a1 ?stepa1
        case hca1 => simp +contextual -implicitDefEqProofs (maxSteps := 10000000) only [go_sem, seval, ↓gA, ↓gB, ↓gC, ↓gD, ↓gE, ↓gF] <;> exact rfl
        case h0a1 => rfl
        case stepa1 =>
          intro i hi ih
          by_cases hlt : i < n
          · obtain ⟨x, hx⟩ : ∃ x, Ls[i]? = some x := get_lt (by omega)
            have hx' : (Ls.take n)[i]? = some x := by rw [List.getElem?_take, if_pos hlt]; exact hx
            have hmx : x ∈ PL := f2.mem_iff.2 (List.mem_of_getElem? hx')
            have hw := wrap_succ (k := i) (by omega)
            simp +contextual -implicitDefEqProofs (maxSteps := 10000000) only [go_sem, seval, ↓gA, ↓gB, ↓gC, ↓gD, ↓gE, ↓gF, hlt, hPL]
            refine LW_over Xs Ms (st0 := ?sb1) (α := Nat) (fun j => [(12, (.d (.int .i64 ((j : Int))))), (11, (.d (.bool (decide (x ∈ PL.take j))))), (10, (.d (.int .i64 ((i : Int))))), (9, .own 0), (5, .ptr 1 0), (4, .ownv 2 0 n), (3, .ptr 3 0)]) (fun _ => [(5, .row 4 (ps.map Pane.enc) true false), (4, .row 5 (ks.map Plan.enc) true false), (3, .box [(.d (.int .i64 (W))), (.d (.int .i64 (H))), .own 5]), (2, .row 6 (Ls.map Place.enc) true false), (1, .box [(.d (.int .i64 (o))), (.d (.int .i64 (a))), (.d (.int .i64 (q))), (.d (.bool (t))), .own 4]), (0, .row 6 (PL.map Place.enc) true false)]) (fun j => j ≤ n) (fun j => n - j) 0 ?hcb1 (by omega) ?h0b1 ?stepb1
            case hcb1 => simp +contextual -implicitDefEqProofs (maxSteps := 10000000) only [go_sem, seval, ↓gA, ↓gB, ↓gC, ↓gD, ↓gE, ↓gF] <;> exact rfl
            case h0b1 => simp only [List.take_zero, List.not_mem_nil, decide_false]; rfl
            case stepb1 =>
              intro j hj ih2
              by_cases hlj : j < n
              · obtain ⟨y, hy⟩ : ∃ y, PL[j]? = some y := get_lt (by omega)
                have hwj := wrap_succ (k := j) (by omega)
                have hms : (x ∈ PL.take (j + 1)) ↔ (x ∈ PL.take j ∨ y = x) := mem_take_succ hy
                by_cases hm : x ∈ PL.take j
                · simp +contextual -implicitDefEqProofs (maxSteps := 10000000) only [go_sem, seval, ↓gA, ↓gB, ↓gC, ↓gD, ↓gE, ↓gF, hlj, hPL, hx, Nat.zero_add, hlt, hy, hwj, hm]
                  refine ih2 (j + 1) _ (by omega) (by omega) ?_
                  simp +contextual -implicitDefEqProofs (maxSteps := 10000000) only [go_sem, seval, ↓gA, ↓gB, ↓gC, ↓gD, ↓gE, ↓gF, hms, hm, true_or]
                · obtain ⟨xP, xT, xX, xY, xW, xH⟩ := x
                  obtain ⟨yP, yT, yX, yY, yW, yH⟩ := y
                  simp +contextual -implicitDefEqProofs (maxSteps := 10000000) only [go_sem, seval, ↓gA, ↓gB, ↓gC, ↓gD, ↓gE, ↓gF, hlj, hPL, hx, Nat.zero_add, hlt, hy, hwj, hm]
                  refine ih2 (j + 1) _ (by omega) (by omega) ?_
                  simp +contextual -implicitDefEqProofs (maxSteps := 10000000) only [go_sem, seval, ↓gA, ↓gB, ↓gC, ↓gD, ↓gE, ↓gF, hms, hm, false_or, L.Place.mk.injEq, Box.mk.injEq]
              · have ht : PL.take j = PL := List.take_of_length_le (by omega)
                simp +contextual -implicitDefEqProofs (maxSteps := 10000000) only [go_sem, seval, ↓gA, ↓gB, ↓gC, ↓gD, ↓gE, ↓gF, hlj, hPL, ht, hmx]
                refine ih (i + 1) _ (by omega) (by omega) ?_
                simp +contextual -implicitDefEqProofs (maxSteps := 10000000) only [go_sem, seval, ↓gA, ↓gB, ↓gC, ↓gD, ↓gE, ↓gF, hw]
          · simp +contextual -implicitDefEqProofs (maxSteps := 10000000) only [go_sem, seval, ↓gA, ↓gB, ↓gC, ↓gD, ↓gE, ↓gF, hlt, hPL, e5, e6, e3]

end Go.Proofs.Ytdkieppaodnilaa
