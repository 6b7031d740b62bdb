/- Contracts of the functions, by the abstract semantics. -/
import Derived.Test.YtdkieppaodnilaaACode
import Derived.Test.YtdkieppaodnilaaAbsParts
import Derived.Test.YtdkieppaodnilaaAC2
namespace Go.Proofs.Ytdkieppaodnilaa
open Go Go.Abs Go.Abs.E Go.Abs.L
open Nat (reduceMul reduceSub reduceLeDiff reduceEqDiff)
open Int (reduceLE reduceEq reduceToNat reduceNeg)
set_option linter.unusedSimpArgs false
set_option linter.unusedVariables false
set_option maxRecDepth 20000
set_option maxHeartbeats 4000000
def loP (d : Bool) (b : Box) : Int := if d then b.X else b.Y
def hiP (d : Bool) (b : Box) : Int := if d then b.X + b.W else b.Y + b.H
def tch (d : Bool) (l : List L.Place) (t : Int) : Bool := l.any fun c => decide (t = loP d c.Box ∨ t = hiP d c.Box)
def crs (d : Bool) (l : List L.Place) (t : Int) : Bool := l.any fun c => decide (loP d c.Box < t ∧ t < hiP d c.Box)
def edgeG (d : Bool) (l : List L.Place) (fr : Int) : Nat → List Int
  | 0 => []
  | n + 1 => edgeG d l fr n ++ (if tch d l (fr + 1 + n) = true then [fr + 1 + (n : Int)] else [])
def cutG (d : Bool) (l : List L.Place) (fr : Int) : Nat → Option Int
  | 0 => none
  | n + 1 => match cutG d l fr n with
    | some x => some x
    | none => if tch d l (fr + 1 + n) = true ∧ crs d l (fr + 1 + n) = false then some (fr + 1 + (n : Int)) else none
def partL (d : Bool) (l : List L.Place) (t : Int) (f : Bool) : List L.Place := l.filter fun c => f == decide (hiP d c.Box ≤ t)
theorem tch_take {d : Bool} {l : List L.Place} {t : Int} {k : Nat} {c : L.Place} (hx : l[k]? = some c) : tch d (l.take (k + 1)) t = (tch d (l.take k) t || decide (t = loP d c.Box ∨ t = hiP d c.Box)) := by
  unfold tch; rw [List.take_add_one, hx, List.any_append]; simp
theorem crs_take {d : Bool} {l : List L.Place} {t : Int} {k : Nat} {c : L.Place} (hx : l[k]? = some c) : crs d (l.take (k + 1)) t = (crs d (l.take k) t || decide (loP d c.Box < t ∧ t < hiP d c.Box)) := by
  unfold crs; rw [List.take_add_one, hx, List.any_append]; simp
theorem partL_take {d : Bool} {l : List L.Place} {t : Int} {f : Bool} {k : Nat} {c : L.Place} (hx : l[k]? = some c) : partL d (l.take (k + 1)) t f = partL d (l.take k) t f ++ (if f = decide (hiP d c.Box ≤ t) then [c] else []) := by
  unfold partL
  rw [List.take_add_one, hx, List.filter_append]
  by_cases h : f = decide (hiP d c.Box ≤ t)
  · simp [h]
  · rw [if_neg h]
    have : (f == decide (hiP d c.Box ≤ t)) = false := by simpa using h
    simp [this]
theorem edgeG_lt {d : Bool} {l : List L.Place} {fr : Int} : ∀ {n : Nat} {x : Int}, x ∈ edgeG d l fr n → fr < x ∧ x < fr + 1 + n
  | 0, x, h => by simp [edgeG] at h
  | n + 1, x, h => by
    unfold edgeG at h
    rcases List.mem_append.1 h with h | h
    · have := edgeG_lt h; omega
    · split at h
      · simp at h; omega
      · simp at h
theorem edgeG_len {d : Bool} {l : List L.Place} {fr : Int} : ∀ (n : Nat), (edgeG d l fr n).length ≤ n
  | 0 => by simp [edgeG]
  | n + 1 => by
    have := edgeG_len (d := d) (l := l) (fr := fr) n
    unfold edgeG
    split <;> simp <;> omega
theorem edgeG_find {d : Bool} {l : List L.Place} {fr : Int} : ∀ (n : Nat), (edgeG d l fr n).find? (fun x => !crs d l x) = cutG d l fr n
  | 0 => rfl
  | n + 1 => by
    unfold edgeG cutG
    rw [List.find?_append, edgeG_find n]
    cases hc : cutG d l fr n with
    | some x => rfl
    | none =>
      by_cases ht : tch d l (fr + 1 + n) = true
      · rw [if_pos ht]
        by_cases hx : crs d l (fr + 1 + n) = false
        · rw [if_pos ⟨ht, hx⟩]; simp [hx]
        · rw [if_neg (fun h => hx h.2)]; simp only [Bool.not_eq_false] at hx; simp [hx]
      · rw [if_neg ht, if_neg (fun h => ht h.1)]; rfl
theorem cutG_some {d : Bool} {l : List L.Place} {fr : Int} : ∀ {n : Nat} {x : Int}, cutG d l fr n = some x → fr < x ∧ x < fr + 1 + n ∧ crs d l x = false ∧ tch d l x = true
  | 0, x, h => by simp [cutG] at h
  | n + 1, x, h => by
    unfold cutG at h
    split at h
    · rename_i y hy
      cases h
      have := cutG_some hy
      exact ⟨this.1, by omega, this.2.2⟩
    · split at h
      · rename_i hc
        cases h
        exact ⟨by omega, by omega, hc.2, hc.1⟩
      · cases h
theorem placeFrom_no2 : ∀ (l : List Int) (k : Nat) (n : Int), n ∉ l → placeFrom k l n = -1
  | [], _, _, _ => rfl
  | x :: l, k, n, h => by
    simp only [List.mem_cons, not_or] at h
    unfold placeFrom
    rw [if_neg (fun e => h.1 e.symm), placeFrom_no2 l (k + 1) n h.2]
theorem placeFrom_yes : ∀ (l : List Int) (k : Nat) (n : Int), n ∈ l → 0 ≤ placeFrom k l n
  | [], _, _, h => by simp at h
  | x :: l, k, n, h => by
    unfold placeFrom
    split
    · omega
    · rename_i hne
      rcases List.mem_cons.1 h with rfl | h
      · exact absurd rfl hne
      · exact placeFrom_yes l (k + 1) n h
def lowB (d : Bool) (b : Box) (a : Int) : Box := if d then ⟨b.X, b.Y, a, b.H⟩ else ⟨b.X, b.Y, b.W, a⟩
def highB (d : Bool) (b : Box) (a : Int) : Box := if d then ⟨b.X + a, b.Y, b.W - a, b.H⟩ else ⟨b.X, b.Y + a, b.W, b.H - a⟩
def bothL (d : Bool) (a : Int) : Option BT → Option BT → Option BT
  | some p, some q => some (.cut d a p q)
  | _, _ => none
def cutAt (l : List L.Place) (b : Box) : Option (Bool × Int) := match cutG true l b.X (b.W - 1).toNat with
  | some x => some (true, x)
  | none => match cutG false l b.Y (b.H - 1).toNat with
    | some y => some (false, y)
    | none => none
def planL : Nat → List L.Place → Box → Option BT
  | 0, _, _ => none
  | n + 1, l, b => match l with
    | [] => some .waste
    | c :: r => if r = [] ∧ c.Box = b then some (.pane c.Pane c.Turned) else match cutAt (c :: r) b with
      | some (d, x) => bothL d (x - loP d b) (planL n (partL d (c :: r) x true) (lowB d b (x - loP d b))) (planL n (partL d (c :: r) x false) (highB d b (x - loP d b)))
      | none => none
def InL (l : List L.Place) (b : Box) : Prop := ∀ c ∈ l, VB c.Box ∧ inside c.Box b
theorem cutAt_some {l : List L.Place} {b : Box} {d : Bool} {x : Int} (h : cutAt l b = some (d, x)) : loP d b < x ∧ x < hiP d b ∧ crs d l x = false := by
  unfold cutAt at h
  split at h
  · rename_i y hy
    cases h
    have := cutG_some hy
    exact ⟨this.1, by simp only [hiP, if_true]; omega, this.2.2.1⟩
  · split at h
    · rename_i y hy
      cases h
      have := cutG_some hy
      exact ⟨this.1, by simp only [hiP, Bool.false_eq_true, if_false]; omega, this.2.2.1⟩
    · cases h
theorem crs_not {d : Bool} {l : List L.Place} {x : Int} (h : crs d l x = false) : ∀ c ∈ l, hiP d c.Box ≤ x ∨ x ≤ loP d c.Box := fun c hc => by
  have := List.any_eq_false.1 h c hc
  simp only [decide_eq_true_eq] at this
  omega
theorem InL_low {l : List L.Place} {b : Box} {d : Bool} {x : Int} (hb : VB b) (h : InL l b) (hx : loP d b < x ∧ x < hiP d b) (hc : crs d l x = false) :
    (VB (lowB d b (x - loP d b)) ∧ InL (partL d l x true) (lowB d b (x - loP d b))) ∧ VB (highB d b (x - loP d b)) ∧ InL (partL d l x false) (highB d b (x - loP d b)) := by
  have hn := crs_not hc
  cases d
  · simp only [loP, hiP, lowB, highB, Bool.false_eq_true, if_false] at hx hn ⊢
    simp only [VB] at hb
    refine ⟨⟨by simp only [VB]; omega, fun c hm => ?_⟩, by simp only [VB]; omega, fun c hm => ?_⟩
    · obtain ⟨h1, h2⟩ := List.mem_filter.1 hm
      have h3 := h c h1
      simp only [hiP, Bool.false_eq_true, if_false, beq_iff_eq] at h2
      have h4 := of_decide_eq_true h2.symm
      simp only [inside] at h3 ⊢
      exact ⟨h3.1, by omega⟩
    · obtain ⟨h1, h2⟩ := List.mem_filter.1 hm
      have h3 := h c h1
      have h5 := hn c h1
      simp only [hiP, Bool.false_eq_true, if_false, beq_iff_eq] at h2
      have h4 := of_decide_eq_false h2.symm
      simp only [inside] at h3 ⊢
      exact ⟨h3.1, by omega⟩
  · simp only [loP, hiP, lowB, highB, if_true] at hx hn ⊢
    simp only [VB] at hb
    refine ⟨⟨by simp only [VB]; omega, fun c hm => ?_⟩, by simp only [VB]; omega, fun c hm => ?_⟩
    · obtain ⟨h1, h2⟩ := List.mem_filter.1 hm
      have h3 := h c h1
      simp only [hiP, if_true, beq_iff_eq] at h2
      have h4 := of_decide_eq_true h2.symm
      simp only [inside] at h3 ⊢
      exact ⟨h3.1, by omega⟩
    · obtain ⟨h1, h2⟩ := List.mem_filter.1 hm
      have h3 := h c h1
      have h5 := hn c h1
      simp only [hiP, if_true, beq_iff_eq] at h2
      have h4 := of_decide_eq_false h2.symm
      simp only [inside] at h3 ⊢
      exact ⟨h3.1, by omega⟩
def plV : Option BT → AV × List AObj
  | some b => match b.plan with
    | .mk o a q t ks => (.tup [.agg [(.d (.int .i64 (o))), (.d (.int .i64 (a))), (.d (.int .i64 (q))), (.d (.bool (t))), .own 0], (.d (.bool (true)))], [.row 5 (ks.map Plan.enc) true false])
  | none => (.tup [.agg [(.d (.int .i64 (0))), (.d (.int .i64 (0))), (.d (.int .i64 (0))), (.d (.bool (false))), .own 0], (.d (.bool (false)))], [.row 5 [] true false])
theorem s_edgesG_ev (l : List L.Place) (d : Bool) (fr to : Int) (hl : l.length ≤ 1000) (hc : ∀ c ∈ l, VB c.Box) (h0 : 0 ≤ fr) (h1 : fr < to) (h2 : to ≤ 1000) : vcall Xs Ms n_s_edges [(.d (.sl (l.map Place.enc))), (.d (.int .i64 (opOf d))), (.d (.int .i64 (fr))), (.d (.int .i64 (to)))] [] = some (.own 0, [.row 1 ((edgeG d l fr (to - fr - 1).toNat).map encI) true false]) := by
  have w0 := wi (fr + 1) (by omega) (by omega)
  refine callE Xs Ms f_s_edges x_s_edges (by show 4 ≤ _; decide) ?_
  simp +contextual -implicitDefEqProofs (maxSteps := 10000000) only [go_sem, seval, ↓gA, ↓gB, ↓gC, ↓gD, ↓gE, ↓gF, f_s_edges, w0]
  refine LW_over Xs Ms (st0 := ?st0) (α := Nat) (fun n => [(10, .d (.int .i64 (fr + 1 + (n : Int))))]) (fun n => [(0, .row 1 ((edgeG d l fr n).map encI) true false)]) (fun n => (n : Int) ≤ to - fr - 1) (fun n => (to - fr - 1).toNat - n) 0 ?hc (by omega) ?h0 ?step
  case hc => simp +contextual -implicitDefEqProofs (maxSteps := 10000000) only [go_sem, seval, ↓gA, ↓gB, ↓gC, ↓gD, ↓gE, ↓gF] <;> exact rfl
  case h0 => simp only [edgeG, List.map_nil, Int.natCast_zero, Int.add_zero]; rfl
  case step =>
    intro n hn ih
    by_cases hlt : fr + 1 + (n : Int) < to
    · have wt := wi (fr + 1 + (n : Int) + 1) (by omega) (by omega)
      have hel := edgeG_len (d := d) (l := l) (fr := fr) n
      have hno : fr + 1 + (n : Int) ∉ edgeG d l fr n := fun h => by have := edgeG_lt h; omega
      have hwn : fr + 1 + ((n + 1 : Nat) : Int) = fr + 1 + (n : Int) + 1 := by omega
      have hsucc : edgeG d l fr (n + 1) = edgeG d l fr n ++ (if tch d l (fr + 1 + n) = true then [fr + 1 + (n : Int)] else []) := rfl
      generalize ht : fr + 1 + (n : Int) = t at *
      simp +contextual -implicitDefEqProofs (maxSteps := 10000000) only [go_sem, seval, ↓gA, ↓gB, ↓gC, ↓gD, ↓gE, ↓gF, hlt]
      refine LW_over Xs Ms (st0 := ?st1) (α := Nat) (fun i => [(11, .d (.int .i64 (i : Int)))]) (fun i => [(0, .row 1 ((edgeG d l fr n ++ (if tch d (l.take i) t = true then [t] else [])).map encI) true false)]) (fun i => i ≤ l.length) (fun i => l.length - i) 0 ?hc2 (by omega) ?h02 ?step2
      case hc2 => simp +contextual -implicitDefEqProofs (maxSteps := 10000000) only [go_sem, seval, ↓gA, ↓gB, ↓gC, ↓gD, ↓gE, ↓gF] <;> exact rfl
      case h02 =>
        have e : tch d (l.take 0) t = false := by simp [tch]
        simp only [e, Bool.false_eq_true, if_false, List.append_nil]
        rfl
      case step2 =>
        intro i hi ih2
        by_cases hil : i < l.length
        · obtain ⟨c, hx⟩ := get_lt hil
          have hw := wrap_succ (k := i) (by omega)
          have htk := tch_take (d := d) (t := t) hx
          have hcb := hc c (List.mem_of_getElem? hx)
          obtain ⟨P, T, ⟨X, Y, W, H⟩⟩ := c
          simp only [VB] at hcb
          simp only [loP, hiP] at htk
          have wx := wi (X + W) (by omega) (by omega)
          have wy := wi (Y + H) (by omega) (by omega)
          have epl := s_placeIn_ev (edgeG d l fr n ++ (if tch d (l.take i) t = true then [t] else [])) t (by split <;> simp <;> omega)
          by_cases hb : tch d (l.take i) t = true
          · rw [if_pos hb] at epl ⊢
            have hyes := placeFrom_yes (edgeG d l fr n ++ [t]) 0 t (by simp)
            generalize placeFrom 0 (edgeG d l fr n ++ [t]) t = z at epl hyes
            have hz : ¬ z < 0 := by omega
            rw [hb, Bool.true_or] at htk
            cases d with
            | true =>
              by_cases hm : t = X ∨ t = X + W
              · simp +contextual -implicitDefEqProofs (maxSteps := 10000000) only [go_sem, seval, ↓gA, ↓gB, ↓gC, ↓gD, ↓gE, ↓gF, hx, hil, hw, wx, wy, opOf, hm, epl, hz, ← Bool.decide_or]
                refine ih2 (i + 1) _ (by omega) (by omega) ?_
                rw [htk]
                simp +contextual -implicitDefEqProofs (maxSteps := 10000000) only [go_sem, seval, ↓gA, ↓gB, ↓gC, ↓gD, ↓gE, ↓gF, opOf]
              · simp +contextual -implicitDefEqProofs (maxSteps := 10000000) only [go_sem, seval, ↓gA, ↓gB, ↓gC, ↓gD, ↓gE, ↓gF, hx, hil, hw, wx, wy, opOf, hm, ← Bool.decide_or]
                refine ih2 (i + 1) _ (by omega) (by omega) ?_
                rw [htk]
                simp +contextual -implicitDefEqProofs (maxSteps := 10000000) only [go_sem, seval, ↓gA, ↓gB, ↓gC, ↓gD, ↓gE, ↓gF, opOf]
            | false =>
              by_cases hm : t = Y ∨ t = Y + H
              · simp +contextual -implicitDefEqProofs (maxSteps := 10000000) only [go_sem, seval, ↓gA, ↓gB, ↓gC, ↓gD, ↓gE, ↓gF, hx, hil, hw, wx, wy, opOf, hm, epl, hz, ← Bool.decide_or]
                refine ih2 (i + 1) _ (by omega) (by omega) ?_
                rw [htk]
                simp +contextual -implicitDefEqProofs (maxSteps := 10000000) only [go_sem, seval, ↓gA, ↓gB, ↓gC, ↓gD, ↓gE, ↓gF, opOf]
              · simp +contextual -implicitDefEqProofs (maxSteps := 10000000) only [go_sem, seval, ↓gA, ↓gB, ↓gC, ↓gD, ↓gE, ↓gF, hx, hil, hw, wx, wy, opOf, hm, ← Bool.decide_or]
                refine ih2 (i + 1) _ (by omega) (by omega) ?_
                rw [htk]
                simp +contextual -implicitDefEqProofs (maxSteps := 10000000) only [go_sem, seval, ↓gA, ↓gB, ↓gC, ↓gD, ↓gE, ↓gF, opOf]
          · rw [if_neg hb, List.append_nil] at epl ⊢
            rw [placeFrom_no2 _ _ _ hno] at epl
            simp only [Bool.not_eq_true] at hb
            rw [hb, Bool.false_or] at htk
            have hr : ((edgeG d l fr n).length + 1) * 8 ≤ 140737488355328 ∧ (edgeG d l fr n).length ≤ 140737488355327 := by omega
            cases d with
            | true =>
              simp only [if_true] at htk
              by_cases hm : t = X ∨ t = X + W
              · rw [decide_eq_true hm] at htk
                simp +contextual -implicitDefEqProofs (maxSteps := 10000000) only [go_sem, seval, ↓gA, ↓gB, ↓gC, ↓gD, ↓gE, ↓gF, hx, hil, hw, wx, wy, opOf, hm, epl, hr, ← Bool.decide_or]
                refine ih2 (i + 1) _ (by omega) (by omega) ?_
                rw [htk]
                simp +contextual -implicitDefEqProofs (maxSteps := 10000000) only [go_sem, seval, ↓gA, ↓gB, ↓gC, ↓gD, ↓gE, ↓gF, opOf, List.map_append]
              · rw [decide_eq_false hm] at htk
                simp +contextual -implicitDefEqProofs (maxSteps := 10000000) only [go_sem, seval, ↓gA, ↓gB, ↓gC, ↓gD, ↓gE, ↓gF, hx, hil, hw, wx, wy, opOf, hm, ← Bool.decide_or]
                refine ih2 (i + 1) _ (by omega) (by omega) ?_
                rw [htk]
                simp +contextual -implicitDefEqProofs (maxSteps := 10000000) only [go_sem, seval, ↓gA, ↓gB, ↓gC, ↓gD, ↓gE, ↓gF, opOf, List.append_nil]
            | false =>
              simp only [Bool.false_eq_true, if_false] at htk
              by_cases hm : t = Y ∨ t = Y + H
              · rw [decide_eq_true hm] at htk
                simp +contextual -implicitDefEqProofs (maxSteps := 10000000) only [go_sem, seval, ↓gA, ↓gB, ↓gC, ↓gD, ↓gE, ↓gF, hx, hil, hw, wx, wy, opOf, hm, epl, hr, ← Bool.decide_or]
                refine ih2 (i + 1) _ (by omega) (by omega) ?_
                rw [htk]
                simp +contextual -implicitDefEqProofs (maxSteps := 10000000) only [go_sem, seval, ↓gA, ↓gB, ↓gC, ↓gD, ↓gE, ↓gF, opOf, List.map_append]
              · rw [decide_eq_false hm] at htk
                simp +contextual -implicitDefEqProofs (maxSteps := 10000000) only [go_sem, seval, ↓gA, ↓gB, ↓gC, ↓gD, ↓gE, ↓gF, hx, hil, hw, wx, wy, opOf, hm, ← Bool.decide_or]
                refine ih2 (i + 1) _ (by omega) (by omega) ?_
                rw [htk]
                simp +contextual -implicitDefEqProofs (maxSteps := 10000000) only [go_sem, seval, ↓gA, ↓gB, ↓gC, ↓gD, ↓gE, ↓gF, opOf, List.append_nil]
        · have : i = l.length := by omega
          subst this
          rw [List.take_of_length_le (Nat.le_refl _)]
          rw [← hsucc]
          simp +contextual -implicitDefEqProofs (maxSteps := 10000000) only [go_sem, seval, ↓gA, ↓gB, ↓gC, ↓gD, ↓gE, ↓gF, wt]
          refine ih (n + 1) _ (by omega) (by omega) ?_
          simp +contextual -implicitDefEqProofs (maxSteps := 10000000) only [go_sem, seval, ↓gA, ↓gB, ↓gC, ↓gD, ↓gE, ↓gF, hwn]
    · have : (to - fr - 1).toNat = n := by omega
      rw [this]
      simp +contextual -implicitDefEqProofs (maxSteps := 10000000) only [go_sem, seval, ↓gA, ↓gB, ↓gC, ↓gD, ↓gE, ↓gF, hlt]

theorem crs_mem {d : Bool} {l : List L.Place} {t : Int} {c : L.Place} (hc : c ∈ l) (h : loP d c.Box < t ∧ t < hiP d c.Box) : crs d l t = true := List.any_eq_true.2 ⟨c, hc, decide_eq_true h⟩
def partV (d : Bool) (l : List L.Place) (t : Int) (f : Bool) : AV × List AObj := if crs d l t = true then (.tup [.own 0, (.d (.bool (false)))], [.row 6 [] true false]) else (.tup [.own 0, (.d (.bool (true)))], [.row 6 ((partL d l t f).map Place.enc) true false])
theorem s_partG_ev (l : List L.Place) (d : Bool) (t : Int) (f : Bool) (hl : l.length ≤ 1000) (hc : ∀ c ∈ l, VB c.Box) : vcall Xs Ms n_s_part [(.d (.sl (l.map Place.enc))), (.d (.int .i64 (opOf d))), (.d (.int .i64 (t))), (.d (.bool (f)))] [] = some (partV d l t f) := by
  have bb : ∀ a b : Bool, binV .eql true (.d (.bool a)) (.d (.bool b)) = only1 (.d (.bool (a == b))) := fun _ _ => rfl
  refine callE Xs Ms f_s_part x_s_part (by show 4 ≤ _; decide) ?_
  simp +contextual -implicitDefEqProofs (maxSteps := 10000000) only [go_sem, seval, ↓gA, ↓gB, ↓gC, ↓gD, ↓gE, ↓gF, f_s_part]
  refine LW_over Xs Ms (st0 := ?st0) (α := Nat) (fun i => [(11, .d (.int .i64 (i : Int)))]) (fun i => [(0, .row 6 ((partL d (l.take i) t f).map Place.enc) true false)]) (fun i => i ≤ l.length ∧ crs d (l.take i) t = false) (fun i => l.length - i) 0 ?hc ⟨by omega, by simp [crs]⟩ ?h0 ?step
  case hc => simp +contextual -implicitDefEqProofs (maxSteps := 10000000) only [go_sem, seval, ↓gA, ↓gB, ↓gC, ↓gD, ↓gE, ↓gF] <;> exact rfl
  case h0 => rfl
  case step =>
    intro i ⟨hi, hp⟩ ih
    by_cases hlt : i < l.length
    · obtain ⟨c, hx⟩ := get_lt hlt
      have hw := wrap_succ (k := i) (by omega)
      have hct := crs_take (d := d) (t := t) hx
      have hpt := partL_take (d := d) (t := t) (f := f) hx
      have hcm := @crs_mem d l t c (List.mem_of_getElem? hx)
      have hcb := hc c (List.mem_of_getElem? hx)
      have hlk : (partL d (l.take i) t f).length ≤ i := Nat.le_trans (List.length_filter_le _ _) (by simp; omega)
      have hr : ((partL d (l.take i) t f).length + 1) * 48 ≤ 140737488355328 ∧ (partL d (l.take i) t f).length ≤ 140737488355327 := by omega
      obtain ⟨P, T, ⟨X, Y, W, H⟩⟩ := c
      simp only [VB] at hcb
      simp only [loP, hiP] at hct hpt hcm
      have wx := wi (X + W) (by omega) (by omega)
      have wy := wi (Y + H) (by omega) (by omega)
      rw [hp, Bool.false_or] at hct
      cases d with
      | true =>
        simp only [if_true] at hct hpt hcm
        by_cases hm : X < t ∧ t < X + W
        · have hcr := hcm hm
          unfold partV
          rw [if_pos hcr]
          simp +contextual -implicitDefEqProofs (maxSteps := 10000000) only [go_sem, seval, ↓gA, ↓gB, ↓gC, ↓gD, ↓gE, ↓gF, hx, hlt, hw, wx, wy, opOf, hm, ← Bool.decide_and]
        · rw [decide_eq_false hm] at hct
          by_cases hf : f = decide (X + W ≤ t)
          · have hg : (f == decide (X + W ≤ t)) = true := by rw [hf]; simp
            rw [if_pos hf] at hpt
            simp +contextual -implicitDefEqProofs (maxSteps := 10000000) only [go_sem, seval, ↓gA, ↓gB, ↓gC, ↓gD, ↓gE, ↓gF, hx, hlt, hw, wx, wy, opOf, hm, bb, hg, hr, ← Bool.decide_and]
            refine ih (i + 1) _ ⟨by omega, hct⟩ (by omega) ?_
            rw [hpt]
            simp +contextual -implicitDefEqProofs (maxSteps := 10000000) only [go_sem, seval, ↓gA, ↓gB, ↓gC, ↓gD, ↓gE, ↓gF, opOf, List.map_append]
          · have hg : (f == decide (X + W ≤ t)) = false := by simpa using hf
            rw [if_neg hf] at hpt
            simp +contextual -implicitDefEqProofs (maxSteps := 10000000) only [go_sem, seval, ↓gA, ↓gB, ↓gC, ↓gD, ↓gE, ↓gF, hx, hlt, hw, wx, wy, opOf, hm, bb, hg, ← Bool.decide_and]
            refine ih (i + 1) _ ⟨by omega, hct⟩ (by omega) ?_
            rw [hpt]
            simp +contextual -implicitDefEqProofs (maxSteps := 10000000) only [go_sem, seval, ↓gA, ↓gB, ↓gC, ↓gD, ↓gE, ↓gF, opOf, List.append_nil]
      | false =>
        simp only [Bool.false_eq_true, if_false] at hct hpt hcm
        by_cases hm : Y < t ∧ t < Y + H
        · have hcr := hcm hm
          unfold partV
          rw [if_pos hcr]
          simp +contextual -implicitDefEqProofs (maxSteps := 10000000) only [go_sem, seval, ↓gA, ↓gB, ↓gC, ↓gD, ↓gE, ↓gF, hx, hlt, hw, wx, wy, opOf, hm, ← Bool.decide_and]
        · rw [decide_eq_false hm] at hct
          by_cases hf : f = decide (Y + H ≤ t)
          · have hg : (f == decide (Y + H ≤ t)) = true := by rw [hf]; simp
            rw [if_pos hf] at hpt
            simp +contextual -implicitDefEqProofs (maxSteps := 10000000) only [go_sem, seval, ↓gA, ↓gB, ↓gC, ↓gD, ↓gE, ↓gF, hx, hlt, hw, wx, wy, opOf, hm, bb, hg, hr, ← Bool.decide_and]
            refine ih (i + 1) _ ⟨by omega, hct⟩ (by omega) ?_
            rw [hpt]
            simp +contextual -implicitDefEqProofs (maxSteps := 10000000) only [go_sem, seval, ↓gA, ↓gB, ↓gC, ↓gD, ↓gE, ↓gF, opOf, List.map_append]
          · have hg : (f == decide (Y + H ≤ t)) = false := by simpa using hf
            rw [if_neg hf] at hpt
            simp +contextual -implicitDefEqProofs (maxSteps := 10000000) only [go_sem, seval, ↓gA, ↓gB, ↓gC, ↓gD, ↓gE, ↓gF, hx, hlt, hw, wx, wy, opOf, hm, bb, hg, ← Bool.decide_and]
            refine ih (i + 1) _ ⟨by omega, hct⟩ (by omega) ?_
            rw [hpt]
            simp +contextual -implicitDefEqProofs (maxSteps := 10000000) only [go_sem, seval, ↓gA, ↓gB, ↓gC, ↓gD, ↓gE, ↓gF, opOf, List.append_nil]
    · have : i = l.length := by omega
      subst this
      rw [List.take_of_length_le (Nat.le_refl _)] at hp
      unfold partV
      rw [if_neg (by rw [hp]; simp)]
      simp +contextual -implicitDefEqProofs (maxSteps := 10000000) only [go_sem, seval, ↓gA, ↓gB, ↓gC, ↓gD, ↓gE, ↓gF, List.take_length]
theorem s_bothG_ev (A B : List L.Place) (bX : Int) (bY : Int) (bW : Int) (bH : Int) (d : Bool) (a : Int) (l r : Option BT) (hb : VB (Box.mk bX bY bW bH)) (ha : 0 ≤ a ∧ a ≤ 400)
    (hl : vcall Xs Ms n_s_planFor [(.d (.sl (A.map Place.enc))), .d (lowB d (Box.mk bX bY bW bH) a).enc] [] = some (plV l))
    (hr : vcall Xs Ms n_s_planFor [(.d (.sl (B.map Place.enc))), .d (highB d (Box.mk bX bY bW bH) a).enc] [] = some (plV r)) :
    vcall Xs Ms n_s_bothSides [(.d (.sl (A.map Place.enc))), (.d (.sl (B.map Place.enc))), (.d (.agg [.int .i64 bX, .int .i64 bY, .int .i64 bW, .int .i64 bH])), (.d (.int .i64 (opOf d))), (.d (.int .i64 (a)))] [] = some (plV (bothL d a l r)) := by
  simp only [VB] at hb
  have w1 := wi (bX + a) (by omega) (by omega)
  have w2 := wi (bY + a) (by omega) (by omega)
  have w3 := wi (bW - a) (by omega) (by omega)
  have w4 := wi (bH - a) (by omega) (by omega)
  have hpl : ∀ b : BT, ∃ o a q t ks, b.plan = .mk o a q t ks := fun b => by cases b.plan; exact ⟨_, _, _, _, _, rfl⟩
  cases l with
  | none =>
    cases r with
    | none =>
      simp only [bothL, plV] at hl hr ⊢
      cases d <;> simp only [lowB, highB, Box.enc, opOf, if_true, Bool.false_eq_true, if_false] at hl hr ⊢
      · refine callE Xs Ms f_s_bothSides x_s_bothSides (by show 5 ≤ _; decide) ?_
        simp +contextual -implicitDefEqProofs (maxSteps := 10000000) only [go_sem, seval, ↓gA, ↓gB, ↓gC, ↓gD, ↓gE, ↓gF, f_s_bothSides, w1, w2, w3, w4, hl, hr]
      · refine callE Xs Ms f_s_bothSides x_s_bothSides (by show 5 ≤ _; decide) ?_
        simp +contextual -implicitDefEqProofs (maxSteps := 10000000) only [go_sem, seval, ↓gA, ↓gB, ↓gC, ↓gD, ↓gE, ↓gF, f_s_bothSides, w1, w2, w3, w4, hl, hr]
    | some q =>
      obtain ⟨ro, ra, rq, rt, rk, er⟩ := hpl q
      simp only [bothL, plV, er] at hl hr ⊢
      cases d <;> simp only [lowB, highB, Box.enc, opOf, if_true, Bool.false_eq_true, if_false] at hl hr ⊢
      · refine callE Xs Ms f_s_bothSides x_s_bothSides (by show 5 ≤ _; decide) ?_
        simp +contextual -implicitDefEqProofs (maxSteps := 10000000) only [go_sem, seval, ↓gA, ↓gB, ↓gC, ↓gD, ↓gE, ↓gF, f_s_bothSides, w1, w2, w3, w4, hl, hr]
      · refine callE Xs Ms f_s_bothSides x_s_bothSides (by show 5 ≤ _; decide) ?_
        simp +contextual -implicitDefEqProofs (maxSteps := 10000000) only [go_sem, seval, ↓gA, ↓gB, ↓gC, ↓gD, ↓gE, ↓gF, f_s_bothSides, w1, w2, w3, w4, hl, hr]
  | some p =>
    obtain ⟨lo, la, lq, lt, lk, el⟩ := hpl p
    cases r with
    | none =>
      simp only [bothL, plV, el] at hl hr ⊢
      cases d <;> simp only [lowB, highB, Box.enc, opOf, if_true, Bool.false_eq_true, if_false] at hl hr ⊢
      · refine callE Xs Ms f_s_bothSides x_s_bothSides (by show 5 ≤ _; decide) ?_
        simp +contextual -implicitDefEqProofs (maxSteps := 10000000) only [go_sem, seval, ↓gA, ↓gB, ↓gC, ↓gD, ↓gE, ↓gF, f_s_bothSides, w1, w2, w3, w4, hl, hr]
      · refine callE Xs Ms f_s_bothSides x_s_bothSides (by show 5 ≤ _; decide) ?_
        simp +contextual -implicitDefEqProofs (maxSteps := 10000000) only [go_sem, seval, ↓gA, ↓gB, ↓gC, ↓gD, ↓gE, ↓gF, f_s_bothSides, w1, w2, w3, w4, hl, hr]
    | some q =>
      obtain ⟨ro, ra, rq, rt, rk, er⟩ := hpl q
      simp only [bothL, plV, BT.plan, el, er] at hl hr ⊢
      cases d <;> simp only [lowB, highB, Box.enc, opOf, if_true, Bool.false_eq_true, if_false] at hl hr ⊢
      · refine callE Xs Ms f_s_bothSides x_s_bothSides (by show 5 ≤ _; decide) ?_
        simp +contextual -implicitDefEqProofs (maxSteps := 10000000) only [go_sem, seval, ↓gA, ↓gB, ↓gC, ↓gD, ↓gE, ↓gF, f_s_bothSides, w1, w2, w3, w4, hl, hr]
      · refine callE Xs Ms f_s_bothSides x_s_bothSides (by show 5 ≤ _; decide) ?_
        simp +contextual -implicitDefEqProofs (maxSteps := 10000000) only [go_sem, seval, ↓gA, ↓gB, ↓gC, ↓gD, ↓gE, ↓gF, f_s_bothSides, w1, w2, w3, w4, hl, hr]

theorem find_drop {l : List Int} {p : Int → Bool} {k : Nat} {x : Int} (hx : l[k]? = some x) : (l.drop k).find? p = if p x = true then some x else (l.drop (k + 1)).find? p := by
  obtain ⟨h1, h2⟩ := List.getElem?_eq_some_iff.1 hx
  rw [List.drop_eq_getElem_cons h1, h2, List.find?_cons]
  cases p x <;> rfl
theorem planL_cut {n : Nat} {c : L.Place} {r : List L.Place} {b : Box} {d : Bool} {x : Int} (hn : ¬ (r = [] ∧ c.Box = b)) (h : cutAt (c :: r) b = some (d, x)) :
    planL (n + 1) (c :: r) b = bothL d (x - loP d b) (planL n (partL d (c :: r) x true) (lowB d b (x - loP d b))) (planL n (partL d (c :: r) x false) (highB d b (x - loP d b))) := by
  rw [planL, if_neg hn, h]
theorem planL_no {n : Nat} {c : L.Place} {r : List L.Place} {b : Box} (hn : ¬ (r = [] ∧ c.Box = b)) (h : cutAt (c :: r) b = none) : planL (n + 1) (c :: r) b = none := by
  rw [planL, if_neg hn, h]
theorem plV_some (b : BT) : ∃ o a q t ks, b.plan = .mk o a q t ks := by cases b.plan; exact ⟨_, _, _, _, _, rfl⟩
theorem cut_size {b : Box} {d : Bool} {x : Int} (hb : VB b) (hx : loP d b < x ∧ x < hiP d b) :
    ((lowB d b (x - loP d b)).W + (lowB d b (x - loP d b)).H).toNat < (b.W + b.H).toNat ∧ ((highB d b (x - loP d b)).W + (highB d b (x - loP d b)).H).toNat < (b.W + b.H).toNat := by
  simp only [VB] at hb
  cases d <;> simp only [loP, hiP, lowB, highB, if_true, Bool.false_eq_true, if_false] at hx ⊢ <;> omega
theorem partL_len (d : Bool) (l : List L.Place) (t : Int) (f : Bool) : (partL d l t f).length ≤ l.length := List.length_filter_le _ _
theorem s_planForG_ev : ∀ (n : Nat) (l : List L.Place) (bX : Int) (bY : Int) (bW : Int) (bH : Int), VB (Box.mk bX bY bW bH) → InL l (Box.mk bX bY bW bH) → (bW + bH).toNat ≤ n → l.length ≤ 1000 → vcall Xs Ms n_s_planFor [(.d (.sl (l.map Place.enc))), (.d (.agg [.int .i64 bX, .int .i64 bY, .int .i64 bW, .int .i64 bH]))] [] = some (plV (planL n l (Box.mk bX bY bW bH))) := by
  intro n
  induction n with
  | zero =>
    intro l bX bY bW bH hb _ hn _
    simp only [VB] at hb
    omega
  | succ n IH =>
    intro l bX bY bW bH hb hl hn hlen
    cases l with
    | nil =>
      simp only [planL, plV, BT.plan, List.map_nil]
      refine callE Xs Ms f_s_planFor x_s_planFor (by show 2 ≤ _; decide) ?_
      simp +contextual -implicitDefEqProofs (maxSteps := 10000000) only [go_sem, seval, ↓gA, ↓gB, ↓gC, ↓gD, ↓gE, ↓gF, f_s_planFor]
    | cons c r =>
      have hcV : ∀ y ∈ c :: r, VB y.Box := fun y hy => (hl y hy).1
      by_cases hp : r = [] ∧ c.Box = (Box.mk bX bY bW bH)
      · obtain ⟨rfl, hcb⟩ := hp
        obtain ⟨P, T, ⟨X, Y, W, H⟩⟩ := c
        simp only at hcb
        have hpl : planL (n + 1) [⟨P, T, ⟨X, Y, W, H⟩⟩] (Box.mk bX bY bW bH) = some (.pane P T) := by rw [planL, if_pos ⟨rfl, hcb⟩]
        rw [hpl]
        simp only [Box.mk.injEq] at hcb
        obtain ⟨rfl, rfl, rfl, rfl⟩ := hcb
        simp only [plV, BT.plan]
        refine callE Xs Ms f_s_planFor x_s_planFor (by show 2 ≤ _; decide) ?_
        simp +contextual -implicitDefEqProofs (maxSteps := 10000000) only [go_sem, seval, ↓gA, ↓gB, ↓gC, ↓gD, ↓gE, ↓gF, f_s_planFor]
      · have hbv := hb
        simp only [VB] at hb
        have hne : (r = [] → ¬ (c.Box.X = bX ∧ c.Box.Y = bY ∧ c.Box.W = bW ∧ c.Box.H = bH)) := fun e h => hp ⟨e, by cases hcB : c.Box; rw [hcB] at h; obtain ⟨h1, h2, h3, h4⟩ := h; simp only at h1 h2 h3 h4; rw [h1, h2, h3, h4]⟩
        have e1 := s_edgesG_ev (c :: r) true bX (bX + bW)
        have e2 := s_edgesG_ev (c :: r) false bY (bY + bH)
        have hbs : ∀ d x, cutAt (c :: r) (Box.mk bX bY bW bH) = some (d, x) → vcall Xs Ms n_s_bothSides [.d (.sl ((partL d (c :: r) x true).map Place.enc)), .d (.sl ((partL d (c :: r) x false).map Place.enc)), (.d (.agg [.int .i64 bX, .int .i64 bY, .int .i64 bW, .int .i64 bH])), (.d (.int .i64 (opOf d))), (.d (.int .i64 (x - loP d (Box.mk bX bY bW bH))))] [] = some (plV (planL (n + 1) (c :: r) (Box.mk bX bY bW bH))) := fun d x h => by
          obtain ⟨h1, h2, h3⟩ := cutAt_some h
          obtain ⟨⟨g1, g2⟩, g3, g4⟩ := InL_low hbv hl ⟨h1, h2⟩ h3
          obtain ⟨s1, s2⟩ := cut_size hbv ⟨h1, h2⟩
          rw [planL_cut hp h]
          simp only at s1 s2
          refine s_bothG_ev _ _ bX bY bW bH d _ _ _ hbv (by cases d <;> simp only [loP, hiP, if_true, Bool.false_eq_true, if_false] at h1 h2 ⊢ <;> omega) ?_ ?_
          · exact IH _ _ _ _ _ g1 g2 (by omega) (Nat.le_trans (partL_len _ _ _ _) hlen)
          · exact IH _ _ _ _ _ g3 g4 (by omega) (Nat.le_trans (partL_len _ _ _ _) hlen)
        have pT := fun d t => s_partG_ev (c :: r) d t true hlen hcV
        have pF := fun d t => s_partG_ev (c :: r) d t false hlen hcV
        have w1 := wi (bX + bW) (by omega) (by omega)
        have w2 := wi (bY + bH) (by omega) (by omega)
        have hn1 : (bX + bW - bX - 1).toNat = (bW - 1).toNat := by omega
        have hn2 : (bY + bH - bY - 1).toNat = (bH - 1).toNat := by omega
        have E1 := e1 hlen hcV (by omega) (by omega) (by omega)
        have E2 := e2 hlen hcV (by omega) (by omega) (by omega)
        rw [hn1] at E1
        rw [hn2] at E2
        have F1 := edgeG_find (d := true) (l := c :: r) (fr := bX) (bW - 1).toNat
        have F2 := edgeG_find (d := false) (l := c :: r) (fr := bY) (bH - 1).toNat
        have L1 := edgeG_len (d := true) (l := c :: r) (fr := bX) (bW - 1).toNat
        have L2 := edgeG_len (d := false) (l := c :: r) (fr := bY) (bH - 1).toNat
        have B1 := fun x => @edgeG_lt true (c :: r) bX (bW - 1).toNat x
        have B2 := fun x => @edgeG_lt false (c :: r) bY (bH - 1).toNat x
        generalize hG1 : edgeG true (c :: r) bX (bW - 1).toNat = G1 at E1 F1 L1 B1
        generalize hG2 : edgeG false (c :: r) bY (bH - 1).toNat = G2 at E2 F2 L2 B2
        have hcut : cutAt (c :: r) (Box.mk bX bY bW bH) = match G1.find? (fun x => !crs true (c :: r) x) with
          | some x => some (true, x)
          | none => match G2.find? (fun x => !crs false (c :: r) x) with
            | some y => some (false, y)
            | none => none := by unfold cutAt; rw [F1, F2] <;> rfl
        have hno := @planL_no n c r (Box.mk bX bY bW bH) hp
        generalize hX : planL (n + 1) (c :: r) (Box.mk bX bY bW bH) = X at hbs hno ⊢
        clear hX F1 F2 e1 e2 IH hl
        generalize hl : c :: r = l at *
        have hlenp : 1 ≤ l.length := by rw [← hl]; simp
        have hl0 : ¬ (l.length : Int) = 0 := by omega
        have hfst : l[0]? = some c := by rw [← hl]; rfl
        have hone : (l.length : Int) = 1 → ¬ (c.Box.X = bX ∧ c.Box.Y = bY ∧ c.Box.W = bW ∧ c.Box.H = bH) := fun h => hne (by
          rw [← hl] at h
          cases r with
          | nil => rfl
          | cons y r => simp only [List.length_cons] at h; omega)
        clear hl hne hp
        obtain ⟨P, T, ⟨cX, cY, cW, cH⟩⟩ := c
        simp only at hone
        have hl0' : 0 < l.length := by omega
        have hcond : ¬ ((l.length : Int) = 1 ∧ cX = bX ∧ cY = bY ∧ cW = bW ∧ cH = bH) := fun h => hone h.1 h.2
        simp only [opOf, if_true, Bool.false_eq_true, if_false] at E1 E2
        refine callE Xs Ms f_s_planFor x_s_planFor (by show 2 ≤ _; decide) ?_
        simp +contextual -implicitDefEqProofs (maxSteps := 10000000) only [go_sem, seval, ↓gA, ↓gB, ↓gC, ↓gD, ↓gE, ↓gF, f_s_planFor, hl0, hfst, hl0', hcond, ← Bool.decide_and]
        refine LW_round Xs Ms ?_
        simp +contextual -implicitDefEqProofs (maxSteps := 10000000) only [go_sem, seval, ↓gA, ↓gB, ↓gC, ↓gD, ↓gE, ↓gF, w1, E1]
        refine LW_over Xs Ms (st0 := ?sa) (α := Nat) (fun i => [(10, .d (.int .i64 (i : Int)))]) (fun _ => []) (fun i => i ≤ G1.length ∧ (G1.drop i).find? (fun x => !crs true l x) = G1.find? (fun x => !crs true l x)) (fun i => G1.length - i) 0 ?ha1 ⟨by omega, by simp⟩ ?ha2 ?ha3
        case ha1 => simp +contextual -implicitDefEqProofs (maxSteps := 10000000) only [go_sem, seval, ↓gA, ↓gB, ↓gC, ↓gD, ↓gE, ↓gF] <;> exact rfl
        case ha2 => rfl
        case ha3 =>
          intro i ⟨hi, hq⟩ ih
          by_cases hil : i < G1.length
          · obtain ⟨x, hx⟩ := get_lt hil
            have hw := wrap_succ (k := i) (by omega)
            rw [find_drop hx] at hq
            have hxb := B1 x (List.mem_of_getElem? hx)
            have w3 := wi (x - bX) (by omega) (by omega)
            have p1 := pT true x
            have p2 := pF true x
            unfold partV at p1 p2
            by_cases hcr : crs true l x = true
            · rw [if_pos hcr] at p1
              rw [if_neg (by simp [hcr])] at hq
              simp only [opOf, if_true, Bool.false_eq_true, if_false] at p1
              simp +contextual -implicitDefEqProofs (maxSteps := 10000000) only [go_sem, seval, ↓gA, ↓gB, ↓gC, ↓gD, ↓gE, ↓gF, hil, hx, hw, p1]
              refine ih (i + 1) _ ⟨by omega, hq⟩ (by omega) ?_
              simp +contextual -implicitDefEqProofs (maxSteps := 10000000) only [go_sem, seval, ↓gA, ↓gB, ↓gC, ↓gD, ↓gE, ↓gF]
            · rw [if_neg hcr] at p1 p2
              rw [if_pos (by simpa using hcr)] at hq
              have hb1 := hbs true x (by rw [hcut, ← hq])
              simp only [opOf, loP, if_true, Bool.false_eq_true, if_false] at p1 p2 hb1
              cases X with
              | none =>
                unfold plV at hb1 ⊢
                simp +contextual -implicitDefEqProofs (maxSteps := 10000000) only [go_sem, seval, ↓gA, ↓gB, ↓gC, ↓gD, ↓gE, ↓gF, hil, hx, hw, p1, p2, w3, hb1]
              | some q =>
                obtain ⟨qo, qa, qq, qt, qk, eq⟩ := plV_some q
                simp only [plV, eq] at hb1 ⊢
                simp +contextual -implicitDefEqProofs (maxSteps := 10000000) only [go_sem, seval, ↓gA, ↓gB, ↓gC, ↓gD, ↓gE, ↓gF, hil, hx, hw, p1, p2, w3, hb1]
          · have : i = G1.length := by omega
            subst this
            have hf1 : G1.find? (fun x => !crs true l x) = none := by rw [← hq]; simp
            simp +contextual -implicitDefEqProofs (maxSteps := 10000000) only [go_sem, seval, ↓gA, ↓gB, ↓gC, ↓gD, ↓gE, ↓gF]
            refine LW_round Xs Ms ?_
            simp +contextual -implicitDefEqProofs (maxSteps := 10000000) only [go_sem, seval, ↓gA, ↓gB, ↓gC, ↓gD, ↓gE, ↓gF, w1, w2, E2]
            refine LW_over Xs Ms (st0 := ?sb) (α := Nat) (fun i => [(10, .d (.int .i64 (i : Int)))]) (fun _ => []) (fun i => i ≤ G2.length ∧ (G2.drop i).find? (fun x => !crs false l x) = G2.find? (fun x => !crs false l x)) (fun i => G2.length - i) 0 ?hb1 ⟨by omega, by simp⟩ ?hb2 ?hb3
            case hb1 => simp +contextual -implicitDefEqProofs (maxSteps := 10000000) only [go_sem, seval, ↓gA, ↓gB, ↓gC, ↓gD, ↓gE, ↓gF] <;> exact rfl
            case hb2 => rfl
            case hb3 =>
              intro i ⟨hi, hq⟩ ih
              by_cases hil : i < G2.length
              · obtain ⟨x, hx⟩ := get_lt hil
                have hw := wrap_succ (k := i) (by omega)
                rw [find_drop hx] at hq
                have hxb := B2 x (List.mem_of_getElem? hx)
                have w3 := wi (x - bY) (by omega) (by omega)
                have p1 := pT false x
                have p2 := pF false x
                unfold partV at p1 p2
                by_cases hcr : crs false l x = true
                · rw [if_pos hcr] at p1
                  rw [if_neg (by simp [hcr])] at hq
                  simp only [opOf, if_true, Bool.false_eq_true, if_false] at p1
                  simp +contextual -implicitDefEqProofs (maxSteps := 10000000) only [go_sem, seval, ↓gA, ↓gB, ↓gC, ↓gD, ↓gE, ↓gF, hil, hx, hw, p1]
                  refine ih (i + 1) _ ⟨by omega, hq⟩ (by omega) ?_
                  simp +contextual -implicitDefEqProofs (maxSteps := 10000000) only [go_sem, seval, ↓gA, ↓gB, ↓gC, ↓gD, ↓gE, ↓gF]
                · rw [if_neg hcr] at p1 p2
                  rw [if_pos (by simpa using hcr)] at hq
                  have hb1 := hbs false x (by rw [hcut, hf1, ← hq])
                  simp only [opOf, loP, if_true, Bool.false_eq_true, if_false] at p1 p2 hb1
                  cases X with
                  | none =>
                    unfold plV at hb1 ⊢
                    simp +contextual -implicitDefEqProofs (maxSteps := 10000000) only [go_sem, seval, ↓gA, ↓gB, ↓gC, ↓gD, ↓gE, ↓gF, hil, hx, hw, p1, p2, w3, hb1]
                  | some q =>
                    obtain ⟨qo, qa, qq, qt, qk, eq⟩ := plV_some q
                    simp only [plV, eq] at hb1 ⊢
                    simp +contextual -implicitDefEqProofs (maxSteps := 10000000) only [go_sem, seval, ↓gA, ↓gB, ↓gC, ↓gD, ↓gE, ↓gF, hil, hx, hw, p1, p2, w3, hb1]
              · have : i = G2.length := by omega
                subst this
                have hf2 : G2.find? (fun x => !crs false l x) = none := by rw [← hq]; simp
                have hX := hno (by rw [hcut, hf1, hf2])
                subst hX
                unfold plV
                have w4 := wi 4 (by omega) (by omega)
                simp +contextual -implicitDefEqProofs (maxSteps := 10000000) only [go_sem, seval, ↓gA, ↓gB, ↓gC, ↓gD, ↓gE, ↓gF, w4]
                refine LW_round Xs Ms ?_
                simp +contextual -implicitDefEqProofs (maxSteps := 10000000) only [go_sem, seval, ↓gA, ↓gB, ↓gC, ↓gD, ↓gE, ↓gF]

end Go.Proofs.Ytdkieppaodnilaa
