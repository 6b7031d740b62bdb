/- Contracts of the functions, by the abstract semantics. -/
import Derived.Test.YtdkieppaodnilaaACode
import Derived.Test.YtdkieppaodnilaaAbsParts
import Derived.Test.YtdkieppaodnilaaAC3
namespace Go.Proofs.Ytdkieppaodnilaa
open Go Go.Abs Go.Abs.E Go.Abs.L
open Nat (reduceMul reduceSub reduceLeDiff reduceEqDiff)
open Int (reduceLE reduceEq reduceToNat reduceNeg)
set_option linter.unusedSimpArgs false
set_option linter.unusedVariables false
set_option maxRecDepth 20000
set_option maxHeartbeats 4000000
def spanE (d : Bool) (c : L.Place) : D := .agg [.int .i64 (loP d c.Box), .int .i64 (hiP d c.Box)]
@[go_sem] theorem uni_span (d : Bool) (l : List L.Place) : uni 2 (l.map (spanE d)) = True := eq_true (uni_map l fun _ => rfl)
@[go_sem] theorem flat_span (d : Bool) (l : List L.Place) : flatAll (l.map (spanE d)) = True := eq_true (flat_map l fun _ => rfl)
theorem i_spanOf_ev (bX : Int) (bY : Int) (bW : Int) (bH : Int) (d : Bool) (h1 : R64 (bX + bW)) (h2 : R64 (bY + bH)) : vcall Xs Ms n_i_spanOf [(.d (.agg [.int .i64 bX, .int .i64 bY, .int .i64 bW, .int .i64 bH])), (.d (.bool (d)))] [] = some (.d (.agg [.int .i64 (loP d (Box.mk bX bY bW bH)), .int .i64 (hiP d (Box.mk bX bY bW bH))]), []) := by
  have w1 := wi (bX + bW) h1.1 h1.2
  have w2 := wi (bY + bH) h2.1 h2.2
  cases d
  · simp only [loP, hiP, Bool.false_eq_true, if_false]
    refine callE Xs Ms f_i_spanOf x_i_spanOf (by show 2 ≤ _; decide) ?_
    simp +contextual -implicitDefEqProofs (maxSteps := 10000000) only [go_sem, seval, ↓gA, ↓gB, ↓gC, ↓gD, ↓gE, ↓gF, f_i_spanOf, w1, w2]
  · simp only [loP, hiP, if_true]
    refine callE Xs Ms f_i_spanOf x_i_spanOf (by show 2 ≤ _; decide) ?_
    simp +contextual -implicitDefEqProofs (maxSteps := 10000000) only [go_sem, seval, ↓gA, ↓gB, ↓gC, ↓gD, ↓gE, ↓gF, f_i_spanOf, w1, w2]
def cutV : Option Int → AV × List AObj
  | some x => (.tup [(.d (.int .i64 (x))), (.d (.bool (true)))], [])
  | none => (.tup [(.d (.int .i64 (0))), (.d (.bool (false)))], [])
theorem i_leastCut_ev (l : List L.Place) (d : Bool) (fr to : Int) (hl : l.length ≤ 1000) (h0 : 0 ≤ fr) (h1 : fr < to) (h2 : to ≤ 1000) : vcall Xs Ms n_i_leastCut [.d (.sl (l.map (spanE d))), .d (.agg [.int .i64 fr, .int .i64 to])] [] = some (cutV (cutG d l fr (to - fr - 1).toNat)) := by
  have w0 := wi (fr + 1) (by omega) (by omega)
  refine callE Xs Ms f_i_leastCut x_i_leastCut (by show 2 ≤ _; decide) ?_
  simp +contextual -implicitDefEqProofs (maxSteps := 10000000) only [go_sem, seval, ↓gA, ↓gB, ↓gC, ↓gD, ↓gE, ↓gF, f_i_leastCut, w0]
  refine LW_over Xs Ms (st0 := ?st0) (α := Nat) (fun n => [(6, .d (.int .i64 (fr + 1 + (n : Int))))]) (fun _ => []) (fun n => (n : Int) ≤ to - fr - 1 ∧ cutG d l fr n = none) (fun n => (to - fr - 1).toNat - n) 0 ?hc ⟨by omega, rfl⟩ ?h0 ?step
  case hc => simp +contextual -implicitDefEqProofs (maxSteps := 10000000) only [go_sem, seval, ↓gA, ↓gB, ↓gC, ↓gD, ↓gE, ↓gF] <;> exact rfl
  case h0 => simp only [Int.natCast_zero, Int.add_zero]; rfl
  case step =>
    intro n ⟨hn, hp⟩ ih
    by_cases hlt : fr + 1 + (n : Int) < to
    · have wt := wi (fr + 1 + (n : Int) + 1) (by omega) (by omega)
      have hwn : fr + 1 + ((n + 1 : Nat) : Int) = fr + 1 + (n : Int) + 1 := by omega
      have hsucc : cutG d l fr (n + 1) = if tch d l (fr + 1 + n) = true ∧ crs d l (fr + 1 + n) = false then some (fr + 1 + (n : Int)) else none := by rw [cutG, hp]
      have hstay : ∀ k, cutG d l fr (n + 1) = some (fr + 1 + (n : Int)) → cutG d l fr (n + 1 + k) = some (fr + 1 + (n : Int)) := by
        intro k h
        induction k with
        | zero => exact h
        | succ k ihk => rw [show n + 1 + (k + 1) = (n + 1 + k) + 1 by omega, cutG, ihk]
      have hk : (to - fr - 1).toNat = n + 1 + ((to - fr - 1).toNat - (n + 1)) := by omega
      generalize ht : fr + 1 + (n : Int) = t at *
      simp +contextual -implicitDefEqProofs (maxSteps := 10000000) only [go_sem, seval, ↓gA, ↓gB, ↓gC, ↓gD, ↓gE, ↓gF, hlt]
      refine LW_over Xs Ms (st0 := ?st1) (α := Nat) (fun i => [(22, .d (.int .i64 (i : Int))), (8, .d (.bool (crs d (l.take i) t))), (7, .d (.bool (tch d (l.take i) t)))]) (fun _ => []) (fun i => i ≤ l.length) (fun i => l.length - i) 0 ?hc2 (by omega) ?h02 ?step2
      case hc2 => simp +contextual -implicitDefEqProofs (maxSteps := 10000000) only [go_sem, seval, ↓gA, ↓gB, ↓gC, ↓gD, ↓gE, ↓gF] <;> exact rfl
      case h02 => rfl
      case step2 =>
        intro i hi ih2
        by_cases hil : i < l.length
        · obtain ⟨c, hx⟩ := get_lt hil
          have hw := wrap_succ (k := i) (by omega)
          have htk := tch_take (d := d) (t := t) hx
          have hck := crs_take (d := d) (t := t) hx
          have hsx : (l.map (spanE d))[i]? = some (.agg [.int .i64 (loP d c.Box), .int .i64 (hiP d c.Box)]) := by rw [List.getElem?_map, hx]; rfl
          generalize loP d c.Box = a at htk hck hsx
          generalize hiP d c.Box = b at htk hck hsx
          generalize tch d (l.take i) t = T at htk ⊢
          generalize crs d (l.take i) t = C at hck ⊢
          by_cases hm : a = t ∨ b = t
          · rw [decide_eq_true (show t = a ∨ t = b by omega), Bool.or_true] at htk
            by_cases hq : a < t ∧ t < b
            · rw [decide_eq_true hq, Bool.or_true] at hck
              simp +contextual -implicitDefEqProofs (maxSteps := 10000000) only [go_sem, seval, ↓gA, ↓gB, ↓gC, ↓gD, ↓gE, ↓gF, hsx, hil, hw, hm, hq, List.length_map, ← Bool.decide_or, ← Bool.decide_and]
              refine ih2 (i + 1) _ (by omega) (by omega) ?_
              rw [htk, hck]
              simp +contextual -implicitDefEqProofs (maxSteps := 10000000) only [go_sem, seval, ↓gA, ↓gB, ↓gC, ↓gD, ↓gE, ↓gF, List.length_map]
            · rw [decide_eq_false hq, Bool.or_false] at hck
              simp +contextual -implicitDefEqProofs (maxSteps := 10000000) only [go_sem, seval, ↓gA, ↓gB, ↓gC, ↓gD, ↓gE, ↓gF, hsx, hil, hw, hm, hq, List.length_map, ← Bool.decide_or, ← Bool.decide_and]
              refine ih2 (i + 1) _ (by omega) (by omega) ?_
              rw [htk, hck]
              simp +contextual -implicitDefEqProofs (maxSteps := 10000000) only [go_sem, seval, ↓gA, ↓gB, ↓gC, ↓gD, ↓gE, ↓gF, List.length_map]
          · rw [decide_eq_false (show ¬ (t = a ∨ t = b) by omega), Bool.or_false] at htk
            by_cases hq : a < t ∧ t < b
            · rw [decide_eq_true hq, Bool.or_true] at hck
              simp +contextual -implicitDefEqProofs (maxSteps := 10000000) only [go_sem, seval, ↓gA, ↓gB, ↓gC, ↓gD, ↓gE, ↓gF, hsx, hil, hw, hm, hq, List.length_map, ← Bool.decide_or, ← Bool.decide_and]
              refine ih2 (i + 1) _ (by omega) (by omega) ?_
              rw [htk, hck]
              simp +contextual -implicitDefEqProofs (maxSteps := 10000000) only [go_sem, seval, ↓gA, ↓gB, ↓gC, ↓gD, ↓gE, ↓gF, List.length_map]
            · rw [decide_eq_false hq, Bool.or_false] at hck
              simp +contextual -implicitDefEqProofs (maxSteps := 10000000) only [go_sem, seval, ↓gA, ↓gB, ↓gC, ↓gD, ↓gE, ↓gF, hsx, hil, hw, hm, hq, List.length_map, ← Bool.decide_or, ← Bool.decide_and]
              refine ih2 (i + 1) _ (by omega) (by omega) ?_
              rw [htk, hck]
              simp +contextual -implicitDefEqProofs (maxSteps := 10000000) only [go_sem, seval, ↓gA, ↓gB, ↓gC, ↓gD, ↓gE, ↓gF, List.length_map]
        · have : i = l.length := by omega
          subst this
          rw [List.take_of_length_le (Nat.le_refl _)]
          by_cases hfin : tch d l t = true ∧ crs d l t = false
          · rw [if_pos hfin] at hsucc
            rw [hk, hstay _ hsucc]
            rw [hfin.1, hfin.2]
            unfold cutV
            simp +contextual -implicitDefEqProofs (maxSteps := 10000000) only [go_sem, seval, ↓gA, ↓gB, ↓gC, ↓gD, ↓gE, ↓gF]
          · rw [if_neg hfin] at hsucc
            have hcase : (tch d l t = false) ∨ (tch d l t = true ∧ crs d l t = true) := by
              cases h1 : tch d l t
              · exact .inl rfl
              · refine .inr ⟨rfl, ?_⟩
                cases h2 : crs d l t
                · exact absurd ⟨h1, h2⟩ hfin
                · rfl
            rcases hcase with h1 | ⟨h1, h2⟩
            · rw [h1]
              simp +contextual -implicitDefEqProofs (maxSteps := 10000000) only [go_sem, seval, ↓gA, ↓gB, ↓gC, ↓gD, ↓gE, ↓gF, wt]
              refine ih (n + 1) _ ⟨by omega, hsucc⟩ (by omega) ?_
              simp +contextual -implicitDefEqProofs (maxSteps := 10000000) only [go_sem, seval, ↓gA, ↓gB, ↓gC, ↓gD, ↓gE, ↓gF, hwn]
            · rw [h1, h2]
              simp +contextual -implicitDefEqProofs (maxSteps := 10000000) only [go_sem, seval, ↓gA, ↓gB, ↓gC, ↓gD, ↓gE, ↓gF, wt]
              refine ih (n + 1) _ ⟨by omega, hsucc⟩ (by omega) ?_
              simp +contextual -implicitDefEqProofs (maxSteps := 10000000) only [go_sem, seval, ↓gA, ↓gB, ↓gC, ↓gD, ↓gE, ↓gF, hwn]
    · have : (to - fr - 1).toNat = n := by omega
      rw [this, hp]
      unfold cutV
      simp +contextual -implicitDefEqProofs (maxSteps := 10000000) only [go_sem, seval, ↓gA, ↓gB, ↓gC, ↓gD, ↓gE, ↓gF, hlt]
def fcutV (b : Box) : Option (Bool × Int) → AV × List AObj
  | some (d, x) => (.tup [.agg [(.d (.int .i64 (opOf d))), (.d (.int .i64 (x - loP d b))), (.d (.int .i64 (0))), (.d (.bool (false))), .own 0], (.d (.bool (true)))], [.row 5 [] true false])
  | none => (.tup [.agg [(.d (.int .i64 (0))), (.d (.int .i64 (0))), (.d (.int .i64 (0))), (.d (.bool (false))), .own 0], (.d (.bool (false)))], [.row 5 [] true false])
theorem i_firstCut_ev (l : List L.Place) (bX : Int) (bY : Int) (bW : Int) (bH : Int) (hb : VB (Box.mk bX bY bW bH)) (hl : l.length ≤ 1000) (hc : ∀ c ∈ l, VB c.Box) : vcall Xs Ms n_i_firstCut [(.d (.sl (l.map Place.enc))), (.d (.agg [.int .i64 bX, .int .i64 bY, .int .i64 bW, .int .i64 bH]))] [] = some (fcutV (Box.mk bX bY bW bH) (cutAt l (Box.mk bX bY bW bH))) := by
  have hbv := hb
  simp only [VB] at hb
  have s1 := i_spanOf_ev bX bY bW bH true (by unfold R64; omega) (by unfold R64; omega)
  have s2 := i_spanOf_ev bX bY bW bH false (by unfold R64; omega) (by unfold R64; omega)
  have e1 := i_leastCut_ev l true bX (bX + bW) hl (by omega) (by omega) (by omega)
  have e2 := i_leastCut_ev l false bY (bY + bH) hl (by omega) (by omega) (by omega)
  rw [show (bX + bW - bX - 1).toNat = (bW - 1).toNat by omega] at e1
  rw [show (bY + bH - bY - 1).toNat = (bH - 1).toNat by omega] at e2
  simp only [loP, hiP, if_true, Bool.false_eq_true, if_false] at s1 s2
  have hcut : cutAt l (Box.mk bX bY bW bH) = match cutG true l bX (bW - 1).toNat with
    | some x => some (true, x)
    | none => match cutG false l bY (bH - 1).toNat with
      | some y => some (false, y)
      | none => none := rfl
  have C1 := fun x => @cutG_some true l bX (bW - 1).toNat x
  have C2 := fun x => @cutG_some false l bY (bH - 1).toNat x
  generalize cutG true l bX (bW - 1).toNat = K1 at e1 hcut C1
  generalize cutG false l bY (bH - 1).toNat = K2 at e2 hcut C2
  rw [hcut]
  have hbx : ∀ i c, l[i]? = some c → (vcall Xs Ms n_i_spanOf [.d c.Box.enc, (.d (.bool (true)))] [] = some (.d (spanE true c), [])) ∧ (vcall Xs Ms n_i_spanOf [.d c.Box.enc, (.d (.bool (false)))] [] = some (.d (spanE false c), [])) := fun i c hx => by
    have h := hc c (List.mem_of_getElem? hx)
    obtain ⟨P, T, ⟨X, Y, W, H⟩⟩ := c
    simp only [VB] at h
    exact ⟨i_spanOf_ev X Y W H true (by unfold R64; omega) (by unfold R64; omega), i_spanOf_ev X Y W H false (by unfold R64; omega) (by unfold R64; omega)⟩
  refine callE Xs Ms f_i_firstCut x_i_firstCut (by show 2 ≤ _; decide) ?_
  simp +contextual -implicitDefEqProofs (maxSteps := 10000000) only [go_sem, seval, ↓gA, ↓gB, ↓gC, ↓gD, ↓gE, ↓gF, f_i_firstCut]
  refine LW_round Xs Ms ?_
  simp +contextual -implicitDefEqProofs (maxSteps := 10000000) only [go_sem, seval, ↓gA, ↓gB, ↓gC, ↓gD, ↓gE, ↓gF]
  refine LW_over Xs Ms (st0 := ?sa) (α := Nat) (fun i => [(22, .d (.int .i64 (i : Int)))]) (fun i => [(1, .row 2 ((l.take i).map (spanE true)) true false)]) (fun i => i ≤ l.length) (fun i => l.length - i) 0 ?ha1 (by omega) ?ha2 ?ha3
  case ha1 => simp +contextual -implicitDefEqProofs (maxSteps := 10000000) only [go_sem, seval, ↓gA, ↓gB, ↓gC, ↓gD, ↓gE, ↓gF] <;> exact rfl
  case ha2 => rfl
  case ha3 =>
    intro i hi ih
    by_cases hil : i < l.length
    · obtain ⟨c, hx⟩ := get_lt hil
      have hw := wrap_succ (k := i) (by omega)
      have hsp := (hbx i c hx).1
      have hm : (l.take (i + 1)).map (spanE true) = (l.take i).map (spanE true) ++ [spanE true c] := by rw [List.take_add_one, hx]; simp
      have hlk : (l.take i).length ≤ i := by simp; omega
      have hr : ((l.take i).length + 1) * 16 ≤ 140737488355328 ∧ (l.take i).length ≤ 140737488355327 := by omega
      obtain ⟨P, T, ⟨X, Y, W, H⟩⟩ := c
      simp only [Box.enc, spanE] at hsp
      simp +contextual -implicitDefEqProofs (maxSteps := 10000000) only [go_sem, seval, ↓gA, ↓gB, ↓gC, ↓gD, ↓gE, ↓gF, hx, hil, hw, hsp, hr]
      refine ih (i + 1) _ (by omega) (by omega) ?_
      rw [hm]
      simp +contextual -implicitDefEqProofs (maxSteps := 10000000) only [go_sem, seval, ↓gA, ↓gB, ↓gC, ↓gD, ↓gE, ↓gF, spanE]
    · have : i = l.length := by omega
      subst this
      rw [List.take_of_length_le (Nat.le_refl _)]
      cases K1 with
      | some x =>
        have := C1 x rfl
        have w := wi (x - bX) (by omega) (by omega)
        unfold cutV at e1
        unfold fcutV
        simp only [loP, if_true, opOf] at e1 ⊢
        simp +contextual -implicitDefEqProofs (maxSteps := 10000000) only [go_sem, seval, ↓gA, ↓gB, ↓gC, ↓gD, ↓gE, ↓gF, s1, e1, w]
      | none =>
        unfold cutV at e1
        simp +contextual -implicitDefEqProofs (maxSteps := 10000000) only [go_sem, seval, ↓gA, ↓gB, ↓gC, ↓gD, ↓gE, ↓gF, s1, e1]
        refine LW_round Xs Ms ?_
        have c12 : (1 : Int) < ((2 : Nat) : Int) := by omega
        simp +contextual -implicitDefEqProofs (maxSteps := 10000000) only [go_sem, seval, ↓gA, ↓gB, ↓gC, ↓gD, ↓gE, ↓gF, c12]
        refine LW_over Xs Ms (st0 := ?sb) (α := Nat) (fun i => [(22, .d (.int .i64 (i : Int)))]) (fun i => [(1, .row 2 ((l.take i).map (spanE false)) true false)]) (fun i => i ≤ l.length) (fun i => l.length - i) 0 ?hb1 (by omega) ?hb2 ?hb3
        case hb1 => simp +contextual -implicitDefEqProofs (maxSteps := 10000000) only [go_sem, seval, ↓gA, ↓gB, ↓gC, ↓gD, ↓gE, ↓gF] <;> exact rfl
        case hb2 => rfl
        case hb3 =>
          intro i hi ih
          by_cases hil : i < l.length
          · obtain ⟨c, hx⟩ := get_lt hil
            have hw := wrap_succ (k := i) (by omega)
            have hsp := (hbx i c hx).2
            have hm : (l.take (i + 1)).map (spanE false) = (l.take i).map (spanE false) ++ [spanE false c] := by rw [List.take_add_one, hx]; simp
            have hlk : (l.take i).length ≤ i := by simp; omega
            have hr : ((l.take i).length + 1) * 16 ≤ 140737488355328 ∧ (l.take i).length ≤ 140737488355327 := by omega
            obtain ⟨P, T, ⟨X, Y, W, H⟩⟩ := c
            simp only [Box.enc, spanE] at hsp
            simp +contextual -implicitDefEqProofs (maxSteps := 10000000) only [go_sem, seval, ↓gA, ↓gB, ↓gC, ↓gD, ↓gE, ↓gF, hx, hil, hw, hsp, hr]
            refine ih (i + 1) _ (by omega) (by omega) ?_
            rw [hm]
            simp +contextual -implicitDefEqProofs (maxSteps := 10000000) only [go_sem, seval, ↓gA, ↓gB, ↓gC, ↓gD, ↓gE, ↓gF, spanE]
          · have : i = l.length := by omega
            subst this
            rw [List.take_of_length_le (Nat.le_refl _)]
            cases K2 with
            | some x =>
              have := C2 x rfl
              have w := wi (x - bY) (by omega) (by omega)
              unfold cutV at e2
              unfold fcutV
              simp only [loP, Bool.false_eq_true, if_false, opOf] at e2 ⊢
              simp +contextual -implicitDefEqProofs (maxSteps := 10000000) only [go_sem, seval, ↓gA, ↓gB, ↓gC, ↓gD, ↓gE, ↓gF, s2, e2, w]
            | none =>
              unfold cutV at e2
              unfold fcutV
              simp +contextual -implicitDefEqProofs (maxSteps := 10000000) only [go_sem, seval, ↓gA, ↓gB, ↓gC, ↓gD, ↓gE, ↓gF, s2, e2]
              refine LW_round Xs Ms ?_
              have c22 : ¬ (2 : Int) < ((2 : Nat) : Int) := by omega
              simp +contextual -implicitDefEqProofs (maxSteps := 10000000) only [go_sem, seval, ↓gA, ↓gB, ↓gC, ↓gD, ↓gE, ↓gF, c22]

def Apt (l : List L.Place) : Prop := l.Pairwise fun a c => ¬ meets a.Box c.Box
theorem Apt_part {l : List L.Place} {d : Bool} {t : Int} {f : Bool} (h : Apt l) : Apt (partL d l t f) := List.Pairwise.filter _ h
theorem Apt_head {c : L.Place} {r : List L.Place} {b : Box} (ha : Apt (c :: r)) (hl : InL (c :: r) b) (h : c.Box = b) : r = [] := by
  cases r with
  | nil => rfl
  | cons y r =>
    have h1 := (List.pairwise_cons.1 ha).1 y (by simp)
    have h2 := hl y (by simp)
    have h3 := hl c (by simp)
    rw [h] at h1 h3
    simp only [VB, inside, meets] at h1 h2 h3
    omega
theorem inside_low {l : List L.Place} {b : Box} {d : Bool} {x : Int} (hb : VB b) (h : InL l b) (hx : loP d b < x ∧ x < hiP d b) (hc : crs d l x = false) : ∀ c ∈ l, (VB c.Box ∧ VB (lowB d b (x - loP d b)) ∧ inside c.Box (lowB d b (x - loP d b))) ↔ hiP d c.Box ≤ x := fun c hm => by
  have h1 := h c hm
  have h2 := crs_not hc c hm
  have h3 := (InL_low hb h hx hc).1.1
  cases d
  · simp only [loP, hiP, lowB, Bool.false_eq_true, if_false] at hx h2 h3 ⊢
    simp only [VB, inside] at h1 h3 ⊢
    omega
  · simp only [loP, hiP, lowB, if_true] at hx h2 h3 ⊢
    simp only [VB, inside] at h1 h3 ⊢
    omega
theorem i_splitG_ev (bX : Int) (bY : Int) (bW : Int) (bH : Int) (d : Bool) (a : Int) (hb : VB (Box.mk bX bY bW bH)) (ha : 0 ≤ a ∧ a ≤ 400) : vcall Xs Ms n_i_splitBox [.d (.agg [.int .i64 (opOf d), .int .i64 a, .int .i64 0, .bool false, .sl []]), (.d (.agg [.int .i64 bX, .int .i64 bY, .int .i64 bW, .int .i64 bH]))] [] = some (.tup [.d (lowB d (Box.mk bX bY bW bH) a).enc, .d (highB d (Box.mk bX bY bW bH) a).enc], []) := by
  simp only [VB] at hb
  have w1 := wi (bX + a) (by omega) (by omega)
  have w2 := wi (bY + a) (by omega) (by omega)
  have w3 := wi (bW - a) (by omega) (by omega)
  have w4 := wi (bH - a) (by omega) (by omega)
  cases d
  · simp only [lowB, highB, Box.enc, opOf, Bool.false_eq_true, if_false]
    refine callE Xs Ms f_i_splitBox x_i_splitBox (by show 2 ≤ _; decide) ?_
    simp +contextual -implicitDefEqProofs (maxSteps := 10000000) only [go_sem, seval, ↓gA, ↓gB, ↓gC, ↓gD, ↓gE, ↓gF, f_i_splitBox, w1, w2, w3, w4]
  · simp only [lowB, highB, Box.enc, opOf, if_true]
    refine callE Xs Ms f_i_splitBox x_i_splitBox (by show 2 ≤ _; decide) ?_
    simp +contextual -implicitDefEqProofs (maxSteps := 10000000) only [go_sem, seval, ↓gA, ↓gB, ↓gC, ↓gD, ↓gE, ↓gF, f_i_splitBox, w1, w2, w3, w4]
theorem i_cutPlaces_ev (l : List L.Place) (bX : Int) (bY : Int) (bW : Int) (bH : Int) (p q : Bool → Int → Option BT) (hb : VB (Box.mk bX bY bW bH)) (hl : InL l (Box.mk bX bY bW bH)) (hlen : l.length ≤ 1000)
    (h1 : ∀ d x, cutAt l (Box.mk bX bY bW bH) = some (d, x) → vcall Xs Ms n_i_planPlaces [.d (.sl ((partL d l x true).map Place.enc)), .d (lowB d (Box.mk bX bY bW bH) (x - loP d (Box.mk bX bY bW bH))).enc] [] = some (plV (p d x)))
    (h2 : ∀ d x, cutAt l (Box.mk bX bY bW bH) = some (d, x) → vcall Xs Ms n_i_planPlaces [.d (.sl ((partL d l x false).map Place.enc)), .d (highB d (Box.mk bX bY bW bH) (x - loP d (Box.mk bX bY bW bH))).enc] [] = some (plV (q d x))) :
    vcall Xs Ms n_i_cutPlaces [(.d (.sl (l.map Place.enc))), (.d (.agg [.int .i64 bX, .int .i64 bY, .int .i64 bW, .int .i64 bH]))] [] = some (plV (match cutAt l (Box.mk bX bY bW bH) with
      | some (d, x) => bothL d (x - loP d (Box.mk bX bY bW bH)) (p d x) (q d x)
      | none => none)) := by
  have ef := i_firstCut_ev l bX bY bW bH hb hlen (fun c hc => (hl c hc).1)
  cases hc : cutAt l (Box.mk bX bY bW bH) with
  | none =>
    rw [hc] at ef
    unfold fcutV at ef
    unfold plV
    refine callE Xs Ms f_i_cutPlaces x_i_cutPlaces (by show 2 ≤ _; decide) ?_
    simp +contextual -implicitDefEqProofs (maxSteps := 10000000) only [go_sem, seval, ↓gA, ↓gB, ↓gC, ↓gD, ↓gE, ↓gF, f_i_cutPlaces, ef]
  | some dx =>
    obtain ⟨d, x⟩ := dx
    obtain ⟨g1, g2, g3⟩ := cutAt_some hc
    have hin := inside_low hb hl ⟨g1, g2⟩ g3
    have k1 := h1 d x hc
    have k2 := h2 d x hc
    simp only [hc, fcutV] at ef
    simp only
    have hab : 0 ≤ x - loP d (Box.mk bX bY bW bH) ∧ x - loP d (Box.mk bX bY bW bH) ≤ 400 := by
      simp only [VB] at hb
      cases d <;> simp only [loP, hiP, if_true, Bool.false_eq_true, if_false] at g1 g2 ⊢ <;> omega
    have es := i_splitG_ev bX bY bW bH d (x - loP d (Box.mk bX bY bW bH)) hb hab
    generalize x - loP d (Box.mk bX bY bW bH) = a at *
    generalize p d x = p0 at k1 ⊢
    generalize q d x = q0 at k2 ⊢
    generalize lowB d (Box.mk bX bY bW bH) a = lb at *
    generalize highB d (Box.mk bX bY bW bH) a = hb' at *
    clear h1 h2 hab g1 g2 g3 hc
    obtain ⟨lX, lY, lW, lH⟩ := lb
    obtain ⟨hX, hY, hW, hH⟩ := hb'
    simp only [Box.enc] at es k1 k2
    refine callE Xs Ms f_i_cutPlaces x_i_cutPlaces (by show 2 ≤ _; decide) ?_
    simp +contextual -implicitDefEqProofs (maxSteps := 10000000) only [go_sem, seval, ↓gA, ↓gB, ↓gC, ↓gD, ↓gE, ↓gF, f_i_cutPlaces, ef, es]
    refine LW_over Xs Ms (st0 := ?st0) (α := Nat) (fun i => [(33, .d (.int .i64 (i : Int)))]) (fun i => [(0, .row 6 ((partL d (l.take i) x false).map Place.enc) true false), (1, .row 6 ((partL d (l.take i) x true).map Place.enc) true false)]) (fun i => i ≤ l.length) (fun i => l.length - i) 0 ?hc (by omega) ?h0 ?step
    case hc => simp +contextual -implicitDefEqProofs (maxSteps := 10000000) only [go_sem, seval, ↓gA, ↓gB, ↓gC, ↓gD, ↓gE, ↓gF] <;> exact rfl
    case h0 => rfl
    case step =>
      intro i hi ih
      by_cases hil : i < l.length
      · obtain ⟨c, hx⟩ := get_lt hil
        have hw := wrap_succ (k := i) (by omega)
        have pt := partL_take (d := d) (t := x) (f := true) hx
        have pf := partL_take (d := d) (t := x) (f := false) hx
        have hic := hin c (List.mem_of_getElem? hx)
        have lt1 : (partL d (l.take i) x true).length ≤ i := Nat.le_trans (List.length_filter_le _ _) (by simp; omega)
        have lf1 : (partL d (l.take i) x false).length ≤ i := Nat.le_trans (List.length_filter_le _ _) (by simp; omega)
        have rt : ((partL d (l.take i) x true).length + 1) * 48 ≤ 140737488355328 ∧ (partL d (l.take i) x true).length ≤ 140737488355327 := by omega
        have rf : ((partL d (l.take i) x false).length + 1) * 48 ≤ 140737488355328 ∧ (partL d (l.take i) x false).length ≤ 140737488355327 := by omega
        obtain ⟨P, T, ⟨X, Y, W, H⟩⟩ := c
        have ei := i_InsideOf_ev X Y W H lX lY lW lH
        simp only at pt pf hic
        by_cases hh : hiP d ⟨X, Y, W, H⟩ ≤ x
        · rw [decide_eq_true (hic.2 hh)] at ei
          rw [decide_eq_true hh] at pt pf
          rw [if_pos rfl] at pt
          rw [if_neg (by simp)] at pf
          simp +contextual -implicitDefEqProofs (maxSteps := 10000000) only [go_sem, seval, ↓gA, ↓gB, ↓gC, ↓gD, ↓gE, ↓gF, hx, hil, hw, ei, rt]
          refine ih (i + 1) _ (by omega) (by omega) ?_
          rw [pt, pf]
          simp +contextual -implicitDefEqProofs (maxSteps := 10000000) only [go_sem, seval, ↓gA, ↓gB, ↓gC, ↓gD, ↓gE, ↓gF, List.map_append, List.append_nil]
        · rw [decide_eq_false (fun h => hh (hic.1 h))] at ei
          rw [decide_eq_false hh] at pt pf
          rw [if_neg (by simp)] at pt
          rw [if_pos rfl] at pf
          simp +contextual -implicitDefEqProofs (maxSteps := 10000000) only [go_sem, seval, ↓gA, ↓gB, ↓gC, ↓gD, ↓gE, ↓gF, hx, hil, hw, ei, rf]
          refine ih (i + 1) _ (by omega) (by omega) ?_
          rw [pt, pf]
          simp +contextual -implicitDefEqProofs (maxSteps := 10000000) only [go_sem, seval, ↓gA, ↓gB, ↓gC, ↓gD, ↓gE, ↓gF, List.map_append, List.append_nil]
      · have : i = l.length := by omega
        subst this
        rw [List.take_of_length_le (Nat.le_refl _)]
        cases p0 with
        | none =>
          unfold plV at k1
          simp only [bothL]
          unfold plV
          simp +contextual -implicitDefEqProofs (maxSteps := 10000000) only [go_sem, seval, ↓gA, ↓gB, ↓gC, ↓gD, ↓gE, ↓gF, k1]
        | some bp =>
          obtain ⟨po, pa, pq, pt, pk, ep⟩ := plV_some bp
          simp only [plV, ep] at k1
          cases q0 with
          | none =>
            unfold plV at k2
            simp only [bothL]
            unfold plV
            simp +contextual -implicitDefEqProofs (maxSteps := 10000000) only [go_sem, seval, ↓gA, ↓gB, ↓gC, ↓gD, ↓gE, ↓gF, k1, k2]
          | some bq =>
            obtain ⟨qo, qa, qq, qt, qk, eq⟩ := plV_some bq
            simp only [plV, eq] at k2
            simp only [bothL, plV, BT.plan, ep, eq]
            simp +contextual -implicitDefEqProofs (maxSteps := 10000000) only [go_sem, seval, ↓gA, ↓gB, ↓gC, ↓gD, ↓gE, ↓gF, k1, k2]
theorem i_planPlaces_ev : ∀ (n : Nat) (l : List L.Place) (bX : Int) (bY : Int) (bW : Int) (bH : Int), VB (Box.mk bX bY bW bH) → InL l (Box.mk bX bY bW bH) → Apt l → (bW + bH).toNat ≤ n → l.length ≤ 1000 → vcall Xs Ms n_i_planPlaces [(.d (.sl (l.map Place.enc))), (.d (.agg [.int .i64 bX, .int .i64 bY, .int .i64 bW, .int .i64 bH]))] [] = some (plV (planL n l (Box.mk bX bY bW bH))) := by
  intro n
  induction n with
  | zero =>
    intro l bX bY bW bH hb _ _ hn _
    simp only [VB] at hb
    omega
  | succ n IH =>
    intro l bX bY bW bH hb hl ha hn hlen
    cases l with
    | nil =>
      simp only [planL, plV, BT.plan, List.map_nil]
      refine callE Xs Ms f_i_planPlaces x_i_planPlaces (by show 2 ≤ _; decide) ?_
      simp +contextual -implicitDefEqProofs (maxSteps := 10000000) only [go_sem, seval, ↓gA, ↓gB, ↓gC, ↓gD, ↓gE, ↓gF, f_i_planPlaces]
    | cons c r =>
      by_cases hp : c.Box = (Box.mk bX bY bW bH)
      · have hr := Apt_head ha hl hp
        subst hr
        obtain ⟨P, T, ⟨X, Y, W, H⟩⟩ := c
        simp only at hp
        have hpl : planL (n + 1) [⟨P, T, ⟨X, Y, W, H⟩⟩] (Box.mk bX bY bW bH) = some (.pane P T) := by rw [planL, if_pos ⟨rfl, hp⟩]
        rw [hpl]
        simp only [Box.mk.injEq] at hp
        obtain ⟨rfl, rfl, rfl, rfl⟩ := hp
        simp only [plV, BT.plan]
        refine callE Xs Ms f_i_planPlaces x_i_planPlaces (by show 2 ≤ _; decide) ?_
        simp +contextual -implicitDefEqProofs (maxSteps := 10000000) only [go_sem, seval, ↓gA, ↓gB, ↓gC, ↓gD, ↓gE, ↓gF, f_i_planPlaces]
      · have hcp := i_cutPlaces_ev (c :: r) bX bY bW bH (fun d x => planL n (partL d (c :: r) x true) (lowB d (Box.mk bX bY bW bH) (x - loP d (Box.mk bX bY bW bH)))) (fun d x => planL n (partL d (c :: r) x false) (highB d (Box.mk bX bY bW bH) (x - loP d (Box.mk bX bY bW bH)))) hb hl hlen
          (fun d x h => by
            obtain ⟨h1, h2, h3⟩ := cutAt_some h
            obtain ⟨⟨g1, g2⟩, g3, g4⟩ := InL_low hb hl ⟨h1, h2⟩ h3
            obtain ⟨s1, s2⟩ := cut_size hb ⟨h1, h2⟩
            simp only at s1 s2
            exact IH _ _ _ _ _ g1 g2 (Apt_part ha) (by omega) (Nat.le_trans (partL_len _ _ _ _) hlen))
          (fun d x h => by
            obtain ⟨h1, h2, h3⟩ := cutAt_some h
            obtain ⟨⟨g1, g2⟩, g3, g4⟩ := InL_low hb hl ⟨h1, h2⟩ h3
            obtain ⟨s1, s2⟩ := cut_size hb ⟨h1, h2⟩
            simp only at s1 s2
            exact IH _ _ _ _ _ g3 g4 (Apt_part ha) (by omega) (Nat.le_trans (partL_len _ _ _ _) hlen))
        have hX : planL (n + 1) (c :: r) (Box.mk bX bY bW bH) = match cutAt (c :: r) (Box.mk bX bY bW bH) with
          | some (d, x) => bothL d (x - loP d (Box.mk bX bY bW bH)) (planL n (partL d (c :: r) x true) (lowB d (Box.mk bX bY bW bH) (x - loP d (Box.mk bX bY bW bH)))) (planL n (partL d (c :: r) x false) (highB d (Box.mk bX bY bW bH) (x - loP d (Box.mk bX bY bW bH))))
          | none => none := by rw [planL, if_neg (fun h => hp h.2)]; rfl
        rw [← hX] at hcp
        clear hX IH hl ha
        generalize planL (n + 1) (c :: r) (Box.mk bX bY bW bH) = X at hcp ⊢
        have hfst : (c :: r)[0]? = some c := rfl
        have hl0 : ¬ (((c :: r).length : Nat) : Int) = 0 := by simp only [List.length_cons]; omega
        have hl1 : 0 < (c :: r).length := by simp
        generalize c :: r = l at *
        obtain ⟨P, T, ⟨cX, cY, cW, cH⟩⟩ := c
        simp only [Box.mk.injEq] at hp
        cases X with
        | none =>
          unfold plV at hcp ⊢
          refine callE Xs Ms f_i_planPlaces x_i_planPlaces (by show 2 ≤ _; decide) ?_
          simp +contextual -implicitDefEqProofs (maxSteps := 10000000) only [go_sem, seval, ↓gA, ↓gB, ↓gC, ↓gD, ↓gE, ↓gF, f_i_planPlaces, hl0, hl1, hfst, hp, hcp]
        | some bq =>
          obtain ⟨qo, qa, qq, qt, qk, eq⟩ := plV_some bq
          simp only [plV, eq] at hcp ⊢
          refine callE Xs Ms f_i_planPlaces x_i_planPlaces (by show 2 ≤ _; decide) ?_
          simp +contextual -implicitDefEqProofs (maxSteps := 10000000) only [go_sem, seval, ↓gA, ↓gB, ↓gC, ↓gD, ↓gE, ↓gF, f_i_planPlaces, hl0, hl1, hfst, hp, hcp]

def PairB (l : List Box) : Prop := l.Pairwise fun a c => ¬ meets a c
instance (l : List Box) : Decidable (PairB l) := by unfold PairB; infer_instance
def plOk (k : Work) (c : L.Place) : Prop := (VB c.Box ∧ inside c.Box ⟨0, 0, k.W, k.H⟩) ∧ paneFits k.Panes c.Pane c.Turned c.Box.W c.Box.H = true
instance (k : Work) (c : L.Place) : Decidable (plOk k c) := by unfold plOk; infer_instance
def VPl (k : Work) (l : List L.Place) : Prop := (VW k ∧ l.length ≤ 12) ∧ (∀ c ∈ l, plOk k c) ∧ PairB (l.map L.Place.Box)
instance (k : Work) (l : List L.Place) : Decidable (VPl k l) := by unfold VPl; infer_instance
theorem meets_comm {a b : Box} : meets a b ↔ meets b a := by unfold meets; omega
theorem PairB_take {l : List Box} {i : Nat} {x : Box} (hx : l[i]? = some x) (h : PairB (l.take i)) (hn : ∀ y ∈ l.take i, ¬ meets x y) : PairB (l.take (i + 1)) := by
  unfold PairB at h ⊢
  rw [List.take_add_one, hx, List.pairwise_append]
  exact ⟨h, by simp, fun a ha b hb => by simp at hb; subst hb; exact fun hm => hn a ha (meets_comm.1 hm)⟩
theorem PairB_not {l : List Box} {i j : Nat} {x y : Box} (hij : j < i) (hx : l[i]? = some x) (hy : l[j]? = some y) (hm : meets x y) : ¬ PairB l := fun h => by
  obtain ⟨h1, rfl⟩ := List.getElem?_eq_some_iff.1 hx
  obtain ⟨h2, rfl⟩ := List.getElem?_eq_some_iff.1 hy
  exact (List.pairwise_iff_getElem.1 h) j i h2 h1 hij (meets_comm.1 hm)
theorem i_validBoxes_ev (l : List Box) (hv : ∀ b ∈ l, VB b) (hl : l.length ≤ 24) : vcall Xs Ms n_i_validBoxes [(.d (.sl (l.map Box.enc)))] [] = some ((.d (.bool (true))), []) := by
  have h24 : ¬ (24 : Int) < (l.length : Int) := by omega
  refine callE Xs Ms f_i_validBoxes x_i_validBoxes (by show 1 ≤ _; decide) ?_
  simp +contextual -implicitDefEqProofs (maxSteps := 10000000) only [go_sem, seval, ↓gA, ↓gB, ↓gC, ↓gD, ↓gE, ↓gF, f_i_validBoxes, h24]
  refine LW_over Xs Ms (st0 := ?st0) (α := Nat) (fun i => [(10, .d (.int .i64 (i : Int)))]) (fun _ => []) (fun i => i ≤ l.length) (fun i => l.length - i) 0 ?hc (by omega) ?h0 ?step
  case hc => simp +contextual -implicitDefEqProofs (maxSteps := 10000000) only [go_sem, seval, ↓gA, ↓gB, ↓gC, ↓gD, ↓gE, ↓gF] <;> exact rfl
  case h0 => rfl
  case step =>
    intro i hi ih
    by_cases hlt : i < l.length
    · obtain ⟨x, hx⟩ := get_lt hlt
      have hw := wrap_succ (k := i) (by omega)
      have hb := hv x (List.mem_of_getElem? hx)
      obtain ⟨X, Y, W, H⟩ := x
      have e := i_ValidBox_ev X Y W H
      rw [decide_eq_true hb] at e
      simp +contextual -implicitDefEqProofs (maxSteps := 10000000) only [go_sem, seval, ↓gA, ↓gB, ↓gC, ↓gD, ↓gE, ↓gF, hx, hlt, hw, e]
      refine ih (i + 1) _ (by omega) (by omega) ?_
      simp +contextual -implicitDefEqProofs (maxSteps := 10000000) only [go_sem, seval, ↓gA, ↓gB, ↓gC, ↓gD, ↓gE, ↓gF]
    · simp +contextual -implicitDefEqProofs (maxSteps := 10000000) only [go_sem, seval, ↓gA, ↓gB, ↓gC, ↓gD, ↓gE, ↓gF, hlt]
theorem i_ApartBoxes_ev (l : List Box) (hv : ∀ b ∈ l, VB b) (hl : l.length ≤ 24) : vcall Xs Ms n_i_ApartBoxes [(.d (.sl (l.map Box.enc)))] [] = some ((.d (.bool (decide (PairB l)))), []) := by
  have e1 := i_validBoxes_ev l hv hl
  refine callE Xs Ms f_i_ApartBoxes x_i_ApartBoxes (by show 1 ≤ _; decide) ?_
  simp +contextual -implicitDefEqProofs (maxSteps := 10000000) only [go_sem, seval, ↓gA, ↓gB, ↓gC, ↓gD, ↓gE, ↓gF, f_i_ApartBoxes, e1]
  refine LW_over Xs Ms (st0 := ?st0) (α := Nat) (fun i => [(14, .d (.int .i64 (i : Int)))]) (fun _ => []) (fun i => i ≤ l.length ∧ PairB (l.take i)) (fun i => l.length - i) 0 ?hc ⟨by omega, by simp [PairB]⟩ ?h0 ?step
  case hc => simp +contextual -implicitDefEqProofs (maxSteps := 10000000) only [go_sem, seval, ↓gA, ↓gB, ↓gC, ↓gD, ↓gE, ↓gF] <;> exact rfl
  case h0 => rfl
  case step =>
    intro i ⟨hi, hp⟩ ih
    by_cases hlt : i < l.length
    · obtain ⟨x, hx⟩ := get_lt hlt
      have hw := wrap_succ (k := i) (by omega)
      have hb := hv x (List.mem_of_getElem? hx)
      have hle : i ≤ l.length := hi
      have htl : (l.take i).length = i := by simp; omega
      have hfin := PairB_take hx hp
      obtain ⟨X, Y, W, H⟩ := x
      simp +contextual -implicitDefEqProofs (maxSteps := 10000000) only [go_sem, seval, ↓gA, ↓gB, ↓gC, ↓gD, ↓gE, ↓gF, hx, hlt, hw, hle]
      refine LW_over Xs Ms (st0 := ?st1) (α := Nat) (fun j => [(23, .d (.int .i64 (j : Int)))]) (fun _ => []) (fun j => j ≤ i ∧ ∀ y ∈ l.take j, ¬ meets ⟨X, Y, W, H⟩ y) (fun j => i - j) 0 ?hc2 ⟨by omega, by simp⟩ ?h02 ?step2
      case hc2 => simp +contextual -implicitDefEqProofs (maxSteps := 10000000) only [go_sem, seval, ↓gA, ↓gB, ↓gC, ↓gD, ↓gE, ↓gF] <;> exact rfl
      case h02 => rfl
      case step2 =>
        intro j ⟨hj, hq⟩ ih2
        by_cases hji : j < i
        · obtain ⟨y, hy⟩ := get_lt (l := l) (k := j) (by omega)
          have hw2 := wrap_succ (k := j) (by omega)
          have hyb := hv y (List.mem_of_getElem? hy)
          have hty : (l.take i)[j]? = some y := by rw [List.getElem?_take_of_lt hji]; exact hy
          have hnot := PairB_not hji hx hy
          have htk : l.take (j + 1) = l.take j ++ [y] := by rw [List.take_add_one, hy]; simp
          obtain ⟨X', Y', W', H'⟩ := y
          by_cases hm : meets ⟨X, Y, W, H⟩ ⟨X', Y', W', H'⟩
          · have e := i_MeetOf_yes X Y W H X' Y' W' H' hb hyb hm
            have hn := hnot hm
            rw [decide_eq_false hn]
            simp +contextual -implicitDefEqProofs (maxSteps := 10000000) only [go_sem, seval, ↓gA, ↓gB, ↓gC, ↓gD, ↓gE, ↓gF, hty, hji, htl, hw2, e, List.length_map, meetB]
          · have e := i_MeetOf_no X Y W H X' Y' W' H' (fun h => hm h.2.2)
            simp +contextual -implicitDefEqProofs (maxSteps := 10000000) only [go_sem, seval, ↓gA, ↓gB, ↓gC, ↓gD, ↓gE, ↓gF, hty, hji, htl, hw2, e, List.length_map]
            refine ih2 (j + 1) _ ⟨by omega, ?_⟩ (by omega) ?_
            · rw [htk]
              intro z hz
              rcases List.mem_append.1 hz with hz | hz
              · exact hq z hz
              · simp at hz; subst hz; exact hm
            · simp +contextual -implicitDefEqProofs (maxSteps := 10000000) only [go_sem, seval, ↓gA, ↓gB, ↓gC, ↓gD, ↓gE, ↓gF, htl]
        · have : j = i := by omega
          subst this
          simp +contextual -implicitDefEqProofs (maxSteps := 10000000) only [go_sem, seval, ↓gA, ↓gB, ↓gC, ↓gD, ↓gE, ↓gF, hji, htl, hw, List.length_map]
          refine ih (j + 1) _ ⟨by omega, hfin hq⟩ (by omega) ?_
          simp +contextual -implicitDefEqProofs (maxSteps := 10000000) only [go_sem, seval, ↓gA, ↓gB, ↓gC, ↓gD, ↓gE, ↓gF]
    · have : i = l.length := by omega
      subst this
      rw [List.take_of_length_le (Nat.le_refl _)] at hp
      rw [decide_eq_true hp]
      simp +contextual -implicitDefEqProofs (maxSteps := 10000000) only [go_sem, seval, ↓gA, ↓gB, ↓gC, ↓gD, ↓gE, ↓gF]
theorem s_apart_ev (l : List Box) (hv : ∀ b ∈ l, VB b) (hl : l.length ≤ 1000) : vcall Xs Ms n_s_apart [(.d (.sl (l.map Box.enc)))] [] = some ((.d (.bool (decide (PairB l)))), []) := by
  refine callE Xs Ms f_s_apart x_s_apart (by show 1 ≤ _; decide) ?_
  simp +contextual -implicitDefEqProofs (maxSteps := 10000000) only [go_sem, seval, ↓gA, ↓gB, ↓gC, ↓gD, ↓gE, ↓gF, f_s_apart]
  refine LW_over Xs Ms (st0 := ?st0) (α := Nat) (fun i => [(3, .d (.int .i64 (i : Int)))]) (fun _ => []) (fun i => i ≤ l.length ∧ PairB (l.take i)) (fun i => l.length - i) 0 ?hc ⟨by omega, by simp [PairB]⟩ ?h0 ?step
  case hc => simp +contextual -implicitDefEqProofs (maxSteps := 10000000) only [go_sem, seval, ↓gA, ↓gB, ↓gC, ↓gD, ↓gE, ↓gF] <;> exact rfl
  case h0 => rfl
  case step =>
    intro i ⟨hi, hp⟩ ih
    by_cases hlt : i < l.length
    · obtain ⟨x, hx⟩ := get_lt hlt
      have hw := wrap_succ (k := i) (by omega)
      have hb := hv x (List.mem_of_getElem? hx)
      have hfin := PairB_take hx hp
      obtain ⟨X, Y, W, H⟩ := x
      simp +contextual -implicitDefEqProofs (maxSteps := 10000000) only [go_sem, seval, ↓gA, ↓gB, ↓gC, ↓gD, ↓gE, ↓gF, hlt]
      refine LW_over Xs Ms (st0 := ?st1) (α := Nat) (fun j => [(4, .d (.int .i64 (j : Int)))]) (fun _ => []) (fun j => j ≤ i ∧ ∀ y ∈ l.take j, ¬ meets ⟨X, Y, W, H⟩ y) (fun j => i - j) 0 ?hc2 ⟨by omega, by simp⟩ ?h02 ?step2
      case hc2 => simp +contextual -implicitDefEqProofs (maxSteps := 10000000) only [go_sem, seval, ↓gA, ↓gB, ↓gC, ↓gD, ↓gE, ↓gF] <;> exact rfl
      case h02 => rfl
      case step2 =>
        intro j ⟨hj, hq⟩ ih2
        by_cases hji : j < i
        · obtain ⟨y, hy⟩ := get_lt (l := l) (k := j) (by omega)
          have hjl : j < l.length := by omega
          have hw2 := wrap_succ (k := j) (by omega)
          have hyb := hv y (List.mem_of_getElem? hy)
          have hnot := PairB_not hji hx hy
          have htk : l.take (j + 1) = l.take j ++ [y] := by rw [List.take_add_one, hy]; simp
          obtain ⟨X', Y', W', H'⟩ := y
          by_cases hm : meets ⟨X, Y, W, H⟩ ⟨X', Y', W', H'⟩
          · have e := s_meetOf_yes X Y W H X' Y' W' H' hb hyb hm
            have hn := hnot hm
            rw [decide_eq_false hn]
            simp +contextual -implicitDefEqProofs (maxSteps := 10000000) only [go_sem, seval, ↓gA, ↓gB, ↓gC, ↓gD, ↓gE, ↓gF, hx, hy, hlt, hji, hjl, hw2, e, meetB]
          · have e := s_meetOf_no X Y W H X' Y' W' H' hb hyb hm
            simp +contextual -implicitDefEqProofs (maxSteps := 10000000) only [go_sem, seval, ↓gA, ↓gB, ↓gC, ↓gD, ↓gE, ↓gF, hx, hy, hlt, hji, hjl, hw2, e]
            refine ih2 (j + 1) _ ⟨by omega, ?_⟩ (by omega) ?_
            · rw [htk]
              intro z hz
              rcases List.mem_append.1 hz with hz | hz
              · exact hq z hz
              · simp at hz; subst hz; exact hm
            · simp +contextual -implicitDefEqProofs (maxSteps := 10000000) only [go_sem, seval, ↓gA, ↓gB, ↓gC, ↓gD, ↓gE, ↓gF]
        · have : j = i := by omega
          subst this
          simp +contextual -implicitDefEqProofs (maxSteps := 10000000) only [go_sem, seval, ↓gA, ↓gB, ↓gC, ↓gD, ↓gE, ↓gF, hji, hw]
          refine ih (j + 1) _ ⟨by omega, hfin hq⟩ (by omega) ?_
          simp +contextual -implicitDefEqProofs (maxSteps := 10000000) only [go_sem, seval, ↓gA, ↓gB, ↓gC, ↓gD, ↓gE, ↓gF]
    · have : i = l.length := by omega
      subst this
      rw [List.take_of_length_le (Nat.le_refl _)] at hp
      rw [decide_eq_true hp]
      simp +contextual -implicitDefEqProofs (maxSteps := 10000000) only [go_sem, seval, ↓gA, ↓gB, ↓gC, ↓gD, ↓gE, ↓gF]
theorem i_ValidPlaces_ev (kW : Int) (kH : Int) (kP : List Pane) (l : List L.Place) : vcall Xs Ms n_i_ValidPlaces [(.d (.agg [.int .i64 kW, .int .i64 kH, .sl (kP.map Pane.enc)])), (.d (.sl (l.map Place.enc)))] [] = some ((.d (.bool (decide (VPl (Work.mk kW kH kP) l)))), []) := by
  have ew := i_ValidWork_ev kW kH kP
  by_cases hw : VW (Work.mk kW kH kP)
  · rw [decide_eq_true hw] at ew
    by_cases h12 : (12 : Int) < (l.length : Int)
    · have hn : ¬ VPl (Work.mk kW kH kP) l := fun h => by have := h.1.2; omega
      refine callE Xs Ms f_i_ValidPlaces x_i_ValidPlaces (by show 2 ≤ _; decide) ?_
      simp +contextual -implicitDefEqProofs (maxSteps := 10000000) only [go_sem, seval, ↓gA, ↓gB, ↓gC, ↓gD, ↓gE, ↓gF, f_i_ValidPlaces, ew, h12, hn]
    · have es := i_sheetOf_ev kW kH kP
      have hle : l.length ≤ 12 := by omega
      have hVW := hw
      simp only [VW] at hw
      have hsB : VB ⟨0, 0, kW, kH⟩ := by simp only [VB]; omega
      refine callE Xs Ms f_i_ValidPlaces x_i_ValidPlaces (by show 2 ≤ _; decide) ?_
      simp +contextual -implicitDefEqProofs (maxSteps := 10000000) only [go_sem, seval, ↓gA, ↓gB, ↓gC, ↓gD, ↓gE, ↓gF, f_i_ValidPlaces, ew, h12]
      refine LW_over Xs Ms (st0 := ?st0) (α := Nat) (fun i => [(19, .d (.int .i64 (i : Int)))]) (fun i => [(0, .row 4 (((l.take i).map L.Place.Box).map Box.enc) true false)]) (fun i => i ≤ l.length ∧ ∀ c ∈ l.take i, plOk (Work.mk kW kH kP) c) (fun i => l.length - i) 0 ?hc ⟨by omega, by simp⟩ ?h0 ?step
      case hc => simp +contextual -implicitDefEqProofs (maxSteps := 10000000) only [go_sem, seval, ↓gA, ↓gB, ↓gC, ↓gD, ↓gE, ↓gF] <;> exact rfl
      case h0 => rfl
      case step =>
        intro i ⟨hi, hp⟩ ih
        by_cases hlt : i < l.length
        · obtain ⟨c, hx⟩ := get_lt hlt
          have hw1 := wrap_succ (k := i) (by omega)
          have htk : l.take (i + 1) = l.take i ++ [c] := by rw [List.take_add_one, hx]; simp
          have hmem := List.mem_of_getElem? hx
          have hlk : (l.take i).length ≤ i := by simp; omega
          have hr : ((l.take i).length + 1) * 32 ≤ 140737488355328 ∧ (l.take i).length ≤ 140737488355327 := by omega
          have hno : ¬ plOk (Work.mk kW kH kP) c → ¬ VPl (Work.mk kW kH kP) l := fun h h' => h (h'.2.1 c hmem)
          have hst : plOk (Work.mk kW kH kP) c → ∀ z ∈ l.take (i + 1), plOk (Work.mk kW kH kP) z := fun h z hz => by
            rw [htk] at hz
            rcases List.mem_append.1 hz with hz | hz
            · exact hp z hz
            · simp at hz; subst hz; exact h
          obtain ⟨P, T, ⟨X, Y, W, H⟩⟩ := c
          have e1 := i_ValidBox_ev X Y W H
          have e2 := i_InsideOf_ev X Y W H 0 0 kW kH
          have e3 := i_paneFills_ev kW kH kP P T W H
          by_cases v1 : VB ⟨X, Y, W, H⟩
          · rw [decide_eq_true v1] at e1
            by_cases v2 : VB ⟨X, Y, W, H⟩ ∧ VB ⟨0, 0, kW, kH⟩ ∧ inside ⟨X, Y, W, H⟩ ⟨0, 0, kW, kH⟩
            · rw [decide_eq_true v2] at e2
              cases v3 : paneFits kP P T W H with
              | true =>
                rw [v3] at e3
                have hok : plOk (Work.mk kW kH kP) ⟨P, T, ⟨X, Y, W, H⟩⟩ := ⟨⟨v1, v2.2.2⟩, v3⟩
                simp +contextual -implicitDefEqProofs (maxSteps := 10000000) only [go_sem, seval, ↓gA, ↓gB, ↓gC, ↓gD, ↓gE, ↓gF, hx, hlt, hw1, e1, e2, e3, es, hr]
                refine ih (i + 1) _ ⟨by omega, hst hok⟩ (by omega) ?_
                rw [htk, List.map_append]
                simp +contextual -implicitDefEqProofs (maxSteps := 10000000) only [go_sem, seval, ↓gA, ↓gB, ↓gC, ↓gD, ↓gE, ↓gF, List.map_append]
              | false =>
                rw [v3] at e3
                have hn := hno (fun h => by have := h.2; simp only at this; rw [v3] at this; cases this)
                rw [decide_eq_false hn]
                simp +contextual -implicitDefEqProofs (maxSteps := 10000000) only [go_sem, seval, ↓gA, ↓gB, ↓gC, ↓gD, ↓gE, ↓gF, hx, hlt, hw1, e1, e2, e3, es]
            · rw [decide_eq_false v2] at e2
              have hn := hno (fun h => v2 ⟨v1, hsB, h.1.2⟩)
              rw [decide_eq_false hn]
              simp +contextual -implicitDefEqProofs (maxSteps := 10000000) only [go_sem, seval, ↓gA, ↓gB, ↓gC, ↓gD, ↓gE, ↓gF, hx, hlt, hw1, e1, e2, es]
          · rw [decide_eq_false v1] at e1
            have hn := hno (fun h => v1 h.1.1)
            rw [decide_eq_false hn]
            simp +contextual -implicitDefEqProofs (maxSteps := 10000000) only [go_sem, seval, ↓gA, ↓gB, ↓gC, ↓gD, ↓gE, ↓gF, hx, hlt, hw1, e1]
        · have : i = l.length := by omega
          subst this
          rw [List.take_of_length_le (Nat.le_refl _)] at hp ⊢
          have ea := i_ApartBoxes_ev (l.map L.Place.Box) (fun b hb => by
            obtain ⟨c, hc, rfl⟩ := List.mem_map.1 hb
            exact (hp c hc).1.1) (by simp; omega)
          simp +contextual -implicitDefEqProofs (maxSteps := 10000000) only [go_sem, seval, ↓gA, ↓gB, ↓gC, ↓gD, ↓gE, ↓gF, ea]
          exact fin_b ⟨fun h => ⟨⟨hVW, hle⟩, hp, h⟩, fun h => h.2.2⟩
  · rw [decide_eq_false hw] at ew
    have hn : ¬ VPl (Work.mk kW kH kP) l := fun h => hw h.1.1
    refine callE Xs Ms f_i_ValidPlaces x_i_ValidPlaces (by show 2 ≤ _; decide) ?_
    simp +contextual -implicitDefEqProofs (maxSteps := 10000000) only [go_sem, seval, ↓gA, ↓gB, ↓gC, ↓gD, ↓gE, ↓gF, f_i_ValidPlaces, ew, hn]
theorem s_validPlaces_ev (kW : Int) (kH : Int) (kP : List Pane) (l : List L.Place) (hk : 0 ≤ kW ∧ kW ≤ 1000 ∧ 0 ≤ kH ∧ kH ≤ 1000) (hP : kP.length ≤ 1000) (hl : l.length ≤ 1000) : vcall Xs Ms n_s_validPlaces [(.d (.agg [.int .i64 kW, .int .i64 kH, .sl (kP.map Pane.enc)])), (.d (.sl (l.map Place.enc)))] [] = some ((.d (.bool (decide (VPl (Work.mk kW kH kP) l)))), []) := by
  have ew := s_validWork_ev kW kH kP (by omega)
  refine callE Xs Ms f_s_validPlaces x_s_validPlaces (by show 2 ≤ _; decide) ?_
  simp +contextual -implicitDefEqProofs (maxSteps := 10000000) only [go_sem, seval, ↓gA, ↓gB, ↓gC, ↓gD, ↓gE, ↓gF, f_s_validPlaces]
  refine LW_over Xs Ms (st0 := ?st0) (α := Nat) (fun i => [(6, .d (.int .i64 (i : Int)))]) (fun i => [(0, .row 4 (((l.take i).map L.Place.Box).map Box.enc) true false)]) (fun i => i ≤ l.length ∧ ∀ c ∈ l.take i, plOk (Work.mk kW kH kP) c) (fun i => l.length - i) 0 ?hc ⟨by omega, by simp⟩ ?h0 ?step
  case hc => simp +contextual -implicitDefEqProofs (maxSteps := 10000000) only [go_sem, seval, ↓gA, ↓gB, ↓gC, ↓gD, ↓gE, ↓gF] <;> exact rfl
  case h0 => rfl
  case step =>
    intro i ⟨hi, hp⟩ ih
    by_cases hlt : i < l.length
    · obtain ⟨c, hx⟩ := get_lt hlt
      have hw1 := wrap_succ (k := i) (by omega)
      have htk : l.take (i + 1) = l.take i ++ [c] := by rw [List.take_add_one, hx]; simp
      have hmem := List.mem_of_getElem? hx
      have hlk : (l.take i).length ≤ i := by simp; omega
      have hr : ((l.take i).length + 1) * 32 ≤ 140737488355328 ∧ (l.take i).length ≤ 140737488355327 := by omega
      have hno : ¬ plOk (Work.mk kW kH kP) c → ¬ VPl (Work.mk kW kH kP) l := fun h h' => h (h'.2.1 c hmem)
      have hst : plOk (Work.mk kW kH kP) c → ∀ z ∈ l.take (i + 1), plOk (Work.mk kW kH kP) z := fun h z hz => by
        rw [htk] at hz
        rcases List.mem_append.1 hz with hz | hz
        · exact hp z hz
        · simp at hz; subst hz; exact h
      obtain ⟨P, T, ⟨X, Y, W, H⟩⟩ := c
      have e1 := s_validBox_ev X Y W H
      by_cases v1 : VB ⟨X, Y, W, H⟩
      · rw [decide_eq_true v1] at e1
        have e2 := s_insideOf_ev X Y W H 0 0 kW kH v1 (by unfold R64; omega) (by unfold R64; omega) (by unfold R64; omega) (by unfold R64; omega)
        have e3 := s_fitsPlan_ev kW kH kP (by omega) (.pane P T) W H (by simp only [VB] at v1; omega) (by simp only [VB] at v1; omega) (by simp only [VB] at v1; omega) (by simp only [VB] at v1; omega)
        simp only [BT.plan, Plan.enc_mk, List.map_nil, fits] at e3
        by_cases v2 : inside ⟨X, Y, W, H⟩ ⟨0, 0, kW, kH⟩
        · rw [decide_eq_true v2] at e2
          cases v3 : paneFits kP P T W H with
          | true =>
            rw [v3] at e3
            have hok : plOk (Work.mk kW kH kP) ⟨P, T, ⟨X, Y, W, H⟩⟩ := ⟨⟨v1, v2⟩, v3⟩
            simp +contextual -implicitDefEqProofs (maxSteps := 10000000) only [go_sem, seval, ↓gA, ↓gB, ↓gC, ↓gD, ↓gE, ↓gF, hx, hlt, hw1, e1, e2, e3, hr]
            refine ih (i + 1) _ ⟨by omega, hst hok⟩ (by omega) ?_
            rw [htk, List.map_append]
            simp +contextual -implicitDefEqProofs (maxSteps := 10000000) only [go_sem, seval, ↓gA, ↓gB, ↓gC, ↓gD, ↓gE, ↓gF, List.map_append]
          | false =>
            rw [v3] at e3
            have hn := hno (fun h => by have := h.2; simp only at this; rw [v3] at this; cases this)
            rw [decide_eq_false hn]
            simp +contextual -implicitDefEqProofs (maxSteps := 10000000) only [go_sem, seval, ↓gA, ↓gB, ↓gC, ↓gD, ↓gE, ↓gF, hx, hlt, hw1, e1, e2, e3]
        · rw [decide_eq_false v2] at e2
          have hn := hno (fun h => v2 h.1.2)
          rw [decide_eq_false hn]
          simp +contextual -implicitDefEqProofs (maxSteps := 10000000) only [go_sem, seval, ↓gA, ↓gB, ↓gC, ↓gD, ↓gE, ↓gF, hx, hlt, hw1, e1, e2]
      · rw [decide_eq_false v1] at e1
        have hn := hno (fun h => v1 h.1.1)
        rw [decide_eq_false hn]
        simp +contextual -implicitDefEqProofs (maxSteps := 10000000) only [go_sem, seval, ↓gA, ↓gB, ↓gC, ↓gD, ↓gE, ↓gF, hx, hlt, hw1, e1]
    · have : i = l.length := by omega
      subst this
      rw [List.take_of_length_le (Nat.le_refl _)] at hp ⊢
      have ea := s_apart_ev (l.map L.Place.Box) (fun b hb => by
        obtain ⟨c, hc, rfl⟩ := List.mem_map.1 hb
        exact (hp c hc).1.1) (by simp; omega)
      by_cases v1 : VW (Work.mk kW kH kP)
      · rw [decide_eq_true v1] at ew
        by_cases v2 : (l.length : Int) ≤ 12
        · simp +contextual -implicitDefEqProofs (maxSteps := 10000000) only [go_sem, seval, ↓gA, ↓gB, ↓gC, ↓gD, ↓gE, ↓gF, ea, ew, v2]
          exact fin_b ⟨fun h => ⟨⟨v1, by omega⟩, hp, h⟩, fun h => h.2.2⟩
        · have hn : ¬ VPl (Work.mk kW kH kP) l := fun h => by have := h.1.2; omega
          rw [decide_eq_false hn]
          simp +contextual -implicitDefEqProofs (maxSteps := 10000000) only [go_sem, seval, ↓gA, ↓gB, ↓gC, ↓gD, ↓gE, ↓gF, ew, v2]
      · rw [decide_eq_false v1] at ew
        have hn : ¬ VPl (Work.mk kW kH kP) l := fun h => v1 h.1.1
        rw [decide_eq_false hn]
        simp +contextual -implicitDefEqProofs (maxSteps := 10000000) only [go_sem, seval, ↓gA, ↓gB, ↓gC, ↓gD, ↓gE, ↓gF, ew]

end Go.Proofs.Ytdkieppaodnilaa
