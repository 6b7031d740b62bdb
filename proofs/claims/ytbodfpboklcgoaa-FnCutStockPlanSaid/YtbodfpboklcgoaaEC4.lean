/- Contracts of the functions, by the abstract semantics. -/
import Derived.Test.YtbodfpboklcgoaaECode
import Derived.Test.YtbodfpboklcgoaaAbsParts
import Derived.Test.YtbodfpboklcgoaaEC3
namespace Go.Proofs.Ytbodfpboklcgoaa
open Go Go.Abs Go.Abs.E Go.Abs.L
open Nat (reduceMul reduceSub reduceLeDiff reduceEqDiff)
open Int (reduceLE reduceEq reduceToNat reduceNeg)
set_option linter.unusedSimpArgs false
set_option linter.unusedVariables false
set_option maxRecDepth 20000
set_option maxHeartbeats 4000000
def sumWH : List Piece → Int
  | [] => 0
  | x :: l => x.W * x.H + sumWH l
theorem sumWH_append (a b : List Piece) : sumWH (a ++ b) = sumWH a + sumWH b := by
  induction a with
  | nil => simp [sumWH]
  | cons c l ih => simp only [List.cons_append, sumWH, ih]; omega
theorem sumWH_take {L : List Piece} {i : Nat} {x : Piece} (hx : L[i]? = some x) : sumWH (L.take (i + 1)) = sumWH (L.take i) + x.W * x.H := by
  rw [List.take_add_one, hx, sumWH_append]; simp [sumWH]
theorem sumWH_cutN (q : Piece) : ∀ (n : Int) (l : List Box), sumWH (cutN q n l) = areaL l
  | n, [] => rfl
  | n, b :: l => by simp only [cutN, sumWH, areaL, sumWH_cutN q (n + 1) l, cutP]
theorem sumWH_nonneg : ∀ {l : List Piece}, (∀ x ∈ l, 1 ≤ x.W ∧ x.W ≤ 200 ∧ 1 ≤ x.H ∧ x.H ≤ 200) → 0 ≤ sumWH l ∧ sumWH l ≤ 40000 * l.length
  | [], _ => by simp [sumWH]
  | x :: l, h => by
    have h1 := h x (by simp)
    have h2 := sumWH_nonneg (l := l) fun y hy => h y (by simp [hy])
    have h3 : 0 ≤ x.W * x.H := Int.mul_nonneg (by omega) (by omega)
    have h4 : x.W * x.H ≤ 200 * 200 := Int.mul_le_mul (by omega) (by omega) (by omega) (by omega)
    simp only [sumWH, List.length_cons]
    omega
def sortF : Int → List Piece → Prop
  | _, [] => True
  | b, x :: l => VPc x ∧ b < x.Label ∧ sortF x.Label l
instance sortFdec : ∀ (b : Int) (l : List Piece), Decidable (sortF b l)
  | _, [] => .isTrue trivial
  | b, x :: l => by unfold sortF; exact @instDecidableAnd _ _ _ (@instDecidableAnd _ _ _ (sortFdec x.Label l))
def VSt (l : List Piece) : Prop := l.length ≤ 20 ∧ sortF 0 l
instance (l : List Piece) : Decidable (VSt l) := by unfold VSt; infer_instance
theorem sortF_cons {l : List Piece} {k : Nat} {x : Piece} {b : Int} (hx : l[k]? = some x) : sortF b (l.drop k) ↔ VPc x ∧ b < x.Label ∧ sortF x.Label (l.drop (k + 1)) := by
  obtain ⟨h1, h2⟩ := List.getElem?_eq_some_iff.1 hx
  rw [List.drop_eq_getElem_cons h1, h2, sortF]
theorem sortF_end {l : List Piece} {b : Int} : sortF b (l.drop l.length) := by simp [sortF]
theorem i_ValidStock_ev (l : List Piece) : vcall Xs Ms n_i_ValidStock [(.d (.sl (l.map Piece.enc)))] [] = some ((.d (.bool (decide (VSt l)))), []) := by
  by_cases h20 : (20 : Int) < (l.length : Int)
  · have hn : ¬ VSt l := fun h => by have := h.1; omega
    refine callE Xs Ms f_i_ValidStock x_i_ValidStock (by show 1 ≤ _; decide) ?_
    simp +contextual -implicitDefEqProofs (maxSteps := 10000000) only [go_sem, seval, ↓gA, ↓gB, ↓gC, ↓gD, ↓gE, ↓gF, f_i_ValidStock, h20, hn]
  · have hle : l.length ≤ 20 := by omega
    refine callE Xs Ms f_i_ValidStock x_i_ValidStock (by show 1 ≤ _; decide) ?_
    simp +contextual -implicitDefEqProofs (maxSteps := 10000000) only [go_sem, seval, ↓gA, ↓gB, ↓gC, ↓gD, ↓gE, ↓gF, f_i_ValidStock, h20]
    refine LW_over Xs Ms (st0 := ?st0) (α := Nat × Int) (fun s => [(11, .d (.int .i64 (s.1 : Int))), (3, .d (.int .i64 s.2))]) (fun _ => []) (fun s => s.1 ≤ l.length ∧ (sortF 0 l ↔ sortF s.2 (l.drop s.1))) (fun s => l.length - s.1) (0, 0) ?hc ⟨by simp, by simp⟩ ?h0 ?step
    case hc => simp +contextual -implicitDefEqProofs (maxSteps := 10000000) only [go_sem, seval, ↓gA, ↓gB, ↓gC, ↓gD, ↓gE, ↓gF] <;> exact rfl
    case h0 => rfl
    case step =>
      intro ⟨i, b⟩ ⟨hi, hp⟩ ih
      simp only at hi hp
      by_cases hlt : i < l.length
      · obtain ⟨x, hx⟩ := get_lt hlt
        have hw := wrap_succ (k := i) (by omega)
        rw [sortF_cons hx] at hp
        have ev := i_ValidPiece_ev x.Label x.W x.H x.Flaws
        obtain ⟨L, W, H, F⟩ := x
        simp only at hp ev
        by_cases hv : VPc ⟨L, W, H, F⟩
        · rw [decide_eq_true hv] at ev
          by_cases hb : L ≤ b
          · have hn : ¬ VSt l := fun h => by have := (hp.1 h.2).2.1; omega
            simp +contextual -implicitDefEqProofs (maxSteps := 10000000) only [go_sem, seval, ↓gA, ↓gB, ↓gC, ↓gD, ↓gE, ↓gF, hx, hlt, hw, ev, hb, hn]
          · simp +contextual -implicitDefEqProofs (maxSteps := 10000000) only [go_sem, seval, ↓gA, ↓gB, ↓gC, ↓gD, ↓gE, ↓gF, hx, hlt, hw, ev, hb]
            refine ih (i + 1, L) _ ⟨by simp only; omega, ?_⟩ (by simp only; omega) ?_
            · rw [hp]; exact ⟨fun h => h.2.2, fun h => ⟨hv, by omega, h⟩⟩
            · simp +contextual -implicitDefEqProofs (maxSteps := 10000000) only [go_sem, seval, ↓gA, ↓gB, ↓gC, ↓gD, ↓gE, ↓gF]
        · rw [decide_eq_false hv] at ev
          have hn : ¬ VSt l := fun h => hv (hp.1 h.2).1
          simp +contextual -implicitDefEqProofs (maxSteps := 10000000) only [go_sem, seval, ↓gA, ↓gB, ↓gC, ↓gD, ↓gE, ↓gF, hx, hlt, hw, ev, hn]
      · have : i = l.length := by omega
        subst this
        have hy : VSt l := ⟨hle, hp.2 sortF_end⟩
        simp +contextual -implicitDefEqProofs (maxSteps := 10000000) only [go_sem, seval, ↓gA, ↓gB, ↓gC, ↓gD, ↓gE, ↓gF, hy]
def labAt (l : List Piece) : Nat → Int
  | 0 => 0
  | j + 1 => match l[j]? with
    | some x => x.Label
    | none => 0
def fLab : Nat → List Piece → Int → Int
  | _, [], _ => -1
  | k, x :: l, n => if x.Label = n then (k : Int) else fLab (k + 1) l n
theorem fLab_cons {l : List Piece} {k : Nat} {x : Piece} {n : Int} (hx : l[k]? = some x) : fLab k (l.drop k) n = if x.Label = n then (k : Int) else fLab (k + 1) (l.drop (k + 1)) n := by
  obtain ⟨h1, h2⟩ := List.getElem?_eq_some_iff.1 hx
  rw [List.drop_eq_getElem_cons h1, h2, fLab]
theorem i_findLabel_1_ev (qL : Int) (qW : Int) (qH : Int) (qF : List Box) (n : Int) : vcall Xs Ms n_i_findLabel_1 [(.d (.agg [.int .i64 qL, .int .i64 qW, .int .i64 qH, .sl (qF.map Box.enc)])), .ptr 0 0] [.box [(.d (.int .i64 (n)))]] = some ((.d (.bool (decide (qL = n)))), [.box [(.d (.int .i64 (n)))]]) := by
  refine callE Xs Ms f_i_findLabel_1 x_i_findLabel_1 (by show 2 ≤ _; decide) ?_
  simp +contextual -implicitDefEqProofs (maxSteps := 10000000) only [go_sem, seval, ↓gA, ↓gB, ↓gC, ↓gD, ↓gE, ↓gF, f_i_findLabel_1]
theorem IndexFunc_ev (l : List Piece) (n : Int) (hl : l.length < 4611686018427387904) : vcall Xs Ms n_slices_IndexFunc_g [(.d (.sl (l.map Piece.enc))), .clo n_i_findLabel_1 [.ptr 0 0]] [.box [(.d (.int .i64 (n)))]] = some ((.d (.int .i64 (fLab 0 l n))), [.box [(.d (.int .i64 (n)))]]) := by
  refine callE Xs Ms f_slices_IndexFunc_g x_slices_IndexFunc_g (by show 2 ≤ _; decide) ?_
  simp +contextual -implicitDefEqProofs (maxSteps := 10000000) only [go_sem, seval, ↓gA, ↓gB, ↓gC, ↓gD, ↓gE, ↓gF, f_slices_IndexFunc_g]
  refine LW_over Xs Ms (st0 := ?st0) (α := Nat) (fun k => [(8, .d (.int .i64 (k : Int)))]) (fun _ => []) (fun k => k ≤ l.length ∧ fLab k (l.drop k) n = fLab 0 l n) (fun k => l.length - k) 0 ?hc ⟨by omega, rfl⟩ ?h0 ?step
  case hc => simp +contextual -implicitDefEqProofs (maxSteps := 10000000) only [go_sem, seval, ↓gA, ↓gB, ↓gC, ↓gD, ↓gE, ↓gF] <;> exact rfl
  case h0 => rfl
  case step =>
    intro k ⟨hk, hp⟩ ih
    by_cases hlt : k < l.length
    · obtain ⟨x, hx⟩ := get_lt hlt
      rw [fLab_cons hx] at hp
      have hw := wrap_succ (k := k) (by omega)
      have e1 := i_findLabel_1_ev x.Label x.W x.H x.Flaws n
      obtain ⟨L, W, H, F⟩ := x
      simp only at hp e1
      by_cases h : L = n
      · rw [if_pos h] at hp
        rw [decide_eq_true h] at e1
        simp +contextual -implicitDefEqProofs (maxSteps := 10000000) only [go_sem, seval, ↓gA, ↓gB, ↓gC, ↓gD, ↓gE, ↓gF, hx, hlt, hw, e1]
        rw [← hp]
      · rw [if_neg h] at hp
        rw [decide_eq_false h] at e1
        simp +contextual -implicitDefEqProofs (maxSteps := 10000000) only [go_sem, seval, ↓gA, ↓gB, ↓gC, ↓gD, ↓gE, ↓gF, hx, hlt, hw, e1]
        refine ih (k + 1) _ ⟨by omega, hp⟩ (by omega) ?_
        simp +contextual -implicitDefEqProofs (maxSteps := 10000000) only [go_sem, seval, ↓gA, ↓gB, ↓gC, ↓gD, ↓gE, ↓gF]
    · have : k = l.length := by omega
      subst this
      simp +contextual -implicitDefEqProofs (maxSteps := 10000000) only [go_sem, seval, ↓gA, ↓gB, ↓gC, ↓gD, ↓gE, ↓gF]
      rw [← hp]
      simp [fLab]
theorem i_findLabel_ev (l : List Piece) (n : Int) (hl : l.length < 4611686018427387904) : vcall Xs Ms n_i_findLabel [(.d (.sl (l.map Piece.enc))), (.d (.int .i64 (n)))] [] = some ((.d (.int .i64 (fLab 0 l n))), []) := by
  refine callE Xs Ms f_i_findLabel x_i_findLabel (by show 2 ≤ _; decide) ?_
  simp +contextual -implicitDefEqProofs (maxSteps := 10000000) only [go_sem, seval, ↓gA, ↓gB, ↓gC, ↓gD, ↓gE, ↓gF, f_i_findLabel, IndexFunc_ev l n hl]
theorem i_copyPiece_ev (qL : Int) (qW : Int) (qH : Int) (qF : List Box) (hF : qF.length ≤ 1000000) : vcall Xs Ms n_i_copyPiece [(.d (.agg [.int .i64 qL, .int .i64 qW, .int .i64 qH, .sl (qF.map Box.enc)]))] [] = some (.agg [(.d (.int .i64 (qL))), (.d (.int .i64 (qW))), (.d (.int .i64 (qH))), .own 0], [.row 4 (qF.map Box.enc) true false]) := by
  have hr : qF.length * 32 ≤ 140737488355328 ∧ qF.length ≤ 140737488355328 := by omega
  refine callE Xs Ms f_i_copyPiece x_i_copyPiece (by show 1 ≤ _; decide) ?_
  simp +contextual -implicitDefEqProofs (maxSteps := 10000000) only [go_sem, seval, ↓gA, ↓gB, ↓gC, ↓gD, ↓gE, ↓gF, f_i_copyPiece, hr]
theorem i_copyStock_ev (l : List Piece) (hl : l.length ≤ 1000000) (hF : ∀ x ∈ l, x.Flaws.length ≤ 1000000) : vcall Xs Ms n_i_copyStock [(.d (.sl (l.map Piece.enc)))] [] = some (.own 0, [.row 4 (l.map Piece.enc) true false]) := by
  refine callE Xs Ms f_i_copyStock x_i_copyStock (by show 1 ≤ _; decide) ?_
  simp +contextual -implicitDefEqProofs (maxSteps := 10000000) only [go_sem, seval, ↓gA, ↓gB, ↓gC, ↓gD, ↓gE, ↓gF, f_i_copyStock]
  refine LW_over Xs Ms (st0 := ?st0) (α := Nat) (fun i => [(8, .d (.int .i64 (i : Int)))]) (fun i => [(0, .row 4 ((l.take i).map Piece.enc) true false)]) (fun i => i ≤ l.length) (fun i => l.length - i) 0 ?hc (by omega) ?h0 ?step
  case hc => simp +contextual -implicitDefEqProofs (maxSteps := 10000000) only [go_sem, seval, ↓gA, ↓gB, ↓gC, ↓gD, ↓gE, ↓gF] <;> exact rfl
  case h0 => rfl
  case step =>
    intro i hi ih
    by_cases hlt : i < l.length
    · obtain ⟨x, hx⟩ := get_lt hlt
      have hw := wrap_succ (k := i) (by omega)
      have hm : l.take (i + 1) = l.take i ++ [x] := by rw [List.take_add_one, hx]; simp
      have hlk : (l.take i).length ≤ i := by simp; omega
      have hr : ((l.take i).length + 1) * 48 ≤ 140737488355328 ∧ (l.take i).length ≤ 140737488355327 := by omega
      have e := i_copyPiece_ev x.Label x.W x.H x.Flaws (hF x (List.mem_of_getElem? hx))
      obtain ⟨L, W, H, F⟩ := x
      simp only at e
      simp +contextual -implicitDefEqProofs (maxSteps := 10000000) only [go_sem, seval, ↓gA, ↓gB, ↓gC, ↓gD, ↓gE, ↓gF, hx, hlt, hw, e, hr]
      refine ih (i + 1) _ (by omega) (by omega) ?_
      simp +contextual -implicitDefEqProofs (maxSteps := 10000000) only [go_sem, seval, ↓gA, ↓gB, ↓gC, ↓gD, ↓gE, ↓gF, hm]
      first | rfl | (simp; done) | (simp; rfl)
    · have : i = l.length := by omega
      subst this
      simp +contextual -implicitDefEqProofs (maxSteps := 10000000) only [go_sem, seval, ↓gA, ↓gB, ↓gC, ↓gD, ↓gE, ↓gF]
      simp

theorem er_len {α : Type} (l : List α) (a : Nat) : (l.eraseIdx a).length ≤ l.length := by
  have := List.length_eraseIdx_le l a
  omega
def lastL (l : List Piece) : Int := labAt l l.length
theorem lastL_get {l : List Piece} {x : Piece} (hx : l[l.length - 1]? = some x) : lastL l = x.Label := by
  have h := (List.getElem?_eq_some_iff.1 hx).1
  unfold lastL
  obtain ⟨n, hn⟩ : ∃ n, l.length = n + 1 := ⟨l.length - 1, by omega⟩
  rw [hn] at hx ⊢
  simp only [labAt]
  simp only [Nat.add_sub_cancel] at hx
  rw [hx]
theorem fLab_range : ∀ (l : List Piece) (k : Nat) (n : Int), fLab k l n = -1 ∨ ∃ i : Nat, fLab k l n = ((k + i : Nat) : Int) ∧ i < l.length
  | [], k, n => .inl rfl
  | x :: l, k, n => by
    unfold fLab
    split
    · exact .inr ⟨0, by simp, by simp⟩
    · rcases fLab_range l (k + 1) n with h | ⟨i, h1, h2⟩
      · exact .inl h
      · exact .inr ⟨i + 1, by rw [h1]; congr 1; omega, by simp; omega⟩
theorem sortF_all : ∀ {l : List Piece} {b : Int}, sortF b l → ∀ x ∈ l, VPc x
  | [], _, _, x, hx => by simp at hx
  | y :: l, b, h, x, hx => by
    rcases List.mem_cons.1 hx with rfl | hx
    · exact h.1
    · exact sortF_all h.2.2 x hx
theorem VSt_small {l : List Piece} (h : VSt l) : l.length ≤ 1000000 ∧ ∀ x ∈ l, x.Flaws.length ≤ 1000000 := by
  refine ⟨by have := h.1; omega, fun x hx => ?_⟩
  have := (sortF_all h.2 x hx).1.2.2.2.2.2.2
  omega
theorem i_TakePiece_no (l : List Piece) (n : Int) (h : ¬ (VSt l ∧ 0 ≤ fLab 0 l n)) : vcall Xs Ms n_i_TakePiece [(.d (.sl (l.map Piece.enc))), (.d (.int .i64 (n)))] [] =
    some (.tup [.agg [(.d (.int .i64 (0))), (.d (.int .i64 (0))), (.d (.int .i64 (0))), .own 0], .own 1, (.d (.bool (false)))], [.row 4 [] true false, .row 4 [] true false]) := by
  have ev := i_ValidStock_ev l
  by_cases hv : VSt l
  · rw [decide_eq_true hv] at ev
    have hf := i_findLabel_ev l n (by have := hv.1; omega)
    have hn : fLab 0 l n < 0 := by
      rcases Int.lt_or_le (fLab 0 l n) 0 with h1 | h1
      · exact h1
      · exact absurd ⟨hv, h1⟩ h
    refine callE Xs Ms f_i_TakePiece x_i_TakePiece (by show 2 ≤ _; decide) ?_
    simp +contextual -implicitDefEqProofs (maxSteps := 10000000) only [go_sem, seval, ↓gA, ↓gB, ↓gC, ↓gD, ↓gE, ↓gF, f_i_TakePiece, ev, hf, hn]
  · rw [decide_eq_false hv] at ev
    refine callE Xs Ms f_i_TakePiece x_i_TakePiece (by show 2 ≤ _; decide) ?_
    simp +contextual -implicitDefEqProofs (maxSteps := 10000000) only [go_sem, seval, ↓gA, ↓gB, ↓gC, ↓gD, ↓gE, ↓gF, f_i_TakePiece, ev]
theorem i_TakePiece_yes (l : List Piece) (n : Int) (hv : VSt l) (i : Nat) (hi : fLab 0 l n = (i : Int)) (qL : Int) (qW : Int) (qH : Int) (qF : List Box) (hx : l[i]? = some (Piece.mk qL qW qH qF)) : vcall Xs Ms n_i_TakePiece [(.d (.sl (l.map Piece.enc))), (.d (.int .i64 (n)))] [] =
    some (.tup [.agg [(.d (.int .i64 (qL))), (.d (.int .i64 (qW))), (.d (.int .i64 (qH))), .own 0], .own 1, (.d (.bool (true)))], [.row 4 (qF.map Box.enc) true false, .row 4 ((l.eraseIdx i).map Piece.enc) true false]) := by
  have ev := i_ValidStock_ev l
  rw [decide_eq_true hv] at ev
  have hlt : i < l.length := (List.getElem?_eq_some_iff.1 hx).1
  have hl20 := hv.1
  obtain ⟨h1, h2⟩ := VSt_small hv
  have hf := i_findLabel_ev l n (by omega)
  rw [hi] at hf
  have hw := wrap_succ (k := i) (by omega)
  have c1 := i_copyStock_ev (l.take i) (by simp; omega) (fun x hx => h2 x (List.mem_of_mem_take hx))
  have c2 := i_copyStock_ev (l.drop (i + 1)) (by simp; omega) (fun x hx => h2 x (List.mem_of_mem_drop hx))
  have e := i_copyPiece_ev qL qW qH qF (h2 (Piece.mk qL qW qH qF) (List.mem_of_getElem? hx))
  have hr : ((l.take i).length + (l.drop (i + 1)).length) * 48 ≤ 140737488355328 ∧ (l.take i).length + (l.drop (i + 1)).length ≤ 140737488355328 := by simp; omega
  have hle : i ≤ l.length := by omega
  have hle2 : i + 1 ≤ l.length := by omega
  have hi0 : ¬ (i : Int) < 0 := by omega
  rw [List.eraseIdx_eq_take_drop_succ]
  refine callE Xs Ms f_i_TakePiece x_i_TakePiece (by show 2 ≤ _; decide) ?_
  simp +contextual -implicitDefEqProofs (maxSteps := 10000000) only [go_sem, seval, ↓gA, ↓gB, ↓gC, ↓gD, ↓gE, ↓gF, f_i_TakePiece, optL, ev, hf, hi0, hw, hx, hlt, hle, hle2, c1, c2, e, hr, List.take_length]


theorem sortF_mono {b c : Int} (h : b ≤ c) : ∀ {l : List Piece}, sortF c l → sortF b l
  | [], _ => trivial
  | x :: l, hs => ⟨hs.1, by have := hs.2.1; omega, hs.2.2⟩
theorem sortF_erase : ∀ {l : List Piece} {b : Int} (i : Nat), sortF b l → sortF b (l.eraseIdx i)
  | [], b, i, _ => by simp [sortF]
  | x :: l, b, 0, h => by
    simp only [List.eraseIdx_cons_zero]
    exact sortF_mono (by have := h.2.1; omega) h.2.2
  | x :: l, b, i + 1, h => by
    simp only [List.eraseIdx_cons_succ]
    exact ⟨h.1, h.2.1, sortF_erase i h.2.2⟩
theorem sortF_get : ∀ {l : List Piece} {b : Int}, sortF b l → ∀ (i j : Nat) (x y : Piece), i ≤ j → l[i]? = some x → l[j]? = some y → x.Label ≤ y.Label ∧ b < x.Label
  | [], b, _, i, j, x, y, _, hx, _ => by simp at hx
  | z :: l, b, h, 0, 0, x, y, _, hx, hy => by
    simp at hx hy; subst hx; subst hy; exact ⟨Int.le_refl _, h.2.1⟩
  | z :: l, b, h, 0, j + 1, x, y, _, hx, hy => by
    simp at hx hy; subst hx
    have := (sortF_get h.2.2 j j y y (Nat.le_refl _) hy hy).2
    exact ⟨by omega, h.2.1⟩
  | z :: l, b, h, i + 1, j + 1, x, y, hij, hx, hy => by
    simp at hx hy
    have := sortF_get h.2.2 i j x y (by omega) hx hy
    have h2 := h.2.1
    exact ⟨this.1, by omega⟩
  | z :: l, b, h, i + 1, 0, x, y, hij, hx, hy => by omega
theorem sortF_cutN {q : Piece} (hq : VPc q) : ∀ {L : List Box} {n c : Int}, c < n → 1 ≤ n → (∀ b ∈ L, VB b ∧ inside b ⟨0, 0, q.W, q.H⟩) → (sortF c (cutN q n L) ↔ (L = [] ∨ (L.length : Int) ≤ 10000 - n))
  | [], n, c, _, _, _ => by simp [cutN, sortF]
  | b :: L, n, c, hc, h1, hb => by
    have ih := sortF_cutN hq (L := L) (n := n + 1) (c := n) (by omega) (by omega) (fun d hd => hb d (by simp [hd]))
    have hv : VPc (cutP q b n) ↔ n ≤ 9999 := ⟨fun h => by have := h.1.2.1; simpa [cutP] using this, fun h => cutP_valid hq (hb b (by simp)).1 (hb b (by simp)).2 h1 h⟩
    simp only [cutN, sortF, hv, ih]
    have e : (cutP q b n).Label = n := rfl
    rw [e, ih]
    have hl : ((b :: L).length : Int) = L.length + 1 := by simp
    constructor
    · rintro ⟨g1, g2, g3⟩
      right
      rcases g3 with rfl | g3
      · simp only [List.length_cons, List.length_nil]; omega
      · omega
    · rintro (g | g)
      · cases g
      · refine ⟨by omega, hc, ?_⟩
        by_cases h0 : L = []
        · exact .inl h0
        · exact .inr (by omega)
theorem sortF_app {B : List Piece} {n : Int} {Q : Prop} (hB : ∀ c, c < n → (sortF c B ↔ Q)) : ∀ {A : List Piece} {b : Int}, sortF b A → (∀ x ∈ A, x.Label < n) → b < n → (sortF b (A ++ B) ↔ Q)
  | [], b, _, _, hb => hB b hb
  | x :: A, b, h, hx, hb => by
    have ih := sortF_app hB h.2.2 (fun y hy => hx y (by simp [hy])) (hx x (by simp))
    simp only [List.cons_append, sortF, ih]
    exact ⟨fun g => g.2.2, fun g => ⟨h.1, h.2.1, g⟩⟩
theorem lastL_le {l : List Piece} (hv : VSt l) (hne : 0 < l.length) : 1 ≤ lastL l ∧ lastL l ≤ 9999 ∧ ∀ x ∈ l, x.Label ≤ lastL l := by
  obtain ⟨y, hy⟩ := get_lt (l := l) (k := l.length - 1) (by omega)
  rw [lastL_get hy]
  have hyv := (sortF_all hv.2 y (List.mem_of_getElem? hy)).1
  refine ⟨hyv.1, hyv.2.1, fun x hx => ?_⟩
  obtain ⟨i, hi⟩ := List.getElem?_of_mem hx
  have := (List.getElem?_eq_some_iff.1 hi).1
  exact (sortF_get hv.2 i (l.length - 1) x y (by omega) hi hy).1
def cutL (l : List Piece) (i : Nat) (x : Piece) (k : Work) (p : Plan) (least : Int) : List Piece := l.eraseIdx i ++ cutN x (lastL l + 1) (keptL k p least)
theorem VSt_cut {l : List Piece} {i : Nat} {x : Piece} {k : Work} {p : Plan} {least : Int} (hv : VSt l) (hx : l[i]? = some x) (hg : goodP x k p) :
    VSt (cutL l i x k p least) ↔ ((keptL k p least).length : Int) ≤ 10000 - (lastL l + 1) ∧ (l.eraseIdx i).length + (keptL k p least).length ≤ 20 := by
  have hil := (List.getElem?_eq_some_iff.1 hx).1
  obtain ⟨h1, h2, h3⟩ := lastL_le hv (by omega)
  have hq := sortF_all hv.2 x (List.mem_of_getElem? hx)
  have hin : ∀ b ∈ keptL k p least, VB b ∧ inside b ⟨0, 0, x.W, x.H⟩ := fun b hb => by
    have := keptL_in (least := least) hg.1 b hb
    rw [← hg.2.1, ← hg.2.2.1]; exact this
  have hs := sortF_app (n := lastL l + 1) (fun c hc => sortF_cutN hq hc (by omega) hin) (sortF_erase i hv.2) (fun y hy => by have := h3 y (List.mem_of_mem_eraseIdx hy); omega) (by omega)
  unfold VSt cutL
  rw [hs, List.length_append, cutN_len]
  constructor
  · rintro ⟨g1, g2 | g2⟩
    · exact ⟨by rw [g2]; simp; omega, g1⟩
    · exact ⟨g2, g1⟩
  · rintro ⟨g1, g2⟩
    exact ⟨g2, .inr g1⟩
def cutSt (l : List Piece) (n : Int) (k : Work) (p : Plan) (least : Int) : Option (List Piece) :=
  if VSt l ∧ 0 ≤ fLab 0 l n ∧ 1 ≤ least ∧ least ≤ 200 then
    match l[(fLab 0 l n).toNat]? with
    | some x => if goodP x k p ∧ VSt (cutL l (fLab 0 l n).toNat x k p least) then some (cutL l (fLab 0 l n).toNat x k p least) else none
    | none => none
  else none
def cutR : Option (List Piece) → AV × List AObj
  | some R => (.tup [.own 0, (.d (.bool (true)))], [.row 4 (R.map Piece.enc) true false])
  | none => (.tup [.own 0, (.d (.bool (false)))], [.row 4 [] true false])
theorem fLab_get {l : List Piece} {n : Int} (h : 0 ≤ fLab 0 l n) : ∃ (i : Nat) (x : Piece), fLab 0 l n = (i : Int) ∧ l[i]? = some x := by
  rcases fLab_range l 0 n with h1 | ⟨i, h1, h2⟩
  · omega
  · obtain ⟨x, hx⟩ := get_lt h2
    exact ⟨i, x, by rw [h1]; simp, hx⟩
theorem i_CutStock_ev (l : List Piece) (n : Int) (kW : Int) (kH : Int) (kP : List Pane) (p : Plan) (least : Int) : vcall Xs Ms n_i_CutStock [(.d (.sl (l.map Piece.enc))), (.d (.int .i64 (n))), (.d (.agg [.int .i64 kW, .int .i64 kH, .sl (kP.map Pane.enc)])), .d p.enc, (.d (.int .i64 (least)))] [] = some (cutR (cutSt l n (Work.mk kW kH kP) p least)) := by
  by_cases h : VSt l ∧ 0 ≤ fLab 0 l n
  · obtain ⟨hv, hf⟩ := h
    obtain ⟨i, x, hi, hx⟩ := fLab_get hf
    have hil := (List.getElem?_eq_some_iff.1 hx).1
    have hq := sortF_all hv.2 x (List.mem_of_getElem? hx)
    have hll := lastL_le hv (by omega)
    obtain ⟨y, hy⟩ := get_lt (l := l) (k := l.length - 1) (by omega)
    have hly := lastL_get hy
    have h20 := hv.1
    have hvc := VSt_cut (k := (Work.mk kW kH kP)) (p := p) (least := least) hv hx
    have et := fun q1 q2 q3 q4 h => i_TakePiece_yes l n hv i hi q1 q2 q3 q4 h
    unfold cutSt
    rw [hi]
    simp only [Int.toNat_natCast, hx]
    obtain ⟨L, W, H, F⟩ := x
    have et := et L W H F hx
    have eg := i_GoodPlan_ev L W H F kW kH kP p
    have hel : (l.eraseIdx i).length ≤ 20 := Nat.le_trans (er_len _ _) h20
    have hlt1 : l.length - 1 < l.length := by omega
    have w1 : IntKind.i64.wrap ((l.length : Int) - 1) = ((l.length - 1 : Nat) : Int) := by rw [wrap64 (by omega) (by omega)]; omega
    have w2 := wi (lastL l + 1) (by omega) (by omega)
    by_cases hg : goodP ⟨L, W, H, F⟩ (Work.mk kW kH kP) p
    · have hd : decide (VPc ⟨L, W, H, F⟩ ∧ goodP ⟨L, W, H, F⟩ (Work.mk kW kH kP) p) = true := decide_eq_true ⟨hq, hg⟩
      rw [hd] at eg
      by_cases hl : 1 ≤ least ∧ least ≤ 200
      · have n1 : ¬ least < 1 := by omega
        have n2 : ¬ 200 < least := by omega
        have hkl := keptL_len (Work.mk kW kH kP) p least
        by_cases hk : ((keptL (Work.mk kW kH kP) p least).length : Int) ≤ 10000 - (lastL l + 1)
        · have er := i_cutRemnants_yes L W H F kW kH kP p least (lastL l + 1) hq hg.1 hg.2.1 hg.2.2.1 (by omega) (by omega) hk
          have w3 := wi (((l.eraseIdx i).length : Int) + ((keptL (Work.mk kW kH kP) p least).length : Int)) (by omega) (by omega)
          have hcl := cutN_len ⟨L, W, H, F⟩ (lastL l + 1) (keptL (Work.mk kW kH kP) p least)
          by_cases h2 : (l.eraseIdx i).length + (keptL (Work.mk kW kH kP) p least).length ≤ 20
          · rw [if_pos ⟨hv, by omega, hl⟩, if_pos ⟨hg, (hvc hg).2 ⟨hk, h2⟩⟩]
            unfold cutL cutR
            have n3 : ¬ (20 : Int) < ((l.eraseIdx i).length : Int) + ((keptL (Work.mk kW kH kP) p least).length : Int) := by omega
            have hr : ((l.eraseIdx i).length + (keptL (Work.mk kW kH kP) p least).length) * 48 ≤ 140737488355328 ∧ (l.eraseIdx i).length + (keptL (Work.mk kW kH kP) p least).length ≤ 140737488355328 := by omega
            clear hvc hg hd
            generalize cutN ⟨L, W, H, F⟩ (lastL l + 1) (keptL (Work.mk kW kH kP) p least) = R at er hcl ⊢
            generalize (keptL (Work.mk kW kH kP) p least).length = N at *
            obtain ⟨yL, yW, yH, yF⟩ := y
            simp only at hly
            rw [hly] at er w2
            obtain ⟨o, a, m, t, ks⟩ := p
            rw [Plan.enc_mk] at er eg ⊢
            refine callE Xs Ms f_i_CutStock x_i_CutStock (by show 5 ≤ _; decide) ?_
            simp +contextual -implicitDefEqProofs (maxSteps := 10000000) only [go_sem, seval, ↓gA, ↓gB, ↓gC, ↓gD, ↓gE, ↓gF, f_i_CutStock, et, eg, n1, n2, w1, hy, hlt1, w2, er, hcl, w3, n3, hr]
          · rw [if_pos ⟨hv, by omega, hl⟩, if_neg (fun h => h2 ((hvc hg).1 h.2).2)]
            unfold cutR
            have n3 : (20 : Int) < ((l.eraseIdx i).length : Int) + ((keptL (Work.mk kW kH kP) p least).length : Int) := by omega
            clear hvc hg hd
            generalize cutN ⟨L, W, H, F⟩ (lastL l + 1) (keptL (Work.mk kW kH kP) p least) = R at er hcl ⊢
            generalize (keptL (Work.mk kW kH kP) p least).length = N at *
            obtain ⟨yL, yW, yH, yF⟩ := y
            simp only at hly
            rw [hly] at er w2
            obtain ⟨o, a, m, t, ks⟩ := p
            rw [Plan.enc_mk] at er eg ⊢
            refine callE Xs Ms f_i_CutStock x_i_CutStock (by show 5 ≤ _; decide) ?_
            simp +contextual -implicitDefEqProofs (maxSteps := 10000000) only [go_sem, seval, ↓gA, ↓gB, ↓gC, ↓gD, ↓gE, ↓gF, f_i_CutStock, et, eg, n1, n2, w1, hy, hlt1, w2, er, hcl, w3, n3]
        · have er := i_cutRemnants_no L W H F kW kH kP p least (lastL l + 1) (by omega) (by omega) hk
          rw [if_pos ⟨hv, by omega, hl⟩, if_neg (fun h => hk ((hvc hg).1 h.2).1)]
          unfold cutR
          clear hvc hg hd hk hkl
          obtain ⟨yL, yW, yH, yF⟩ := y
          simp only at hly
          rw [hly] at er w2
          obtain ⟨o, a, m, t, ks⟩ := p
          rw [Plan.enc_mk] at er eg ⊢
          refine callE Xs Ms f_i_CutStock x_i_CutStock (by show 5 ≤ _; decide) ?_
          simp +contextual -implicitDefEqProofs (maxSteps := 10000000) only [go_sem, seval, ↓gA, ↓gB, ↓gC, ↓gD, ↓gE, ↓gF, f_i_CutStock, et, eg, n1, n2, w1, hy, hlt1, w2, er]
      · rw [if_neg (fun h => hl ⟨h.2.2.1, h.2.2.2⟩)]
        unfold cutR
        clear hvc hg hd
        obtain ⟨o, a, m, t, ks⟩ := p
        rw [Plan.enc_mk] at eg ⊢
        by_cases n1 : least < 1
        · refine callE Xs Ms f_i_CutStock x_i_CutStock (by show 5 ≤ _; decide) ?_
          simp +contextual -implicitDefEqProofs (maxSteps := 10000000) only [go_sem, seval, ↓gA, ↓gB, ↓gC, ↓gD, ↓gE, ↓gF, f_i_CutStock, et, eg, n1]
        · have n2 : 200 < least := by omega
          refine callE Xs Ms f_i_CutStock x_i_CutStock (by show 5 ≤ _; decide) ?_
          simp +contextual -implicitDefEqProofs (maxSteps := 10000000) only [go_sem, seval, ↓gA, ↓gB, ↓gC, ↓gD, ↓gE, ↓gF, f_i_CutStock, et, eg, n1, n2]
    · have hd : decide (VPc ⟨L, W, H, F⟩ ∧ goodP ⟨L, W, H, F⟩ (Work.mk kW kH kP) p) = false := decide_eq_false fun h => hg h.2
      rw [hd] at eg
      have e0 : (if VSt l ∧ (0 : Int) ≤ (i : Int) ∧ 1 ≤ least ∧ least ≤ 200 then (if goodP ⟨L, W, H, F⟩ (Work.mk kW kH kP) p ∧ VSt (cutL l i ⟨L, W, H, F⟩ (Work.mk kW kH kP) p least) then some (cutL l i ⟨L, W, H, F⟩ (Work.mk kW kH kP) p least) else none) else none) = none := by
        rw [if_neg (fun h : goodP ⟨L, W, H, F⟩ (Work.mk kW kH kP) p ∧ _ => hg h.1)]; split <;> rfl
      rw [e0]
      unfold cutR
      clear hvc hg hd e0
      obtain ⟨o, a, m, t, ks⟩ := p
      rw [Plan.enc_mk] at eg ⊢
      refine callE Xs Ms f_i_CutStock x_i_CutStock (by show 5 ≤ _; decide) ?_
      simp +contextual -implicitDefEqProofs (maxSteps := 10000000) only [go_sem, seval, ↓gA, ↓gB, ↓gC, ↓gD, ↓gE, ↓gF, f_i_CutStock, et, eg]
  · have et := i_TakePiece_no l n h
    have e0 : cutSt l n (Work.mk kW kH kP) p least = none := by
      unfold cutSt
      rw [if_neg (fun g => h ⟨g.1, g.2.1⟩)]
    rw [e0]
    unfold cutR
    clear e0
    obtain ⟨o, a, m, t, ks⟩ := p
    rw [Plan.enc_mk]
    refine callE Xs Ms f_i_CutStock x_i_CutStock (by show 5 ≤ _; decide) ?_
    simp +contextual -implicitDefEqProofs (maxSteps := 10000000) only [go_sem, seval, ↓gA, ↓gB, ↓gC, ↓gD, ↓gE, ↓gF, f_i_CutStock, et]

theorem i_StockArea_ev (l : List Piece) (hv : VSt l) : vcall Xs Ms n_i_StockArea [(.d (.sl (l.map Piece.enc)))] [] = some ((.d (.int .i64 (sumWH l))), []) := by
  have ev := i_ValidStock_ev l
  rw [decide_eq_true hv] at ev
  have h20 := hv.1
  have hval : ∀ x ∈ l, 1 ≤ x.W ∧ x.W ≤ 200 ∧ 1 ≤ x.H ∧ x.H ≤ 200 := fun x hx => by
    have := (sortF_all hv.2 x hx).1; omega
  clear hv
  refine callE Xs Ms f_i_StockArea x_i_StockArea (by show 1 ≤ _; decide) ?_
  simp +contextual -implicitDefEqProofs (maxSteps := 10000000) only [go_sem, seval, ↓gA, ↓gB, ↓gC, ↓gD, ↓gE, ↓gF, f_i_StockArea, ev]
  refine LW_over Xs Ms (st0 := ?st0) (α := Nat) (fun i => [(11, .d (.int .i64 (i : Int))), (3, .d (.int .i64 (sumWH (l.take i))))]) (fun _ => []) (fun i => i ≤ l.length) (fun i => l.length - i) 0 ?hc (by omega) ?h0 ?step
  case hc => simp +contextual -implicitDefEqProofs (maxSteps := 10000000) only [go_sem, seval, ↓gA, ↓gB, ↓gC, ↓gD, ↓gE, ↓gF] <;> exact rfl
  case h0 => rfl
  case step =>
    intro i hi ih
    by_cases hlt : i < l.length
    · obtain ⟨x, hx⟩ := get_lt hlt
      have hw := wrap_succ (k := i) (by omega)
      have hm := sumWH_take hx
      have hst := sumWH_nonneg (l := l.take i) (fun y hy => hval y (List.mem_of_mem_take hy))
      have hlk : (l.take i).length ≤ i := by simp; omega
      have g5 := hval x (List.mem_of_getElem? hx)
      have hxx : x.W * x.H ≤ 200 * 200 := Int.mul_le_mul (by omega) (by omega) (by omega) (by omega)
      have hx0 : 0 ≤ x.W * x.H := Int.mul_nonneg (by omega) (by omega)
      obtain ⟨xL, xW, xH, xF⟩ := x
      simp only at g5 hm hxx hx0
      have u0 := wi (xW * xH) (by omega) (by omega)
      have u1 := wi (sumWH (l.take i) + xW * xH) (by omega) (by omega)
      simp +contextual -implicitDefEqProofs (maxSteps := 10000000) only [go_sem, seval, ↓gA, ↓gB, ↓gC, ↓gD, ↓gE, ↓gF, hx, hlt, hw, u0, u1]
      refine ih (i + 1) _ (by omega) (by omega) ?_
      simp +contextual -implicitDefEqProofs (maxSteps := 10000000) only [go_sem, seval, ↓gA, ↓gB, ↓gC, ↓gD, ↓gE, ↓gF, hm]
    · have : i = l.length := by omega
      subst this
      simp +contextual -implicitDefEqProofs (maxSteps := 10000000) only [go_sem, seval, ↓gA, ↓gB, ↓gC, ↓gD, ↓gE, ↓gF, List.take_length]
theorem goodP_area {q : Piece} {k : Work} {p : Plan} {least : Int} (hg : goodP q k p) :
    areaL (keptL k p least) + areaL (lostL k p least) + areaL (((partsL k p).filterMap asPlace).map Place.Box) = q.W * q.H ∧ (∀ b ∈ ((partsL k p).filterMap asPlace).map Place.Box, VB b) := by
  have hv := hg.1
  obtain ⟨b, hb, hpb, hvw, hcnt, hfit, hpt⟩ := vplan_some hv
  refine ⟨?_, fun c hc => ?_⟩
  · unfold keptL lostL
    have := area_kept_lost least ((partsL k p).filterMap asWaste)
    have h6 := area_all (ps := k.Panes) (b := b) (x := 0) (y := 0) (w := k.W) (h := k.H)
    rw [hpt, pt_wastes] at *
    rw [pt_places, ← hg.2.1, ← hg.2.2.1]
    omega
  · obtain ⟨d, hd, rfl⟩ := List.mem_map.1 hc
    rw [hpt, pt_places] at hd
    exact vplan_places (p := p) hvw hfit d hd
theorem binV_nb (a b : Bool) : binV .neq true (.d (.bool a)) (.d (.bool b)) = only1 (.d (.bool (!(a == b)))) := rfl
theorem binV_eb (a b : Bool) : binV .eql true (.d (.bool a)) (.d (.bool b)) = only1 (.d (.bool (a == b))) := rfl
end Go.Proofs.Ytbodfpboklcgoaa
