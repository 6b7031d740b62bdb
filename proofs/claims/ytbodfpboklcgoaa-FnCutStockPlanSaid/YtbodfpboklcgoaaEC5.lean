/- Contracts of the functions, by the abstract semantics. -/
import Derived.Test.YtbodfpboklcgoaaECode
import Derived.Test.YtbodfpboklcgoaaAbsParts
import Derived.Test.YtbodfpboklcgoaaEC4
namespace Go.Proofs.Ytbodfpboklcgoaa
open Go Go.Abs Go.Abs.E Go.Abs.L
open Nat (reduceMul reduceSub reduceLeDiff reduceEqDiff)
open Int (reduceLE reduceEq reduceToNat reduceNeg)
set_option linter.unusedSimpArgs false
set_option linter.unusedVariables false
set_option maxRecDepth 20000
set_option maxHeartbeats 4000000
def sumN (f : Nat → Nat) : Nat → Nat
  | 0 => 0
  | n + 1 => sumN f n + f n
theorem sumN_congr {f g : Nat → Nat} : ∀ {n : Nat}, (∀ i, i < n → f i = g i) → sumN f n = sumN g n
  | 0, _ => rfl
  | n + 1, h => by simp only [sumN]; rw [sumN_congr (fun i hi => h i (by omega)), h n (by omega)]
theorem sumN_add (f g : Nat → Nat) : ∀ (n : Nat), sumN (fun i => f i + g i) n = sumN f n + sumN g n
  | 0 => rfl
  | n + 1 => by simp only [sumN, sumN_add f g n]; omega
theorem sumN_zero : ∀ (n : Nat), sumN (fun _ => 0) n = 0
  | 0 => rfl
  | n + 1 => by simp only [sumN, sumN_zero n]
theorem sumN_split (f : Nat → Nat) (a : Nat) : ∀ (b : Nat), sumN f (a + b) = sumN f a + sumN (fun i => f (a + i)) b
  | 0 => rfl
  | b + 1 => by rw [← Nat.add_assoc]; simp only [sumN, sumN_split f a b]; omega
theorem sumN_le {f : Nat → Nat} {c : Nat} (h : ∀ i, f i ≤ c) : ∀ (n : Nat), sumN f n ≤ c * n
  | 0 => by simp [sumN]
  | n + 1 => by
    have := sumN_le h n
    have := h n
    simp only [sumN, Nat.mul_succ]; omega
/-- One more at one place. -/
theorem sumN_one {f g : Nat → Nat} {k : Nat} (hk : g k = f k + 1) (ho : ∀ i, i ≠ k → g i = f i) : ∀ (n : Nat), k < n → sumN g n = sumN f n + 1
  | 0, h => by omega
  | n + 1, h => by
    simp only [sumN]
    by_cases e : n = k
    · subst e
      rw [sumN_congr (f := g) (g := f) (fun i hi => ho i (by omega)), hk]; omega
    · rw [sumN_one hk ho n (by omega), ho n e]; omega
theorem sumN_shift (f : Nat → Nat) {X W : Nat} (h : X + W ≤ 200) : sumN (fun x => if x < W then f (x + X) else 0) 200 = sumN (fun x => if X ≤ x ∧ x < X + W then f x else 0) 200 := by
  have e1 : sumN (fun x => if x < W then f (x + X) else 0) 200 = sumN (fun x => f (x + X)) W := by
    rw [show (200 : Nat) = W + (200 - W) from by omega, sumN_split]
    rw [sumN_congr (n := 200 - W) (g := fun _ => 0) (fun i _ => by rw [if_neg (by omega)]), sumN_zero, Nat.add_zero]
    exact sumN_congr fun i hi => by rw [if_pos hi]
  have e2 : sumN (fun x => if X ≤ x ∧ x < X + W then f x else 0) 200 = sumN (fun x => f (x + X)) W := by
    rw [show (200 : Nat) = X + (W + (200 - X - W)) from by omega, sumN_split, sumN_split]
    rw [sumN_congr (n := X) (g := fun _ => 0) (fun i hi => by rw [if_neg (by omega)]), sumN_zero, Nat.zero_add]
    rw [sumN_congr (n := 200 - X - W) (g := fun _ => 0) (fun i _ => by rw [if_neg (by omega)]), sumN_zero, Nat.add_zero]
    exact sumN_congr fun i hi => by rw [if_pos (by omega), Nat.add_comm]
  rw [e1, e2]
def cnt1 (P : Nat → Bool) : Nat := sumN (fun x => (P x).toNat) 200
def cnt2 (P : Nat → Nat → Bool) : Nat := sumN (fun y => cnt1 (P y)) 200
theorem cnt2_congr {P Q : Nat → Nat → Bool} (h : ∀ y x, y < 200 → x < 200 → P y x = Q y x) : cnt2 P = cnt2 Q :=
  sumN_congr fun y hy => sumN_congr fun x hx => by rw [h y x hy hx]
theorem cnt2_add {A B C : Nat → Nat → Bool} (h : ∀ y x, (A y x).toNat = (B y x).toNat + (C y x).toNat) : cnt2 A = cnt2 B + cnt2 C := by
  unfold cnt2
  rw [← sumN_add]
  refine sumN_congr fun y _ => ?_
  unfold cnt1
  rw [← sumN_add]
  exact sumN_congr fun x _ => h y x
theorem cnt2_none {A : Nat → Nat → Bool} (h : ∀ y x, A y x = false) : cnt2 A = 0 := by
  unfold cnt2 cnt1
  rw [sumN_congr (g := fun _ => 0) fun y _ => ?_, sumN_zero]
  rw [sumN_congr (g := fun _ => 0) fun x _ => ?_, sumN_zero]
  rw [h]; rfl
theorem cnt1_le (P : Nat → Bool) : cnt1 P ≤ 200 := by
  have := sumN_le (f := fun x => (P x).toNat) (c := 1) (fun i => by cases P i <;> simp) 200
  unfold cnt1; omega
theorem cnt2_le (P : Nat → Nat → Bool) : cnt2 P ≤ 40000 := by
  have := sumN_le (f := fun y => cnt1 (P y)) (c := 200) (fun i => cnt1_le _) 200
  unfold cnt2; omega
def cell (b : Box) (y x : Nat) : Bool := decide (b.X ≤ x ∧ (x : Int) < b.X + b.W ∧ b.Y ≤ y ∧ (y : Int) < b.Y + b.H)
theorem cell_iff {b : Box} {y x : Nat} : cell b y x = true ↔ (b.X ≤ x ∧ (x : Int) < b.X + b.W ∧ b.Y ≤ y ∧ (y : Int) < b.Y + b.H) := decide_eq_true_iff
theorem cell_no {b : Box} {y x : Nat} (h : ¬ (b.X ≤ x ∧ (x : Int) < b.X + b.W ∧ b.Y ≤ y ∧ (y : Int) < b.Y + b.H)) : cell b y x = false := decide_eq_false h
def covP (L : List Box) (y x : Nat) : Bool := L.any fun b => cell b y x
/-- How many points boxes have together. -/
def cov (L : List Box) : Nat := cnt2 (covP L)
def sumB (f : Box → Nat) : List Box → Nat
  | [] => 0
  | b :: l => f b + sumB f l
theorem sumB_append (f : Box → Nat) : ∀ (a b : List Box), sumB f (a ++ b) = sumB f a + sumB f b
  | [], b => by simp [sumB]
  | x :: a, b => by simp only [List.cons_append, sumB, sumB_append f a b]; omega
theorem sumB_congr {f g : Box → Nat} : ∀ {l : List Box}, (∀ b ∈ l, f b = g b) → sumB f l = sumB g l
  | [], _ => rfl
  | b :: l, h => by simp only [sumB]; rw [h b (by simp), sumB_congr fun c hc => h c (by simp [hc])]
theorem sumB_zero {f : Box → Nat} : ∀ {l : List Box}, (∀ b ∈ l, f b = 0) → sumB f l = 0
  | [], _ => rfl
  | b :: l, h => by simp only [sumB]; rw [h b (by simp), sumB_zero fun c hc => h c (by simp [hc])]
/-- Each point of the glass is in one part. -/
theorem cov_parts {ps : List Pane} (P : Nat → Nat → Bool) : ∀ {b : BT} {x y w h : Int}, fits ps b w h = true →
    cnt2 (fun v u => P v u && cell ⟨x, y, w, h⟩ v u) = sumB (fun c => cnt2 (fun v u => P v u && cell c v u)) (wst b x y w h) + sumB (fun c => cnt2 (fun v u => P v u && cell c v u)) ((plc b x y w h).map Place.Box)
  | .waste, x, y, w, h, _ => by simp [wst, plc, sumB]
  | .pane i t, x, y, w, h, _ => by simp [wst, plc, sumB]
  | .cut d a l r, x, y, w, h, hf => by
    cases d
    · simp only [fits, Bool.and_eq_true, Bool.false_eq_true, if_false, decide_eq_true_eq] at hf
      have h1 := cov_parts P (b := l) (x := x) (y := y) hf.1.2
      have h2 := cov_parts P (b := r) (x := x) (y := y + a) hf.2
      simp only [wst, plc, Bool.false_eq_true, if_false, List.map_append, sumB_append]
      rw [cnt2_add (B := fun v u => P v u && cell ⟨x, y, w, a⟩ v u) (C := fun v u => P v u && cell ⟨x, y + a, w, h - a⟩ v u), h1, h2]
      · omega
      · intro v u
        cases P v u
        · rfl
        · simp only [Bool.true_and, cell]
          by_cases c1 : x ≤ (u : Int) ∧ (u : Int) < x + w ∧ y ≤ (v : Int) ∧ (v : Int) < y + h
          · by_cases c2 : (v : Int) < y + a
            · rw [decide_eq_true c1, decide_eq_true (show _ ∧ _ ∧ _ ∧ _ from ⟨c1.1, c1.2.1, c1.2.2.1, c2⟩), decide_eq_false (by omega)]; rfl
            · rw [decide_eq_true c1, decide_eq_false (by omega), decide_eq_true (show _ ∧ _ ∧ _ ∧ _ from ⟨c1.1, c1.2.1, by omega, by omega⟩)]; rfl
          · rw [decide_eq_false c1, decide_eq_false (by omega), decide_eq_false (by omega)]; rfl
    · simp only [fits, Bool.and_eq_true, if_true, decide_eq_true_eq] at hf
      have h1 := cov_parts P (b := l) (x := x) (y := y) hf.1.2
      have h2 := cov_parts P (b := r) (x := x + a) (y := y) hf.2
      simp only [wst, plc, if_true, List.map_append, sumB_append]
      rw [cnt2_add (B := fun v u => P v u && cell ⟨x, y, a, h⟩ v u) (C := fun v u => P v u && cell ⟨x + a, y, w - a, h⟩ v u), h1, h2]
      · omega
      · intro v u
        cases P v u
        · rfl
        · simp only [Bool.true_and, cell]
          by_cases c1 : x ≤ (u : Int) ∧ (u : Int) < x + w ∧ y ≤ (v : Int) ∧ (v : Int) < y + h
          · by_cases c2 : (u : Int) < x + a
            · rw [decide_eq_true c1, decide_eq_true (show _ ∧ _ ∧ _ ∧ _ from ⟨c1.1, c2, c1.2.2.1, c1.2.2.2⟩), decide_eq_false (by omega)]; rfl
            · rw [decide_eq_true c1, decide_eq_false (by omega), decide_eq_true (show _ ∧ _ ∧ _ ∧ _ from ⟨by omega, by omega, c1.2.2.1, c1.2.2.2⟩)]; rfl
          · rw [decide_eq_false c1, decide_eq_false (by omega), decide_eq_false (by omega)]; rfl
/-- The flaws of what is cut out cover what the flaws cover there. -/
theorem cov_cut1 {F : List Box} {c : Box} (hc : VB c) : cov (F.filterMap (cutFlaw c)) = cnt2 (fun v u => covP F v u && cell c v u) := by
  obtain ⟨X, Y, W, H⟩ := c
  simp only [VB] at hc
  obtain ⟨X, rfl⟩ : ∃ n : Nat, X = n := ⟨X.toNat, by omega⟩
  obtain ⟨Y, rfl⟩ : ∃ n : Nat, Y = n := ⟨Y.toNat, by omega⟩
  obtain ⟨W, rfl⟩ : ∃ n : Nat, W = n := ⟨W.toNat, by omega⟩
  obtain ⟨H, rfl⟩ : ∃ n : Nat, H = n := ⟨H.toNat, by omega⟩
  have key : ∀ v u : Nat, covP (F.filterMap (cutFlaw ⟨X, Y, W, H⟩)) v u = (decide (v < H) && (decide (u < W) && covP F (v + Y) (u + X))) := by
    intro v u
    rw [Bool.eq_iff_iff]
    simp only [covP, List.any_eq_true, List.mem_filterMap, Bool.and_eq_true, decide_eq_true_eq]
    constructor
    · rintro ⟨b, ⟨f, hf, hb⟩, hc⟩
      simp only [cutFlaw] at hb
      split at hb
      · cases hb
        simp only [cell_iff, shiftB, meetB] at hc
        refine ⟨by omega, by omega, f, hf, ?_⟩
        simp only [cell_iff]
        omega
      · cases hb
    · rintro ⟨h1, h2, f, hf, hc⟩
      simp only [cell_iff] at hc
      have hm : meets f ⟨X, Y, W, H⟩ := by simp only [meets]; omega
      refine ⟨_, ⟨f, hf, by simp only [cutFlaw]; rw [if_pos hm]⟩, ?_⟩
      simp only [cell_iff, shiftB, meetB]
      omega
  have e1 : cov (F.filterMap (cutFlaw ⟨X, Y, W, H⟩)) = sumN (fun v => if v < H then sumN (fun u => if u < W then (covP F (v + Y) (u + X)).toNat else 0) 200 else 0) 200 := by
    unfold cov cnt2 cnt1
    refine sumN_congr fun v _ => ?_
    by_cases hv : v < H
    · rw [if_pos hv]
      refine sumN_congr fun u _ => ?_
      rw [key]
      by_cases hu : u < W
      · rw [if_pos hu, decide_eq_true hv, decide_eq_true hu]; rfl
      · rw [if_neg hu, decide_eq_true hv, decide_eq_false hu]; rfl
    · rw [if_neg hv, sumN_congr (g := fun _ => 0) (fun u _ => by rw [key, decide_eq_false hv]; rfl), sumN_zero]
  rw [e1]
  refine (sumN_shift (fun v' => sumN (fun u => if u < W then (covP F v' (u + X)).toNat else 0) 200) (X := Y) (W := H) (by omega)).trans ?_
  unfold cnt2 cnt1
  refine sumN_congr fun v _ => ?_
  by_cases hv : Y ≤ v ∧ v < Y + H
  · rw [if_pos hv]
    refine (sumN_shift (fun u' => (covP F v u').toNat) (X := X) (W := W) (by omega)).trans ?_
    refine sumN_congr fun u _ => ?_
    by_cases hu : X ≤ u ∧ u < X + W
    · rw [if_pos hu]; show _ = (covP F v u && cell ⟨X, Y, W, H⟩ v u).toNat; rw [cell_iff.2 (by simp only; omega), Bool.and_true]
    · rw [if_neg hu]; show _ = (covP F v u && cell ⟨X, Y, W, H⟩ v u).toNat; rw [cell_no (by simp only; omega), Bool.and_false]; rfl
  · rw [if_neg hv, sumN_congr (g := fun _ => 0) (fun u _ => by show (covP F v u && cell ⟨X, Y, W, H⟩ v u).toNat = _; rw [cell_no (by simp only; omega), Bool.and_false]; rfl), sumN_zero]
theorem cov_clear {F : List Box} {c : Box} (h : clearOf F c) : cnt2 (fun v u => covP F v u && cell c v u) = 0 := cnt2_none fun v u => by
  rw [Bool.eq_false_iff]
  intro hc
  simp only [covP, Bool.and_eq_true, List.any_eq_true] at hc
  obtain ⟨⟨f, hf, h1⟩, h2⟩ := hc
  simp only [cell_iff] at h1 h2
  refine h f hf ?_
  simp only [meets]; omega
theorem kept_one : ∀ {l : List Box}, (∀ b ∈ l, VB b) → l.filterMap (keptB 1) = l
  | [], _ => rfl
  | b :: l, h => by
    have hb := h b (by simp)
    simp only [VB] at hb
    rw [List.filterMap_cons, kept_one fun c hc => h c (by simp [hc]), keptB, if_pos (by omega)]
theorem lost_one : ∀ {l : List Box}, (∀ b ∈ l, VB b) → l.filterMap (lostB 1) = []
  | [], _ => rfl
  | b :: l, h => by
    have hb := h b (by simp)
    simp only [VB] at hb
    rw [List.filterMap_cons, lost_one fun c hc => h c (by simp [hc]), lostB, if_neg (by omega)]
theorem wastes_VB {k : Work} {p : Plan} (hv : vplan k p = true) : ∀ b ∈ (partsL k p).filterMap asWaste, VB b := fun c hc => by
  obtain ⟨b, hb, hpb, hvw, hcnt, hfit, hpt⟩ := vplan_some hv
  rw [hpt, pt_wastes] at hc
  simp only [VW] at hvw
  have := wst_in hfit (by omega) (by omega) c hc
  simp only [inSq] at this
  simp only [VB]; omega
/-- No flaw is gone. -/
theorem cov_cut {q : Piece} {k : Work} {p : Plan} (hq : VPc q) (hg : goodP q k p) : sumB (fun c => cov (q.Flaws.filterMap (cutFlaw c))) (keptL k p 1) = cov q.Flaws := by
  have hw := wastes_VB hg.1
  unfold keptL
  rw [kept_one hw, sumB_congr fun c hc => cov_cut1 (hw c hc)]
  obtain ⟨b, hb, hpb, hvw, hcnt, hfit, hpt⟩ := vplan_some hg.1
  have hcl := hg.2.2.2
  have h1 := cov_parts (covP q.Flaws) (b := b) (x := 0) (y := 0) hfit
  rw [hpt, pt_wastes]
  rw [hpt, pt_places] at hcl
  have h0 : sumB (fun c => cnt2 (fun v u => covP q.Flaws v u && cell c v u)) ((plc b 0 0 k.W k.H).map Place.Box) = 0 := sumB_zero fun c hc => by
    obtain ⟨d, hd, rfl⟩ := List.mem_map.1 hc
    exact cov_clear (hcl d hd)
  rw [h0, Nat.add_zero] at h1
  rw [← h1]
  refine cnt2_congr fun y x _ _ => ?_
  cases hcv : covP q.Flaws y x with
  | false => rfl
  | true =>
    simp only [covP, List.any_eq_true] at hcv
    obtain ⟨f, hf, h2⟩ := hcv
    obtain ⟨_, hi⟩ := hq.2 f hf
    simp only [inside] at hi
    simp only [cell_iff] at h2
    rw [hg.2.1, hg.2.2.1, cell_iff.2 (by simp only; omega)]; rfl
def covS : List Piece → Nat
  | [] => 0
  | x :: l => cov x.Flaws + covS l
theorem covS_append (a b : List Piece) : covS (a ++ b) = covS a + covS b := by
  induction a with
  | nil => simp [covS]
  | cons c l ih => simp only [List.cons_append, covS, ih]; omega
theorem covS_take {L : List Piece} {i : Nat} {x : Piece} (hx : L[i]? = some x) : covS (L.take (i + 1)) = covS (L.take i) + cov x.Flaws := by
  rw [List.take_add_one, hx, covS_append]; simp [covS]
theorem covS_le : ∀ (l : List Piece), covS l ≤ 40000 * l.length
  | [] => by simp [covS]
  | x :: l => by
    have := covS_le l
    have : cov x.Flaws ≤ 40000 := cnt2_le _
    simp only [covS, List.length_cons]; omega
theorem covS_cutN (q : Piece) : ∀ (n : Int) (l : List Box), covS (cutN q n l) = sumB (fun c => cov (q.Flaws.filterMap (cutFlaw c))) l
  | n, [] => rfl
  | n, b :: l => by simp only [cutN, covS, sumB, covS_cutN q (n + 1) l, cutP]

theorem i_validBoxes_ev (l : List Box) (hv : ∀ b ∈ l, VB b) (hl : l.length ≤ 24) : vcall Xs Ms n_i_validBoxes [(.d (.sl (l.map Box.enc)))] [] = some ((.d (.bool (true))), []) := by
  have h24 : ¬ (24 : Int) < (l.length : Int) := by omega
  refine callE Xs Ms f_i_validBoxes x_i_validBoxes (by show 1 ≤ _; decide) ?_
  simp +contextual -implicitDefEqProofs (maxSteps := 10000000) only [go_sem, seval, ↓gA, ↓gB, ↓gC, ↓gD, ↓gE, ↓gF, f_i_validBoxes, h24]
  refine LW_over Xs Ms (st0 := ?st0) (α := Nat) (fun i => [(10, .d (.int .i64 (i : Int)))]) (fun _ => []) (fun i => i ≤ l.length) (fun i => l.length - i) 0 ?hc (by omega) ?h0 ?step
  case hc => simp +contextual -implicitDefEqProofs (maxSteps := 10000000) only [go_sem, seval, ↓gA, ↓gB, ↓gC, ↓gD, ↓gE, ↓gF] <;> exact rfl
  case h0 => rfl
  case step =>
    intro i hi ih
    by_cases hlt : i < l.length
    · obtain ⟨x, hx⟩ := get_lt hlt
      have hw := wrap_succ (k := i) (by omega)
      have hb := hv x (List.mem_of_getElem? hx)
      obtain ⟨X, Y, W, H⟩ := x
      have e := i_ValidBox_ev X Y W H
      rw [decide_eq_true hb] at e
      simp +contextual -implicitDefEqProofs (maxSteps := 10000000) only [go_sem, seval, ↓gA, ↓gB, ↓gC, ↓gD, ↓gE, ↓gF, hx, hlt, hw, e]
      refine ih (i + 1) _ (by omega) (by omega) ?_
      simp +contextual -implicitDefEqProofs (maxSteps := 10000000) only [go_sem, seval, ↓gA, ↓gB, ↓gC, ↓gD, ↓gE, ↓gF]
    · simp +contextual -implicitDefEqProofs (maxSteps := 10000000) only [go_sem, seval, ↓gA, ↓gB, ↓gC, ↓gD, ↓gE, ↓gF, hlt]
def rowF (P : Nat → Bool) : List AV := (List.range 200).map fun x => .d (.bool (P x))
theorem rowF_len (P : Nat → Bool) : (rowF P).length = 200 := by simp [rowF]
theorem rowF_get (P : Nat → Bool) {x : Nat} (h : x < 200) : (rowF P)[x]? = some (.d (.bool (P x))) := by
  simp [rowF, h]
theorem splice_one {α : Type} {cs : List α} {x : Nat} {v : α} (h : x < cs.length) : splice cs x [v] = cs.set x v := by
  rw [List.set_eq_take_append_cons_drop, if_pos h]
  simp [splice]
theorem rowF_set (P : Nat → Bool) {x : Nat} (h : x < 200) : splice (rowF P) x [.d (.bool true)] = rowF (fun z => P z || z == x) := by
  rw [splice_one (by rw [rowF_len]; exact h)]
  refine List.ext_getElem? fun i => ?_
  rw [List.getElem?_set, rowF_len]
  by_cases h1 : i < 200
  · by_cases h2 : x = i
    · subst h2
      rw [if_pos rfl, if_pos h, rowF_get _ h, beq_self_eq_true, Bool.or_true]
    · rw [if_neg h2, rowF_get _ h1, rowF_get _ h1]
      have h3 : (i == x) = false := beq_false_of_ne fun e => h2 e.symm
      rw [h3, Bool.or_false]
  · rw [if_neg (by omega)]
    simp [rowF, h1]
theorem rowF_none : List.replicate 200 (AV.d (.bool false)) = rowF (fun _ => false) := by
  unfold rowF
  rw [List.map_const', List.length_range]
theorem hasNil_rowF (P : Nat → Bool) : hasNil (rowF P) = false := by
  have h : ∀ l : List Nat, hasNil (l.map fun x => AV.d (.bool (P x))) = false := fun l => by
    induction l with
    | nil => rfl
    | cons a l ih => exact ih
  exact h _
theorem refs_rowF (P : Nat → Bool) : (rowF P).flatMap refs2 = [] := by
  unfold rowF; rw [List.flatMap_map]; simp [refs2, refs1]
theorem ren_rowF (g : Nat → Nat) (P : Nat → Bool) : (rowF P).map (ren2 g) = rowF P := by
  unfold rowF; rw [List.map_map]; exact List.map_congr_left fun _ _ => rfl
theorem kill_rowF (g : List Nat) (P : Nat → Bool) : (rowF P).map (kill2 g) = rowF P := by
  unfold rowF; rw [List.map_map]; exact List.map_congr_left fun _ _ => rfl
theorem cnt1_one {P : Nat → Bool} {x : Nat} (h : x < 200) (hp : P x = false) : cnt1 (fun z => P z || z == x) = cnt1 P + 1 := by
  unfold cnt1
  refine sumN_one (k := x) (by simp [hp]) (fun i hi => ?_) 200 h
  have : (i == x) = false := by simpa using hi
  simp [this]
theorem or_same {P : Nat → Bool} {x : Nat} (hp : P x = true) : (fun z => P z || z == x) = P := by
  funext z
  by_cases h : z = x
  · subst h; simp [hp]
  · simp [h]

theorem covP_take {L : List Box} {i : Nat} {b : Box} (hx : L[i]? = some b) (y : Nat) : covP (L.take (i + 1)) y = fun z => covP (L.take i) y z || cell b y z := by
  funext z
  unfold covP
  rw [List.take_add_one, hx, List.any_append]
  simp
def runP (P : Nat → Bool) (a z u : Nat) : Bool := P u || (decide (a ≤ u) && decide (u < z))
theorem runP_first (P : Nat → Bool) (a : Nat) : runP P a a = P := by
  funext u
  unfold runP
  by_cases h : a ≤ u
  · have : ¬ u < a := by omega
    simp [this]
  · simp [h]
theorem runP_next (P : Nat → Bool) {a z : Nat} (h : a ≤ z) : runP P a (z + 1) = fun u => runP P a z u || u == z := by
  funext u
  unfold runP
  by_cases e : u = z
  · subst e; simp [h]
  · have h1 : (u < z + 1) = (u < z) := by simp; omega
    have h2 : (u == z) = false := beq_false_of_ne e
    rw [h2, Bool.or_false]
    simp only [h1]
theorem runP_last {L : List Box} {i y : Nat} {b : Box} (hx : L[i]? = some b) {a w : Nat} (hX : b.X = a) (hW : b.W = w) (h : b.Y ≤ y ∧ (y : Int) < b.Y + b.H) : runP (covP (L.take i) y) a (a + w) = covP (L.take (i + 1)) y := by
  rw [covP_take hx]
  funext u
  unfold runP cell
  congr 1
  rw [← Bool.decide_and]
  apply decide_eq_decide.2
  omega
theorem i_CoverArea_ev (L : List Box) (hv : ∀ b ∈ L, VB b) (hl : L.length ≤ 24) : vcall Xs Ms n_i_CoverArea [(.d (.sl (L.map Box.enc)))] [] = some ((.d (.int .i64 ((cov L : Nat)))), []) := by
  have e1 := i_validBoxes_ev L hv hl
  have hA : ∀ y, sumN (fun v => cnt1 (covP L v)) y ≤ 200 * y := fun y => sumN_le (fun v => cnt1_le _) y
  refine callE Xs Ms f_i_CoverArea x_i_CoverArea (by show 1 ≤ _; decide) ?_
  simp +contextual -implicitDefEqProofs (maxSteps := 10000000) only [go_sem, seval, ↓gA, ↓gB, ↓gC, ↓gD, ↓gE, ↓gF, f_i_CoverArea, e1]
  refine LW_over Xs Ms (st0 := ?st0) (α := Nat) (fun y => [(12, (.d (.int .i64 ((y : Int))))), (3, (.d (.int .i64 ((sumN (fun v => cnt1 (covP L v)) y : Nat))))), (0, (.d (.sl (L.map Box.enc))))]) (fun _ => []) (fun y => y ≤ 200) (fun y => 200 - y) 0 ?hc (by omega) ?h0 ?step
  case hc => simp +contextual -implicitDefEqProofs (maxSteps := 10000000) only [go_sem, seval, ↓gA, ↓gB, ↓gC, ↓gD, ↓gE, ↓gF] <;> exact rfl
  case h0 => rfl
  case step =>
    intro y hy ih
    by_cases hlt : y < 200
    · have hlt' : (y : Int) < 200 := by omega
      have hwy := wrap_succ (k := y) (by omega)
      simp +contextual -implicitDefEqProofs (maxSteps := 10000000) only [go_sem, seval, ↓gA, ↓gB, ↓gC, ↓gD, ↓gE, ↓gF, hlt, hlt', rowF_none, hasNil_rowF]
      refine LW_over Xs Ms (st0 := ?st1) (α := Nat) (fun i => [(17, (.d (.int .i64 ((i : Int))))), (16, (.d (.int .i64 ((L.length : Int))))), (15, (.d (.sl (L.map Box.enc)))), (12, (.d (.int .i64 ((y : Int))))), (5, .ptr 0 0), (4, (.d (.int .i64 ((y : Int))))), (3, (.d (.int .i64 ((sumN (fun v => cnt1 (covP L v)) y + cnt1 (covP (L.take i) y) : Nat))))), (0, (.d (.sl (L.map Box.enc))))]) (fun i => [(0, .box (rowF (covP (L.take i) y)))]) (fun i => i ≤ L.length) (fun i => L.length - i) 0 ?hc2 (by omega) ?h02 ?step2
      case hc2 => simp +contextual -implicitDefEqProofs (maxSteps := 10000000) only [go_sem, seval, ↓gA, ↓gB, ↓gC, ↓gD, ↓gE, ↓gF, refs_rowF, ren_rowF, kill_rowF] <;> exact rfl
      case h02 => rfl
      case step2 =>
        intro i hi ih2
        by_cases hil : i < L.length
        · have hwi := wrap_succ (k := i) (by omega)
          obtain ⟨x, hx⟩ := get_lt hil
          have hb := hv x (List.mem_of_getElem? hx)
          obtain ⟨X, Y, W, H⟩ := x
          simp only [VB] at hb
          have w1 := wi (Y + H) (by omega) (by omega)
          by_cases hin : (y : Int) < Y ∨ Y + H ≤ (y : Int)
          · have hco : covP (L.take (i + 1)) y = covP (L.take i) y := by
              rw [covP_take hx]; funext z
              rw [cell_no (by simp only; omega), Bool.or_false]
            simp +contextual -implicitDefEqProofs (maxSteps := 10000000) only [go_sem, seval, ↓gA, ↓gB, ↓gC, ↓gD, ↓gE, ↓gF, ← Bool.decide_and, ← Bool.decide_or, hil, hx, w1, hin, refs_rowF, ren_rowF, kill_rowF, hwi]
            refine ih2 (i + 1) _ (by omega) (by omega) ?_
            simp +contextual -implicitDefEqProofs (maxSteps := 10000000) only [go_sem, seval, ↓gA, ↓gB, ↓gC, ↓gD, ↓gE, ↓gF, refs_rowF, ren_rowF, kill_rowF, hco] <;> exact rfl
          · obtain ⟨a, rfl⟩ : ∃ n : Nat, X = n := ⟨X.toNat, by omega⟩
            obtain ⟨w, rfl⟩ : ∃ n : Nat, W = n := ⟨W.toNat, by omega⟩
            have w2 := wi ((a : Int) + w) (by omega) (by omega)
            have hla := runP_last (y := y) hx (a := a) (w := w) rfl rfl (by simp only; omega)
            have hfi := runP_first (covP (L.take i) y) a
            have hc1 := cnt1_le (covP (L.take i) y)
            simp +contextual -implicitDefEqProofs (maxSteps := 10000000) only [go_sem, seval, ↓gA, ↓gB, ↓gC, ↓gD, ↓gE, ↓gF, ← Bool.decide_and, ← Bool.decide_or, hil, hx, w1, hin, refs_rowF, ren_rowF, kill_rowF]
            refine LW_over Xs Ms (st0 := ?st3) (α := Nat) (fun z => [(17, (.d (.int .i64 ((i : Int))))), (16, (.d (.int .i64 ((L.length : Int))))), (15, (.d (.sl (L.map Box.enc)))), (12, (.d (.int .i64 ((y : Int))))), (8, (.d (.int .i64 ((z : Int))))), (7, .ptr 0 0), (5, .ptr 1 0), (4, (.d (.int .i64 ((y : Int))))), (3, (.d (.int .i64 ((sumN (fun v => cnt1 (covP L v)) y + cnt1 (runP (covP (L.take i) y) a z) : Nat))))), (0, (.d (.sl (L.map Box.enc))))]) (fun z => [(1, .box (rowF (runP (covP (L.take i) y) a z))), (0, .box [(.d (.int .i64 ((a : Int)))), (.d (.int .i64 (Y))), (.d (.int .i64 ((w : Int)))), (.d (.int .i64 (H)))])]) (fun z => a ≤ z ∧ z ≤ a + w) (fun z => a + w - z) a ?hc3 ⟨by omega, by omega⟩ ?h03 ?step3
            case hc3 => simp +contextual -implicitDefEqProofs (maxSteps := 10000000) only [go_sem, seval, ↓gA, ↓gB, ↓gC, ↓gD, ↓gE, ↓gF, refs_rowF, ren_rowF, kill_rowF] <;> exact rfl
            case h03 => rw [hfi]; rfl
            case step3 =>
              intro z ⟨hz1, hz2⟩ ih3
              by_cases hlz : z < a + w
              · have hlz' : (z : Int) < (a : Int) + (w : Int) := by omega
                have hz200 : (z : Int) < 200 := by omega
                have hzn : z < 200 := by omega
                have hz199 : z ≤ 199 := by omega
                have hg := rowF_get (runP (covP (L.take i) y) a z) (x := z) (by omega)
                have hnx := runP_next (covP (L.take i) y) hz1
                have hwz := wrap_succ (k := z) (by omega)
                have hc2 := cnt1_le (runP (covP (L.take i) y) a z)
                cases hp : runP (covP (L.take i) y) a z z with
                | true =>
                  rw [hp] at hg
                  rw [or_same hp] at hnx
                  simp +contextual -implicitDefEqProofs (maxSteps := 10000000) only [go_sem, seval, ↓gA, ↓gB, ↓gC, ↓gD, ↓gE, ↓gF, w2, hlz', hz200, hz199, hg, Nat.zero_add, Nat.mul_one, rowF_len, rowF_set _ hzn, hnx, refs_rowF, ren_rowF, kill_rowF, hwz]
                  refine ih3 (z + 1) _ ⟨by omega, by omega⟩ (by omega) ?_
                  simp +contextual -implicitDefEqProofs (maxSteps := 10000000) only [go_sem, seval, ↓gA, ↓gB, ↓gC, ↓gD, ↓gE, ↓gF, hnx, refs_rowF, ren_rowF, kill_rowF] <;> exact rfl
                | false =>
                  rw [hp] at hg
                  have hon := cnt1_one (x := z) (by omega) hp
                  have w3 : IntKind.i64.wrap (((sumN (fun v => cnt1 (covP L v)) y + cnt1 (runP (covP (L.take i) y) a z) : Nat) : Int) + 1) = ((sumN (fun v => cnt1 (covP L v)) y + (cnt1 (runP (covP (L.take i) y) a z) + 1) : Nat) : Int) := by
                    have := hA y
                    rw [wi _ (by omega) (by omega)]; omega
                  simp +contextual -implicitDefEqProofs (maxSteps := 10000000) only [go_sem, seval, ↓gA, ↓gB, ↓gC, ↓gD, ↓gE, ↓gF, w2, hlz', hz200, hz199, hg, Nat.zero_add, Nat.mul_one, rowF_len, rowF_set _ hzn, hnx, refs_rowF, ren_rowF, kill_rowF, hwz, w3]
                  refine ih3 (z + 1) _ ⟨by omega, by omega⟩ (by omega) ?_
                  simp +contextual -implicitDefEqProofs (maxSteps := 10000000) only [go_sem, seval, ↓gA, ↓gB, ↓gC, ↓gD, ↓gE, ↓gF, hnx, hon, w3, refs_rowF, ren_rowF, kill_rowF] <;> exact rfl
              · have : z = a + w := by omega
                subst this
                have hne : ¬ ((a + w : Nat) : Int) < (a : Int) + (w : Int) := by omega
                simp +contextual -implicitDefEqProofs (maxSteps := 10000000) only [go_sem, seval, ↓gA, ↓gB, ↓gC, ↓gD, ↓gE, ↓gF, w2, hla, hne, refs_rowF, ren_rowF, kill_rowF, hwi]
                refine ih2 (i + 1) _ (by omega) (by omega) ?_
                simp +contextual -implicitDefEqProofs (maxSteps := 10000000) only [go_sem, seval, ↓gA, ↓gB, ↓gC, ↓gD, ↓gE, ↓gF, hla, refs_rowF, ren_rowF, kill_rowF] <;> exact rfl
        · have : i = L.length := by omega
          subst this
          simp +contextual -implicitDefEqProofs (maxSteps := 10000000) only [go_sem, seval, ↓gA, ↓gB, ↓gC, ↓gD, ↓gE, ↓gF, hil, refs_rowF, ren_rowF, kill_rowF]
          refine ih (y + 1) _ (by omega) (by omega) ?_
          simp +contextual -implicitDefEqProofs (maxSteps := 10000000) only [go_sem, seval, ↓gA, ↓gB, ↓gC, ↓gD, ↓gE, ↓gF, hwy, List.take_length, sumN] <;> exact rfl
    · have : y = 200 := by omega
      subst this
      simp +contextual -implicitDefEqProofs (maxSteps := 10000000) only [go_sem, seval, ↓gA, ↓gB, ↓gC, ↓gD, ↓gE, ↓gF, cov, cnt2]

theorem s_GoodPlan_ev (qL : Int) (qW : Int) (qH : Int) (qF : List Box) (kW : Int) (kH : Int) (kP : List Pane) (p : Plan) (hF : qF.length < 1000) (hW : R64 qW) (hH : R64 qH) (hl : kP.length < 4611686018427387904) : vcall Xs Ms n_s_GoodPlan [(.d (.agg [.int .i64 qL, .int .i64 qW, .int .i64 qH, .sl (qF.map Box.enc)])), (.d (.agg [.int .i64 kW, .int .i64 kH, .sl (kP.map Pane.enc)])), .d p.enc] [] = some ((.d (.bool (decide (VPc (Piece.mk qL qW qH qF) ∧ goodP (Piece.mk qL qW qH qF) (Work.mk kW kH kP) p)))), []) := by
  have ev := s_validPiece_ev qL qW qH qF (by omega) hW hH
  by_cases hq : VPc (Piece.mk qL qW qH qF)
  · have eg := s_goodPlan_ev qL qW qH qF kW kH kP p (fun f hf => (hq.2 f hf).1) hq.1.2.2.2.2.2.2 hl
    rw [decide_eq_true hq] at ev
    obtain ⟨o, a, m, t, ks⟩ := p
    rw [Plan.enc_mk] at eg ⊢
    refine callE Xs Ms f_s_GoodPlan x_s_GoodPlan (by show 3 ≤ _; decide) ?_
    simp +contextual -implicitDefEqProofs (maxSteps := 10000000) only [go_sem, seval, ↓gA, ↓gB, ↓gC, ↓gD, ↓gE, ↓gF, f_s_GoodPlan, ev, eg, hq]
  · rw [decide_eq_false hq] at ev
    obtain ⟨o, a, m, t, ks⟩ := p
    rw [Plan.enc_mk]
    refine callE Xs Ms f_s_GoodPlan x_s_GoodPlan (by show 3 ≤ _; decide) ?_
    simp +contextual -implicitDefEqProofs (maxSteps := 10000000) only [go_sem, seval, ↓gA, ↓gB, ↓gC, ↓gD, ↓gE, ↓gF, f_s_GoodPlan, ev, hq]
def PDrawG (r : AV × List AObj) : Prop :=
  ∃ (qW qH : Int) (F : List Box) (kW kH : Int) (ps : List Pane) (o a q : Int) (t : Bool) (ks : List Plan), R64 qW ∧ R64 qH ∧ F.length ≤ 3 ∧ ps.length ≤ 24 ∧
    r = (.tup [.agg [(.d (.int .i64 (4))), (.d (.int .i64 (qW))), (.d (.int .i64 (qH))), .own 0], .agg [(.d (.int .i64 (kW))), (.d (.int .i64 (kH))), .own 1], .agg [(.d (.int .i64 (o))), (.d (.int .i64 (a))), (.d (.int .i64 (q))), (.d (.bool (t))), .own 2]],
      [.row 4 (F.map Box.enc) true false, .row 4 (ps.map Pane.enc) true false, .row 5 (ks.map Plan.enc) true false])
theorem s_DrawGoodPlan_ev (code : List UInt8) : ∃ r, vcall Xs Ms n_s_DrawGoodPlan [.d (.sl (code.map encU))] [] = some r ∧ PDrawG r := by
  have hb : (code.take 2000).length ≤ 2000 := by simp; omega
  have en := s_newReader_ev code
  obtain ⟨r, e1, qW, qH, F, kW, kH, ps, o, a, q, t, ks, p', h1, h2, h3, h4, h5, h6, rfl⟩ := s_planPiece_ev (code.take 2000) hb 0 (by omega) 4
  simp only [cast0] at e1
  generalize code.take 2000 = bs at *
  refine callW Xs Ms f_s_DrawGoodPlan x_s_DrawGoodPlan (by show 1 ≤ _; decide) ?_
  simp +contextual -implicitDefEqProofs (maxSteps := 10000000) only [go_sem, seval, ↓gA, ↓gB, ↓gC, ↓gD, ↓gE, ↓gF, f_s_DrawGoodPlan, en, e1]
  exact ⟨qW, qH, F, kW, kH, ps, o, a, q, t, ks, h1, h2, h3, h4, rfl⟩

theorem VSt_one {q : Piece} (hq : VPc q) : VSt [q] := ⟨by simp, hq, hq.1.1, trivial⟩
theorem fLab_one (q : Piece) : fLab 0 [q] q.Label = 0 := by simp [fLab]
theorem cutL_one (q : Piece) (k : Work) (p : Plan) (least : Int) : cutL [q] 0 q k p least = cutN q (q.Label + 1) (keptL k p least) := by
  unfold cutL
  rw [lastL_get (l := [q]) (x := q) rfl]
  simp
/-- What is cut from the only piece of a stock. -/
theorem cut_one {q : Piece} {k : Work} {p : Plan} (hq : VPc q) (hl : q.Label = 4) (hg : goodP q k p) :
    (∃ R, cutSt [q] q.Label k p 1 = some R ∧ VSt R ∧ covS R = cov q.Flaws ∧ sumWH R + areaL (((partsL k p).filterMap asPlace).map Place.Box) = q.W * q.H) ∨
    (cutSt [q] q.Label k p 1 = none ∧ 20 < ((partsL k p).filterMap asWaste).length) := by
  have hv := VSt_one hq
  have hc := VSt_cut (least := 1) (i := 0) (x := q) (l := [q]) hv rfl hg
  rw [cutL_one, show lastL [q] = q.Label from lastL_get (l := [q]) (x := q) rfl, hl] at hc
  have hkl := keptL_len k p 1
  have hw := wastes_VB hg.1
  have hkw : keptL k p 1 = (partsL k p).filterMap asWaste := by unfold keptL; exact kept_one hw
  have hlw : lostL k p 1 = [] := by unfold lostL; exact lost_one hw
  unfold cutSt
  rw [if_pos ⟨hv, by rw [fLab_one]; exact Int.le_refl _, by omega, by omega⟩, fLab_one]
  simp only [Int.toNat_zero, List.getElem?_cons_zero, cutL_one, hl]
  by_cases h20 : (keptL k p 1).length ≤ 20
  · have hR : VSt (cutN q (4 + 1) (keptL k p 1)) := hc.2 ⟨by omega, by simp; omega⟩
    refine .inl ⟨_, if_pos ⟨hg, hR⟩, hR, ?_, ?_⟩
    · rw [covS_cutN]; exact cov_cut hq hg
    · rw [sumWH_cutN]
      have := (goodP_area (least := 1) hg).1
      rw [hlw] at this
      simp only [areaL] at this
      omega
  · refine .inr ⟨if_neg fun h => h20 ?_, by rw [← hkw]; omega⟩
    have := (hc.1 h.2).2
    simp at this; omega
theorem l_FnCutStockPlan_ev (code : List UInt8) : vcall Xs Ms n_l_FnCutStockPlan [.d (.sl (code.map encU))] [] = some ((.d (.bool (true))), []) := by
  by_cases hlen : (1048576 : Int) < code.length
  · refine callE Xs Ms f_l_FnCutStockPlan x_l_FnCutStockPlan (by show 1 ≤ _; decide) ?_
    simp +contextual -implicitDefEqProofs (maxSteps := 10000000) only [go_sem, seval, ↓gA, ↓gB, ↓gC, ↓gD, ↓gE, ↓gF, f_l_FnCutStockPlan, hlen]
  · obtain ⟨r, ed, qW, qH, F, kW, kH, ps, o, a, n, t, ks, h1, h2, h3, h4, rfl⟩ := s_DrawGoodPlan_ev code
    have ei := i_GoodPlan_ev 4 qW qH F kW kH ps (.mk o a n t ks)
    have es := s_GoodPlan_ev 4 qW qH F kW kH ps (.mk o a n t ks) (by omega) h1 h2 (by omega)
    rw [Plan.enc_mk] at ei es
    by_cases hg : VPc ⟨4, qW, qH, F⟩ ∧ goodP ⟨4, qW, qH, F⟩ ⟨kW, kH, ps⟩ (.mk o a n t ks)
    · rw [decide_eq_true hg] at ei es
      have ec := i_CutStock_ev [⟨4, qW, qH, F⟩] 4 kW kH ps (.mk o a n t ks) 1
      rw [Plan.enc_mk] at ec
      have hone := cut_one (q := ⟨4, qW, qH, F⟩) hg.1 rfl hg.2
      simp only [List.map_cons, List.map_nil, Piece.enc] at ec
      rcases hone with ⟨R, hR, hvR, hcov, hsum⟩ | ⟨hR, hlw⟩
      · simp only at hR
        rw [hR] at ec
        simp only [cutR] at ec
        have hqv := hg.1
        have hgp := hg.2
        have eF := i_CoverArea_ev F (fun b hb => (hqv.2 b hb).1) (by omega)
        have sR := i_StockArea_ev R hvR
        have epl := i_PlacesOf_ev kW kH ps (.mk o a n t ks)
        have hpl := partsL_len ⟨kW, kH, ps⟩ (.mk o a n t ks)
        have hfl : ((partsL ⟨kW, kH, ps⟩ (.mk o a n t ks)).filterMap asPlace).length ≤ 255 := Nat.le_trans (List.length_filterMap_le _ _) hpl
        have gb := (goodP_area (least := 1) hgp).2
        have b1 := areaL_VB gb
        generalize (partsL ⟨kW, kH, ps⟩ (.mk o a n t ks)).filterMap asPlace = PL at epl hfl hsum gb b1
        have hPl : (PL.map Go.Abs.L.Place.Box).length ≤ 255 := by simp; omega
        have eb := l_boxesOf_ev PL (by omega)
        have ea := l_area_ev (PL.map Go.Abs.L.Place.Box) gb (by omega)
        rw [Plan.enc_mk] at epl
        have hq1 := hqv.1
        simp only at hq1 hsum
        have hWH : qW * qH ≤ 200 * 200 := Int.mul_le_mul (by omega) (by omega) (by omega) (by omega)
        have hWH0 : 0 ≤ qW * qH := Int.mul_nonneg (by omega) (by omega)
        have w1 := wi (qW * qH) (by omega) (by omega)
        have w2 : IntKind.i64.wrap (sumWH R + areaL (PL.map Go.Abs.L.Place.Box)) = qW * qH := by rw [wi _ (by omega) (by omega)]; omega
        have hR20 := hvR.1
        have hRv := sortF_all hvR.2
        clear hg hR
        refine callE Xs Ms f_l_FnCutStockPlan x_l_FnCutStockPlan (by show 1 ≤ _; decide) ?_
        simp +contextual -implicitDefEqProofs (maxSteps := 10000000) only [go_sem, seval, ↓gA, ↓gB, ↓gC, ↓gD, ↓gE, ↓gF, f_l_FnCutStockPlan, binV_nb, binV_eb, hlen, ed, ei, es, ec]
        refine LW_over Xs Ms (st0 := ?st0) (α := Nat) (fun i => [(10, (.d (.int .i64 ((i : Int))))), (9, (.d (.int .i64 ((covS (R.take i) : Nat))))), (7, .own 0), (5, .ptr 1 0), (4, .ptr 2 0), (3, .ptr 3 0)]) (fun i => [(6, .row 4 (F.map Box.enc) true true), (5, .row 4 (ps.map Pane.enc) true false), (4, .row 5 (ks.map Plan.enc) true false), (3, .box [(.d (.int .i64 (4))), (.d (.int .i64 (qW))), (.d (.int .i64 (qH))), .own 6]), (2, .box [(.d (.int .i64 (kW))), (.d (.int .i64 (kH))), .own 5]), (1, .box [(.d (.int .i64 (o))), (.d (.int .i64 (a))), (.d (.int .i64 (n))), (.d (.bool (t))), .own 4]), (0, .row 4 (R.map Piece.enc) true false)]) (fun i => i ≤ R.length) (fun i => R.length - i) 0 ?hc (by omega) ?h0 ?step
        case hc => simp +contextual -implicitDefEqProofs (maxSteps := 10000000) only [go_sem, seval, ↓gA, ↓gB, ↓gC, ↓gD, ↓gE, ↓gF] <;> exact rfl
        case h0 => rfl
        case step =>
          intro i hi ih
          by_cases hlt : i < R.length
          · obtain ⟨x, hx⟩ := get_lt hlt
            have hxv := hRv x (List.mem_of_getElem? hx)
            have hct := covS_take hx
            have hcl := covS_le (R.take i)
            have hcx : cov x.Flaws ≤ 40000 := cnt2_le _
            have hlen2 : (R.take i).length ≤ 20 := by simp; omega
            have hw := wrap_succ (k := i) (by omega)
            obtain ⟨xL, xW, xH, xF⟩ := x
            simp only at hct hcx
            have ex := i_CoverArea_ev xF (fun b hb => (hxv.2 b hb).1) (by have := hxv.1.2.2.2.2.2.2; simp only at this; omega)
            have w3 : IntKind.i64.wrap ((covS (R.take i) : Int) + (cov xF : Int)) = ((covS (R.take i) + cov xF : Nat) : Int) := by rw [wi _ (by omega) (by omega)]; omega
            simp +contextual -implicitDefEqProofs (maxSteps := 10000000) only [go_sem, seval, ↓gA, ↓gB, ↓gC, ↓gD, ↓gE, ↓gF, hx, hlt, ex, w3, hw]
            refine ih (i + 1) _ (by omega) (by omega) ?_
            simp +contextual -implicitDefEqProofs (maxSteps := 10000000) only [go_sem, seval, ↓gA, ↓gB, ↓gC, ↓gD, ↓gE, ↓gF, hct]
          · have : i = R.length := by omega
            subst this
            have hcR : covS (R.take R.length) = cov F := by rw [List.take_length]; exact hcov
            simp +contextual -implicitDefEqProofs (maxSteps := 10000000) only [go_sem, seval, ↓gA, ↓gB, ↓gC, ↓gD, ↓gE, ↓gF, hlt, hcR, eF, sR, epl, eb, ea, w1, w2]
      · simp only at hR
        rw [hR] at ec
        simp only [cutR] at ec
        have ew := i_WastesOf_ev kW kH ps (.mk o a n t ks)
        rw [Plan.enc_mk] at ew
        have hlw' : (20 : Int) < (((partsL ⟨kW, kH, ps⟩ (.mk o a n t ks)).filterMap asWaste).length : Int) := by omega
        generalize (partsL ⟨kW, kH, ps⟩ (.mk o a n t ks)).filterMap asWaste = WL at ew hlw hlw'
        refine callE Xs Ms f_l_FnCutStockPlan x_l_FnCutStockPlan (by show 1 ≤ _; decide) ?_
        simp +contextual -implicitDefEqProofs (maxSteps := 10000000) only [go_sem, seval, ↓gA, ↓gB, ↓gC, ↓gD, ↓gE, ↓gF, f_l_FnCutStockPlan, binV_nb, binV_eb, hlen, ed, ei, es, ec, ew, hlw']
    · rw [decide_eq_false hg] at ei es
      refine callE Xs Ms f_l_FnCutStockPlan x_l_FnCutStockPlan (by show 1 ≤ _; decide) ?_
      simp +contextual -implicitDefEqProofs (maxSteps := 10000000) only [go_sem, seval, ↓gA, ↓gB, ↓gC, ↓gD, ↓gE, ↓gF, f_l_FnCutStockPlan, binV_nb, binV_eb, hlen, ed, ei, es]

end Go.Proofs.Ytbodfpboklcgoaa
