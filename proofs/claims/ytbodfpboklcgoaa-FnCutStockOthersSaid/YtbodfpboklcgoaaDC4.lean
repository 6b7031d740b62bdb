/- Contracts of the functions, by the abstract semantics. -/
import Derived.Test.YtbodfpboklcgoaaDCode
import Derived.Test.YtbodfpboklcgoaaAbsParts
import Derived.Test.YtbodfpboklcgoaaDC3
namespace Go.Proofs.Ytbodfpboklcgoaa
open Go Go.Abs Go.Abs.E Go.Abs.L
open Nat (reduceMul reduceSub reduceLeDiff reduceEqDiff)
open Int (reduceLE reduceEq reduceToNat reduceNeg)
set_option linter.unusedSimpArgs false
set_option linter.unusedVariables false
set_option maxRecDepth 20000
set_option maxHeartbeats 4000000
def sumWH : List Piece → Int
  | [] => 0
  | x :: l => x.W * x.H + sumWH l
theorem sumWH_append (a b : List Piece) : sumWH (a ++ b) = sumWH a + sumWH b := by
  induction a with
  | nil => simp [sumWH]
  | cons c l ih => simp only [List.cons_append, sumWH, ih]; omega
theorem sumWH_take {L : List Piece} {i : Nat} {x : Piece} (hx : L[i]? = some x) : sumWH (L.take (i + 1)) = sumWH (L.take i) + x.W * x.H := by
  rw [List.take_add_one, hx, sumWH_append]; simp [sumWH]
theorem sumWH_cutN (q : Piece) : ∀ (n : Int) (l : List Box), sumWH (cutN q n l) = areaL l
  | n, [] => rfl
  | n, b :: l => by simp only [cutN, sumWH, areaL, sumWH_cutN q (n + 1) l, cutP]
theorem cutN_get (q : Piece) : ∀ (n : Int) (l : List Box) (i : Nat) (x : Piece), (cutN q n l)[i]? = some x → ∃ b, l[i]? = some b ∧ x = cutP q b (n + i)
  | n, [], i, x, h => by simp [cutN] at h
  | n, b :: l, 0, x, h => by
    simp only [cutN, List.getElem?_cons_zero, Option.some.injEq] at h
    exact ⟨b, rfl, by rw [← h]; simp⟩
  | n, b :: l, i + 1, x, h => by
    simp only [cutN, List.getElem?_cons_succ] at h
    obtain ⟨c, h1, h2⟩ := cutN_get q (n + 1) l i x h
    refine ⟨c, by simpa using h1, ?_⟩
    rw [h2]; congr 1; omega
theorem sumWH_nonneg : ∀ {l : List Piece}, (∀ x ∈ l, 1 ≤ x.W ∧ x.W ≤ 200 ∧ 1 ≤ x.H ∧ x.H ≤ 200) → 0 ≤ sumWH l ∧ sumWH l ≤ 40000 * l.length
  | [], _ => by simp [sumWH]
  | x :: l, h => by
    have h1 := h x (by simp)
    have h2 := sumWH_nonneg (l := l) fun y hy => h y (by simp [hy])
    have h3 : 0 ≤ x.W * x.H := Int.mul_nonneg (by omega) (by omega)
    have h4 : x.W * x.H ≤ 200 * 200 := Int.mul_le_mul (by omega) (by omega) (by omega) (by omega)
    simp only [sumWH, List.length_cons]
    omega
theorem remn_facts {q : Piece} {k : Work} {p : Plan} {least label : Int} (hne : remn q k p least label ≠ []) :
    vplan k p = true ∧ 1 ≤ least ∧ least ≤ 200 ∧ 1 ≤ label ∧ label ≤ 9999 ∧ (remn q k p least label).length ≤ 255 ∧ VPc q ∧
    (∀ (i : Nat) x, (remn q k p least label)[i]? = some x → least ≤ x.W ∧ least ≤ x.H ∧ x.Label = label + i ∧ VPc x) ∧
    sumWH (remn q k p least label) + areaL (lostL k p least) + areaL (((partsL k p).filterMap asPlace).map Place.Box) = q.W * q.H ∧
    (∀ b ∈ ((partsL k p).filterMap asPlace).map Place.Box, VB b) := by
  unfold remn at hne ⊢
  by_cases hc : (VPc q ∧ goodP q k p) ∧ 1 ≤ least ∧ least ≤ 200 ∧ 1 ≤ label ∧ label ≤ 9999 ∧ (keptL k p least).length ≤ 10000 - label
  · rw [if_pos hc] at hne ⊢
    obtain ⟨⟨hq, hg⟩, h1, h2, h3, h4, h5⟩ := hc
    have hv := hg.1
    obtain ⟨b, hb, hpb, hvw, hcnt, hfit, hpt⟩ := vplan_some hv
    refine ⟨hv, h1, h2, h3, h4, by rw [cutN_len]; exact keptL_len _ _ _, hq, fun i x hx => ?_, ?_, fun c hc => ?_⟩
    · obtain ⟨c, hc, rfl⟩ := cutN_get q label _ i x hx
      have hi : i < (keptL k p least).length := (List.getElem?_eq_some_iff.1 hc).1
      have hin := keptL_in (least := least) hv c (List.mem_of_getElem? hc)
      have hk : least ≤ c.W ∧ least ≤ c.H := by
        have := List.mem_of_getElem? hc
        unfold keptL at this
        obtain ⟨d, _, hd⟩ := List.mem_filterMap.1 this
        unfold keptB at hd
        split at hd
        · cases hd; assumption
        · cases hd
      refine ⟨hk.1, hk.2, rfl, cutP_valid hq hin.1 ?_ (by omega) (by omega)⟩
      rw [← hg.2.1, ← hg.2.2.1]; exact hin.2
    · rw [sumWH_cutN]
      unfold keptL lostL
      have := area_kept_lost least ((partsL k p).filterMap asWaste)
      have h6 := area_all (ps := k.Panes) (b := b) (x := 0) (y := 0) (w := k.W) (h := k.H)
      rw [hpt, pt_wastes] at *
      rw [pt_places, ← hg.2.1, ← hg.2.2.1]
      omega
    · obtain ⟨d, hd, rfl⟩ := List.mem_map.1 hc
      rw [hpt, pt_places] at hd
      exact vplan_places (p := p) hvw hfit d hd
  · rw [if_neg hc] at hne; exact absurd rfl hne
theorem remn_small (q : Piece) (k : Work) (p : Plan) (least label : Int) (hF : q.Flaws.length < 1000) : (remn q k p least label).length < 4611686018427387904 ∧ ∀ x ∈ remn q k p least label, x.Flaws.length < 4611686018427387904 := by
  unfold remn
  split
  · refine ⟨by rw [cutN_len]; have := keptL_len k p least; omega, fun x hx => ?_⟩
    obtain ⟨i, hi⟩ := List.getElem?_of_mem hx
    obtain ⟨b, _, rfl⟩ := cutN_get q label _ i x hi
    simp only [cutP]
    have := List.length_filterMap_le (cutFlaw b) q.Flaws
    omega
  · simp
def sortF : Int → List Piece → Prop
  | _, [] => True
  | b, x :: l => VPc x ∧ b < x.Label ∧ sortF x.Label l
instance sortFdec : ∀ (b : Int) (l : List Piece), Decidable (sortF b l)
  | _, [] => .isTrue trivial
  | b, x :: l => by unfold sortF; exact @instDecidableAnd _ _ _ (@instDecidableAnd _ _ _ (sortFdec x.Label l))
def VSt (l : List Piece) : Prop := l.length ≤ 20 ∧ sortF 0 l
instance (l : List Piece) : Decidable (VSt l) := by unfold VSt; infer_instance
theorem sortF_cons {l : List Piece} {k : Nat} {x : Piece} {b : Int} (hx : l[k]? = some x) : sortF b (l.drop k) ↔ VPc x ∧ b < x.Label ∧ sortF x.Label (l.drop (k + 1)) := by
  obtain ⟨h1, h2⟩ := List.getElem?_eq_some_iff.1 hx
  rw [List.drop_eq_getElem_cons h1, h2, sortF]
theorem sortF_end {l : List Piece} {b : Int} : sortF b (l.drop l.length) := by simp [sortF]
theorem i_ValidStock_ev (l : List Piece) : vcall Xs Ms n_i_ValidStock [(.d (.sl (l.map Piece.enc)))] [] = some ((.d (.bool (decide (VSt l)))), []) := by
  by_cases h20 : (20 : Int) < (l.length : Int)
  · have hn : ¬ VSt l := fun h => by have := h.1; omega
    refine callE Xs Ms f_i_ValidStock x_i_ValidStock (by show 1 ≤ _; decide) ?_
    simp +contextual -implicitDefEqProofs (maxSteps := 10000000) only [go_sem, Nat.reduceAdd, Nat.reduceLT, Int.reduceAdd, Int.reduceLT, reduceMul, reduceSub, reduceLeDiff, reduceEqDiff, Nat.reduceBEq, Nat.reduceBNe, reduceLE, reduceEq, reduceToNat, reduceNeg, reduceCtorEq, ↓reduceIte, ↓gA, ↓gB, ↓gC, ↓gD, ↓gE, ↓gF, f_i_ValidStock, h20, hn]
  · have hle : l.length ≤ 20 := by omega
    refine callE Xs Ms f_i_ValidStock x_i_ValidStock (by show 1 ≤ _; decide) ?_
    simp +contextual -implicitDefEqProofs (maxSteps := 10000000) only [go_sem, Nat.reduceAdd, Nat.reduceLT, Int.reduceAdd, Int.reduceLT, reduceMul, reduceSub, reduceLeDiff, reduceEqDiff, Nat.reduceBEq, Nat.reduceBNe, reduceLE, reduceEq, reduceToNat, reduceNeg, reduceCtorEq, ↓reduceIte, ↓gA, ↓gB, ↓gC, ↓gD, ↓gE, ↓gF, f_i_ValidStock, h20]
    refine LW_over Xs Ms (st0 := ?st0) (α := Nat × Int) (fun s => [(11, .d (.int .i64 (s.1 : Int))), (3, .d (.int .i64 s.2))]) (fun _ => []) (fun s => s.1 ≤ l.length ∧ (sortF 0 l ↔ sortF s.2 (l.drop s.1))) (fun s => l.length - s.1) (0, 0) ?hc ⟨by simp, by simp⟩ ?h0 ?step
    case hc => simp +contextual -implicitDefEqProofs (maxSteps := 10000000) only [go_sem, Nat.reduceAdd, Nat.reduceLT, Int.reduceAdd, Int.reduceLT, reduceMul, reduceSub, reduceLeDiff, reduceEqDiff, Nat.reduceBEq, Nat.reduceBNe, reduceLE, reduceEq, reduceToNat, reduceNeg, reduceCtorEq, ↓reduceIte, ↓gA, ↓gB, ↓gC, ↓gD, ↓gE, ↓gF] <;> exact rfl
    case h0 => rfl
    case step =>
      intro ⟨i, b⟩ ⟨hi, hp⟩ ih
      simp only at hi hp
      by_cases hlt : i < l.length
      · obtain ⟨x, hx⟩ := get_lt hlt
        have hw := wrap_succ (k := i) (by omega)
        rw [sortF_cons hx] at hp
        have ev := i_ValidPiece_ev x.Label x.W x.H x.Flaws
        obtain ⟨L, W, H, F⟩ := x
        simp only at hp ev
        by_cases hv : VPc ⟨L, W, H, F⟩
        · rw [decide_eq_true hv] at ev
          by_cases hb : L ≤ b
          · have hn : ¬ VSt l := fun h => by have := (hp.1 h.2).2.1; omega
            simp +contextual -implicitDefEqProofs (maxSteps := 10000000) only [go_sem, Nat.reduceAdd, Nat.reduceLT, Int.reduceAdd, Int.reduceLT, reduceMul, reduceSub, reduceLeDiff, reduceEqDiff, Nat.reduceBEq, Nat.reduceBNe, reduceLE, reduceEq, reduceToNat, reduceNeg, reduceCtorEq, ↓reduceIte, ↓gA, ↓gB, ↓gC, ↓gD, ↓gE, ↓gF, hx, hlt, hw, ev, hb, hn]
          · simp +contextual -implicitDefEqProofs (maxSteps := 10000000) only [go_sem, Nat.reduceAdd, Nat.reduceLT, Int.reduceAdd, Int.reduceLT, reduceMul, reduceSub, reduceLeDiff, reduceEqDiff, Nat.reduceBEq, Nat.reduceBNe, reduceLE, reduceEq, reduceToNat, reduceNeg, reduceCtorEq, ↓reduceIte, ↓gA, ↓gB, ↓gC, ↓gD, ↓gE, ↓gF, hx, hlt, hw, ev, hb]
            refine ih (i + 1, L) _ ⟨by simp only; omega, ?_⟩ (by simp only; omega) ?_
            · rw [hp]; exact ⟨fun h => h.2.2, fun h => ⟨hv, by omega, h⟩⟩
            · simp +contextual -implicitDefEqProofs (maxSteps := 10000000) only [go_sem, Nat.reduceAdd, Nat.reduceLT, Int.reduceAdd, Int.reduceLT, reduceMul, reduceSub, reduceLeDiff, reduceEqDiff, Nat.reduceBEq, Nat.reduceBNe, reduceLE, reduceEq, reduceToNat, reduceNeg, reduceCtorEq, ↓reduceIte, ↓gA, ↓gB, ↓gC, ↓gD, ↓gE, ↓gF]
        · rw [decide_eq_false hv] at ev
          have hn : ¬ VSt l := fun h => hv (hp.1 h.2).1
          simp +contextual -implicitDefEqProofs (maxSteps := 10000000) only [go_sem, Nat.reduceAdd, Nat.reduceLT, Int.reduceAdd, Int.reduceLT, reduceMul, reduceSub, reduceLeDiff, reduceEqDiff, Nat.reduceBEq, Nat.reduceBNe, reduceLE, reduceEq, reduceToNat, reduceNeg, reduceCtorEq, ↓reduceIte, ↓gA, ↓gB, ↓gC, ↓gD, ↓gE, ↓gF, hx, hlt, hw, ev, hn]
      · have : i = l.length := by omega
        subst this
        have hy : VSt l := ⟨hle, hp.2 sortF_end⟩
        simp +contextual -implicitDefEqProofs (maxSteps := 10000000) only [go_sem, Nat.reduceAdd, Nat.reduceLT, Int.reduceAdd, Int.reduceLT, reduceMul, reduceSub, reduceLeDiff, reduceEqDiff, Nat.reduceBEq, Nat.reduceBNe, reduceLE, reduceEq, reduceToNat, reduceNeg, reduceCtorEq, ↓reduceIte, ↓gA, ↓gB, ↓gC, ↓gD, ↓gE, ↓gF, hy]
def labAt (l : List Piece) : Nat → Int
  | 0 => 0
  | j + 1 => match l[j]? with
    | some x => x.Label
    | none => 0
theorem s_validStock_ev (l : List Piece) (hl : l.length < 4611686018427387904) (hS : ∀ x ∈ l, x.Flaws.length < 4611686018427387904 ∧ R64 x.W ∧ R64 x.H) : vcall Xs Ms n_s_validStock [(.d (.sl (l.map Piece.enc)))] [] = some ((.d (.bool (decide (VSt l)))), []) := by
  refine callE Xs Ms f_s_validStock x_s_validStock (by show 1 ≤ _; decide) ?_
  simp +contextual -implicitDefEqProofs (maxSteps := 10000000) only [go_sem, Nat.reduceAdd, Nat.reduceLT, Int.reduceAdd, Int.reduceLT, reduceMul, reduceSub, reduceLeDiff, reduceEqDiff, Nat.reduceBEq, Nat.reduceBNe, reduceLE, reduceEq, reduceToNat, reduceNeg, reduceCtorEq, ↓reduceIte, ↓gA, ↓gB, ↓gC, ↓gD, ↓gE, ↓gF, f_s_validStock]
  refine LW_over Xs Ms (st0 := ?st0) (α := Nat) (fun i => [(3, .d (.int .i64 (i : Int)))]) (fun _ => []) (fun i => i ≤ l.length ∧ (sortF 0 l ↔ sortF (labAt l i) (l.drop i))) (fun i => l.length - i) 0 ?hc ⟨by simp, by simp [labAt]⟩ ?h0 ?step
  case hc => simp +contextual -implicitDefEqProofs (maxSteps := 10000000) only [go_sem, Nat.reduceAdd, Nat.reduceLT, Int.reduceAdd, Int.reduceLT, reduceMul, reduceSub, reduceLeDiff, reduceEqDiff, Nat.reduceBEq, Nat.reduceBNe, reduceLE, reduceEq, reduceToNat, reduceNeg, reduceCtorEq, ↓reduceIte, ↓gA, ↓gB, ↓gC, ↓gD, ↓gE, ↓gF] <;> exact rfl
  case h0 => rfl
  case step =>
    intro i ⟨hi, hp⟩ ih
    by_cases hlt : i < l.length
    · obtain ⟨x, hx⟩ := get_lt hlt
      have hw := wrap_succ (k := i) (by omega)
      rw [sortF_cons hx] at hp
      obtain ⟨hS1, hS2, hS3⟩ := hS x (List.mem_of_getElem? hx)
      have ev := s_validPiece_ev x.Label x.W x.H x.Flaws hS1 hS2 hS3
      have hla : labAt l (i + 1) = x.Label := by simp only [labAt, hx]
      obtain ⟨L, W, H, F⟩ := x
      simp only at hp ev hla
      by_cases hv : VPc ⟨L, W, H, F⟩
      · rw [decide_eq_true hv] at ev
        have hL : 1 ≤ L := hv.1.1
        cases i with
        | zero =>
          have hlt' : (0 : Int) < (l.length : Int) := by omega
          simp +contextual -implicitDefEqProofs (maxSteps := 10000000) only [go_sem, Nat.reduceAdd, Nat.reduceLT, Int.reduceAdd, Int.reduceLT, reduceMul, reduceSub, reduceLeDiff, reduceEqDiff, Nat.reduceBEq, Nat.reduceBNe, reduceLE, reduceEq, reduceToNat, reduceNeg, reduceCtorEq, ↓reduceIte, ↓gA, ↓gB, ↓gC, ↓gD, ↓gE, ↓gF, hx, hlt, hlt', hw, ev]
          refine ih 1 _ ⟨by omega, ?_⟩ (by omega) ?_
          · rw [hp, hla]; exact ⟨fun h => h.2.2, fun h => ⟨hv, by simp only [labAt]; omega, h⟩⟩
          · simp +contextual -implicitDefEqProofs (maxSteps := 10000000) only [go_sem, Nat.reduceAdd, Nat.reduceLT, Int.reduceAdd, Int.reduceLT, reduceMul, reduceSub, reduceLeDiff, reduceEqDiff, Nat.reduceBEq, Nat.reduceBNe, reduceLE, reduceEq, reduceToNat, reduceNeg, reduceCtorEq, ↓reduceIte, ↓gA, ↓gB, ↓gC, ↓gD, ↓gE, ↓gF]
        | succ j =>
          obtain ⟨y, hy⟩ := get_lt (l := l) (k := j) (by omega)
          have hlb : labAt l (j + 1) = y.Label := by simp only [labAt, hy]
          rw [hlb] at hp
          have hj : IntKind.i64.wrap (((j + 1 : Nat) : Int) - 1) = (j : Int) := by rw [wrap64 (by omega) (by omega)]; omega
          have hpos : (0 : Int) < ((j + 1 : Nat) : Int) := by omega
          have hjl : j < l.length := by omega
          obtain ⟨L', W', H', F'⟩ := y
          simp only at hp
          by_cases hb : L ≤ L'
          · have hn : ¬ VSt l := fun h => by have := (hp.1 h.2).2.1; omega
            simp +contextual -implicitDefEqProofs (maxSteps := 10000000) only [go_sem, Nat.reduceAdd, Nat.reduceLT, Int.reduceAdd, Int.reduceLT, reduceMul, reduceSub, reduceLeDiff, reduceEqDiff, Nat.reduceBEq, Nat.reduceBNe, reduceLE, reduceEq, reduceToNat, reduceNeg, reduceCtorEq, ↓reduceIte, ↓gA, ↓gB, ↓gC, ↓gD, ↓gE, ↓gF, hx, hlt, hw, ev, hpos, hj, hjl, hy, hb, hn]
          · simp +contextual -implicitDefEqProofs (maxSteps := 10000000) only [go_sem, Nat.reduceAdd, Nat.reduceLT, Int.reduceAdd, Int.reduceLT, reduceMul, reduceSub, reduceLeDiff, reduceEqDiff, Nat.reduceBEq, Nat.reduceBNe, reduceLE, reduceEq, reduceToNat, reduceNeg, reduceCtorEq, ↓reduceIte, ↓gA, ↓gB, ↓gC, ↓gD, ↓gE, ↓gF, hx, hlt, hw, ev, hpos, hj, hjl, hy, hb]
            refine ih (j + 1 + 1) _ ⟨by omega, ?_⟩ (by omega) ?_
            · rw [hp, hla]; exact ⟨fun h => h.2.2, fun h => ⟨hv, by omega, h⟩⟩
            · simp +contextual -implicitDefEqProofs (maxSteps := 10000000) only [go_sem, Nat.reduceAdd, Nat.reduceLT, Int.reduceAdd, Int.reduceLT, reduceMul, reduceSub, reduceLeDiff, reduceEqDiff, Nat.reduceBEq, Nat.reduceBNe, reduceLE, reduceEq, reduceToNat, reduceNeg, reduceCtorEq, ↓reduceIte, ↓gA, ↓gB, ↓gC, ↓gD, ↓gE, ↓gF]
      · rw [decide_eq_false hv] at ev
        have hn : ¬ VSt l := fun h => hv (hp.1 h.2).1
        simp +contextual -implicitDefEqProofs (maxSteps := 10000000) only [go_sem, Nat.reduceAdd, Nat.reduceLT, Int.reduceAdd, Int.reduceLT, reduceMul, reduceSub, reduceLeDiff, reduceEqDiff, Nat.reduceBEq, Nat.reduceBNe, reduceLE, reduceEq, reduceToNat, reduceNeg, reduceCtorEq, ↓reduceIte, ↓gA, ↓gB, ↓gC, ↓gD, ↓gE, ↓gF, hx, hlt, hw, ev, hn]
    · have : i = l.length := by omega
      subst this
      have hs := hp.2 sortF_end
      simp +contextual -implicitDefEqProofs (maxSteps := 10000000) only [go_sem, Nat.reduceAdd, Nat.reduceLT, Int.reduceAdd, Int.reduceLT, reduceMul, reduceSub, reduceLeDiff, reduceEqDiff, Nat.reduceBEq, Nat.reduceBNe, reduceLE, reduceEq, reduceToNat, reduceNeg, reduceCtorEq, ↓reduceIte, ↓gA, ↓gB, ↓gC, ↓gD, ↓gE, ↓gF]
      exact fin_b (by simp only [VSt]; constructor <;> (intro h; first | exact ⟨by omega, hs⟩ | (have := h.1; omega)))
def fLab : Nat → List Piece → Int → Int
  | _, [], _ => -1
  | k, x :: l, n => if x.Label = n then (k : Int) else fLab (k + 1) l n
theorem fLab_cons {l : List Piece} {k : Nat} {x : Piece} {n : Int} (hx : l[k]? = some x) : fLab k (l.drop k) n = if x.Label = n then (k : Int) else fLab (k + 1) (l.drop (k + 1)) n := by
  obtain ⟨h1, h2⟩ := List.getElem?_eq_some_iff.1 hx
  rw [List.drop_eq_getElem_cons h1, h2, fLab]
theorem i_findLabel_1_ev (qL : Int) (qW : Int) (qH : Int) (qF : List Box) (n : Int) : vcall Xs Ms n_i_findLabel_1 [(.d (.agg [.int .i64 qL, .int .i64 qW, .int .i64 qH, .sl (qF.map Box.enc)])), .ptr 0 0] [.box [(.d (.int .i64 (n)))]] = some ((.d (.bool (decide (qL = n)))), [.box [(.d (.int .i64 (n)))]]) := by
  refine callE Xs Ms f_i_findLabel_1 x_i_findLabel_1 (by show 2 ≤ _; decide) ?_
  simp +contextual -implicitDefEqProofs (maxSteps := 10000000) only [go_sem, Nat.reduceAdd, Nat.reduceLT, Int.reduceAdd, Int.reduceLT, reduceMul, reduceSub, reduceLeDiff, reduceEqDiff, Nat.reduceBEq, Nat.reduceBNe, reduceLE, reduceEq, reduceToNat, reduceNeg, reduceCtorEq, ↓reduceIte, ↓gA, ↓gB, ↓gC, ↓gD, ↓gE, ↓gF, f_i_findLabel_1]
theorem IndexFunc_ev (l : List Piece) (n : Int) (hl : l.length < 4611686018427387904) : vcall Xs Ms n_slices_IndexFunc_g [(.d (.sl (l.map Piece.enc))), .clo n_i_findLabel_1 [.ptr 0 0]] [.box [(.d (.int .i64 (n)))]] = some ((.d (.int .i64 (fLab 0 l n))), [.box [(.d (.int .i64 (n)))]]) := by
  refine callE Xs Ms f_slices_IndexFunc_g x_slices_IndexFunc_g (by show 2 ≤ _; decide) ?_
  simp +contextual -implicitDefEqProofs (maxSteps := 10000000) only [go_sem, Nat.reduceAdd, Nat.reduceLT, Int.reduceAdd, Int.reduceLT, reduceMul, reduceSub, reduceLeDiff, reduceEqDiff, Nat.reduceBEq, Nat.reduceBNe, reduceLE, reduceEq, reduceToNat, reduceNeg, reduceCtorEq, ↓reduceIte, ↓gA, ↓gB, ↓gC, ↓gD, ↓gE, ↓gF, f_slices_IndexFunc_g]
  refine LW_over Xs Ms (st0 := ?st0) (α := Nat) (fun k => [(8, .d (.int .i64 (k : Int)))]) (fun _ => []) (fun k => k ≤ l.length ∧ fLab k (l.drop k) n = fLab 0 l n) (fun k => l.length - k) 0 ?hc ⟨by omega, rfl⟩ ?h0 ?step
  case hc => simp +contextual -implicitDefEqProofs (maxSteps := 10000000) only [go_sem, Nat.reduceAdd, Nat.reduceLT, Int.reduceAdd, Int.reduceLT, reduceMul, reduceSub, reduceLeDiff, reduceEqDiff, Nat.reduceBEq, Nat.reduceBNe, reduceLE, reduceEq, reduceToNat, reduceNeg, reduceCtorEq, ↓reduceIte, ↓gA, ↓gB, ↓gC, ↓gD, ↓gE, ↓gF] <;> exact rfl
  case h0 => rfl
  case step =>
    intro k ⟨hk, hp⟩ ih
    by_cases hlt : k < l.length
    · obtain ⟨x, hx⟩ := get_lt hlt
      rw [fLab_cons hx] at hp
      have hw := wrap_succ (k := k) (by omega)
      have e1 := i_findLabel_1_ev x.Label x.W x.H x.Flaws n
      obtain ⟨L, W, H, F⟩ := x
      simp only at hp e1
      by_cases h : L = n
      · rw [if_pos h] at hp
        rw [decide_eq_true h] at e1
        simp +contextual -implicitDefEqProofs (maxSteps := 10000000) only [go_sem, Nat.reduceAdd, Nat.reduceLT, Int.reduceAdd, Int.reduceLT, reduceMul, reduceSub, reduceLeDiff, reduceEqDiff, Nat.reduceBEq, Nat.reduceBNe, reduceLE, reduceEq, reduceToNat, reduceNeg, reduceCtorEq, ↓reduceIte, ↓gA, ↓gB, ↓gC, ↓gD, ↓gE, ↓gF, hx, hlt, hw, e1]
        rw [← hp]
      · rw [if_neg h] at hp
        rw [decide_eq_false h] at e1
        simp +contextual -implicitDefEqProofs (maxSteps := 10000000) only [go_sem, Nat.reduceAdd, Nat.reduceLT, Int.reduceAdd, Int.reduceLT, reduceMul, reduceSub, reduceLeDiff, reduceEqDiff, Nat.reduceBEq, Nat.reduceBNe, reduceLE, reduceEq, reduceToNat, reduceNeg, reduceCtorEq, ↓reduceIte, ↓gA, ↓gB, ↓gC, ↓gD, ↓gE, ↓gF, hx, hlt, hw, e1]
        refine ih (k + 1) _ ⟨by omega, hp⟩ (by omega) ?_
        simp +contextual -implicitDefEqProofs (maxSteps := 10000000) only [go_sem, Nat.reduceAdd, Nat.reduceLT, Int.reduceAdd, Int.reduceLT, reduceMul, reduceSub, reduceLeDiff, reduceEqDiff, Nat.reduceBEq, Nat.reduceBNe, reduceLE, reduceEq, reduceToNat, reduceNeg, reduceCtorEq, ↓reduceIte, ↓gA, ↓gB, ↓gC, ↓gD, ↓gE, ↓gF]
    · have : k = l.length := by omega
      subst this
      simp +contextual -implicitDefEqProofs (maxSteps := 10000000) only [go_sem, Nat.reduceAdd, Nat.reduceLT, Int.reduceAdd, Int.reduceLT, reduceMul, reduceSub, reduceLeDiff, reduceEqDiff, Nat.reduceBEq, Nat.reduceBNe, reduceLE, reduceEq, reduceToNat, reduceNeg, reduceCtorEq, ↓reduceIte, ↓gA, ↓gB, ↓gC, ↓gD, ↓gE, ↓gF]
      rw [← hp]
      simp [fLab]
theorem i_findLabel_ev (l : List Piece) (n : Int) (hl : l.length < 4611686018427387904) : vcall Xs Ms n_i_findLabel [(.d (.sl (l.map Piece.enc))), (.d (.int .i64 (n)))] [] = some ((.d (.int .i64 (fLab 0 l n))), []) := by
  refine callE Xs Ms f_i_findLabel x_i_findLabel (by show 2 ≤ _; decide) ?_
  simp +contextual -implicitDefEqProofs (maxSteps := 10000000) only [go_sem, Nat.reduceAdd, Nat.reduceLT, Int.reduceAdd, Int.reduceLT, reduceMul, reduceSub, reduceLeDiff, reduceEqDiff, Nat.reduceBEq, Nat.reduceBNe, reduceLE, reduceEq, reduceToNat, reduceNeg, reduceCtorEq, ↓reduceIte, ↓gA, ↓gB, ↓gC, ↓gD, ↓gE, ↓gF, f_i_findLabel, IndexFunc_ev l n hl]
theorem s_findLabel_ev (l : List Piece) (n : Int) (hl : l.length < 4611686018427387904) : vcall Xs Ms n_s_findLabel [(.d (.sl (l.map Piece.enc))), (.d (.int .i64 (n)))] [] = some ((.d (.int .i64 (fLab 0 l n))), []) := by
  refine callE Xs Ms f_s_findLabel x_s_findLabel (by show 2 ≤ _; decide) ?_
  simp +contextual -implicitDefEqProofs (maxSteps := 10000000) only [go_sem, Nat.reduceAdd, Nat.reduceLT, Int.reduceAdd, Int.reduceLT, reduceMul, reduceSub, reduceLeDiff, reduceEqDiff, Nat.reduceBEq, Nat.reduceBNe, reduceLE, reduceEq, reduceToNat, reduceNeg, reduceCtorEq, ↓reduceIte, ↓gA, ↓gB, ↓gC, ↓gD, ↓gE, ↓gF, f_s_findLabel]
  refine LW_over Xs Ms (st0 := ?st0) (α := Nat) (fun k => [(5, .d (.int .i64 (k : Int)))]) (fun _ => []) (fun k => k ≤ l.length ∧ fLab k (l.drop k) n = fLab 0 l n) (fun k => l.length - k) 0 ?hc ⟨by omega, rfl⟩ ?h0 ?step
  case hc => simp +contextual -implicitDefEqProofs (maxSteps := 10000000) only [go_sem, Nat.reduceAdd, Nat.reduceLT, Int.reduceAdd, Int.reduceLT, reduceMul, reduceSub, reduceLeDiff, reduceEqDiff, Nat.reduceBEq, Nat.reduceBNe, reduceLE, reduceEq, reduceToNat, reduceNeg, reduceCtorEq, ↓reduceIte, ↓gA, ↓gB, ↓gC, ↓gD, ↓gE, ↓gF] <;> exact rfl
  case h0 => rfl
  case step =>
    intro k ⟨hk, hp⟩ ih
    by_cases hlt : k < l.length
    · obtain ⟨x, hx⟩ := get_lt hlt
      rw [fLab_cons hx] at hp
      have hw := wrap_succ (k := k) (by omega)
      obtain ⟨L, W, H, F⟩ := x
      simp only at hp
      by_cases h : L = n
      · rw [if_pos h] at hp
        simp +contextual -implicitDefEqProofs (maxSteps := 10000000) only [go_sem, Nat.reduceAdd, Nat.reduceLT, Int.reduceAdd, Int.reduceLT, reduceMul, reduceSub, reduceLeDiff, reduceEqDiff, Nat.reduceBEq, Nat.reduceBNe, reduceLE, reduceEq, reduceToNat, reduceNeg, reduceCtorEq, ↓reduceIte, ↓gA, ↓gB, ↓gC, ↓gD, ↓gE, ↓gF, hx, hlt, hw, h]
        rw [← hp]
      · rw [if_neg h] at hp
        simp +contextual -implicitDefEqProofs (maxSteps := 10000000) only [go_sem, Nat.reduceAdd, Nat.reduceLT, Int.reduceAdd, Int.reduceLT, reduceMul, reduceSub, reduceLeDiff, reduceEqDiff, Nat.reduceBEq, Nat.reduceBNe, reduceLE, reduceEq, reduceToNat, reduceNeg, reduceCtorEq, ↓reduceIte, ↓gA, ↓gB, ↓gC, ↓gD, ↓gE, ↓gF, hx, hlt, hw, h]
        refine ih (k + 1) _ ⟨by omega, hp⟩ (by omega) ?_
        simp +contextual -implicitDefEqProofs (maxSteps := 10000000) only [go_sem, Nat.reduceAdd, Nat.reduceLT, Int.reduceAdd, Int.reduceLT, reduceMul, reduceSub, reduceLeDiff, reduceEqDiff, Nat.reduceBEq, Nat.reduceBNe, reduceLE, reduceEq, reduceToNat, reduceNeg, reduceCtorEq, ↓reduceIte, ↓gA, ↓gB, ↓gC, ↓gD, ↓gE, ↓gF]
    · have : k = l.length := by omega
      subst this
      simp +contextual -implicitDefEqProofs (maxSteps := 10000000) only [go_sem, Nat.reduceAdd, Nat.reduceLT, Int.reduceAdd, Int.reduceLT, reduceMul, reduceSub, reduceLeDiff, reduceEqDiff, Nat.reduceBEq, Nat.reduceBNe, reduceLE, reduceEq, reduceToNat, reduceNeg, reduceCtorEq, ↓reduceIte, ↓gA, ↓gB, ↓gC, ↓gD, ↓gE, ↓gF]
      rw [← hp]
      simp [fLab]
theorem i_copyPiece_ev (qL : Int) (qW : Int) (qH : Int) (qF : List Box) (hF : qF.length ≤ 1000000) : vcall Xs Ms n_i_copyPiece [(.d (.agg [.int .i64 qL, .int .i64 qW, .int .i64 qH, .sl (qF.map Box.enc)]))] [] = some (.agg [(.d (.int .i64 (qL))), (.d (.int .i64 (qW))), (.d (.int .i64 (qH))), .own 0], [.row 4 (qF.map Box.enc) true false]) := by
  have hr : qF.length * 32 ≤ 140737488355328 ∧ qF.length ≤ 140737488355328 := by omega
  refine callE Xs Ms f_i_copyPiece x_i_copyPiece (by show 1 ≤ _; decide) ?_
  simp +contextual -implicitDefEqProofs (maxSteps := 10000000) only [go_sem, Nat.reduceAdd, Nat.reduceLT, Int.reduceAdd, Int.reduceLT, reduceMul, reduceSub, reduceLeDiff, reduceEqDiff, Nat.reduceBEq, Nat.reduceBNe, reduceLE, reduceEq, reduceToNat, reduceNeg, reduceCtorEq, ↓reduceIte, ↓gA, ↓gB, ↓gC, ↓gD, ↓gE, ↓gF, f_i_copyPiece, hr]
theorem s_copyPiece_ev (qL : Int) (qW : Int) (qH : Int) (qF : List Box) (hF : qF.length ≤ 1000000) : vcall Xs Ms n_s_copyPiece [(.d (.agg [.int .i64 qL, .int .i64 qW, .int .i64 qH, .sl (qF.map Box.enc)]))] [] = some (.agg [(.d (.int .i64 (qL))), (.d (.int .i64 (qW))), (.d (.int .i64 (qH))), .own 0], [.row 4 (qF.map Box.enc) true false]) := by
  have hr : qF.length * 32 ≤ 140737488355328 ∧ qF.length ≤ 140737488355328 := by omega
  refine callE Xs Ms f_s_copyPiece x_s_copyPiece (by show 1 ≤ _; decide) ?_
  simp +contextual -implicitDefEqProofs (maxSteps := 10000000) only [go_sem, Nat.reduceAdd, Nat.reduceLT, Int.reduceAdd, Int.reduceLT, reduceMul, reduceSub, reduceLeDiff, reduceEqDiff, Nat.reduceBEq, Nat.reduceBNe, reduceLE, reduceEq, reduceToNat, reduceNeg, reduceCtorEq, ↓reduceIte, ↓gA, ↓gB, ↓gC, ↓gD, ↓gE, ↓gF, f_s_copyPiece, hr]
theorem i_copyStock_ev (l : List Piece) (hl : l.length ≤ 1000000) (hF : ∀ x ∈ l, x.Flaws.length ≤ 1000000) : vcall Xs Ms n_i_copyStock [(.d (.sl (l.map Piece.enc)))] [] = some (.own 0, [.row 4 (l.map Piece.enc) true false]) := by
  refine callE Xs Ms f_i_copyStock x_i_copyStock (by show 1 ≤ _; decide) ?_
  simp +contextual -implicitDefEqProofs (maxSteps := 10000000) only [go_sem, Nat.reduceAdd, Nat.reduceLT, Int.reduceAdd, Int.reduceLT, reduceMul, reduceSub, reduceLeDiff, reduceEqDiff, Nat.reduceBEq, Nat.reduceBNe, reduceLE, reduceEq, reduceToNat, reduceNeg, reduceCtorEq, ↓reduceIte, ↓gA, ↓gB, ↓gC, ↓gD, ↓gE, ↓gF, f_i_copyStock]
  refine LW_over Xs Ms (st0 := ?st0) (α := Nat) (fun i => [(8, .d (.int .i64 (i : Int)))]) (fun i => [(0, .row 4 ((l.take i).map Piece.enc) true false)]) (fun i => i ≤ l.length) (fun i => l.length - i) 0 ?hc (by omega) ?h0 ?step
  case hc => simp +contextual -implicitDefEqProofs (maxSteps := 10000000) only [go_sem, Nat.reduceAdd, Nat.reduceLT, Int.reduceAdd, Int.reduceLT, reduceMul, reduceSub, reduceLeDiff, reduceEqDiff, Nat.reduceBEq, Nat.reduceBNe, reduceLE, reduceEq, reduceToNat, reduceNeg, reduceCtorEq, ↓reduceIte, ↓gA, ↓gB, ↓gC, ↓gD, ↓gE, ↓gF] <;> exact rfl
  case h0 => rfl
  case step =>
    intro i hi ih
    by_cases hlt : i < l.length
    · obtain ⟨x, hx⟩ := get_lt hlt
      have hw := wrap_succ (k := i) (by omega)
      have hm : l.take (i + 1) = l.take i ++ [x] := by rw [List.take_add_one, hx]; simp
      have hlk : (l.take i).length ≤ i := by simp; omega
      have hr : ((l.take i).length + 1) * 48 ≤ 140737488355328 ∧ (l.take i).length ≤ 140737488355327 := by omega
      have e := i_copyPiece_ev x.Label x.W x.H x.Flaws (hF x (List.mem_of_getElem? hx))
      obtain ⟨L, W, H, F⟩ := x
      simp only at e
      simp +contextual -implicitDefEqProofs (maxSteps := 10000000) only [go_sem, Nat.reduceAdd, Nat.reduceLT, Int.reduceAdd, Int.reduceLT, reduceMul, reduceSub, reduceLeDiff, reduceEqDiff, Nat.reduceBEq, Nat.reduceBNe, reduceLE, reduceEq, reduceToNat, reduceNeg, reduceCtorEq, ↓reduceIte, ↓gA, ↓gB, ↓gC, ↓gD, ↓gE, ↓gF, hx, hlt, hw, e, hr]
      refine ih (i + 1) _ (by omega) (by omega) ?_
      simp +contextual -implicitDefEqProofs (maxSteps := 10000000) only [go_sem, Nat.reduceAdd, Nat.reduceLT, Int.reduceAdd, Int.reduceLT, reduceMul, reduceSub, reduceLeDiff, reduceEqDiff, Nat.reduceBEq, Nat.reduceBNe, reduceLE, reduceEq, reduceToNat, reduceNeg, reduceCtorEq, ↓reduceIte, ↓gA, ↓gB, ↓gC, ↓gD, ↓gE, ↓gF, hm]
      first | rfl | (simp; done) | (simp; rfl)
    · have : i = l.length := by omega
      subst this
      simp +contextual -implicitDefEqProofs (maxSteps := 10000000) only [go_sem, Nat.reduceAdd, Nat.reduceLT, Int.reduceAdd, Int.reduceLT, reduceMul, reduceSub, reduceLeDiff, reduceEqDiff, Nat.reduceBEq, Nat.reduceBNe, reduceLE, reduceEq, reduceToNat, reduceNeg, reduceCtorEq, ↓reduceIte, ↓gA, ↓gB, ↓gC, ↓gD, ↓gE, ↓gF]
      simp
theorem er_take_ne {α : Type} {l : List α} {i a : Nat} {x : α} (hx : l[i]? = some x) (h : i ≠ a) : (l.take (i + 1)).eraseIdx a = (l.take i).eraseIdx a ++ [x] := by
  have h1 := (List.getElem?_eq_some_iff.1 hx).1
  have e : l.take (i + 1) = l.take i ++ [x] := by rw [List.take_add_one, hx]; simp
  rw [e]
  have hl : (l.take i).length = i := by simp; omega
  rcases Nat.lt_or_ge a i with h2 | h2
  · rw [List.eraseIdx_append_of_lt_length (by omega)]
  · rw [List.eraseIdx_of_length_le (by simp; omega), List.eraseIdx_of_length_le (by omega)]
theorem er_take_eq {α : Type} {l : List α} {i : Nat} {x : α} (hx : l[i]? = some x) : (l.take (i + 1)).eraseIdx i = (l.take i).eraseIdx i := by
  have h1 := (List.getElem?_eq_some_iff.1 hx).1
  have e : l.take (i + 1) = l.take i ++ [x] := by rw [List.take_add_one, hx]; simp
  have hl : (l.take i).length = i := by simp; omega
  rw [e, List.eraseIdx_append_of_length_le (by omega), hl]
  simp
  rw [List.eraseIdx_of_length_le (by omega)]
theorem er_len {α : Type} (l : List α) (a : Nat) : (l.eraseIdx a).length ≤ l.length := by
  have := List.length_eraseIdx_le l a
  omega
theorem s_without_ev (l : List Piece) (a : Nat) (hl : l.length ≤ 1000000) (hF : ∀ x ∈ l, x.Flaws.length ≤ 1000000) : vcall Xs Ms n_s_without [(.d (.sl (l.map Piece.enc))), (.d (.int .i64 (a)))] [] = some (.own 0, [.row 4 ((l.eraseIdx a).map Piece.enc) true false]) := by
  refine callE Xs Ms f_s_without x_s_without (by show 2 ≤ _; decide) ?_
  simp +contextual -implicitDefEqProofs (maxSteps := 10000000) only [go_sem, Nat.reduceAdd, Nat.reduceLT, Int.reduceAdd, Int.reduceLT, reduceMul, reduceSub, reduceLeDiff, reduceEqDiff, Nat.reduceBEq, Nat.reduceBNe, reduceLE, reduceEq, reduceToNat, reduceNeg, reduceCtorEq, ↓reduceIte, ↓gA, ↓gB, ↓gC, ↓gD, ↓gE, ↓gF, f_s_without]
  refine LW_over Xs Ms (st0 := ?st0) (α := Nat) (fun i => [(6, .d (.int .i64 (i : Int)))]) (fun i => [(0, .row 4 (((l.take i).eraseIdx a).map Piece.enc) true false)]) (fun i => i ≤ l.length) (fun i => l.length - i) 0 ?hc (by omega) ?h0 ?step
  case hc => simp +contextual -implicitDefEqProofs (maxSteps := 10000000) only [go_sem, Nat.reduceAdd, Nat.reduceLT, Int.reduceAdd, Int.reduceLT, reduceMul, reduceSub, reduceLeDiff, reduceEqDiff, Nat.reduceBEq, Nat.reduceBNe, reduceLE, reduceEq, reduceToNat, reduceNeg, reduceCtorEq, ↓reduceIte, ↓gA, ↓gB, ↓gC, ↓gD, ↓gE, ↓gF] <;> exact rfl
  case h0 => rfl
  case step =>
    intro i hi ih
    by_cases hlt : i < l.length
    · obtain ⟨x, hx⟩ := get_lt hlt
      have hw := wrap_succ (k := i) (by omega)
      by_cases hia : i = a
      · subst hia
        have hm := er_take_eq hx
        simp +contextual -implicitDefEqProofs (maxSteps := 10000000) only [go_sem, Nat.reduceAdd, Nat.reduceLT, Int.reduceAdd, Int.reduceLT, reduceMul, reduceSub, reduceLeDiff, reduceEqDiff, Nat.reduceBEq, Nat.reduceBNe, reduceLE, reduceEq, reduceToNat, reduceNeg, reduceCtorEq, ↓reduceIte, ↓gA, ↓gB, ↓gC, ↓gD, ↓gE, ↓gF, hx, hlt, hw]
        refine ih (i + 1) _ (by omega) (by omega) ?_
        simp +contextual -implicitDefEqProofs (maxSteps := 10000000) only [go_sem, Nat.reduceAdd, Nat.reduceLT, Int.reduceAdd, Int.reduceLT, reduceMul, reduceSub, reduceLeDiff, reduceEqDiff, Nat.reduceBEq, Nat.reduceBNe, reduceLE, reduceEq, reduceToNat, reduceNeg, reduceCtorEq, ↓reduceIte, ↓gA, ↓gB, ↓gC, ↓gD, ↓gE, ↓gF, hm]
      · have hm := er_take_ne hx hia
        have hlk : ((l.take i).eraseIdx a).length ≤ i := Nat.le_trans (er_len _ _) (by simp; omega)
        have hr : (((l.take i).eraseIdx a).length + 1) * 48 ≤ 140737488355328 ∧ ((l.take i).eraseIdx a).length ≤ 140737488355327 := by omega
        have e := s_copyPiece_ev x.Label x.W x.H x.Flaws (hF x (List.mem_of_getElem? hx))
        obtain ⟨L, W, H, F⟩ := x
        simp only at e
        simp +contextual -implicitDefEqProofs (maxSteps := 10000000) only [go_sem, Nat.reduceAdd, Nat.reduceLT, Int.reduceAdd, Int.reduceLT, reduceMul, reduceSub, reduceLeDiff, reduceEqDiff, Nat.reduceBEq, Nat.reduceBNe, reduceLE, reduceEq, reduceToNat, reduceNeg, reduceCtorEq, ↓reduceIte, ↓gA, ↓gB, ↓gC, ↓gD, ↓gE, ↓gF, hx, hlt, hw, hia, e, hr]
        refine ih (i + 1) _ (by omega) (by omega) ?_
        simp +contextual -implicitDefEqProofs (maxSteps := 10000000) only [go_sem, Nat.reduceAdd, Nat.reduceLT, Int.reduceAdd, Int.reduceLT, reduceMul, reduceSub, reduceLeDiff, reduceEqDiff, Nat.reduceBEq, Nat.reduceBNe, reduceLE, reduceEq, reduceToNat, reduceNeg, reduceCtorEq, ↓reduceIte, ↓gA, ↓gB, ↓gC, ↓gD, ↓gE, ↓gF, hm]
        first | rfl | (simp; done) | (simp; rfl)
    · have : i = l.length := by omega
      subst this
      simp +contextual -implicitDefEqProofs (maxSteps := 10000000) only [go_sem, Nat.reduceAdd, Nat.reduceLT, Int.reduceAdd, Int.reduceLT, reduceMul, reduceSub, reduceLeDiff, reduceEqDiff, Nat.reduceBEq, Nat.reduceBNe, reduceLE, reduceEq, reduceToNat, reduceNeg, reduceCtorEq, ↓reduceIte, ↓gA, ↓gB, ↓gC, ↓gD, ↓gE, ↓gF]
      simp
def lastL (l : List Piece) : Int := labAt l l.length
theorem lastL_get {l : List Piece} {x : Piece} (hx : l[l.length - 1]? = some x) : lastL l = x.Label := by
  have h := (List.getElem?_eq_some_iff.1 hx).1
  unfold lastL
  obtain ⟨n, hn⟩ : ∃ n, l.length = n + 1 := ⟨l.length - 1, by omega⟩
  rw [hn] at hx ⊢
  simp only [labAt]
  simp only [Nat.add_sub_cancel] at hx
  rw [hx]
theorem s_lastLabel_ev (l : List Piece) (hl : l.length < 4611686018427387904) : vcall Xs Ms n_s_lastLabel [(.d (.sl (l.map Piece.enc)))] [] = some ((.d (.int .i64 (lastL l))), []) := by
  by_cases h0 : l.length = 0
  · have e : lastL l = 0 := by unfold lastL; rw [h0]; rfl
    have h0' : (l.length : Int) = 0 := by omega
    rw [e]
    refine callE Xs Ms f_s_lastLabel x_s_lastLabel (by show 1 ≤ _; decide) ?_
    simp +contextual -implicitDefEqProofs (maxSteps := 10000000) only [go_sem, Nat.reduceAdd, Nat.reduceLT, Int.reduceAdd, Int.reduceLT, reduceMul, reduceSub, reduceLeDiff, reduceEqDiff, Nat.reduceBEq, Nat.reduceBNe, reduceLE, reduceEq, reduceToNat, reduceNeg, reduceCtorEq, ↓reduceIte, ↓gA, ↓gB, ↓gC, ↓gD, ↓gE, ↓gF, f_s_lastLabel, h0']
  · obtain ⟨x, hx⟩ := get_lt (l := l) (k := l.length - 1) (by omega)
    have e := lastL_get hx
    have hn : ¬ (l.length : Int) = 0 := by omega
    have hw : IntKind.i64.wrap ((l.length : Int) - 1) = ((l.length - 1 : Nat) : Int) := by rw [wrap64 (by omega) (by omega)]; omega
    have hlt : l.length - 1 < l.length := by omega
    obtain ⟨L, W, H, F⟩ := x
    simp only at e
    refine callE Xs Ms f_s_lastLabel x_s_lastLabel (by show 1 ≤ _; decide) ?_
    simp +contextual -implicitDefEqProofs (maxSteps := 10000000) only [go_sem, Nat.reduceAdd, Nat.reduceLT, Int.reduceAdd, Int.reduceLT, reduceMul, reduceSub, reduceLeDiff, reduceEqDiff, Nat.reduceBEq, Nat.reduceBNe, reduceLE, reduceEq, reduceToNat, reduceNeg, reduceCtorEq, ↓reduceIte, ↓gA, ↓gB, ↓gC, ↓gD, ↓gE, ↓gF, f_s_lastLabel, hn, hw, hx, hlt, e]
theorem fLab_range : ∀ (l : List Piece) (k : Nat) (n : Int), fLab k l n = -1 ∨ ∃ i : Nat, fLab k l n = ((k + i : Nat) : Int) ∧ i < l.length
  | [], k, n => .inl rfl
  | x :: l, k, n => by
    unfold fLab
    split
    · exact .inr ⟨0, by simp, by simp⟩
    · rcases fLab_range l (k + 1) n with h | ⟨i, h1, h2⟩
      · exact .inl h
      · exact .inr ⟨i + 1, by rw [h1]; congr 1; omega, by simp; omega⟩
theorem sortF_all : ∀ {l : List Piece} {b : Int}, sortF b l → ∀ x ∈ l, VPc x
  | [], _, _, x, hx => by simp at hx
  | y :: l, b, h, x, hx => by
    rcases List.mem_cons.1 hx with rfl | hx
    · exact h.1
    · exact sortF_all h.2.2 x hx
theorem VSt_small {l : List Piece} (h : VSt l) : l.length ≤ 1000000 ∧ ∀ x ∈ l, x.Flaws.length ≤ 1000000 := by
  refine ⟨by have := h.1; omega, fun x hx => ?_⟩
  have := (sortF_all h.2 x hx).1.2.2.2.2.2.2
  omega
theorem i_TakePiece_no (l : List Piece) (n : Int) (h : ¬ (VSt l ∧ 0 ≤ fLab 0 l n)) : vcall Xs Ms n_i_TakePiece [(.d (.sl (l.map Piece.enc))), (.d (.int .i64 (n)))] [] =
    some (.tup [.agg [(.d (.int .i64 (0))), (.d (.int .i64 (0))), (.d (.int .i64 (0))), .own 0], .own 1, (.d (.bool (false)))], [.row 4 [] true false, .row 4 [] true false]) := by
  have ev := i_ValidStock_ev l
  by_cases hv : VSt l
  · rw [decide_eq_true hv] at ev
    have hf := i_findLabel_ev l n (by have := hv.1; omega)
    have hn : fLab 0 l n < 0 := by
      rcases Int.lt_or_le (fLab 0 l n) 0 with h1 | h1
      · exact h1
      · exact absurd ⟨hv, h1⟩ h
    refine callE Xs Ms f_i_TakePiece x_i_TakePiece (by show 2 ≤ _; decide) ?_
    simp +contextual -implicitDefEqProofs (maxSteps := 10000000) only [go_sem, Nat.reduceAdd, Nat.reduceLT, Int.reduceAdd, Int.reduceLT, reduceMul, reduceSub, reduceLeDiff, reduceEqDiff, Nat.reduceBEq, Nat.reduceBNe, reduceLE, reduceEq, reduceToNat, reduceNeg, reduceCtorEq, ↓reduceIte, ↓gA, ↓gB, ↓gC, ↓gD, ↓gE, ↓gF, f_i_TakePiece, ev, hf, hn]
  · rw [decide_eq_false hv] at ev
    refine callE Xs Ms f_i_TakePiece x_i_TakePiece (by show 2 ≤ _; decide) ?_
    simp +contextual -implicitDefEqProofs (maxSteps := 10000000) only [go_sem, Nat.reduceAdd, Nat.reduceLT, Int.reduceAdd, Int.reduceLT, reduceMul, reduceSub, reduceLeDiff, reduceEqDiff, Nat.reduceBEq, Nat.reduceBNe, reduceLE, reduceEq, reduceToNat, reduceNeg, reduceCtorEq, ↓reduceIte, ↓gA, ↓gB, ↓gC, ↓gD, ↓gE, ↓gF, f_i_TakePiece, ev]
theorem i_TakePiece_yes (l : List Piece) (n : Int) (hv : VSt l) (i : Nat) (hi : fLab 0 l n = (i : Int)) (qL : Int) (qW : Int) (qH : Int) (qF : List Box) (hx : l[i]? = some (Piece.mk qL qW qH qF)) : vcall Xs Ms n_i_TakePiece [(.d (.sl (l.map Piece.enc))), (.d (.int .i64 (n)))] [] =
    some (.tup [.agg [(.d (.int .i64 (qL))), (.d (.int .i64 (qW))), (.d (.int .i64 (qH))), .own 0], .own 1, (.d (.bool (true)))], [.row 4 (qF.map Box.enc) true false, .row 4 ((l.eraseIdx i).map Piece.enc) true false]) := by
  have ev := i_ValidStock_ev l
  rw [decide_eq_true hv] at ev
  have hlt : i < l.length := (List.getElem?_eq_some_iff.1 hx).1
  have hl20 := hv.1
  obtain ⟨h1, h2⟩ := VSt_small hv
  have hf := i_findLabel_ev l n (by omega)
  rw [hi] at hf
  have hw := wrap_succ (k := i) (by omega)
  have c1 := i_copyStock_ev (l.take i) (by simp; omega) (fun x hx => h2 x (List.mem_of_mem_take hx))
  have c2 := i_copyStock_ev (l.drop (i + 1)) (by simp; omega) (fun x hx => h2 x (List.mem_of_mem_drop hx))
  have e := i_copyPiece_ev qL qW qH qF (h2 (Piece.mk qL qW qH qF) (List.mem_of_getElem? hx))
  have hr : ((l.take i).length + (l.drop (i + 1)).length) * 48 ≤ 140737488355328 ∧ (l.take i).length + (l.drop (i + 1)).length ≤ 140737488355328 := by simp; omega
  have hle : i ≤ l.length := by omega
  have hle2 : i + 1 ≤ l.length := by omega
  have hi0 : ¬ (i : Int) < 0 := by omega
  rw [List.eraseIdx_eq_take_drop_succ]
  refine callE Xs Ms f_i_TakePiece x_i_TakePiece (by show 2 ≤ _; decide) ?_
  simp +contextual -implicitDefEqProofs (maxSteps := 10000000) only [go_sem, Nat.reduceAdd, Nat.reduceLT, Int.reduceAdd, Int.reduceLT, reduceMul, reduceSub, reduceLeDiff, reduceEqDiff, Nat.reduceBEq, Nat.reduceBNe, reduceLE, reduceEq, reduceToNat, reduceNeg, reduceCtorEq, ↓reduceIte, ↓gA, ↓gB, ↓gC, ↓gD, ↓gE, ↓gF, f_i_TakePiece, optL, ev, hf, hi0, hw, hx, hlt, hle, hle2, c1, c2, e, hr, List.take_length]
def PSome (label : Int) (bs : List UInt8) (p : Nat) (r : AV × List AObj) : Prop :=
  ∃ (W H : Int) (F : List Box) (p' : Nat), F.length ≤ 3 ∧ R64 W ∧ R64 H ∧ p ≤ p' ∧ p' ≤ p + 20 ∧
    r = (.agg [(.d (.int .i64 (label))), (.d (.int .i64 (W))), (.d (.int .i64 (H))), .own 1], [.box [.d (.sl (bs.map encU)), (.d (.int .i64 (p')))], .row 4 (F.map Box.enc) true false])
theorem s_somePiece_ev (bs : List UInt8) (hb : bs.length ≤ 2000) (p : Nat) (hp : p < 800000000) (label : Int) : ∃ r, vcall Xs Ms n_s_somePiece [.ptr 0 0, (.d (.int .i64 (label)))] [.box [.d (.sl (bs.map encU)), (.d (.int .i64 (p)))]] = some r ∧ PSome label bs p r := by
  obtain ⟨W, hW, eW⟩ := s_one_ev bs p [12, 20, 8, 6, 30] hb (by omega) (by decide)
  obtain ⟨H, hH, eH⟩ := s_one_ev bs (p + 1) [10, 16, 8, 6, 24] hb (by omega) (by decide)
  obtain ⟨n, hn, eN⟩ := s_one_ev bs (p + 2) [0, 1, 2, 3, 0] hb (by omega) (by decide)
  have rW : R64 W := by simp only [List.mem_cons, List.not_mem_nil, or_false] at hW; unfold R64; omega
  have rH : R64 H := by simp only [List.mem_cons, List.not_mem_nil, or_false] at hH; unfold R64; omega
  have hn' : 0 ≤ n ∧ n ≤ 3 := by simp only [List.mem_cons, List.not_mem_nil, or_false] at hn; omega
  simp only [List.map_cons, List.map_nil, encI] at eW eH eN
  refine callW Xs Ms f_s_somePiece x_s_somePiece (by show 2 ≤ _; decide) ?_
  simp +contextual -implicitDefEqProofs (maxSteps := 10000000) only [go_sem, Nat.reduceAdd, Nat.reduceLT, Int.reduceAdd, Int.reduceLT, reduceMul, reduceSub, reduceLeDiff, reduceEqDiff, Nat.reduceBEq, Nat.reduceBNe, reduceLE, reduceEq, reduceToNat, reduceNeg, reduceCtorEq, ↓reduceIte, ↓gA, ↓gB, ↓gC, ↓gD, ↓gE, ↓gF, f_s_somePiece, eW, eH, eN]
  refine LW_over Xs Ms (st0 := ?st0) (α := Int × List Box × Nat) (fun s => [(6, .d (.int .i64 s.1))]) (fun s => [(0, .box [.d (.sl (bs.map encU)), (.d (.int .i64 (s.2.2)))]), (3, .row 4 (s.2.1.map Box.enc) true false)]) (fun s => 0 ≤ s.1 ∧ s.1 ≤ 3 ∧ (s.2.1.length : Int) ≤ 3 - s.1 ∧ p + 3 ≤ s.2.2 ∧ (s.2.2 : Int) ≤ p + 3 + 4 * (3 - s.1)) (fun s => s.1.toNat) (n, [], p + 3) ?hc (by simp; omega) ?h0 ?step
  case hc => simp +contextual -implicitDefEqProofs (maxSteps := 10000000) only [go_sem, Nat.reduceAdd, Nat.reduceLT, Int.reduceAdd, Int.reduceLT, reduceMul, reduceSub, reduceLeDiff, reduceEqDiff, Nat.reduceBEq, Nat.reduceBNe, reduceLE, reduceEq, reduceToNat, reduceNeg, reduceCtorEq, ↓reduceIte, ↓gA, ↓gB, ↓gC, ↓gD, ↓gE, ↓gF] <;> exact rfl
  case h0 => rfl
  case step =>
    intro ⟨m, F, pp⟩ ⟨i1, i2, i3, i4, i5⟩ ih
    simp only at i1 i2 i3 i4 i5
    by_cases hm : 0 < m
    · obtain ⟨X, Y, bW, bH, hsb⟩ := s_someBox_ev bs hb pp (by omega) W H
      have hr : (F.length + 1) * 32 ≤ 140737488355328 ∧ F.length ≤ 140737488355327 := by omega
      have hw := wi (m - 1) (by omega) (by omega)
      simp +contextual -implicitDefEqProofs (maxSteps := 10000000) only [go_sem, Nat.reduceAdd, Nat.reduceLT, Int.reduceAdd, Int.reduceLT, reduceMul, reduceSub, reduceLeDiff, reduceEqDiff, Nat.reduceBEq, Nat.reduceBNe, reduceLE, reduceEq, reduceToNat, reduceNeg, reduceCtorEq, ↓reduceIte, ↓gA, ↓gB, ↓gC, ↓gD, ↓gE, ↓gF, hm, hsb, hr, hw]
      refine ih (m - 1, F ++ [⟨X, Y, min bW 3, min bH 3⟩], pp + 4) _ ⟨by simp only; omega, by simp only; omega, by simp only [List.length_append, List.length_cons, List.length_nil]; omega, by simp only; omega, by simp only; omega⟩ (by simp only; omega) ?_
      simp +contextual -implicitDefEqProofs (maxSteps := 10000000) only [go_sem, Nat.reduceAdd, Nat.reduceLT, Int.reduceAdd, Int.reduceLT, reduceMul, reduceSub, reduceLeDiff, reduceEqDiff, Nat.reduceBEq, Nat.reduceBNe, reduceLE, reduceEq, reduceToNat, reduceNeg, reduceCtorEq, ↓reduceIte, ↓gA, ↓gB, ↓gC, ↓gD, ↓gE, ↓gF]
      try (simp [Box.enc] <;> omega)
    · simp +contextual -implicitDefEqProofs (maxSteps := 10000000) only [go_sem, Nat.reduceAdd, Nat.reduceLT, Int.reduceAdd, Int.reduceLT, reduceMul, reduceSub, reduceLeDiff, reduceEqDiff, Nat.reduceBEq, Nat.reduceBNe, reduceLE, reduceEq, reduceToNat, reduceNeg, reduceCtorEq, ↓reduceIte, ↓gA, ↓gB, ↓gC, ↓gD, ↓gE, ↓gF, hm]
      exact ⟨W, H, F, pp, by omega, rW, rH, by omega, by omega, rfl⟩
def PcW (x : Piece) : Prop := x.Flaws.length ≤ 3 ∧ R64 x.W ∧ R64 x.H
def PStock (bs : List UInt8) (p : Nat) (r : AV × List AObj) : Prop :=
  ∃ (l : List Piece) (p' : Nat), l.length ≤ 6 ∧ (∀ x ∈ l, PcW x) ∧ p ≤ p' ∧ p' ≤ p + 300 ∧
    r = (.own 1, [.box [.d (.sl (bs.map encU)), (.d (.int .i64 (p')))], .row 4 (l.map Piece.enc) true false])
def PStock0 (bs : List UInt8) (p : Nat) (r : AV × List AObj) : Prop :=
  ∃ (l : List Piece) (p' : Nat), l.length ≤ 6 ∧ (∀ x ∈ l, PcW x) ∧ p ≤ p' ∧ p' ≤ p + 200 ∧
    r = (.own 1, [.box [.d (.sl (bs.map encU)), (.d (.int .i64 (p')))], .row 4 (l.map Piece.enc) true false])
theorem s_someStock_ev (bs : List UInt8) (hb : bs.length ≤ 2000) (p : Nat) (hp : p < 700000000) : ∃ r, vcall Xs Ms n_s_someStock [.ptr 0 0] [.box [.d (.sl (bs.map encU)), (.d (.int .i64 (p)))]] = some r ∧ PStock0 bs p r := by
  obtain ⟨n, hn, eN⟩ := s_one_ev bs p [2, 3, 1, 4, 0, 6] hb (by omega) (by decide)
  have hn' : 0 ≤ n ∧ n ≤ 6 := by simp only [List.mem_cons, List.not_mem_nil, or_false] at hn; omega
  simp only [List.map_cons, List.map_nil, encI] at eN
  refine callW Xs Ms f_s_someStock x_s_someStock (by show 1 ≤ _; decide) ?_
  simp +contextual -implicitDefEqProofs (maxSteps := 10000000) only [go_sem, Nat.reduceAdd, Nat.reduceLT, Int.reduceAdd, Int.reduceLT, reduceMul, reduceSub, reduceLeDiff, reduceEqDiff, Nat.reduceBEq, Nat.reduceBNe, reduceLE, reduceEq, reduceToNat, reduceNeg, reduceCtorEq, ↓reduceIte, ↓gA, ↓gB, ↓gC, ↓gD, ↓gE, ↓gF, f_s_someStock, eN]
  refine LW_over Xs Ms (st0 := ?st0) (α := Int × Int × List Piece × Nat) (fun s => [(5, .d (.int .i64 s.1)), (4, .d (.int .i64 s.2.1))]) (fun s => [(0, .box [.d (.sl (bs.map encU)), (.d (.int .i64 (s.2.2.2)))]), (1, .row 4 (s.2.2.1.map Piece.enc) true false)]) (fun s => 0 ≤ s.1 ∧ s.1 ≤ 6 ∧ (s.2.2.1.length : Int) ≤ 6 - s.1 ∧ (∀ x ∈ s.2.2.1, PcW x) ∧ p + 1 ≤ s.2.2.2 ∧ (s.2.2.2 : Int) ≤ p + 1 + 21 * (6 - s.1)) (fun s => s.1.toNat) (n, 0, [], p + 1) ?hc (by simp; omega) ?h0 ?step
  case hc => simp +contextual -implicitDefEqProofs (maxSteps := 10000000) only [go_sem, Nat.reduceAdd, Nat.reduceLT, Int.reduceAdd, Int.reduceLT, reduceMul, reduceSub, reduceLeDiff, reduceEqDiff, Nat.reduceBEq, Nat.reduceBNe, reduceLE, reduceEq, reduceToNat, reduceNeg, reduceCtorEq, ↓reduceIte, ↓gA, ↓gB, ↓gC, ↓gD, ↓gE, ↓gF] <;> exact rfl
  case h0 => rfl
  case step =>
    intro ⟨m, lb, l, pp⟩ ⟨i1, i2, i3, i4, i5, i6⟩ ih
    simp only at i1 i2 i3 i4 i5 i6
    by_cases hm : 0 < m
    · have v0 := s_pick_ev bs pp 3 hb (by omega)
      generalize s_pick bs pp 3 = v at v0
      obtain ⟨r, e, W, H, F, p', j1, j2, j3, j4, j5, rfl⟩ := s_somePiece_ev bs hb (pp + 1) (by omega) (IntKind.i64.wrap (IntKind.i64.wrap (lb + 1) + v))
      have hr : (l.length + 1) * 48 ≤ 140737488355328 ∧ l.length ≤ 140737488355327 := by omega
      have hw := wi (m - 1) (by omega) (by omega)
      simp +contextual -implicitDefEqProofs (maxSteps := 10000000) only [go_sem, Nat.reduceAdd, Nat.reduceLT, Int.reduceAdd, Int.reduceLT, reduceMul, reduceSub, reduceLeDiff, reduceEqDiff, Nat.reduceBEq, Nat.reduceBNe, reduceLE, reduceEq, reduceToNat, reduceNeg, reduceCtorEq, ↓reduceIte, ↓gA, ↓gB, ↓gC, ↓gD, ↓gE, ↓gF, hm, v0, e, hr, hw]
      refine ih (m - 1, IntKind.i64.wrap (IntKind.i64.wrap (lb + 1) + v), l ++ [⟨IntKind.i64.wrap (IntKind.i64.wrap (lb + 1) + v), W, H, F⟩], p') _ ⟨by simp only; omega, by simp only; omega, by simp only [List.length_append, List.length_cons, List.length_nil]; omega, ?_, by simp only; omega, by simp only; omega⟩ (by simp only; omega) ?_
      · intro x hx
        rcases List.mem_append.1 hx with hx | hx
        · exact i4 x hx
        · simp only [List.mem_singleton] at hx; subst hx; exact ⟨j1, j2, j3⟩
      · simp +contextual -implicitDefEqProofs (maxSteps := 10000000) only [go_sem, Nat.reduceAdd, Nat.reduceLT, Int.reduceAdd, Int.reduceLT, reduceMul, reduceSub, reduceLeDiff, reduceEqDiff, Nat.reduceBEq, Nat.reduceBNe, reduceLE, reduceEq, reduceToNat, reduceNeg, reduceCtorEq, ↓reduceIte, ↓gA, ↓gB, ↓gC, ↓gD, ↓gE, ↓gF]
        try (simp [Piece.enc] <;> omega)
    · simp +contextual -implicitDefEqProofs (maxSteps := 10000000) only [go_sem, Nat.reduceAdd, Nat.reduceLT, Int.reduceAdd, Int.reduceLT, reduceMul, reduceSub, reduceLeDiff, reduceEqDiff, Nat.reduceBEq, Nat.reduceBNe, reduceLE, reduceEq, reduceToNat, reduceNeg, reduceCtorEq, ↓reduceIte, ↓gA, ↓gB, ↓gC, ↓gD, ↓gE, ↓gF, hm]
      exact ⟨l, pp, by omega, i4, by omega, by omega, rfl⟩
theorem set_piece (l : List Piece) (i : Nat) (L W H : Int) (F : List Box) : (l.map Piece.enc).set i (.agg [.int .i64 L, .int .i64 W, .int .i64 H, .sl (F.map Box.enc)]) = (l.set i ⟨L, W, H, F⟩).map Piece.enc := (List.map_set (f := Piece.enc) (l := l) (i := i) (a := ⟨L, W, H, F⟩)).symm
theorem set_PcW {l : List Piece} {i : Nat} {x : Piece} (h : ∀ y ∈ l, PcW y) (hx : PcW x) : ∀ y ∈ l.set i x, PcW y := fun y hy => by
  rcases List.mem_or_eq_of_mem_set hy with h1 | rfl
  · exact h y h1
  · exact hx
theorem s_anyStock_ev (bs : List UInt8) (hb : bs.length ≤ 2000) (p : Nat) (hp : p < 600000000) : ∃ r, vcall Xs Ms n_s_anyStock [.ptr 0 0] [.box [.d (.sl (bs.map encU)), (.d (.int .i64 (p)))]] = some r ∧ PStock bs p r := by
  obtain ⟨r, e, l, p1, j1, j2, j3, j4, rfl⟩ := s_someStock_ev bs hb p (by omega)
  by_cases h0 : (0 : Int) < (l.length : Int)
  · have v0 := s_pick_ev bs p1 12 hb (by omega)
    generalize s_pick bs p1 12 = v at v0
    by_cases hv : v = 0
    · subst hv
      have u0 := s_pick_ev bs (p1 + 1) l.length hb (by omega)
      have u1 := s_pick_nonneg bs (p1 + 1) l.length
      have u2 := s_pick_lt bs (p1 + 1) l.length (by omega)
      obtain ⟨i, hi⟩ : ∃ i : Nat, s_pick bs (p1 + 1) (l.length : Int) = (i : Int) := ⟨(s_pick bs (p1 + 1) (l.length : Int)).toNat, by omega⟩
      rw [hi] at u0 u2
      have hil : i < l.length := by omega
      obtain ⟨x, hx⟩ := get_lt hil
      have hxw := j2 x (List.mem_of_getElem? hx)
      obtain ⟨lb, _, eL⟩ := s_one_ev bs (p1 + 2) [0, 1, 9999, 10000] hb (by omega) (by decide)
      simp only [List.map_cons, List.map_nil, encI] at eL
      obtain ⟨L, W, H, F⟩ := x
      refine callW Xs Ms f_s_anyStock x_s_anyStock (by show 1 ≤ _; decide) ?_
      simp +contextual -implicitDefEqProofs (maxSteps := 10000000) only [go_sem, Nat.reduceAdd, Nat.reduceLT, Int.reduceAdd, Int.reduceLT, reduceMul, reduceSub, reduceLeDiff, reduceEqDiff, Nat.reduceBEq, Nat.reduceBNe, reduceLE, reduceEq, reduceToNat, reduceNeg, reduceCtorEq, ↓reduceIte, ↓gA, ↓gB, ↓gC, ↓gD, ↓gE, ↓gF, f_s_anyStock, e, h0, v0, u0, eL, hil, hx, set_piece]
      exact ⟨l.set i ⟨lb, W, H, F⟩, p1 + 3, by simpa using j1, set_PcW j2 hxw, by omega, by omega, rfl⟩
    · refine callW Xs Ms f_s_anyStock x_s_anyStock (by show 1 ≤ _; decide) ?_
      simp +contextual -implicitDefEqProofs (maxSteps := 10000000) only [go_sem, Nat.reduceAdd, Nat.reduceLT, Int.reduceAdd, Int.reduceLT, reduceMul, reduceSub, reduceLeDiff, reduceEqDiff, Nat.reduceBEq, Nat.reduceBNe, reduceLE, reduceEq, reduceToNat, reduceNeg, reduceCtorEq, ↓reduceIte, ↓gA, ↓gB, ↓gC, ↓gD, ↓gE, ↓gF, f_s_anyStock, e, h0, v0, hv]
      exact ⟨l, p1 + 1, j1, j2, by omega, by omega, rfl⟩
  · refine callW Xs Ms f_s_anyStock x_s_anyStock (by show 1 ≤ _; decide) ?_
    simp +contextual -implicitDefEqProofs (maxSteps := 10000000) only [go_sem, Nat.reduceAdd, Nat.reduceLT, Int.reduceAdd, Int.reduceLT, reduceMul, reduceSub, reduceLeDiff, reduceEqDiff, Nat.reduceBEq, Nat.reduceBNe, reduceLE, reduceEq, reduceToNat, reduceNeg, reduceCtorEq, ↓reduceIte, ↓gA, ↓gB, ↓gC, ↓gD, ↓gE, ↓gF, f_s_anyStock, e, h0]
    exact ⟨l, p1, j1, j2, by omega, by omega, rfl⟩
def PDrawC (r : AV × List AObj) : Prop :=
  ∃ (l : List Piece) (label kW kH : Int) (ps : List Pane) (o a q : Int) (t : Bool) (ks : List Plan) (least : Int), l.length ≤ 6 ∧ (∀ x ∈ l, PcW x) ∧ ps.length ≤ 24 ∧
    r = (.tup [.own 0, (.d (.int .i64 (label))), .agg [(.d (.int .i64 (kW))), (.d (.int .i64 (kH))), .own 1], .agg [(.d (.int .i64 (o))), (.d (.int .i64 (a))), (.d (.int .i64 (q))), (.d (.bool (t))), .own 2], (.d (.int .i64 (least)))],
      [.row 4 (l.map Piece.enc) true false, .row 4 (ps.map Pane.enc) true false, .row 5 (ks.map Plan.enc) true false])
theorem s_DrawCutStock_ev (code : List UInt8) : ∃ r, vcall Xs Ms n_s_DrawCutStock [.d (.sl (code.map encU))] [] = some r ∧ PDrawC r := by
  have hb : (code.take 2000).length ≤ 2000 := by simp; omega
  have en := s_newReader_ev code
  obtain ⟨r, e1, l, p1, j1, j2, j3, j4, rfl⟩ := s_anyStock_ev (code.take 2000) hb 0 (by omega)
  simp only [cast0] at e1
  generalize code.take 2000 = bs at *
  have hw := wi ((l.length : Int) + 1) (by omega) (by omega)
  have u0 := s_pick_ev bs p1 ((l.length : Int) + 1) hb (by omega)
  have u1 := s_pick_nonneg bs p1 ((l.length : Int) + 1)
  have u2 := s_pick_lt bs p1 ((l.length : Int) + 1) (by omega)
  obtain ⟨i, hi⟩ : ∃ i : Nat, s_pick bs p1 ((l.length : Int) + 1) = (i : Int) := ⟨(s_pick bs p1 ((l.length : Int) + 1)).toNat, by omega⟩
  rw [hi] at u0 u2
  by_cases hil : i < l.length
  · obtain ⟨x, hx⟩ := get_lt hil
    obtain ⟨r, e2, qW, qH, F, kW, kH, ps, o, a, q, t, ks, p2, h1, h2, h3, h4, h5, h6, rfl⟩ := s_planPiece_ev bs hb (p1 + 1) (by omega) x.Label
    have v0 := s_pick_ev bs p2 10 hb (by omega)
    generalize s_pick bs p2 10 = v at v0
    obtain ⟨least, _, e3⟩ := s_one_ev bs (p2 + 1) [1, 2, 3, 5, 0] hb (by omega) (by decide)
    simp only [List.map_cons, List.map_nil, encI] at e3
    obtain ⟨L, W, H, G⟩ := x
    simp only at e2
    by_cases hv : 0 < v
    · refine callW Xs Ms f_s_DrawCutStock x_s_DrawCutStock (by show 1 ≤ _; decide) ?_
      simp +contextual -implicitDefEqProofs (maxSteps := 10000000) only [go_sem, Nat.reduceAdd, Nat.reduceLT, Int.reduceAdd, Int.reduceLT, reduceMul, reduceSub, reduceLeDiff, reduceEqDiff, Nat.reduceBEq, Nat.reduceBNe, reduceLE, reduceEq, reduceToNat, reduceNeg, reduceCtorEq, ↓reduceIte, ↓gA, ↓gB, ↓gC, ↓gD, ↓gE, ↓gF, f_s_DrawCutStock, en, e1, hw, u0, hil, hx, e2, v0, hv, e3, set_piece]
      exact ⟨l.set i ⟨L, qW, qH, F⟩, L, kW, kH, ps, o, a, q, t, ks, least, by simpa using j1, set_PcW j2 ⟨h3, h1, h2⟩, h4, rfl⟩
    · refine callW Xs Ms f_s_DrawCutStock x_s_DrawCutStock (by show 1 ≤ _; decide) ?_
      simp +contextual -implicitDefEqProofs (maxSteps := 10000000) only [go_sem, Nat.reduceAdd, Nat.reduceLT, Int.reduceAdd, Int.reduceLT, reduceMul, reduceSub, reduceLeDiff, reduceEqDiff, Nat.reduceBEq, Nat.reduceBNe, reduceLE, reduceEq, reduceToNat, reduceNeg, reduceCtorEq, ↓reduceIte, ↓gA, ↓gB, ↓gC, ↓gD, ↓gE, ↓gF, f_s_DrawCutStock, en, e1, hw, u0, hil, hx, e2, v0, hv, e3]
      exact ⟨l, L, kW, kH, ps, o, a, q, t, ks, least, j1, j2, h4, rfl⟩
  · obtain ⟨r, e2, qW, qH, F, kW, kH, ps, o, a, q, t, ks, p2, h1, h2, h3, h4, h5, h6, rfl⟩ := s_planPiece_ev bs hb (p1 + 1) (by omega) 1
    obtain ⟨least, _, e3⟩ := s_one_ev bs p2 [1, 2, 3, 5, 0] hb (by omega) (by decide)
    simp only [List.map_cons, List.map_nil, encI] at e3
    refine callW Xs Ms f_s_DrawCutStock x_s_DrawCutStock (by show 1 ≤ _; decide) ?_
    simp +contextual -implicitDefEqProofs (maxSteps := 10000000) only [go_sem, Nat.reduceAdd, Nat.reduceLT, Int.reduceAdd, Int.reduceLT, reduceMul, reduceSub, reduceLeDiff, reduceEqDiff, Nat.reduceBEq, Nat.reduceBNe, reduceLE, reduceEq, reduceToNat, reduceNeg, reduceCtorEq, ↓reduceIte, ↓gA, ↓gB, ↓gC, ↓gD, ↓gE, ↓gF, f_s_DrawCutStock, en, e1, hw, u0, hil, e2, e3]
    exact ⟨l, 1, kW, kH, ps, o, a, q, t, ks, least, j1, j2, h4, rfl⟩
theorem sortF_mono {b c : Int} (h : b ≤ c) : ∀ {l : List Piece}, sortF c l → sortF b l
  | [], _ => trivial
  | x :: l, hs => ⟨hs.1, by have := hs.2.1; omega, hs.2.2⟩
theorem sortF_erase : ∀ {l : List Piece} {b : Int} (i : Nat), sortF b l → sortF b (l.eraseIdx i)
  | [], b, i, _ => by simp [sortF]
  | x :: l, b, 0, h => by
    simp only [List.eraseIdx_cons_zero]
    exact sortF_mono (by have := h.2.1; omega) h.2.2
  | x :: l, b, i + 1, h => by
    simp only [List.eraseIdx_cons_succ]
    exact ⟨h.1, h.2.1, sortF_erase i h.2.2⟩
theorem sortF_get : ∀ {l : List Piece} {b : Int}, sortF b l → ∀ (i j : Nat) (x y : Piece), i ≤ j → l[i]? = some x → l[j]? = some y → x.Label ≤ y.Label ∧ b < x.Label
  | [], b, _, i, j, x, y, _, hx, _ => by simp at hx
  | z :: l, b, h, 0, 0, x, y, _, hx, hy => by
    simp at hx hy; subst hx; subst hy; exact ⟨Int.le_refl _, h.2.1⟩
  | z :: l, b, h, 0, j + 1, x, y, _, hx, hy => by
    simp at hx hy; subst hx
    have := (sortF_get h.2.2 j j y y (Nat.le_refl _) hy hy).2
    exact ⟨by omega, h.2.1⟩
  | z :: l, b, h, i + 1, j + 1, x, y, hij, hx, hy => by
    simp at hx hy
    have := sortF_get h.2.2 i j x y (by omega) hx hy
    have h2 := h.2.1
    exact ⟨this.1, by omega⟩
  | z :: l, b, h, i + 1, 0, x, y, hij, hx, hy => by omega
theorem sortF_cutN {q : Piece} (hq : VPc q) : ∀ {L : List Box} {n c : Int}, c < n → 1 ≤ n → (∀ b ∈ L, VB b ∧ inside b ⟨0, 0, q.W, q.H⟩) → (sortF c (cutN q n L) ↔ (L = [] ∨ (L.length : Int) ≤ 10000 - n))
  | [], n, c, _, _, _ => by simp [cutN, sortF]
  | b :: L, n, c, hc, h1, hb => by
    have ih := sortF_cutN hq (L := L) (n := n + 1) (c := n) (by omega) (by omega) (fun d hd => hb d (by simp [hd]))
    have hv : VPc (cutP q b n) ↔ n ≤ 9999 := ⟨fun h => by have := h.1.2.1; simpa [cutP] using this, fun h => cutP_valid hq (hb b (by simp)).1 (hb b (by simp)).2 h1 h⟩
    simp only [cutN, sortF, hv, ih]
    have e : (cutP q b n).Label = n := rfl
    rw [e, ih]
    have hl : ((b :: L).length : Int) = L.length + 1 := by simp
    constructor
    · rintro ⟨g1, g2, g3⟩
      right
      rcases g3 with rfl | g3
      · simp only [List.length_cons, List.length_nil]; omega
      · omega
    · rintro (g | g)
      · cases g
      · refine ⟨by omega, hc, ?_⟩
        by_cases h0 : L = []
        · exact .inl h0
        · exact .inr (by omega)
theorem sortF_app {B : List Piece} {n : Int} {Q : Prop} (hB : ∀ c, c < n → (sortF c B ↔ Q)) : ∀ {A : List Piece} {b : Int}, sortF b A → (∀ x ∈ A, x.Label < n) → b < n → (sortF b (A ++ B) ↔ Q)
  | [], b, _, _, hb => hB b hb
  | x :: A, b, h, hx, hb => by
    have ih := sortF_app hB h.2.2 (fun y hy => hx y (by simp [hy])) (hx x (by simp))
    simp only [List.cons_append, sortF, ih]
    exact ⟨fun g => g.2.2, fun g => ⟨h.1, h.2.1, g⟩⟩
theorem lastL_le {l : List Piece} (hv : VSt l) (hne : 0 < l.length) : 1 ≤ lastL l ∧ lastL l ≤ 9999 ∧ ∀ x ∈ l, x.Label ≤ lastL l := by
  obtain ⟨y, hy⟩ := get_lt (l := l) (k := l.length - 1) (by omega)
  rw [lastL_get hy]
  have hyv := (sortF_all hv.2 y (List.mem_of_getElem? hy)).1
  refine ⟨hyv.1, hyv.2.1, fun x hx => ?_⟩
  obtain ⟨i, hi⟩ := List.getElem?_of_mem hx
  have := (List.getElem?_eq_some_iff.1 hi).1
  exact (sortF_get hv.2 i (l.length - 1) x y (by omega) hi hy).1
def cutL (l : List Piece) (i : Nat) (x : Piece) (k : Work) (p : Plan) (least : Int) : List Piece := l.eraseIdx i ++ cutN x (lastL l + 1) (keptL k p least)
theorem VSt_cut {l : List Piece} {i : Nat} {x : Piece} {k : Work} {p : Plan} {least : Int} (hv : VSt l) (hx : l[i]? = some x) (hg : goodP x k p) :
    VSt (cutL l i x k p least) ↔ ((keptL k p least).length : Int) ≤ 10000 - (lastL l + 1) ∧ (l.eraseIdx i).length + (keptL k p least).length ≤ 20 := by
  have hil := (List.getElem?_eq_some_iff.1 hx).1
  obtain ⟨h1, h2, h3⟩ := lastL_le hv (by omega)
  have hq := sortF_all hv.2 x (List.mem_of_getElem? hx)
  have hin : ∀ b ∈ keptL k p least, VB b ∧ inside b ⟨0, 0, x.W, x.H⟩ := fun b hb => by
    have := keptL_in (least := least) hg.1 b hb
    rw [← hg.2.1, ← hg.2.2.1]; exact this
  have hs := sortF_app (n := lastL l + 1) (fun c hc => sortF_cutN hq hc (by omega) hin) (sortF_erase i hv.2) (fun y hy => by have := h3 y (List.mem_of_mem_eraseIdx hy); omega) (by omega)
  unfold VSt cutL
  rw [hs, List.length_append, cutN_len]
  constructor
  · rintro ⟨g1, g2 | g2⟩
    · exact ⟨by rw [g2]; simp; omega, g1⟩
    · exact ⟨g2, g1⟩
  · rintro ⟨g1, g2⟩
    exact ⟨g2, .inr g1⟩
def cutSt (l : List Piece) (n : Int) (k : Work) (p : Plan) (least : Int) : Option (List Piece) :=
  if VSt l ∧ 0 ≤ fLab 0 l n ∧ 1 ≤ least ∧ least ≤ 200 then
    match l[(fLab 0 l n).toNat]? with
    | some x => if goodP x k p ∧ VSt (cutL l (fLab 0 l n).toNat x k p least) then some (cutL l (fLab 0 l n).toNat x k p least) else none
    | none => none
  else none
def cutR : Option (List Piece) → AV × List AObj
  | some R => (.tup [.own 0, (.d (.bool (true)))], [.row 4 (R.map Piece.enc) true false])
  | none => (.tup [.own 0, (.d (.bool (false)))], [.row 4 [] true false])
theorem fLab_get {l : List Piece} {n : Int} (h : 0 ≤ fLab 0 l n) : ∃ (i : Nat) (x : Piece), fLab 0 l n = (i : Int) ∧ l[i]? = some x := by
  rcases fLab_range l 0 n with h1 | ⟨i, h1, h2⟩
  · omega
  · obtain ⟨x, hx⟩ := get_lt h2
    exact ⟨i, x, by rw [h1]; simp, hx⟩
theorem i_CutStock_ev (l : List Piece) (n : Int) (kW : Int) (kH : Int) (kP : List Pane) (p : Plan) (least : Int) : vcall Xs Ms n_i_CutStock [(.d (.sl (l.map Piece.enc))), (.d (.int .i64 (n))), (.d (.agg [.int .i64 kW, .int .i64 kH, .sl (kP.map Pane.enc)])), .d p.enc, (.d (.int .i64 (least)))] [] = some (cutR (cutSt l n (Work.mk kW kH kP) p least)) := by
  by_cases h : VSt l ∧ 0 ≤ fLab 0 l n
  · obtain ⟨hv, hf⟩ := h
    obtain ⟨i, x, hi, hx⟩ := fLab_get hf
    have hil := (List.getElem?_eq_some_iff.1 hx).1
    have hq := sortF_all hv.2 x (List.mem_of_getElem? hx)
    have hll := lastL_le hv (by omega)
    obtain ⟨y, hy⟩ := get_lt (l := l) (k := l.length - 1) (by omega)
    have hly := lastL_get hy
    have h20 := hv.1
    have hvc := VSt_cut (k := (Work.mk kW kH kP)) (p := p) (least := least) hv hx
    have et := fun q1 q2 q3 q4 h => i_TakePiece_yes l n hv i hi q1 q2 q3 q4 h
    unfold cutSt
    rw [hi]
    simp only [Int.toNat_natCast, hx]
    obtain ⟨L, W, H, F⟩ := x
    have et := et L W H F hx
    have eg := i_GoodPlan_ev L W H F kW kH kP p
    have hel : (l.eraseIdx i).length ≤ 20 := Nat.le_trans (er_len _ _) h20
    have hlt1 : l.length - 1 < l.length := by omega
    have w1 : IntKind.i64.wrap ((l.length : Int) - 1) = ((l.length - 1 : Nat) : Int) := by rw [wrap64 (by omega) (by omega)]; omega
    have w2 := wi (lastL l + 1) (by omega) (by omega)
    by_cases hg : goodP ⟨L, W, H, F⟩ (Work.mk kW kH kP) p
    · have hd : decide (VPc ⟨L, W, H, F⟩ ∧ goodP ⟨L, W, H, F⟩ (Work.mk kW kH kP) p) = true := decide_eq_true ⟨hq, hg⟩
      rw [hd] at eg
      by_cases hl : 1 ≤ least ∧ least ≤ 200
      · have n1 : ¬ least < 1 := by omega
        have n2 : ¬ 200 < least := by omega
        have hkl := keptL_len (Work.mk kW kH kP) p least
        by_cases hk : ((keptL (Work.mk kW kH kP) p least).length : Int) ≤ 10000 - (lastL l + 1)
        · have er := i_cutRemnants_yes L W H F kW kH kP p least (lastL l + 1) hq hg.1 hg.2.1 hg.2.2.1 (by omega) (by omega) hk
          have w3 := wi (((l.eraseIdx i).length : Int) + ((keptL (Work.mk kW kH kP) p least).length : Int)) (by omega) (by omega)
          have hcl := cutN_len ⟨L, W, H, F⟩ (lastL l + 1) (keptL (Work.mk kW kH kP) p least)
          by_cases h2 : (l.eraseIdx i).length + (keptL (Work.mk kW kH kP) p least).length ≤ 20
          · rw [if_pos ⟨hv, by omega, hl⟩, if_pos ⟨hg, (hvc hg).2 ⟨hk, h2⟩⟩]
            unfold cutL cutR
            have n3 : ¬ (20 : Int) < ((l.eraseIdx i).length : Int) + ((keptL (Work.mk kW kH kP) p least).length : Int) := by omega
            have hr : ((l.eraseIdx i).length + (keptL (Work.mk kW kH kP) p least).length) * 48 ≤ 140737488355328 ∧ (l.eraseIdx i).length + (keptL (Work.mk kW kH kP) p least).length ≤ 140737488355328 := by omega
            clear hvc hg hd
            generalize cutN ⟨L, W, H, F⟩ (lastL l + 1) (keptL (Work.mk kW kH kP) p least) = R at er hcl ⊢
            generalize (keptL (Work.mk kW kH kP) p least).length = N at *
            obtain ⟨yL, yW, yH, yF⟩ := y
            simp only at hly
            rw [hly] at er w2
            obtain ⟨o, a, m, t, ks⟩ := p
            rw [Plan.enc_mk] at er eg ⊢
            refine callE Xs Ms f_i_CutStock x_i_CutStock (by show 5 ≤ _; decide) ?_
            simp +contextual -implicitDefEqProofs (maxSteps := 10000000) only [go_sem, Nat.reduceAdd, Nat.reduceLT, Int.reduceAdd, Int.reduceLT, reduceMul, reduceSub, reduceLeDiff, reduceEqDiff, Nat.reduceBEq, Nat.reduceBNe, reduceLE, reduceEq, reduceToNat, reduceNeg, reduceCtorEq, ↓reduceIte, ↓gA, ↓gB, ↓gC, ↓gD, ↓gE, ↓gF, f_i_CutStock, et, eg, n1, n2, w1, hy, hlt1, w2, er, hcl, w3, n3, hr]
          · rw [if_pos ⟨hv, by omega, hl⟩, if_neg (fun h => h2 ((hvc hg).1 h.2).2)]
            unfold cutR
            have n3 : (20 : Int) < ((l.eraseIdx i).length : Int) + ((keptL (Work.mk kW kH kP) p least).length : Int) := by omega
            clear hvc hg hd
            generalize cutN ⟨L, W, H, F⟩ (lastL l + 1) (keptL (Work.mk kW kH kP) p least) = R at er hcl ⊢
            generalize (keptL (Work.mk kW kH kP) p least).length = N at *
            obtain ⟨yL, yW, yH, yF⟩ := y
            simp only at hly
            rw [hly] at er w2
            obtain ⟨o, a, m, t, ks⟩ := p
            rw [Plan.enc_mk] at er eg ⊢
            refine callE Xs Ms f_i_CutStock x_i_CutStock (by show 5 ≤ _; decide) ?_
            simp +contextual -implicitDefEqProofs (maxSteps := 10000000) only [go_sem, Nat.reduceAdd, Nat.reduceLT, Int.reduceAdd, Int.reduceLT, reduceMul, reduceSub, reduceLeDiff, reduceEqDiff, Nat.reduceBEq, Nat.reduceBNe, reduceLE, reduceEq, reduceToNat, reduceNeg, reduceCtorEq, ↓reduceIte, ↓gA, ↓gB, ↓gC, ↓gD, ↓gE, ↓gF, f_i_CutStock, et, eg, n1, n2, w1, hy, hlt1, w2, er, hcl, w3, n3]
        · have er := i_cutRemnants_no L W H F kW kH kP p least (lastL l + 1) (by omega) (by omega) hk
          rw [if_pos ⟨hv, by omega, hl⟩, if_neg (fun h => hk ((hvc hg).1 h.2).1)]
          unfold cutR
          clear hvc hg hd hk hkl
          obtain ⟨yL, yW, yH, yF⟩ := y
          simp only at hly
          rw [hly] at er w2
          obtain ⟨o, a, m, t, ks⟩ := p
          rw [Plan.enc_mk] at er eg ⊢
          refine callE Xs Ms f_i_CutStock x_i_CutStock (by show 5 ≤ _; decide) ?_
          simp +contextual -implicitDefEqProofs (maxSteps := 10000000) only [go_sem, Nat.reduceAdd, Nat.reduceLT, Int.reduceAdd, Int.reduceLT, reduceMul, reduceSub, reduceLeDiff, reduceEqDiff, Nat.reduceBEq, Nat.reduceBNe, reduceLE, reduceEq, reduceToNat, reduceNeg, reduceCtorEq, ↓reduceIte, ↓gA, ↓gB, ↓gC, ↓gD, ↓gE, ↓gF, f_i_CutStock, et, eg, n1, n2, w1, hy, hlt1, w2, er]
      · rw [if_neg (fun h => hl ⟨h.2.2.1, h.2.2.2⟩)]
        unfold cutR
        clear hvc hg hd
        obtain ⟨o, a, m, t, ks⟩ := p
        rw [Plan.enc_mk] at eg ⊢
        by_cases n1 : least < 1
        · refine callE Xs Ms f_i_CutStock x_i_CutStock (by show 5 ≤ _; decide) ?_
          simp +contextual -implicitDefEqProofs (maxSteps := 10000000) only [go_sem, Nat.reduceAdd, Nat.reduceLT, Int.reduceAdd, Int.reduceLT, reduceMul, reduceSub, reduceLeDiff, reduceEqDiff, Nat.reduceBEq, Nat.reduceBNe, reduceLE, reduceEq, reduceToNat, reduceNeg, reduceCtorEq, ↓reduceIte, ↓gA, ↓gB, ↓gC, ↓gD, ↓gE, ↓gF, f_i_CutStock, et, eg, n1]
        · have n2 : 200 < least := by omega
          refine callE Xs Ms f_i_CutStock x_i_CutStock (by show 5 ≤ _; decide) ?_
          simp +contextual -implicitDefEqProofs (maxSteps := 10000000) only [go_sem, Nat.reduceAdd, Nat.reduceLT, Int.reduceAdd, Int.reduceLT, reduceMul, reduceSub, reduceLeDiff, reduceEqDiff, Nat.reduceBEq, Nat.reduceBNe, reduceLE, reduceEq, reduceToNat, reduceNeg, reduceCtorEq, ↓reduceIte, ↓gA, ↓gB, ↓gC, ↓gD, ↓gE, ↓gF, f_i_CutStock, et, eg, n1, n2]
    · have hd : decide (VPc ⟨L, W, H, F⟩ ∧ goodP ⟨L, W, H, F⟩ (Work.mk kW kH kP) p) = false := decide_eq_false fun h => hg h.2
      rw [hd] at eg
      have e0 : (if VSt l ∧ (0 : Int) ≤ (i : Int) ∧ 1 ≤ least ∧ least ≤ 200 then (if goodP ⟨L, W, H, F⟩ (Work.mk kW kH kP) p ∧ VSt (cutL l i ⟨L, W, H, F⟩ (Work.mk kW kH kP) p least) then some (cutL l i ⟨L, W, H, F⟩ (Work.mk kW kH kP) p least) else none) else none) = none := by
        rw [if_neg (fun h : goodP ⟨L, W, H, F⟩ (Work.mk kW kH kP) p ∧ _ => hg h.1)]; split <;> rfl
      rw [e0]
      unfold cutR
      clear hvc hg hd e0
      obtain ⟨o, a, m, t, ks⟩ := p
      rw [Plan.enc_mk] at eg ⊢
      refine callE Xs Ms f_i_CutStock x_i_CutStock (by show 5 ≤ _; decide) ?_
      simp +contextual -implicitDefEqProofs (maxSteps := 10000000) only [go_sem, Nat.reduceAdd, Nat.reduceLT, Int.reduceAdd, Int.reduceLT, reduceMul, reduceSub, reduceLeDiff, reduceEqDiff, Nat.reduceBEq, Nat.reduceBNe, reduceLE, reduceEq, reduceToNat, reduceNeg, reduceCtorEq, ↓reduceIte, ↓gA, ↓gB, ↓gC, ↓gD, ↓gE, ↓gF, f_i_CutStock, et, eg]
  · have et := i_TakePiece_no l n h
    have e0 : cutSt l n (Work.mk kW kH kP) p least = none := by
      unfold cutSt
      rw [if_neg (fun g => h ⟨g.1, g.2.1⟩)]
    rw [e0]
    unfold cutR
    clear e0
    obtain ⟨o, a, m, t, ks⟩ := p
    rw [Plan.enc_mk]
    refine callE Xs Ms f_i_CutStock x_i_CutStock (by show 5 ≤ _; decide) ?_
    simp +contextual -implicitDefEqProofs (maxSteps := 10000000) only [go_sem, Nat.reduceAdd, Nat.reduceLT, Int.reduceAdd, Int.reduceLT, reduceMul, reduceSub, reduceLeDiff, reduceEqDiff, Nat.reduceBEq, Nat.reduceBNe, reduceLE, reduceEq, reduceToNat, reduceNeg, reduceCtorEq, ↓reduceIte, ↓gA, ↓gB, ↓gC, ↓gD, ↓gE, ↓gF, f_i_CutStock, et]
theorem cutL_small {l : List Piece} {i : Nat} {x : Piece} {k : Work} {p : Plan} {least : Int} (hv : VSt l) (hx : l[i]? = some x) (hg : goodP x k p) :
    (cutL l i x k p least).length ≤ 1000 ∧ ∀ y ∈ cutL l i x k p least, y.Flaws.length < 4611686018427387904 ∧ R64 y.W ∧ R64 y.H := by
  have hq := sortF_all hv.2 x (List.mem_of_getElem? hx)
  refine ⟨?_, fun y hy => ?_⟩
  · unfold cutL
    rw [List.length_append, cutN_len]
    have := keptL_len k p least
    have := er_len l i
    have := hv.1
    omega
  · rcases List.mem_append.1 hy with hy | hy
    · have h := sortF_all hv.2 y (List.mem_of_mem_eraseIdx hy)
      have h1 := h.1
      exact ⟨by omega, ⟨by omega, by omega⟩, ⟨by omega, by omega⟩⟩
    · obtain ⟨j, hj⟩ := List.getElem?_of_mem hy
      obtain ⟨b, hb, rfl⟩ := cutN_get x _ _ j y hj
      have hvb := (keptL_in (least := least) hg.1 b (List.mem_of_getElem? hb)).1
      simp only [VB] at hvb
      have hfl := List.length_filterMap_le (cutFlaw b) x.Flaws
      have hq6 := hq.1.2.2.2.2.2.2
      simp only [cutP]
      exact ⟨by omega, ⟨by omega, by omega⟩, ⟨by omega, by omega⟩⟩
theorem s_CutStock_ev (l : List Piece) (n : Int) (kW : Int) (kH : Int) (kP : List Pane) (p : Plan) (least : Int) (hl : l.length ≤ 1000) (hS : ∀ x ∈ l, PcW x) (hk : kP.length < 4611686018427387904) : vcall Xs Ms n_s_CutStock [(.d (.sl (l.map Piece.enc))), (.d (.int .i64 (n))), (.d (.agg [.int .i64 kW, .int .i64 kH, .sl (kP.map Pane.enc)])), .d p.enc, (.d (.int .i64 (least)))] [] = some (cutR (cutSt l n (Work.mk kW kH kP) p least)) := by
  have ev := s_validStock_ev l (by omega) (fun x hx => by obtain ⟨g1, g2, g3⟩ := hS x hx; exact ⟨by omega, g2, g3⟩)
  have ef := s_findLabel_ev l n (by omega)
  unfold cutSt
  by_cases hv : VSt l
  · rw [decide_eq_true hv] at ev
    by_cases hf : 0 ≤ fLab 0 l n
    · obtain ⟨i, x, hi, hx⟩ := fLab_get hf
      rw [hi] at ef ⊢
      have hi0 : ¬ (i : Int) < 0 := by omega
      have hil := (List.getElem?_eq_some_iff.1 hx).1
      simp only [Int.toNat_natCast, hx]
      by_cases hr : 1 ≤ least ∧ least ≤ 200
      · have hq := sortF_all hv.2 x (List.mem_of_getElem? hx)
        have hll := lastL_le hv (by omega)
        have ew := s_without_ev l i (by omega) (fun x hx => by have := (hS x hx).1; omega)
        have el := s_lastLabel_ev l (by omega)
        have w2 := wi (lastL l + 1) (by omega) (by omega)
        rw [if_pos ⟨hv, by omega, hr⟩]
        by_cases hg : goodP x (Work.mk kW kH kP) p
        · have hcs := cutL_small (least := least) hv hx hg
          have evo := s_validStock_ev (cutL l i x (Work.mk kW kH kP) p least) (by omega) hcs.2
          have hlen : (l.eraseIdx i).length ≤ 20 := Nat.le_trans (er_len _ _) hv.1
          have hkl := keptL_len (Work.mk kW kH kP) p least
          obtain ⟨L, W, H, F⟩ := x
          have eg := s_goodPlan_ev L W H F kW kH kP p (fun f hf => (hq.2 f hf).1) hq.1.2.2.2.2.2.2 hk
          have er := s_remnants_ev L W H F kW kH kP p least (lastL l + 1) hq hg.1 (by omega) (by omega)
          rw [decide_eq_true hg] at eg
          have hcl := cutN_len ⟨L, W, H, F⟩ (lastL l + 1) (keptL (Work.mk kW kH kP) p least)
          have hrm : ((l.eraseIdx i).length + (keptL (Work.mk kW kH kP) p least).length) * 48 ≤ 140737488355328 ∧ (l.eraseIdx i).length + (keptL (Work.mk kW kH kP) p least).length ≤ 140737488355328 := by omega
          unfold cutL at evo ⊢
          have hgg := hg
          clear hg
          by_cases hvo : VSt (l.eraseIdx i ++ cutN ⟨L, W, H, F⟩ (lastL l + 1) (keptL (Work.mk kW kH kP) p least))
          · rw [decide_eq_true hvo] at evo
            rw [if_pos ⟨hgg, hvo⟩]
            unfold cutR
            clear hvo hcs hgg
            generalize cutN ⟨L, W, H, F⟩ (lastL l + 1) (keptL (Work.mk kW kH kP) p least) = R at er hcl evo ⊢
            generalize (keptL (Work.mk kW kH kP) p least).length = N at *
            obtain ⟨o, a, m, t, ks⟩ := p
            rw [Plan.enc_mk] at er eg ⊢
            refine callE Xs Ms f_s_CutStock x_s_CutStock (by show 5 ≤ _; decide) ?_
            simp +contextual -implicitDefEqProofs (maxSteps := 10000000) only [go_sem, Nat.reduceAdd, Nat.reduceLT, Int.reduceAdd, Int.reduceLT, reduceMul, reduceSub, reduceLeDiff, reduceEqDiff, Nat.reduceBEq, Nat.reduceBNe, reduceLE, reduceEq, reduceToNat, reduceNeg, reduceCtorEq, ↓reduceIte, ↓gA, ↓gB, ↓gC, ↓gD, ↓gE, ↓gF, f_s_CutStock, ev, ef, hi0, s_inRange_ev, hr, hx, hil, eg, ew, el, w2, er, hcl, hrm, evo]
          · rw [decide_eq_false hvo] at evo
            rw [if_neg (fun h => hvo h.2)]
            unfold cutR
            clear hvo hcs hgg
            generalize cutN ⟨L, W, H, F⟩ (lastL l + 1) (keptL (Work.mk kW kH kP) p least) = R at er hcl evo ⊢
            generalize (keptL (Work.mk kW kH kP) p least).length = N at *
            obtain ⟨o, a, m, t, ks⟩ := p
            rw [Plan.enc_mk] at er eg ⊢
            refine callE Xs Ms f_s_CutStock x_s_CutStock (by show 5 ≤ _; decide) ?_
            simp +contextual -implicitDefEqProofs (maxSteps := 10000000) only [go_sem, Nat.reduceAdd, Nat.reduceLT, Int.reduceAdd, Int.reduceLT, reduceMul, reduceSub, reduceLeDiff, reduceEqDiff, Nat.reduceBEq, Nat.reduceBNe, reduceLE, reduceEq, reduceToNat, reduceNeg, reduceCtorEq, ↓reduceIte, ↓gA, ↓gB, ↓gC, ↓gD, ↓gE, ↓gF, f_s_CutStock, ev, ef, hi0, s_inRange_ev, hr, hx, hil, eg, ew, el, w2, er, hcl, hrm, evo]
        · rw [if_neg (fun h => hg h.1)]
          obtain ⟨L, W, H, F⟩ := x
          have eg := s_goodPlan_ev L W H F kW kH kP p (fun f hf => (hq.2 f hf).1) hq.1.2.2.2.2.2.2 hk
          rw [decide_eq_false hg] at eg
          unfold cutR
          clear hg
          obtain ⟨o, a, m, t, ks⟩ := p
          rw [Plan.enc_mk] at eg ⊢
          refine callE Xs Ms f_s_CutStock x_s_CutStock (by show 5 ≤ _; decide) ?_
          simp +contextual -implicitDefEqProofs (maxSteps := 10000000) only [go_sem, Nat.reduceAdd, Nat.reduceLT, Int.reduceAdd, Int.reduceLT, reduceMul, reduceSub, reduceLeDiff, reduceEqDiff, Nat.reduceBEq, Nat.reduceBNe, reduceLE, reduceEq, reduceToNat, reduceNeg, reduceCtorEq, ↓reduceIte, ↓gA, ↓gB, ↓gC, ↓gD, ↓gE, ↓gF, f_s_CutStock, ev, ef, hi0, s_inRange_ev, hr, hx, hil, eg]
      · rw [if_neg (fun h => hr h.2.2)]
        unfold cutR
        obtain ⟨o, a, m, t, ks⟩ := p
        rw [Plan.enc_mk]
        refine callE Xs Ms f_s_CutStock x_s_CutStock (by show 5 ≤ _; decide) ?_
        simp +contextual -implicitDefEqProofs (maxSteps := 10000000) only [go_sem, Nat.reduceAdd, Nat.reduceLT, Int.reduceAdd, Int.reduceLT, reduceMul, reduceSub, reduceLeDiff, reduceEqDiff, Nat.reduceBEq, Nat.reduceBNe, reduceLE, reduceEq, reduceToNat, reduceNeg, reduceCtorEq, ↓reduceIte, ↓gA, ↓gB, ↓gC, ↓gD, ↓gE, ↓gF, f_s_CutStock, ev, ef, hi0, s_inRange_ev, hr]
    · rw [if_neg (fun h => hf h.2.1)]
      have hf' : fLab 0 l n < 0 := by omega
      unfold cutR
      obtain ⟨o, a, m, t, ks⟩ := p
      rw [Plan.enc_mk]
      refine callE Xs Ms f_s_CutStock x_s_CutStock (by show 5 ≤ _; decide) ?_
      simp +contextual -implicitDefEqProofs (maxSteps := 10000000) only [go_sem, Nat.reduceAdd, Nat.reduceLT, Int.reduceAdd, Int.reduceLT, reduceMul, reduceSub, reduceLeDiff, reduceEqDiff, Nat.reduceBEq, Nat.reduceBNe, reduceLE, reduceEq, reduceToNat, reduceNeg, reduceCtorEq, ↓reduceIte, ↓gA, ↓gB, ↓gC, ↓gD, ↓gE, ↓gF, f_s_CutStock, ev, ef, hf']
  · rw [decide_eq_false hv] at ev
    rw [if_neg (fun h => hv h.1)]
    unfold cutR
    obtain ⟨o, a, m, t, ks⟩ := p
    rw [Plan.enc_mk]
    refine callE Xs Ms f_s_CutStock x_s_CutStock (by show 5 ≤ _; decide) ?_
    simp +contextual -implicitDefEqProofs (maxSteps := 10000000) only [go_sem, Nat.reduceAdd, Nat.reduceLT, Int.reduceAdd, Int.reduceLT, reduceMul, reduceSub, reduceLeDiff, reduceEqDiff, Nat.reduceBEq, Nat.reduceBNe, reduceLE, reduceEq, reduceToNat, reduceNeg, reduceCtorEq, ↓reduceIte, ↓gA, ↓gB, ↓gC, ↓gD, ↓gE, ↓gF, f_s_CutStock, ev]
theorem sumWH_erase : ∀ {l : List Piece} {i : Nat} {x : Piece}, l[i]? = some x → sumWH (l.eraseIdx i) + x.W * x.H = sumWH l
  | [], i, x, h => by simp at h
  | y :: l, 0, x, h => by
    simp at h; subst h
    simp only [List.eraseIdx_cons_zero, sumWH]; omega
  | y :: l, i + 1, x, h => by
    simp at h
    have := sumWH_erase h
    simp only [List.eraseIdx_cons_succ, sumWH]; omega
theorem goodP_area {q : Piece} {k : Work} {p : Plan} {least : Int} (hg : goodP q k p) :
    areaL (keptL k p least) + areaL (lostL k p least) + areaL (((partsL k p).filterMap asPlace).map Place.Box) = q.W * q.H ∧ (∀ b ∈ ((partsL k p).filterMap asPlace).map Place.Box, VB b) := by
  have hv := hg.1
  obtain ⟨b, hb, hpb, hvw, hcnt, hfit, hpt⟩ := vplan_some hv
  refine ⟨?_, fun c hc => ?_⟩
  · unfold keptL lostL
    have := area_kept_lost least ((partsL k p).filterMap asWaste)
    have h6 := area_all (ps := k.Panes) (b := b) (x := 0) (y := 0) (w := k.W) (h := k.H)
    rw [hpt, pt_wastes] at *
    rw [pt_places, ← hg.2.1, ← hg.2.2.1]
    omega
  · obtain ⟨d, hd, rfl⟩ := List.mem_map.1 hc
    rw [hpt, pt_places] at hd
    exact vplan_places (p := p) hvw hfit d hd
theorem cutSt_some {l : List Piece} {n : Int} {k : Work} {p : Plan} {least : Int} {R : List Piece} (h : cutSt l n k p least = some R) :
    ∃ (i : Nat) (x : Piece), fLab 0 l n = (i : Int) ∧ l[i]? = some x ∧ VSt l ∧ goodP x k p ∧ 1 ≤ least ∧ least ≤ 200 ∧ R = cutL l i x k p least ∧ VSt R := by
  unfold cutSt at h
  split at h
  · rename_i hc
    obtain ⟨i, x, hi, hx⟩ := fLab_get hc.2.1
    rw [hi] at h
    simp only [Int.toNat_natCast, hx] at h
    split at h
    · rename_i hg
      cases h
      exact ⟨i, x, hi, hx, hc.1, hg.1, hc.2.2.1, hc.2.2.2, rfl, hg.2⟩
    · cases h
  · cases h
theorem remn_cut {l : List Piece} {i : Nat} {x : Piece} {k : Work} {p : Plan} {least : Int} (hv : VSt l) (hx : l[i]? = some x) (hg : goodP x k p) (h1 : 1 ≤ least) (h2 : least ≤ 200) (hR : VSt (cutL l i x k p least)) :
    remn x k p least (lastL l + 1) = cutN x (lastL l + 1) (keptL k p least) := by
  have hil := (List.getElem?_eq_some_iff.1 hx).1
  have hll := lastL_le hv (by omega)
  have hq := sortF_all hv.2 x (List.mem_of_getElem? hx)
  have hc := ((VSt_cut hv hx hg).1 hR).1
  unfold remn
  by_cases h : lastL l + 1 ≤ 9999
  · rw [if_pos ⟨⟨hq, hg⟩, h1, h2, by omega, h, hc⟩]
  · have : keptL k p least = [] := List.eq_nil_of_length_eq_zero (by omega)
    rw [if_neg (fun g => h g.2.2.2.2.1), this]
    rfl
theorem l_FnCutStockOthers_ev (code : List UInt8) : vcall Xs Ms n_l_FnCutStockOthers [.d (.sl (code.map encU))] [] = some ((.d (.bool (true))), []) := by
  by_cases hlen : (1048576 : Int) < code.length
  · refine callE Xs Ms f_l_FnCutStockOthers x_l_FnCutStockOthers (by show 1 ≤ _; decide) ?_
    simp +contextual -implicitDefEqProofs (maxSteps := 10000000) only [go_sem, Nat.reduceAdd, Nat.reduceLT, Int.reduceAdd, Int.reduceLT, reduceMul, reduceSub, reduceLeDiff, reduceEqDiff, Nat.reduceBEq, Nat.reduceBNe, reduceLE, reduceEq, reduceToNat, reduceNeg, reduceCtorEq, ↓reduceIte, ↓gA, ↓gB, ↓gC, ↓gD, ↓gE, ↓gF, f_l_FnCutStockOthers, hlen]
  · obtain ⟨r, ed, l, label, kW, kH, ps, o, a, n, t, ks, least, j1, j2, j3, rfl⟩ := s_DrawCutStock_ev code
    have ei := i_CutStock_ev l label kW kH ps (.mk o a n t ks) least
    have es := s_CutStock_ev l label kW kH ps (.mk o a n t ks) least (by omega) j2 (by omega)
    have nb : ∀ a b : Bool, binV .neq true (.d (.bool a)) (.d (.bool b)) = only1 (.d (.bool (!(a == b)))) := fun _ _ => rfl
    have bb : ∀ a b : Bool, binV .eql true (.d (.bool a)) (.d (.bool b)) = only1 (.d (.bool (a == b))) := fun _ _ => rfl
    rw [Plan.enc_mk] at ei es
    cases hc : cutSt l label ⟨kW, kH, ps⟩ (.mk o a n t ks) least with
    | none =>
      rw [hc] at ei es
      simp only [cutR] at ei es
      have eq := l_equalStock_ev [] [] (by simp) (by simp)
      simp only [decide_true, List.map_nil] at eq
      refine callE Xs Ms f_l_FnCutStockOthers x_l_FnCutStockOthers (by show 1 ≤ _; decide) ?_
      simp +contextual -implicitDefEqProofs (maxSteps := 10000000) only [go_sem, Nat.reduceAdd, Nat.reduceLT, Int.reduceAdd, Int.reduceLT, reduceMul, reduceSub, reduceLeDiff, reduceEqDiff, Nat.reduceBEq, Nat.reduceBNe, reduceLE, reduceEq, reduceToNat, reduceNeg, reduceCtorEq, ↓reduceIte, ↓gA, ↓gB, ↓gC, ↓gD, ↓gE, ↓gF, f_l_FnCutStockOthers, nb, bb, hlen, ed, ei, es, eq]
    | some R =>
      obtain ⟨i, x, hi, hx, hv, hg, f2, f3, rfl, hvR⟩ := cutSt_some hc
      rw [hc] at ei es
      simp only [cutR] at ei es
      have hil := (List.getElem?_eq_some_iff.1 hx).1
      have hsR := VSt_small hvR
      have eq := l_equalStock_ev (cutL l i x ⟨kW, kH, ps⟩ (.mk o a n t ks) least) (cutL l i x ⟨kW, kH, ps⟩ (.mk o a n t ks) least) (by have := hsR.1; omega) (fun y hy => by have := hsR.2 y hy; omega)
      simp only [decide_true] at eq
      have hrc := remn_cut hv hx hg f2 f3 hvR
      have hll := lastL_le hv (by omega)
      obtain ⟨y, hy⟩ := get_lt (l := l) (k := l.length - 1) (by omega)
      have hly := lastL_get hy
      have hlt1 : l.length - 1 < l.length := by omega
      have w1 : IntKind.i64.wrap ((l.length : Int) - 1) = ((l.length - 1 : Nat) : Int) := by rw [wrap64 (by omega) (by omega)]; omega
      have w2 := wi (lastL l + 1) (by omega) (by omega)
      have hA : ∀ y ∈ l.eraseIdx i, y ∈ cutL l i x ⟨kW, kH, ps⟩ (.mk o a n t ks) least := fun y hy => List.mem_append.2 (.inl hy)
      have hB : ∀ y ∈ cutN x (lastL l + 1) (keptL ⟨kW, kH, ps⟩ (.mk o a n t ks) least), y ∈ cutL l i x ⟨kW, kH, ps⟩ (.mk o a n t ks) least := fun y hy => List.mem_append.2 (.inr hy)
      have hR20 := hvR.1
      have hRl : (cutL l i x ⟨kW, kH, ps⟩ (.mk o a n t ks) least).length = (l.eraseIdx i).length + (cutN x (lastL l + 1) (keptL ⟨kW, kH, ps⟩ (.mk o a n t ks) least)).length := by unfold cutL; simp
      have eA := l_equalStock_ev (l.eraseIdx i) (l.eraseIdx i) (by omega) (fun y hy => by have := hsR.2 y (hA y hy); omega)
      have eB := l_equalStock_ev (cutN x (lastL l + 1) (keptL ⟨kW, kH, ps⟩ (.mk o a n t ks) least)) (cutN x (lastL l + 1) (keptL ⟨kW, kH, ps⟩ (.mk o a n t ks) least)) (by omega) (fun y hy => by have := hsR.2 y (hB y hy); omega)
      simp only [decide_true] at eA eB
      have et := fun q1 q2 q3 q4 h => i_TakePiece_yes l label hv i hi q1 q2 q3 q4 h
      have emn := i_RemnantsOf_ev x.Label x.W x.H x.Flaws kW kH ps (.mk o a n t ks) least (lastL l + 1)
      have w3 : IntKind.i64.wrap (((l.eraseIdx i).length : Int) + ((cutN x (lastL l + 1) (keptL ⟨kW, kH, ps⟩ (.mk o a n t ks) least)).length : Int)) = (((l.eraseIdx i).length + (cutN x (lastL l + 1) (keptL ⟨kW, kH, ps⟩ (.mk o a n t ks) least)).length : Nat) : Int) := by rw [wrap64 (by omega) (by omega)]; omega
      obtain ⟨L, W, H, F⟩ := x
      have et := et L W H F hx
      simp only at emn
      rw [hrc, Plan.enc_mk] at emn
      unfold cutL at ei es eq
      clear hA hB hRl hR20 hrc hvR hg hc hsR
      generalize cutN ⟨L, W, H, F⟩ (lastL l + 1) (keptL ⟨kW, kH, ps⟩ (.mk o a n t ks) least) = B at *
      obtain ⟨yL, yW, yH, yF⟩ := y
      simp only at hly
      rw [hly] at emn w2
      generalize l.eraseIdx i = A at *
      refine callE Xs Ms f_l_FnCutStockOthers x_l_FnCutStockOthers (by show 1 ≤ _; decide) ?_
      simp +contextual -implicitDefEqProofs (maxSteps := 10000000) only [go_sem, Nat.reduceAdd, Nat.reduceLT, Int.reduceAdd, Int.reduceLT, reduceMul, reduceSub, reduceLeDiff, reduceEqDiff, Nat.reduceBEq, Nat.reduceBNe, reduceLE, reduceEq, reduceToNat, reduceNeg, reduceCtorEq, ↓reduceIte, ↓gA, ↓gB, ↓gC, ↓gD, ↓gE, ↓gF, f_l_FnCutStockOthers, optL, nb, bb, hlen, ed, ei, es, eq, et, w1, hy, hlt1, w2, emn, w3, eA, eB, List.take_left, List.drop_left, Nat.le_add_right, Nat.add_sub_cancel_left, Nat.sub_zero, List.take_length]
end Go.Proofs.Ytbodfpboklcgoaa
