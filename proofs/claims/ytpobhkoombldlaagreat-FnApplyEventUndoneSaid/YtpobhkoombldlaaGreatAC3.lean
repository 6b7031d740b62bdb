/- Contracts of the functions, by the abstract semantics. -/
import Derived.Test.YtpobhkoombldlaaGreatACode
import Derived.Test.YtpobhkoombldlaaGreatAbsParts
import Derived.Test.YtpobhkoombldlaaGreatAC2
namespace Go.Proofs.YtpobhkoombldlaaGreat
open Go Go.Abs Go.Abs.E Go.Abs.L
open Nat (reduceMul reduceSub reduceLeDiff reduceEqDiff)
open Int (reduceLE reduceEq reduceToNat reduceNeg)
set_option linter.unusedSimpArgs false
set_option linter.unusedVariables false
set_option maxRecDepth 20000
set_option maxHeartbeats 4000000
def Zjk : List Pane → List Zd → Prop
 | _, [] => True
 | q, x :: l => VP x.Pane ∧ x.Pane ∉ q ∧ 1 ≤ x.Count ∧ x.Count ≤ 24 ∧ Zjk (q ++ [x.Pane]) l
instance ordGdec : ∀ (q : List Pane) (l : List Zd), Decidable (Zjk q l)
 | _, [] => .isTrue trivial
 | q, x :: l => by
  unfold Zjk
  have := ordGdec (q ++ [x.Pane]) l
  infer_instance
def QD : List Zd → Int
 | [] => 0
 | x :: l => x.Count + QD l
def ZaY (l : List Zd) : Prop := l.length ≤ 8 ∧ Zjk [] l ∧ QD l ≤ 24
instance (l : List Zd) : Decidable (ZaY l) := by unfold ZaY; infer_instance
theorem Zp5 {l : List Zd} {k : Nat} {x : Zd} {q : List Pane} (hx : l[k]? = some x) : Zjk q (l.drop k) ↔ VP x.Pane ∧ x.Pane ∉ q ∧ 1 ≤ x.Count ∧ x.Count ≤ 24 ∧ Zjk (q ++ [x.Pane]) (l.drop (k + 1)) := by
 obtain ⟨h1, h2⟩ := List.getElem?_eq_some_iff.1 hx
 rw [List.drop_eq_getElem_cons h1, h2, Zjk]
theorem Zso {l : List Zd} {q : List Pane} : Zjk q (l.drop l.length) := by simp [Zjk]
theorem Za6 {l : List Zd} {k : Nat} {x : Zd} (hx : l[k]? = some x) : (l.take (k + 1)).map Zd.Pane = (l.take k).map Zd.Pane ++ [x.Pane] := by
 rw [List.take_add_one, hx]; simp
theorem ZlU (a b : List Zd) : QD (a ++ b) = QD a + QD b := by
 induction a with
 | nil => simp [QD]
 | cons c l ih => simp only [List.cons_append, QD, ih]; omega
theorem Zk5 {l : List Zd} {i : Nat} {x : Zd} (hx : l[i]? = some x) : QD (l.take (i + 1)) = QD (l.take i) + x.Count := by
 rw [List.take_add_one, hx, ZlU]; simp [QD]
theorem Zni : ∀ {l : List Zd} {q : List Pane}, Zjk q l → ∀ x ∈ l, VP x.Pane ∧ 1 ≤ x.Count ∧ x.Count ≤ 24
 | [], _, _, x, hx => by simp at hx
 | y :: l, q, h, x, hx => by
  rcases List.mem_cons.1 hx with rfl | hx
  ·exact ⟨h.1, h.2.2.1, h.2.2.2.1⟩
  ·exact Zni h.2.2.2.2 x hx
theorem Znj : ∀ {l : List Zd}, (∀ x ∈ l, 1 ≤ x.Count) → 0 ≤ QD l
 | [], _ => by simp [QD]
 | x :: l, h => by
  have h1 := h x (by simp)
  have h2 := Znj (l := l) fun y hy => h y (by simp [hy])
  simp only [QD]; omega
theorem Zhm {l : List Zd} {i : Nat} (h : ∀ x ∈ l, 1 ≤ x.Count) : QD (l.take i) ≤ QD l := by
 have e : QD l = QD (l.take i) + QD (l.drop i) := by rw [← ZlU, List.take_append_drop]
 have := Znj (l := l.drop i) fun y hy => h y (List.mem_of_mem_drop hy)
 omega
theorem Zc6 : ∀ {l : List Zd}, (∀ x ∈ l, 1 ≤ x.Count ∧ x.Count ≤ 24) → 0 ≤ QD l ∧ QD l ≤ 24 * l.length
 | [], _ => by simp [QD]
 | x :: l, h => by
  have h1 := h x (by simp)
  have h2 := Zc6 (l := l) fun y hy => h y (by simp [hy])
  simp only [QD, List.length_cons]; omega
def VY : Nat → List Zd → Pane → Int
 | _, [], _ => -1
 | k, x :: l, p => if x.Pane = p then (k : Int) else VY (k + 1) l p
theorem ZtX {l : List Zd} {k : Nat} {x : Zd} {p : Pane} (hx : l[k]? = some x) : VY k (l.drop k) p = if x.Pane = p then (k : Int) else VY (k + 1) (l.drop (k + 1)) p := by
 obtain ⟨h1, h2⟩ := List.getElem?_eq_some_iff.1 hx
 rw [List.drop_eq_getElem_cons h1, h2, VY]
theorem Zsp : ∀ (l : List Zd) (k i : Nat) (x : Zd), l[i]? = some x → (VY k l x.Pane = ((k + i : Nat) : Int) ↔ x.Pane ∉ (l.take i).map Zd.Pane)
 | [], k, i, x, h => by simp at h
 | y :: l, k, 0, x, h => by
  simp only [List.getElem?_cons_zero, Option.some.injEq] at h
  subst h
  simp [VY]
 | y :: l, k, i + 1, x, h => by
  simp only [List.getElem?_cons_succ] at h
  have ih := Zsp l (k + 1) i x h
  simp only [VY, List.take_succ_cons, List.map_cons, List.mem_cons, not_or]
  split
  ·rename_i e
   constructor
   ·intro h; omega
   ·intro h; exact absurd e.symm h.1
  ·rename_i e
   rw [show k + 1 + i = k + (i + 1) by omega] at ih
   rw [ih]
   exact ⟨fun h => ⟨fun e' => e e'.symm, h⟩, fun h => h.2⟩
def Zae : List Zd → Int
 | [] => 0
 | x :: l => x.Count * x.Pane.W * x.Pane.H + Zae l
theorem Zsq (a b : List Zd) : Zae (a ++ b) = Zae a + Zae b := by
 induction a with
 | nil => simp [Zae]
 | cons c l ih => simp only [List.cons_append, Zae, ih]; omega
theorem Zp6 {l : List Zd} {i : Nat} {x : Zd} (hx : l[i]? = some x) : Zae (l.take (i + 1)) = Zae (l.take i) + x.Count * x.Pane.W * x.Pane.H := by
 rw [List.take_add_one, hx, Zsq]; simp [Zae]
theorem ZcT {x : Zd} (h : VP x.Pane ∧ 1 ≤ x.Count ∧ x.Count ≤ 24) : 0 ≤ x.Count * x.Pane.W ∧ x.Count * x.Pane.W ≤ 4800 ∧ 0 ≤ x.Count * x.Pane.W * x.Pane.H ∧ x.Count * x.Pane.W * x.Pane.H ≤ 960000 := by
 obtain ⟨h1, h2, h3⟩ := h
 simp only [VP] at h1
 have a1 : 0 ≤ x.Count * x.Pane.W := Int.mul_nonneg (by omega) (by omega)
 have a2 : x.Count * x.Pane.W ≤ 24 * 200 := Int.mul_le_mul (by omega) (by omega) (by omega) (by omega)
 have a3 : 0 ≤ x.Count * x.Pane.W * x.Pane.H := Int.mul_nonneg (by omega) (by omega)
 have a4 : x.Count * x.Pane.W * x.Pane.H ≤ 4800 * 200 := Int.mul_le_mul (by omega) (by omega) (by omega) (by omega)
 omega
theorem Zf5 : ∀ {l : List Zd}, (∀ x ∈ l, VP x.Pane ∧ 1 ≤ x.Count ∧ x.Count ≤ 24) → 0 ≤ Zae l ∧ Zae l ≤ 960000 * l.length
 | [], _ => by simp [Zae]
 | x :: l, h => by
  have h1 := ZcT (h x (by simp))
  have h2 := Zf5 (l := l) fun y hy => h y (by simp [hy])
  simp only [Zae, List.length_cons]; omega
theorem QS {l : List Zd} (h : ZaY l) : ∀ x ∈ l, VP x.Pane ∧ 1 ≤ x.Count ∧ x.Count ≤ 24 := Zni h.2.1
theorem Zf6 {l : List Zd} (h : ZaY l) : 0 ≤ Zae l ∧ Zae l ≤ 7680000 := by
 have h1 := Zf5 (QS h)
 have := h.1
 omega
structure ZS where
 kind : Int
 label : Int
 box : Box
 line : Zd
 plan : Zg
def ZS.enc (e : ZS) : D := .agg ([J e.kind, J e.label, J e.box.X, J e.box.Y, J e.box.W, J e.box.H, J e.line.Pane.W, J e.line.Pane.H, .bool e.line.Pane.Turns, J e.line.Pane.Kind, J e.line.Count] ++ e.plan.enc.cells)
@[go_sem] theorem ZS.enc_mk (k l x y w h pw ph pk c o a p : Int) (pt t : Bool) (ks : List Zg) : ZS.enc (ZS.mk k l (Box.mk x y w h) (Zd.mk (Pane.mk pw ph pt pk) c) (Zg.mk o a p t ks)) =
  .agg [J k, J l, J x, J y, J w, J h, J pw, J ph, .bool pt, J pk, J c, J o, J a, J p, .bool t, .sl (ks.map Zg.enc)] := by
 simp only [ZS.enc, Zg.enc_mk]; rfl
theorem ZS.enc_len (e : ZS) : (ZS.enc e).cells.length = 16 := by
 show (_ ++ e.plan.enc.cells).length = 16
 rw [List.length_append, Zg.enc_len]; rfl
@[go_sem] theorem uni_Event (l : List ZS) : uni 16 (l.map ZS.enc) = True := eq_true (ZcL l ZS.enc_len)
def ZN (s : Zp) : Prop := VSt s.Stock ∧ ZaY s.Opn ∧ ZaY s.Done ∧ 0 ≤ s.Lost ∧ s.Lost ≤ 900000 ∧ 0 ≤ s.Came ∧ s.Came ≤ 900000 ∧ YY s.Stock + Zae s.Done + s.Lost = s.Came
instance (s : Zp) : Decidable (ZN s) := by unfold ZN; infer_instance
def Qf (p : Zc) : List Zc → List Zc
 | [] => [p]
 | x :: l => if p.Label < x.Label then p :: x :: l else x :: Qf p l
theorem Znk {l : List Zc} {k : Nat} {x p : Zc} (hx : l[k]? = some x) : Qf p (l.drop k) = if p.Label < x.Label then p :: l.drop k else x :: Qf p (l.drop (k + 1)) := by
 obtain ⟨h1, h2⟩ := List.getElem?_eq_some_iff.1 hx
 rw [List.drop_eq_getElem_cons h1, h2, Qf]
theorem Zk6 (p : Zc) : ∀ (l : List Zc), (Qf p l).length = l.length + 1
 | [] => rfl
 | x :: l => by
  unfold Qf
  split
  ·simp
  ·simp [Zk6 p l]
theorem Zp7 (p : Zc) : ∀ (l : List Zc) (y : Zc), y ∈ Qf p l → y = p ∨ y ∈ l
 | [], y, h => by simpa [Qf] using h
 | x :: l, y, h => by
  unfold Qf at h
  split at h
  ·simpa using h
  ·rcases List.mem_cons.1 h with rfl | h
   ·exact .inr (by simp)
   ·rcases Zp7 p l y h with h | h
    ·exact .inl h
    ·exact .inr (by simp [h])
def Zhn (p : Pane) (c : Int) (x : Zd) : Option Zd :=
 if x.Pane = p then (if 0 < x.Count - c then some ⟨x.Pane, x.Count - c⟩ else none) else (if 0 < x.Count then some x else none)
def X6 (l : List Zd) (p : Pane) (c : Int) : List Zd := l.filterMap (Zhn p c)
def Xn (p : Pane) (c : Int) : Bool → List Zd → Bool
 | b, [] => b
 | b, x :: l => Xn p c (if x.Pane = p then decide (0 ≤ x.Count - c) else b) l
theorem Zsr {l : List Zd} {k : Nat} {x : Zd} {p : Pane} {c : Int} {b : Bool} (hx : l[k]? = some x) : Xn p c b (l.drop k) = Xn p c (if x.Pane = p then decide (0 ≤ x.Count - c) else b) (l.drop (k + 1)) := by
 obtain ⟨h1, h2⟩ := List.getElem?_eq_some_iff.1 hx
 rw [List.drop_eq_getElem_cons h1, h2, Xn]
theorem ZtY {l : List Zd} {p : Pane} {c : Int} {b : Bool} : Xn p c b (l.drop l.length) = b := by simp [Xn]
theorem ZtZ {l : List Zd} {i : Nat} {x : Zd} (p : Pane) (c : Int) (hx : l[i]? = some x) : X6 (l.take (i + 1)) p c = X6 (l.take i) p c ++ (Zhn p c x).toList := by
 unfold X6
 rw [List.take_add_one, hx, List.filterMap_append]
 simp only [Option.toList_some, List.filterMap_cons, List.filterMap_nil]
 cases Zhn p c x <;> rfl
def YB (p : Pane) (c : Int) : List Zd → List Zd
 | [] => [⟨p, c⟩]
 | x :: l => if x.Pane = p then ⟨x.Pane, x.Count + c⟩ :: l else x :: YB p c l
theorem Zc7 (p : Pane) (c : Int) : ∀ (l : List Zd), (YB p c l).length ≤ l.length + 1
 | [] => by simp [YB]
 | x :: l => by
  unfold YB
  split
  ·simp
  ·have := Zc7 p c l
   simp; omega
theorem Zq6 (p : Pane) (c : Int) : ∀ (l : List Zd) (i : Nat) (x : Zd), l[i]? = some x → x.Pane = p → p ∉ (l.take i).map Zd.Pane → YB p c l = l.set i ⟨x.Pane, x.Count + c⟩
 | [], i, x, h, _, _ => by simp at h
 | y :: l, 0, x, h, e, _ => by
  simp only [List.getElem?_cons_zero, Option.some.injEq] at h
  subst h
  simp [YB, e]
 | y :: l, i + 1, x, h, e, hn => by
  simp only [List.getElem?_cons_succ] at h
  simp only [List.take_succ_cons, List.map_cons, List.mem_cons, not_or] at hn
  have ih := Zq6 p c l i x h e hn.2
  simp only [YB, if_neg (fun e' : y.Pane = p => hn.1 e'.symm), List.set_cons_succ, ih]
theorem Zq7 (p : Pane) (c : Int) : ∀ (l : List Zd), p ∉ l.map Zd.Pane → YB p c l = l ++ [⟨p, c⟩]
 | [], _ => rfl
 | y :: l, hn => by
  simp only [List.map_cons, List.mem_cons, not_or] at hn
  simp only [YB, if_neg (fun e' : y.Pane = p => hn.1 e'.symm), Zq7 p c l hn.2, List.cons_append]
theorem Zmy (qW qH : Int) (qT : Bool) (qK qC : Int) (pW pH : Int) (pT : Bool) (pK : Int) : Zh Xs Ms YK [(.d (.agg [J qW, J qH, .bool qT, J qK, J qC])), .ptr 0 0] [.box [(.d (J pW)), (.d (J pH)), (.d (.bool pT)), (.d (J pK))]] = some ((.d (.bool (decide ((Pane.mk qW qH qT qK) = (Pane.mk pW pH pT pK))))), [.box [(.d (J pW)), (.d (J pH)), (.d (.bool pT)), (.d (J pK))]]) := by
 refine Ze Xs Ms Un ZnP (by show 2 ≤ _; decide) ?_
 simp +contextual -implicitDefEqProofs (maxSteps := 10^7) only [go_sem, seval, ↓gZ, Un]
 try exact ZdS (by simp only [Pane.mk.injEq, and_assoc])
theorem Zpi (l : List Zd) (pW pH : Int) (pT : Bool) (pK : Int) (hl : l.length < 4611686018427387904) : Zh Xs Ms QX [(.d (.sl (l.map Zd.enc))), .clo YK [.ptr 0 0]] [.box [(.d (J pW)), (.d (J pH)), (.d (.bool pT)), (.d (J pK))]] = some ((.d (J (VY 0 l (Pane.mk pW pH pT pK)))), [.box [(.d (J pW)), (.d (J pH)), (.d (.bool pT)), (.d (J pK))]]) := by
 refine Ze Xs Ms XO Zhb (by show 2 ≤ _; decide) ?_
 simp +contextual -implicitDefEqProofs (maxSteps := 10^7) only [go_sem, seval, ↓gZ, XO]
 refine ZE Xs Ms (st0 := ?st0) (α := Nat) (fun k => [(8, .d (J (k : Int)))]) (fun _ => []) (fun k => k ≤ l.length ∧ VY k (l.drop k) (Pane.mk pW pH pT pK) = VY 0 l (Pane.mk pW pH pT pK)) (fun k => l.length - k) 0 ?hc ⟨by omega, rfl⟩ ?h0 ?step
 case hc => simp +contextual -implicitDefEqProofs (maxSteps := 10^7) only [go_sem, seval, ↓gZ] <;> exact rfl
 case h0 => rfl
 case step =>
  intro k ⟨hk, hp⟩ ih
  by_cases hlt : k < l.length
  ·obtain ⟨x, hx⟩ := Zw hlt
   rw [ZtX hx] at hp
   have hw := Zm (k := k) (by omega)
   have e1 := Zmy x.Pane.W x.Pane.H x.Pane.Turns x.Pane.Kind x.Count pW pH pT pK
   obtain ⟨⟨W, H, T, K⟩, C⟩ := x
   simp only at hp e1
   by_cases h : (⟨W, H, T, K⟩ : Pane) = (Pane.mk pW pH pT pK)
   ·rw [if_pos h] at hp
    rw [decide_eq_true h] at e1
    simp +contextual -implicitDefEqProofs (maxSteps := 10^7) only [go_sem, seval, ↓gZ, hx, hlt, hw, e1]
    rw [← hp]
   ·rw [if_neg h] at hp
    rw [decide_eq_false h] at e1
    simp +contextual -implicitDefEqProofs (maxSteps := 10^7) only [go_sem, seval, ↓gZ, hx, hlt, hw, e1]
    refine ih (k + 1) _ ⟨by omega, hp⟩ (by omega) ?_
    simp +contextual -implicitDefEqProofs (maxSteps := 10^7) only [go_sem, seval, ↓gZ]
  ·have : k = l.length := by omega
   subst this
   simp +contextual -implicitDefEqProofs (maxSteps := 10^7) only [go_sem, seval, ↓gZ]
   rw [← hp]
   simp [VY]
theorem Zew (l : List Zd) (pW pH : Int) (pT : Bool) (pK : Int) (hl : l.length < 4611686018427387904) : Zh Xs Ms Y5 [(.d (.sl (l.map Zd.enc))), (.d (.agg [J pW, J pH, .bool pT, J pK]))] [] = some ((.d (J (VY 0 l (Pane.mk pW pH pT pK)))), []) := by
 refine Ze Xs Ms Zas Zrn (by show 2 ≤ _; decide) ?_
 simp +contextual -implicitDefEqProofs (maxSteps := 10^7) only [go_sem, seval, ↓gZ, Zas, Zpi l pW pH pT pK hl]
theorem ZbV (l : List Zd) : Zh Xs Ms X8 [(.d (.sl (l.map Zd.enc)))] [] = some ((.d (.bool (decide (ZaY l)))), []) := by
 by_cases h8 : (8 : Int) < (l.length : Int)
 ·have hn : ¬ ZaY l := fun h => by have := h.1; omega
  refine Ze Xs Ms YN ZhA (by show 1 ≤ _; decide) ?_
  simp +contextual -implicitDefEqProofs (maxSteps := 10^7) only [go_sem, seval, ↓gZ, YN, h8, hn]
 ·have hle : l.length ≤ 8 := by omega
  refine Ze Xs Ms YN ZhA (by show 1 ≤ _; decide) ?_
  simp +contextual -implicitDefEqProofs (maxSteps := 10^7) only [go_sem, seval, ↓gZ, YN, h8]
  refine ZE Xs Ms (st0 := ?st0) (α := Nat) (fun i => [(11, .d (J (i : Int))), (3, .d (J (24 - QD (l.take i))))]) (fun _ => []) (fun i => i ≤ l.length ∧ (Zjk [] l ↔ Zjk ((l.take i).map Zd.Pane) (l.drop i)) ∧ 0 ≤ QD (l.take i) ∧ QD (l.take i) ≤ 24) (fun i => l.length - i) 0 ?hc ⟨by simp, by simp, by simp [QD], by simp [QD]⟩ ?h0 ?step
  case hc => simp +contextual -implicitDefEqProofs (maxSteps := 10^7) only [go_sem, seval, ↓gZ] <;> exact rfl
  case h0 => rfl
  case step =>
   intro i ⟨hi, hp, hs0, hs1⟩ ih
   by_cases hlt : i < l.length
   ·obtain ⟨x, hx⟩ := Zw hlt
    have hw := Zm (k := i) (by omega)
    rw [Zp5 hx, ← Za6 hx] at hp
    have ev := Zc1 x.Pane.W x.Pane.H x.Pane.Turns x.Pane.Kind
    have ef := Zew l x.Pane.W x.Pane.H x.Pane.Turns x.Pane.Kind (by omega)
    have hfa := Zsp l 0 i x hx
    have hsm := Zk5 hx
    obtain ⟨⟨W, H, T, K⟩, C⟩ := x
    simp only [Nat.zero_add] at hp ev ef hfa hsm
    by_cases hv : VP ⟨W, H, T, K⟩
    ·rw [decide_eq_true hv] at ev
     by_cases hf : VY 0 l ⟨W, H, T, K⟩ = (i : Int)
     ·rw [hf] at ef
      by_cases hC1 : C < 1
      ·have hn : ¬ ZaY l := fun h => by have := (hp.1 h.2.1).2.2.1; omega
       simp +contextual -implicitDefEqProofs (maxSteps := 10^7) only [go_sem, seval, ↓gZ, hx, hlt, hw, ev, ef, hC1, hn]
      ·by_cases hC2 : 24 - QD (l.take i) < C
       ·have hn : ¬ ZaY l := fun h => by
         have := Zhm (l := l) (i := i + 1) (fun x hx => (Zni h.2.1 x hx).2.1)
         have := h.2.2
         omega
        simp +contextual -implicitDefEqProofs (maxSteps := 10^7) only [go_sem, seval, ↓gZ, hx, hlt, hw, ev, ef, hC1, hC2, hn]
       ·have hw2 := wi (24 - QD (l.take i) - C) (by omega) (by omega)
        simp +contextual -implicitDefEqProofs (maxSteps := 10^7) only [go_sem, seval, ↓gZ, hx, hlt, hw, ev, ef, hC1, hC2, hw2]
        refine ih (i + 1) _ ⟨by omega, ?_, by omega, by omega⟩ (by omega) ?_
        ·rw [hp]; exact ⟨fun h => h.2.2.2.2, fun h => ⟨hv, hfa.1 hf, by omega, by omega, h⟩⟩
        ·simp +contextual -implicitDefEqProofs (maxSteps := 10^7) only [go_sem, seval, ↓gZ, hsm]
         try (simp; omega)
     ·have hn : ¬ ZaY l := fun h => hf (hfa.2 (hp.1 h.2.1).2.1)
      simp +contextual -implicitDefEqProofs (maxSteps := 10^7) only [go_sem, seval, ↓gZ, hx, hlt, hw, ev, ef, hf, hn]
    ·rw [decide_eq_false hv] at ev
     have hn : ¬ ZaY l := fun h => hv (hp.1 h.2.1).1
     simp +contextual -implicitDefEqProofs (maxSteps := 10^7) only [go_sem, seval, ↓gZ, hx, hlt, hw, ev, hn]
   ·have : i = l.length := by omega
    subst this
    rw [List.take_of_length_le (Nat.le_refl _)] at hs1
    have hy : ZaY l := ⟨hle, hp.2 Zso, hs1⟩
    simp +contextual -implicitDefEqProofs (maxSteps := 10^7) only [go_sem, seval, ↓gZ, hy]
theorem Zho (l : List Zd) (hv : ZaY l) : Zh Xs Ms Vm [(.d (.sl (l.map Zd.enc)))] [] = some ((.d (J (Zae l))), []) := by
 have ev := ZbV l
 rw [decide_eq_true hv] at ev
 have h8 := hv.1
 have hval := QS hv
 clear hv
 refine Ze Xs Ms Jf Zpw (by show 1 ≤ _; decide) ?_
 simp +contextual -implicitDefEqProofs (maxSteps := 10^7) only [go_sem, seval, ↓gZ, Jf, ev]
 refine ZE Xs Ms (st0 := ?st0) (α := Nat) (fun i => [(11, .d (J (i : Int))), (3, .d (J (Zae (l.take i))))]) (fun _ => []) (fun i => i ≤ l.length) (fun i => l.length - i) 0 ?hc (by omega) ?h0 ?step
 case hc => simp +contextual -implicitDefEqProofs (maxSteps := 10^7) only [go_sem, seval, ↓gZ] <;> exact rfl
 case h0 => rfl
 case step =>
  intro i hi ih
  by_cases hlt : i < l.length
  ·obtain ⟨x, hx⟩ := Zw hlt
   have hw := Zm (k := i) (by omega)
   have hm := Zp6 hx
   have hst := Zf5 (l := l.take i) (fun y hy => hval y (List.mem_of_mem_take hy))
   have hlk : (l.take i).length ≤ i := by simp; omega
   have g5 := ZcT (hval x (List.mem_of_getElem? hx))
   obtain ⟨⟨W, H, T, K⟩, C⟩ := x
   simp only at g5 hm
   have u0 := wi (C * W) (by omega) (by omega)
   have u1 := wi (C * W * H) (by omega) (by omega)
   have u2 := wi (Zae (l.take i) + C * W * H) (by omega) (by omega)
   simp +contextual -implicitDefEqProofs (maxSteps := 10^7) only [go_sem, seval, ↓gZ, hx, hlt, hw, u0, u1, u2]
   refine ih (i + 1) _ (by omega) (by omega) ?_
   simp +contextual -implicitDefEqProofs (maxSteps := 10^7) only [go_sem, seval, ↓gZ, hm]
  ·have : i = l.length := by omega
   subst this
   simp +contextual -implicitDefEqProofs (maxSteps := 10^7) only [go_sem, seval, ↓gZ]
   simp
theorem Zg2 (l : List Zd) (hl : l.length ≤ 1000000) : Zh Xs Ms YH [(.d (.sl (l.map Zd.enc)))] [] = some ((.d (.bool (decide (ZaY l)))), []) := by
 refine Ze Xs Ms Ui ZnI (by show 1 ≤ _; decide) ?_
 simp +contextual -implicitDefEqProofs (maxSteps := 10^7) only [go_sem, seval, ↓gZ, Ui]
 refine ZE Xs Ms (st0 := ?st0) (α := Nat) (fun i => [(4, .d (J (i : Int))), (3, .d (J (QD (l.take i))))]) (fun _ => []) (fun i => i ≤ l.length ∧ (Zjk [] l ↔ Zjk ((l.take i).map Zd.Pane) (l.drop i)) ∧ 0 ≤ QD (l.take i) ∧ QD (l.take i) ≤ 24 * i) (fun i => l.length - i) 0 ?hc ⟨by simp, by simp, by simp [QD], by simp [QD]⟩ ?h0 ?step
 case hc => simp +contextual -implicitDefEqProofs (maxSteps := 10^7) only [go_sem, seval, ↓gZ] <;> exact rfl
 case h0 => rfl
 case step =>
  intro i ⟨hi, hp, hs0, hs1⟩ ih
  by_cases hlt : i < l.length
  ·obtain ⟨x, hx⟩ := Zw hlt
   have hw := Zm (k := i) (by omega)
   rw [Zp5 hx, ← Za6 hx] at hp
   have ev := VA x.Pane.W x.Pane.H x.Pane.Turns x.Pane.Kind
   have hsm := Zk5 hx
   obtain ⟨⟨W, H, T, K⟩, C⟩ := x
   simp only at hp ev hsm
   by_cases hv : VP ⟨W, H, T, K⟩
   ·rw [decide_eq_true hv] at ev
    by_cases hC : 1 ≤ C ∧ C ≤ 24
    ·have er := ZP C 1 24
     rw [decide_eq_true hC] at er
     simp +contextual -implicitDefEqProofs (maxSteps := 10^7) only [go_sem, seval, ↓gZ, hx, hlt, hw, ev, er]
     refine ZE Xs Ms (st0 := ?st1) (α := Nat) (fun k => [(5, .d (J (k : Int)))]) (fun _ => []) (fun k => k ≤ i ∧ (⟨W, H, T, K⟩ : Pane) ∉ (l.take k).map Zd.Pane) (fun k => i - k) 0 ?hc2 ⟨by omega, by simp⟩ ?h02 ?step2
     case hc2 => simp +contextual -implicitDefEqProofs (maxSteps := 10^7) only [go_sem, seval, ↓gZ] <;> exact rfl
     case h02 => rfl
     case step2 =>
      intro k ⟨hk, hq⟩ ih2
      by_cases hki : k < i
      ·obtain ⟨y, hy⟩ := Zw (l := l) (k := k) (by omega)
       have hkl : k < l.length := by omega
       have hw2 := Zm (k := k) (by omega)
       have hpt := Za6 hy
       obtain ⟨⟨W', H', T', K'⟩, C'⟩ := y
       simp only at hpt
       by_cases he : (⟨W', H', T', K'⟩ : Pane) = ⟨W, H, T, K⟩
       ·have hmem : (⟨W, H, T, K⟩ : Pane) ∈ (l.take i).map Zd.Pane := by
         rw [← he]
         have h3 : (l.take i)[k]? = some ⟨⟨W', H', T', K'⟩, C'⟩ := by rw [List.getElem?_take_of_lt hki]; exact hy
         exact List.mem_map.2 ⟨_, List.mem_of_getElem? h3, rfl⟩
        have hn : ¬ ZaY l := fun h => (hp.1 h.2.1).2.1 hmem
        simp only [Pane.mk.injEq] at he
        simp +contextual -implicitDefEqProofs (maxSteps := 10^7) only [go_sem, seval, ↓gZ, hx, hlt, hw, hy, hki, hkl, hw2, he, hn]
       ·have he' := he
        simp only [Pane.mk.injEq] at he
        simp +contextual -implicitDefEqProofs (maxSteps := 10^7) only [go_sem, seval, ↓gZ, hx, hlt, hw, hy, hki, hkl, hw2, he]
        refine ih2 (k + 1) _ ⟨by omega, ?_⟩ (by omega) ?_
        ·rw [hpt, List.mem_append]
         intro h
         rcases h with h | h
         ·exact hq h
         ·exact he' (List.mem_singleton.1 h).symm
        ·simp +contextual -implicitDefEqProofs (maxSteps := 10^7) only [go_sem, seval, ↓gZ]
      ·have : k = i := by omega
       subst this
       have hw3 := wi (QD (l.take k) + C) (by omega) (by omega)
       simp +contextual -implicitDefEqProofs (maxSteps := 10^7) only [go_sem, seval, ↓gZ, hx, hlt, hw, hki, hw3]
       refine ih (k + 1) _ ⟨by omega, ?_, by omega, by omega⟩ (by omega) ?_
       ·rw [hp]; exact ⟨fun h => h.2.2.2.2, fun h => ⟨hv, hq, hC.1, hC.2, h⟩⟩
       ·simp +contextual -implicitDefEqProofs (maxSteps := 10^7) only [go_sem, seval, ↓gZ, hsm]
    ·have er := ZP C 1 24
     rw [decide_eq_false hC] at er
     have hn : ¬ ZaY l := fun h => hC ⟨(hp.1 h.2.1).2.2.1, (hp.1 h.2.1).2.2.2.1⟩
     simp +contextual -implicitDefEqProofs (maxSteps := 10^7) only [go_sem, seval, ↓gZ, hx, hlt, hw, ev, er, hn]
   ·rw [decide_eq_false hv] at ev
    have hn : ¬ ZaY l := fun h => hv (hp.1 h.2.1).1
    simp +contextual -implicitDefEqProofs (maxSteps := 10^7) only [go_sem, seval, ↓gZ, hx, hlt, hw, ev, hn]
  ·have : i = l.length := by omega
   subst this
   have hs := hp.2 Zso
   rw [List.take_of_length_le (Nat.le_refl _)]
   simp +contextual -implicitDefEqProofs (maxSteps := 10^7) only [go_sem, seval, ↓gZ]
   exact ZdS (by simp only [ZaY]; constructor <;> (intro h; first | exact ⟨by omega, hs, by omega⟩ | (have := h.1; have := h.2.2; omega)))
theorem Znl {l : List Zc} (hv : VSt l) : ∀ x ∈ l, 1 ≤ x.W ∧ x.W ≤ 200 ∧ 1 ≤ x.H ∧ x.H ≤ 200 := fun x hx => by
 have := (Qe hv.2 x hx).1; omega
theorem Zhp {l : List Zc} (hv : VSt l) : 0 ≤ YY l ∧ YY l ≤ 800000 := by
 have h1 := Zac (Znl hv)
 have := hv.1
 omega
theorem Znm (l : List Zc) (hv : VSt l) : Zh Xs Ms WI [(.d (.sl (l.map Zc.enc)))] [] = some ((.d (J (YY l))), []) := by
 have h20 := hv.1
 have hval := Znl hv
 clear hv
 refine Ze Xs Ms Jo ZpJ (by show 1 ≤ _; decide) ?_
 simp +contextual -implicitDefEqProofs (maxSteps := 10^7) only [go_sem, seval, ↓gZ, Jo]
 refine ZE Xs Ms (st0 := ?st0) (α := Nat) (fun i => [(4, .d (J (i : Int))), (3, .d (J (YY (l.take i))))]) (fun _ => []) (fun i => i ≤ l.length) (fun i => l.length - i) 0 ?hc (by omega) ?h0 ?step
 case hc => simp +contextual -implicitDefEqProofs (maxSteps := 10^7) only [go_sem, seval, ↓gZ] <;> exact rfl
 case h0 => rfl
 case step =>
  intro i hi ih
  by_cases hlt : i < l.length
  ·obtain ⟨x, hx⟩ := Zw hlt
   have hw := Zm (k := i) (by omega)
   have hm := Znc hx
   have hst := Zac (l := l.take i) (fun y hy => hval y (List.mem_of_mem_take hy))
   have hlk : (l.take i).length ≤ i := by simp; omega
   have g5 := hval x (List.mem_of_getElem? hx)
   have hxx : x.W * x.H ≤ 200 * 200 := Int.mul_le_mul (by omega) (by omega) (by omega) (by omega)
   have hx0 : 0 ≤ x.W * x.H := Int.mul_nonneg (by omega) (by omega)
   obtain ⟨xL, xW, xH, xF⟩ := x
   simp only at g5 hm hxx hx0
   have u0 := wi (xW * xH) (by omega) (by omega)
   have u1 := wi (YY (l.take i) + xW * xH) (by omega) (by omega)
   simp +contextual -implicitDefEqProofs (maxSteps := 10^7) only [go_sem, seval, ↓gZ, hx, hlt, hw, u0, u1]
   refine ih (i + 1) _ (by omega) (by omega) ?_
   simp +contextual -implicitDefEqProofs (maxSteps := 10^7) only [go_sem, seval, ↓gZ, hm]
  ·have : i = l.length := by omega
   subst this
   simp +contextual -implicitDefEqProofs (maxSteps := 10^7) only [go_sem, seval, ↓gZ]
   simp
theorem Znn (l : List Zd) (hv : ZaY l) : Zh Xs Ms WJ [(.d (.sl (l.map Zd.enc)))] [] = some ((.d (J (Zae l))), []) := by
 have h8 := hv.1
 have hval := QS hv
 clear hv
 refine Ze Xs Ms Jp ZpK (by show 1 ≤ _; decide) ?_
 simp +contextual -implicitDefEqProofs (maxSteps := 10^7) only [go_sem, seval, ↓gZ, Jp]
 refine ZE Xs Ms (st0 := ?st0) (α := Nat) (fun i => [(4, .d (J (i : Int))), (3, .d (J (Zae (l.take i))))]) (fun _ => []) (fun i => i ≤ l.length) (fun i => l.length - i) 0 ?hc (by omega) ?h0 ?step
 case hc => simp +contextual -implicitDefEqProofs (maxSteps := 10^7) only [go_sem, seval, ↓gZ] <;> exact rfl
 case h0 => rfl
 case step =>
  intro i hi ih
  by_cases hlt : i < l.length
  ·obtain ⟨x, hx⟩ := Zw hlt
   have hw := Zm (k := i) (by omega)
   have hm := Zp6 hx
   have hst := Zf5 (l := l.take i) (fun y hy => hval y (List.mem_of_mem_take hy))
   have hlk : (l.take i).length ≤ i := by simp; omega
   have g5 := ZcT (hval x (List.mem_of_getElem? hx))
   obtain ⟨⟨W, H, T, K⟩, C⟩ := x
   simp only at g5 hm
   have u0 := wi (C * W) (by omega) (by omega)
   have u1 := wi (C * W * H) (by omega) (by omega)
   have u2 := wi (Zae (l.take i) + C * W * H) (by omega) (by omega)
   simp +contextual -implicitDefEqProofs (maxSteps := 10^7) only [go_sem, seval, ↓gZ, hx, hlt, hw, u0, u1, u2]
   refine ih (i + 1) _ (by omega) (by omega) ?_
   simp +contextual -implicitDefEqProofs (maxSteps := 10^7) only [go_sem, seval, ↓gZ, hm]
  ·have : i = l.length := by omega
   subst this
   simp +contextual -implicitDefEqProofs (maxSteps := 10^7) only [go_sem, seval, ↓gZ]
   simp
theorem Zpj (sS : List Zc) (sO sD : List Zd) (sL sC : Int) (h1 : VSt sS) (h2 : ZaY sD) (h3 : 0 ≤ sL ∧ sL ≤ 100000000) : Zh Xs Ms UF [(.d (.agg [.sl (sS.map Zc.enc), .sl (sO.map Zd.enc), .sl (sD.map Zd.enc), J sL, J sC]))] [] = some ((.d (J (YY sS + Zae sD + sL))), []) := by
 have e1 := Znm sS h1
 have e2 := Znn sD h2
 have b1 := Zhp h1
 have b2 := Zf6 h2
 have u0 := wi (YY sS + Zae sD) (by omega) (by omega)
 have u1 := wi (YY sS + Zae sD + sL) (by omega) (by omega)
 refine Ze Xs Ms Zar Zrm (by show 1 ≤ _; decide) ?_
 simp +contextual -implicitDefEqProofs (maxSteps := 10^7) only [go_sem, seval, ↓gZ, Zar, e1, e2, u0, u1]
def JO (s : Zp) : Prop := s.Stock.length ≤ 1000000 ∧ (∀ x ∈ s.Stock, x.Flaws.length ≤ 1000000 ∧ R64 x.W ∧ R64 x.H) ∧ s.Opn.length ≤ 1000000 ∧ s.Done.length ≤ 1000000
theorem Zj4 {x : Zc} (h : VPc x) : R64 x.W ∧ R64 x.H := by
 have := h.1
 unfold R64
 omega
theorem YZ {s : Zp} (h : ZN s) : JO s :=
 ⟨by have := h.1.1; omega, fun x hx => ⟨(ZcS h.1).2 x hx, Zj4 (Qe h.1.2 x hx)⟩, by have := h.2.1.1; omega, by have := h.2.2.1.1; omega⟩
theorem YC (sS : List Zc) (sO sD : List Zd) (sL sC : Int) (hs : JO (Zp.mk sS sO sD sL sC)) : Zh Xs Ms Vo [(.d (.agg [.sl (sS.map Zc.enc), .sl (sO.map Zd.enc), .sl (sD.map Zd.enc), J sL, J sC]))] [] = some ((.d (.bool (decide (ZN (Zp.mk sS sO sD sL sC))))), []) := by
 obtain ⟨h1, h2, h3, h4⟩ := hs
 simp only at h1 h2 h3 h4
 have e1 := YX sS (by omega) (fun x hx => ⟨by have := (h2 x hx).1; omega, (h2 x hx).2⟩)
 have e2 := Zg2 sO h3
 have e3 := Zg2 sD h4
 have e4 := ZP sL 0 900000
 have e5 := ZP sC 0 900000
 refine Ze Xs Ms Xj Zpz (by show 1 ≤ _; decide) ?_
 by_cases v1 : VSt sS
 ·rw [decide_eq_true v1] at e1
  by_cases v2 : ZaY sO
  ·rw [decide_eq_true v2] at e2
   by_cases v3 : ZaY sD
   ·rw [decide_eq_true v3] at e3
    by_cases v4 : 0 ≤ sL ∧ sL ≤ 900000
    ·rw [decide_eq_true v4] at e4
     by_cases v5 : 0 ≤ sC ∧ sC ≤ 900000
     ·rw [decide_eq_true v5] at e5
      have e6 := Zpj sS sO sD sL sC v1 v3 (by omega)
      simp +contextual -implicitDefEqProofs (maxSteps := 10^7) only [go_sem, seval, ↓gZ, Xj, e1, e2, e3, e4, e5, e6]
      exact ZdS ⟨fun h => ⟨v1, v2, v3, v4.1, v4.2, v5.1, v5.2, h⟩, fun h => h.2.2.2.2.2.2.2⟩
     ·rw [decide_eq_false v5] at e5
      have hn : ¬ ZN (Zp.mk sS sO sD sL sC) := fun h => v5 ⟨h.2.2.2.2.2.1, h.2.2.2.2.2.2.1⟩
      simp +contextual -implicitDefEqProofs (maxSteps := 10^7) only [go_sem, seval, ↓gZ, Xj, e1, e2, e3, e4, e5, hn]
    ·rw [decide_eq_false v4] at e4
     have hn : ¬ ZN (Zp.mk sS sO sD sL sC) := fun h => v4 ⟨h.2.2.2.1, h.2.2.2.2.1⟩
     simp +contextual -implicitDefEqProofs (maxSteps := 10^7) only [go_sem, seval, ↓gZ, Xj, e1, e2, e3, e4, hn]
   ·rw [decide_eq_false v3] at e3
    have hn : ¬ ZN (Zp.mk sS sO sD sL sC) := fun h => v3 h.2.2.1
    simp +contextual -implicitDefEqProofs (maxSteps := 10^7) only [go_sem, seval, ↓gZ, Xj, e1, e2, e3, hn]
  ·rw [decide_eq_false v2] at e2
   have hn : ¬ ZN (Zp.mk sS sO sD sL sC) := fun h => v2 h.2.1
   simp +contextual -implicitDefEqProofs (maxSteps := 10^7) only [go_sem, seval, ↓gZ, Xj, e1, e2, hn]
 ·rw [decide_eq_false v1] at e1
  have hn : ¬ ZN (Zp.mk sS sO sD sL sC) := fun h => v1 h.1
  simp +contextual -implicitDefEqProofs (maxSteps := 10^7) only [go_sem, seval, ↓gZ, Xj, e1, hn]
theorem Z5 (sS : List Zc) (sO sD : List Zd) (sL sC : Int) : Zh Xs Ms Xf [(.d (.agg [.sl (sS.map Zc.enc), .sl (sO.map Zd.enc), .sl (sD.map Zd.enc), J sL, J sC]))] [] = some ((.d (.bool (decide (ZN (Zp.mk sS sO sD sL sC))))), []) := by
 have e1 := Wr sS
 have e2 := ZbV sO
 have e3 := ZbV sD
 refine Ze Xs Ms X1 Zpu (by show 1 ≤ _; decide) ?_
 by_cases v1 : VSt sS
 ·rw [decide_eq_true v1] at e1
  by_cases v2 : ZaY sO
  ·rw [decide_eq_true v2] at e2
   by_cases v3 : ZaY sD
   ·rw [decide_eq_true v3] at e3
    by_cases v4 : ((sL < 0 ∨ 900000 < sL) ∨ sC < 0) ∨ 900000 < sC
    ·have hn : ¬ ZN (Zp.mk sS sO sD sL sC) := fun h => by
      obtain ⟨_, _, _, h1, h2, h3, h4, _⟩ := h
      simp only at h1 h2 h3 h4
      omega
     simp +contextual -implicitDefEqProofs (maxSteps := 10^7) only [go_sem, seval, ↓gZ, X1, e1, e2, e3, v4, hn, ← Bool.decide_or]
    ·have e4 := Zhl sS v1
     have e5 := Zho sD v3
     have b1 := Zhp v1
     have b2 := Zf6 v3
     have u0 := wi (YY sS + Zae sD) (by omega) (by omega)
     have u1 := wi (YY sS + Zae sD + sL) (by omega) (by omega)
     simp +contextual -implicitDefEqProofs (maxSteps := 10^7) only [go_sem, seval, ↓gZ, X1, e1, e2, e3, v4, e4, e5, u0, u1, ← Bool.decide_or]
     exact ZdS ⟨fun h => ⟨v1, v2, v3, by simp only; omega, by simp only; omega, by simp only; omega, by simp only; omega, h⟩, fun h => h.2.2.2.2.2.2.2⟩
   ·rw [decide_eq_false v3] at e3
    have hn : ¬ ZN (Zp.mk sS sO sD sL sC) := fun h => v3 h.2.2.1
    simp +contextual -implicitDefEqProofs (maxSteps := 10^7) only [go_sem, seval, ↓gZ, X1, e1, e2, e3, hn]
  ·rw [decide_eq_false v2] at e2
   have hn : ¬ ZN (Zp.mk sS sO sD sL sC) := fun h => v2 h.2.1
   simp +contextual -implicitDefEqProofs (maxSteps := 10^7) only [go_sem, seval, ↓gZ, X1, e1, e2, hn]
 ·rw [decide_eq_false v1] at e1
  have hn : ¬ ZN (Zp.mk sS sO sD sL sC) := fun h => v1 h.1
  simp +contextual -implicitDefEqProofs (maxSteps := 10^7) only [go_sem, seval, ↓gZ, X1, e1, hn]
def shA (s : Zp) : Int := if ZN s then s.Came else -1
theorem Zi1 (sS : List Zc) (sO sD : List Zd) (sL sC : Int) : Zh Xs Ms V9 [(.d (.agg [.sl (sS.map Zc.enc), .sl (sO.map Zd.enc), .sl (sD.map Zd.enc), J sL, J sC]))] [] = some ((.d (J (shA (Zp.mk sS sO sD sL sC)))), []) := by
 have e1 := Z5 sS sO sD sL sC
 unfold shA
 by_cases v : ZN (Zp.mk sS sO sD sL sC)
 ·rw [decide_eq_true v] at e1
  rw [if_pos v]
  obtain ⟨v1, v2, v3, h1, h2, h3, h4, h5⟩ := v
  simp only at v1 v2 v3 h1 h2 h3 h4 h5
  have e4 := Zhl sS v1
  have e5 := Zho sD v3
  have b1 := Zhp v1
  have b2 := Zf6 v3
  have u0 := wi (YY sS + Zae sD) (by omega) (by omega)
  have u1 := wi sC (by omega) (by omega)
  refine Ze Xs Ms Wj Zkf (by show 1 ≤ _; decide) ?_
  simp +contextual -implicitDefEqProofs (maxSteps := 10^7) only [go_sem, seval, ↓gZ, Wj, e1, e4, e5, u0, u1, h5]
 ·rw [decide_eq_false v] at e1
  rw [if_neg v]
  refine Ze Xs Ms Wj Zkf (by show 1 ≤ _; decide) ?_
  simp +contextual -implicitDefEqProofs (maxSteps := 10^7) only [go_sem, seval, ↓gZ, Wj, e1]
theorem Zhq (l : List Zd) (pW pH : Int) (pT : Bool) (pK : Int) (c : Int) (hl : l.length ≤ 1000000) (hc : ∀ x ∈ l, R64 (x.Count - c)) : Zh Xs Ms Vp [(.d (.sl (l.map Zd.enc))), (.d (.agg [J pW, J pH, .bool pT, J pK])), (.d (J c))] [] =
  some (.tup [.own 0, (.d (.bool (Xn (Pane.mk pW pH pT pK) c false l)))], [.row 5 ((X6 l (Pane.mk pW pH pT pK) c).map Zd.enc) true false]) := by
 refine Ze Xs Ms Jr ZpM (by show 3 ≤ _; decide) ?_
 simp +contextual -implicitDefEqProofs (maxSteps := 10^7) only [go_sem, seval, ↓gZ, Jr]
 refine ZE Xs Ms (st0 := ?st0) (α := Nat × Bool) (fun s => [(10, .d (J (s.1 : Int))), (9, .d (.bool s.2))]) (fun s => [(0, .row 5 ((X6 (l.take s.1) (Pane.mk pW pH pT pK) c).map Zd.enc) true false)]) (fun s => s.1 ≤ l.length ∧ Xn (Pane.mk pW pH pT pK) c s.2 (l.drop s.1) = Xn (Pane.mk pW pH pT pK) c false l) (fun s => l.length - s.1) (0, false) ?hc ⟨by simp, by simp⟩ ?h0 ?step
 case hc => simp +contextual -implicitDefEqProofs (maxSteps := 10^7) only [go_sem, seval, ↓gZ] <;> exact rfl
 case h0 => rfl
 case step =>
  intro ⟨i, b⟩ ⟨hi, hp⟩ ih
  simp only at hi hp
  by_cases hlt : i < l.length
  ·obtain ⟨x, hx⟩ := Zw hlt
   have hw := Zm (k := i) (by omega)
   have hm := ZtZ (Pane.mk pW pH pT pK) c hx
   have hlk : (X6 (l.take i) (Pane.mk pW pH pT pK) c).length ≤ i := Nat.le_trans (List.length_filterMap_le _ _) (by simp; omega)
   have hr : ((X6 (l.take i) (Pane.mk pW pH pT pK) c).length + 1) * 40 ≤ 140737488355328 ∧ (X6 (l.take i) (Pane.mk pW pH pT pK) c).length ≤ 140737488355327 := by omega
   have hcx := hc x (List.mem_of_getElem? hx)
   rw [Zsr hx] at hp
   obtain ⟨⟨W, H, T, K⟩, C⟩ := x
   simp only [Zhn] at hm hp hcx
   have u0 := wi (C - c) hcx.1 hcx.2
   by_cases he : (⟨W, H, T, K⟩ : Pane) = (Pane.mk pW pH pT pK)
   ·rw [if_pos he] at hm hp
    have he' := he
    simp only [Pane.mk.injEq] at he
    by_cases h0 : 0 < C - c
    ·have h1 : 0 ≤ C - c := by omega
     rw [if_pos h0] at hm
     rw [decide_eq_true h1] at hp
     simp +contextual -implicitDefEqProofs (maxSteps := 10^7) only [go_sem, seval, ↓gZ, hx, hlt, hw, he, u0, h0, h1, hr]
     refine ih (i + 1, true) _ ⟨by simp only; omega, hp⟩ (by simp only; omega) ?_
     simp +contextual -implicitDefEqProofs (maxSteps := 10^7) only [go_sem, seval, ↓gZ, hm, Option.toList_some]
     try (simp [Zd.enc, he]; done)
    ·rw [if_neg h0] at hm
     by_cases h1 : 0 ≤ C - c
     ·rw [decide_eq_true h1] at hp
      simp +contextual -implicitDefEqProofs (maxSteps := 10^7) only [go_sem, seval, ↓gZ, hx, hlt, hw, he, u0, h0, h1, hr]
      refine ih (i + 1, true) _ ⟨by simp only; omega, hp⟩ (by simp only; omega) ?_
      simp +contextual -implicitDefEqProofs (maxSteps := 10^7) only [go_sem, seval, ↓gZ, hm, Option.toList_none, List.append_nil]
     ·rw [decide_eq_false h1] at hp
      simp +contextual -implicitDefEqProofs (maxSteps := 10^7) only [go_sem, seval, ↓gZ, hx, hlt, hw, he, u0, h0, h1, hr]
      refine ih (i + 1, false) _ ⟨by simp only; omega, hp⟩ (by simp only; omega) ?_
      simp +contextual -implicitDefEqProofs (maxSteps := 10^7) only [go_sem, seval, ↓gZ, hm, Option.toList_none, List.append_nil]
   ·rw [if_neg he] at hm hp
    simp only [Pane.mk.injEq] at he
    by_cases h0 : 0 < C
    ·rw [if_pos h0] at hm
     simp +contextual -implicitDefEqProofs (maxSteps := 10^7) only [go_sem, seval, ↓gZ, hx, hlt, hw, he, h0, hr]
     refine ih (i + 1, b) _ ⟨by simp only; omega, hp⟩ (by simp only; omega) ?_
     simp +contextual -implicitDefEqProofs (maxSteps := 10^7) only [go_sem, seval, ↓gZ, hm, Option.toList_some]
     try (simp [Zd.enc]; done)
    ·rw [if_neg h0] at hm
     simp +contextual -implicitDefEqProofs (maxSteps := 10^7) only [go_sem, seval, ↓gZ, hx, hlt, hw, he, h0, hr]
     refine ih (i + 1, b) _ ⟨by simp only; omega, hp⟩ (by simp only; omega) ?_
     simp +contextual -implicitDefEqProofs (maxSteps := 10^7) only [go_sem, seval, ↓gZ, hm, Option.toList_none, List.append_nil]
  ·have : i = l.length := by omega
   subst this
   rw [ZtY] at hp
   simp +contextual -implicitDefEqProofs (maxSteps := 10^7) only [go_sem, seval, ↓gZ, hp]
   simp
theorem ZwT (l : List Zd) (i : Nat) (W H : Int) (T : Bool) (K C : Int) : (l.map Zd.enc).set i (.agg [J W, J H, .bool T, J K, J C]) = (l.set i ⟨⟨W, H, T, K⟩, C⟩).map Zd.enc := (List.map_set (f := Zd.enc) (l := l) (i := i) (a := ⟨⟨W, H, T, K⟩, C⟩)).symm
theorem Zex (l : List Zd) (pW pH : Int) (pT : Bool) (pK : Int) (c : Int) (hl : l.length ≤ 1000000) (hc : ∀ x ∈ l, R64 (x.Count + c)) : Zh Xs Ms Wf [(.d (.sl (l.map Zd.enc))), (.d (.agg [J pW, J pH, .bool pT, J pK])), (.d (J c))] [] =
  some (.own 0, [.row 5 ((YB (Pane.mk pW pH pT pK) c l).map Zd.enc) true false]) := by
 have hr0 : l.length * 40 ≤ 140737488355328 ∧ l.length ≤ 140737488355328 := by omega
 have hr1 : (l.length + 1) * 40 ≤ 140737488355328 ∧ l.length ≤ 140737488355327 := by omega
 refine Ze Xs Ms Zaw Zrs (by show 3 ≤ _; decide) ?_
 simp +contextual -implicitDefEqProofs (maxSteps := 10^7) only [go_sem, seval, ↓gZ, Zaw, hr0]
 refine ZE Xs Ms (st0 := ?st0) (α := Nat) (fun k => [(8, .d (J (k : Int)))]) (fun _ => []) (fun k => k ≤ l.length ∧ (Pane.mk pW pH pT pK) ∉ (l.take k).map Zd.Pane) (fun k => l.length - k) 0 ?hc ⟨by simp, by simp⟩ ?h0 ?step
 case hc => simp +contextual -implicitDefEqProofs (maxSteps := 10^7) only [go_sem, seval, ↓gZ] <;> exact rfl
 case h0 => rfl
 case step =>
  intro k ⟨hk, hp⟩ ih
  by_cases hlt : k < l.length
  ·obtain ⟨x, hx⟩ := Zw hlt
   have hw := Zm (k := k) (by omega)
   have hcx := hc x (List.mem_of_getElem? hx)
   have hpt := Za6 hx
   have hat := Zq6 (Pane.mk pW pH pT pK) c l k x hx
   obtain ⟨⟨W, H, T, K⟩, C⟩ := x
   simp only at hcx hpt hat
   have u0 := wi (C + c) hcx.1 hcx.2
   by_cases he : (⟨W, H, T, K⟩ : Pane) = (Pane.mk pW pH pT pK)
   ·rw [hat he hp]
    have he' := he
    simp only [Pane.mk.injEq] at he
    simp +contextual -implicitDefEqProofs (maxSteps := 10^7) only [go_sem, seval, ↓gZ, hx, hlt, hw, he, u0, ZwT]
    try (simp [he]; done)
   ·have he' := he
    simp only [Pane.mk.injEq] at he
    simp +contextual -implicitDefEqProofs (maxSteps := 10^7) only [go_sem, seval, ↓gZ, hx, hlt, hw, he]
    refine ih (k + 1) _ ⟨by omega, ?_⟩ (by omega) ?_
    ·rw [hpt, List.mem_append]
     intro h
     rcases h with h | h
     ·exact hp h
     ·exact he' (List.mem_singleton.1 h).symm
    ·simp +contextual -implicitDefEqProofs (maxSteps := 10^7) only [go_sem, seval, ↓gZ]
  ·have : k = l.length := by omega
   subst this
   rw [List.take_of_length_le (Nat.le_refl _)] at hp
   rw [Zq7 (Pane.mk pW pH pT pK) c l hp]
   simp +contextual -implicitDefEqProofs (maxSteps := 10^7) only [go_sem, seval, ↓gZ, hr1]
   try (simp [Zd.enc]; done)
theorem Zpk (l : List Zc) (qL qW qH : Int) (qF : List Box) (hl : l.length ≤ 100000) (hF : ∀ x ∈ l, x.Flaws.length ≤ 1000000) (hq : qF.length ≤ 1000000) : Zh Xs Ms UQ [(.d (.sl (l.map Zc.enc))), (.d (.agg [J qL, J qW, J qH, .sl (qF.map Box.enc)]))] [] =
  some (.own 0, [.row 4 ((Qf (Zc.mk qL qW qH qF) l).map Zc.enc) true false]) := by
 have eq := VD qL qW qH qF hq
 refine Ze Xs Ms ZaB Zrx (by show 2 ≤ _; decide) ?_
 simp +contextual -implicitDefEqProofs (maxSteps := 10^7) only [go_sem, seval, ↓gZ, ZaB]
 refine ZE Xs Ms (st0 := ?st0) (α := Nat × Bool × List Zc) (fun s => [(7, .d (J (s.1 : Int))), (6, .d (.bool s.2.1))]) (fun s => [(0, .row 4 (s.2.2.map Zc.enc) true false)]) (fun s => s.1 ≤ l.length ∧ s.2.2 ++ (if s.2.1 then l.drop s.1 else Qf (Zc.mk qL qW qH qF) (l.drop s.1)) = Qf (Zc.mk qL qW qH qF) l ∧ s.2.2.length ≤ s.1 + s.2.1.toNat) (fun s => l.length - s.1) (0, false, []) ?hc ⟨by simp, by simp, by simp⟩ ?h0 ?step
 case hc => simp +contextual -implicitDefEqProofs (maxSteps := 10^7) only [go_sem, seval, ↓gZ] <;> exact rfl
 case h0 => rfl
 case step =>
  intro ⟨i, b, o⟩ ⟨hi, hp, ho⟩ ih
  simp only at hi hp ho
  have hb := Bool.toNat_le b
  by_cases hlt : i < l.length
  ·obtain ⟨x, hx⟩ := Zw hlt
   have hw := Zm (k := i) (by omega)
   have hr : (o.length + 1) * 48 ≤ 140737488355328 ∧ o.length ≤ 140737488355327 := by omega
   have hr2 : ∀ n : Nat, n = o.length + 1 → (n + 1) * 48 ≤ 140737488355328 ∧ n ≤ 140737488355327 := fun n hn => by omega
   have hr2 := hr2 _ rfl
   have hr3 : o.length ≤ 140737488355326 := by omega
   have e := VD x.Label x.W x.H x.Flaws (hF x (List.mem_of_getElem? hx))
   rw [Znk hx] at hp
   have hd : l.drop i = x :: l.drop (i + 1) := by
    obtain ⟨h1, h2⟩ := List.getElem?_eq_some_iff.1 hx
    rw [List.drop_eq_getElem_cons h1, h2]
   obtain ⟨L, W, H, F⟩ := x
   simp only at e hp
   cases b with
   | true =>
    simp only [Bool.toNat_true] at ho
    rw [if_pos rfl] at hp
    simp +contextual -implicitDefEqProofs (maxSteps := 10^7) only [go_sem, seval, ↓gZ, hx, hlt, hw, e, hr]
    refine ih (i + 1, true, o ++ [⟨L, W, H, F⟩]) _ ⟨by simp only; omega, ?_, by simp; omega⟩ (by simp only; omega) ?_
    ·rw [← hp, hd]; simp
    ·simp +contextual -implicitDefEqProofs (maxSteps := 10^7) only [go_sem, seval, ↓gZ]
     try (simp [Zc.enc]; done)
   | false =>
    simp only [Bool.toNat_false] at ho
    rw [if_neg (by simp)] at hp
    by_cases hc : qL < L
    ·rw [if_pos hc] at hp
     simp +contextual -implicitDefEqProofs (maxSteps := 10^7) only [go_sem, seval, ↓gZ, hx, hlt, hw, e, eq, hc, hr, hr2, hr3]
     refine ih (i + 1, true, o ++ [(Zc.mk qL qW qH qF), ⟨L, W, H, F⟩]) _ ⟨by simp only; omega, ?_, by simp; omega⟩ (by simp only; omega) ?_
     ·rw [← hp, hd]; simp
     ·simp +contextual -implicitDefEqProofs (maxSteps := 10^7) only [go_sem, seval, ↓gZ]
      try (simp [Zc.enc]; done)
    ·rw [if_neg hc] at hp
     simp +contextual -implicitDefEqProofs (maxSteps := 10^7) only [go_sem, seval, ↓gZ, hx, hlt, hw, e, hc, hr]
     refine ih (i + 1, false, o ++ [⟨L, W, H, F⟩]) _ ⟨by simp only; omega, ?_, by simp; omega⟩ (by simp only; omega) ?_
     ·rw [← hp]; simp
     ·simp +contextual -implicitDefEqProofs (maxSteps := 10^7) only [go_sem, seval, ↓gZ]
      try (simp [Zc.enc]; done)
  ·have : i = l.length := by omega
   subst this
   have hr : (o.length + 1) * 48 ≤ 140737488355328 ∧ o.length ≤ 140737488355327 := by omega
   cases b with
   | true =>
    simp at hp
    simp +contextual -implicitDefEqProofs (maxSteps := 10^7) only [go_sem, seval, ↓gZ]
    rw [hp]
   | false =>
    simp [Qf] at hp
    simp +contextual -implicitDefEqProofs (maxSteps := 10^7) only [go_sem, seval, ↓gZ, eq, hr]
    rw [← hp]
    try (simp [Zc.enc]; done)
def WP (p : Zc) (l : List Zc) : Prop := (VSt l ∧ VPc p) ∧ VSt (Qf p l)
instance (p : Zc) (l : List Zc) : Decidable (WP p l) := by unfold WP; infer_instance
theorem Zi2 (l : List Zc) (qL qW qH : Int) (qF : List Box) (hl : l.length ≤ 100000) (hS : ∀ x ∈ l, x.Flaws.length ≤ 1000000 ∧ R64 x.W ∧ R64 x.H) (hq : qF.length ≤ 1000000 ∧ R64 qW ∧ R64 qH) : Zh Xs Ms We [(.d (.sl (l.map Zc.enc))), (.d (.agg [J qL, J qW, J qH, .sl (qF.map Box.enc)]))] [] =
  some (.tup [.own 0, (.d (.bool (decide (WP (Zc.mk qL qW qH qF) l))))], [.row 4 ((if WP (Zc.mk qL qW qH qF) l then Qf (Zc.mk qL qW qH qF) l else []).map Zc.enc) true false]) := by
 have e1 := YX l (by omega) (fun x hx => ⟨by have := (hS x hx).1; omega, (hS x hx).2⟩)
 have e2 := ZgY qL qW qH qF (by omega) hq.2.1 hq.2.2
 have e3 := Zpk l qL qW qH qF hl (fun x hx => (hS x hx).1) hq.1
 have e4 := YX (Qf (Zc.mk qL qW qH qF) l) (by rw [Zk6]; omega) (fun x hx => by
  rcases Zp7 _ _ _ hx with rfl | hx
  ·exact ⟨by simp only; omega, hq.2⟩
  ·exact ⟨by have := (hS x hx).1; omega, (hS x hx).2⟩)
 refine Ze Xs Ms Vd Zrr (by show 2 ≤ _; decide) ?_
 by_cases v1 : VSt l
 ·rw [decide_eq_true v1] at e1
  by_cases v2 : VPc (Zc.mk qL qW qH qF)
  ·rw [decide_eq_true v2] at e2
   by_cases v3 : VSt (Qf (Zc.mk qL qW qH qF) l)
   ·rw [decide_eq_true v3] at e4
    have h : WP (Zc.mk qL qW qH qF) l := ⟨⟨v1, v2⟩, v3⟩
    rw [decide_eq_true h, if_pos h]
    simp +contextual -implicitDefEqProofs (maxSteps := 10^7) only [go_sem, seval, ↓gZ, Vd, e1, e2, e3, e4]
   ·rw [decide_eq_false v3] at e4
    have h : ¬ WP (Zc.mk qL qW qH qF) l := fun h => v3 h.2
    rw [decide_eq_false h, if_neg h]
    simp +contextual -implicitDefEqProofs (maxSteps := 10^7) only [go_sem, seval, ↓gZ, Vd, e1, e2, e3, e4]
  ·rw [decide_eq_false v2] at e2
   have h : ¬ WP (Zc.mk qL qW qH qF) l := fun h => v2 h.1.2
   rw [decide_eq_false h, if_neg h]
   simp +contextual -implicitDefEqProofs (maxSteps := 10^7) only [go_sem, seval, ↓gZ, Vd, e1, e2]
 ·rw [decide_eq_false v1] at e1
  have h : ¬ WP (Zc.mk qL qW qH qF) l := fun h => v1 h.1.1
  rw [decide_eq_false h, if_neg h]
  simp +contextual -implicitDefEqProofs (maxSteps := 10^7) only [go_sem, seval, ↓gZ, Vd, e1]
theorem Zq8 (l : List Zc) (hl : l.length ≤ 1000000) (hF : ∀ x ∈ l, x.Flaws.length ≤ 1000000) : Zh Xs Ms Y8 [(.d (.sl (l.map Zc.enc))), (.d (J ((-1))))] [] = some (.own 0, [.row 4 (l.map Zc.enc) true false]) := by
 refine Ze Xs Ms Ul ZlY (by show 2 ≤ _; decide) ?_
 simp +contextual -implicitDefEqProofs (maxSteps := 10^7) only [go_sem, seval, ↓gZ, Ul]
 refine ZE Xs Ms (st0 := ?st0) (α := Nat) (fun i => [(6, .d (J (i : Int)))]) (fun i => [(0, .row 4 ((l.take i).map Zc.enc) true false)]) (fun i => i ≤ l.length) (fun i => l.length - i) 0 ?hc (by omega) ?h0 ?step
 case hc => simp +contextual -implicitDefEqProofs (maxSteps := 10^7) only [go_sem, seval, ↓gZ] <;> exact rfl
 case h0 => rfl
 case step =>
  intro i hi ih
  by_cases hlt : i < l.length
  ·obtain ⟨x, hx⟩ := Zw hlt
   have hw := Zm (k := i) (by omega)
   have hia : ¬ (i : Int) = -1 := by omega
   have hm : l.take (i + 1) = l.take i ++ [x] := by rw [List.take_add_one, hx]; simp
   have hlk : (l.take i).length ≤ i := by simp; omega
   have hr : ((l.take i).length + 1) * 48 ≤ 140737488355328 ∧ (l.take i).length ≤ 140737488355327 := by omega
   have e := VD x.Label x.W x.H x.Flaws (hF x (List.mem_of_getElem? hx))
   obtain ⟨L, W, H, F⟩ := x
   simp only at e
   simp +contextual -implicitDefEqProofs (maxSteps := 10^7) only [go_sem, seval, ↓gZ, hx, hlt, hw, hia, e, hr]
   refine ih (i + 1) _ (by omega) (by omega) ?_
   simp +contextual -implicitDefEqProofs (maxSteps := 10^7) only [go_sem, seval, ↓gZ, hm]
   first | rfl | (simp; done) | (simp; rfl)
  ·have : i = l.length := by omega
   subst this
   simp +contextual -implicitDefEqProofs (maxSteps := 10^7) only [go_sem, seval, ↓gZ]
   simp
theorem WB (sS : List Zc) (sO sD : List Zd) (sL sC : Int) (hs : JO (Zp.mk sS sO sD sL sC)) : Zh Xs Ms UB [(.d (.agg [.sl (sS.map Zc.enc), .sl (sO.map Zd.enc), .sl (sD.map Zd.enc), J sL, J sC]))] [] = some (.agg [.own 0, .own 1, .own 2, (.d (J sL)), (.d (J sC))], [.row 4 (sS.map Zc.enc) true false, .row 5 (sO.map Zd.enc) true false, .row 5 (sD.map Zd.enc) true false]) := by
 obtain ⟨h1, h2, h3, h4⟩ := hs
 simp only at h1 h2 h3 h4
 have e1 := Zq8 sS h1 (fun x hx => (h2 x hx).1)
 have r1 : sO.length * 40 ≤ 140737488355328 ∧ sO.length ≤ 140737488355328 := by omega
 have r2 : sD.length * 40 ≤ 140737488355328 ∧ sD.length ≤ 140737488355328 := by omega
 refine Ze Xs Ms Zao Zrj (by show 1 ≤ _; decide) ?_
 simp +contextual -implicitDefEqProofs (maxSteps := 10^7) only [go_sem, seval, ↓gZ, Zao, ZoL, e1, r1, r2]
theorem Zss (sS : List Zc) (sO sD : List Zd) (sL sC : Int) (a : Nat) (qL qW qH : Int) (qF : List Box) (hx : sS[a]? = some (Zc.mk qL qW qH qF)) (hl : sO.length ≤ 1000000) (hS : sS.length ≤ 1000000) : Zh Xs Ms Zba [(.d (.agg [.sl (sS.map Zc.enc), .sl (sO.map Zd.enc), .sl (sD.map Zd.enc), J sL, J sC])), (.d (J a))] [] = some (.agg [(.d (J qW)), (.d (J qH)), .own 0], [.row 4 ((sO.map Zd.Pane).map Pane.enc) true false]) := by
 have hlt := (List.getElem?_eq_some_iff.1 hx).1
 refine Ze Xs Ms Zdf Zt6 (by show 2 ≤ _; decide) ?_
 simp +contextual -implicitDefEqProofs (maxSteps := 10^7) only [go_sem, seval, ↓gZ, Zdf, hx, hlt]
 refine ZE Xs Ms (st0 := ?st0) (α := Nat) (fun i => [(6, .d (J (i : Int)))]) (fun i => [(3, .row 4 (((sO.take i).map Zd.Pane).map Pane.enc) true false)]) (fun i => i ≤ sO.length) (fun i => sO.length - i) 0 ?hc (by omega) ?h0 ?step
 case hc => simp +contextual -implicitDefEqProofs (maxSteps := 10^7) only [go_sem, seval, ↓gZ] <;> exact rfl
 case h0 => rfl
 case step =>
  intro i hi ih
  by_cases hlt : i < sO.length
  ·obtain ⟨x, hx⟩ := Zw hlt
   have hw := Zm (k := i) (by omega)
   have hm := Za6 hx
   have hlk : (sO.take i).length ≤ i := by simp; omega
   have hr : ((sO.take i).length + 1) * 32 ≤ 140737488355328 ∧ (sO.take i).length ≤ 140737488355327 := by omega
   obtain ⟨⟨W, H, T, K⟩, C⟩ := x
   simp only at hm
   simp +contextual -implicitDefEqProofs (maxSteps := 10^7) only [go_sem, seval, ↓gZ, hx, hlt, hw, hr]
   refine ih (i + 1) _ (by omega) (by omega) ?_
   simp +contextual -implicitDefEqProofs (maxSteps := 10^7) only [go_sem, seval, ↓gZ, hm]
   first | rfl | (simp; done) | (simp; rfl)
  ·have : i = sO.length := by omega
   subst this
   simp +contextual -implicitDefEqProofs (maxSteps := 10^7) only [go_sem, seval, ↓gZ]
   simp
def SmS (s : Zp) : Prop := JO s ∧ s.Stock.length ≤ 100000 ∧ -1000000000 ≤ s.Lost ∧ s.Lost ≤ 1000000000 ∧ -1000000000 ≤ s.Came ∧ s.Came ≤ 1000000000
theorem Zk7 {s : Zp} (h : ZN s) : SmS s := ⟨YZ h, by have := h.1.1; omega, by have := h.2.2.2.1; omega, by have := h.2.2.2.2.1; omega, by have := h.2.2.2.2.2.1; omega, by have := h.2.2.2.2.2.2.1; omega⟩
def I5 (n : Int) : Prop := -100000 ≤ n ∧ n ≤ 100000
theorem ZwU {a b : Int} (ha : I5 a) (hb : I5 b) : -10000000000 ≤ a * b ∧ a * b ≤ 10000000000 := by
 unfold I5 at ha hb
 have h1 : a.natAbs ≤ 100000 := by omega
 have h2 : b.natAbs ≤ 100000 := by omega
 have h3 : (a * b).natAbs ≤ 100000 * 100000 := by rw [Int.natAbs_mul]; exact Nat.mul_le_mul h1 h2
 omega
theorem ZwV {a : Int} (h : I5 a) : R64 a := by unfold I5 at h; unfold R64; omega
theorem Zjl (sS : List Zc) (sO sD : List Zd) (sL sC : Int) (eK eL eX eY eW eH epW epH : Int) (epT : Bool) (epK eC eo ea ep : Int) (et : Bool) (ek : List Zg) (hs : SmS (Zp.mk sS sO sD sL sC)) (hk : eK = 0) (hW : I5 eW) (hH : I5 eH) : Zh Xs Ms Xu [(.d (.agg [.sl (sS.map Zc.enc), .sl (sO.map Zd.enc), .sl (sD.map Zd.enc), J sL, J sC])), (.d (.agg [J eK, J eL, J eX, J eY, J eW, J eH, J epW, J epH, .bool epT, J epK, J eC, J eo, J ea, J ep, .bool et, .sl (ek.map Zg.enc)]))] [] =
  some (.tup [.agg [.own 0, .d (.sl (sO.map Zd.enc)), .d (.sl (sD.map Zd.enc)), (.d (J sL)), (.d (J (sC + eW * eH)))], (.d (.bool (decide ((WP ⟨eL, eW, eH, []⟩ sS ∧ eX = 0) ∧ eY = 0))))], [.row 4 ((if WP ⟨eL, eW, eH, []⟩ sS then Qf ⟨eL, eW, eH, []⟩ sS else []).map Zc.enc) true false]) := by
 obtain ⟨⟨h1, h2, h3, h4⟩, h5, h6, h7, h8, h9⟩ := hs
 simp only at h1 h2 h3 h4 h5 h6 h7 h8 h9
 subst hk
 have hm := ZwU hW hH
 have e1 := YA sS eL (by omega)
 have e2 := Zi2 sS eL eW eH [] h5 h2 ⟨by simp, ZwV hW, ZwV hH⟩
 have u1 := wi (eW * eH) (by omega) (by omega)
 have u2 := wi (sC + eW * eH) (by omega) (by omega)
 simp only [List.map_nil] at e2
 generalize (if WP ⟨eL, eW, eH, []⟩ sS then Qf ⟨eL, eW, eH, []⟩ sS else []) = R at e2 ⊢
 by_cases v1 : WP ⟨eL, eW, eH, []⟩ sS
 ·rw [decide_eq_true v1] at e2
  refine Ze Xs Ms Z9 W6 (by show 2 ≤ _; decide) ?_
  by_cases v2 : eX = 0
  ·simp +contextual -implicitDefEqProofs (maxSteps := 10^7) only [go_sem, seval, ↓gZ, Z9, e1, e2, u1, u2, v2]
   all_goals simp [v1]
  ·simp +contextual -implicitDefEqProofs (maxSteps := 10^7) only [go_sem, seval, ↓gZ, Z9, e1, e2, u1, u2, v2]
   all_goals simp
 ·rw [decide_eq_false v1] at e2
  refine Ze Xs Ms Z9 W6 (by show 2 ≤ _; decide) ?_
  simp +contextual -implicitDefEqProofs (maxSteps := 10^7) only [go_sem, seval, ↓gZ, Z9, e1, e2, u1, u2, v1]
theorem Zmz (sS : List Zc) (sO sD : List Zd) (sL sC : Int) (eK eL eX eY eW eH epW epH : Int) (epT : Bool) (epK eC eo ea ep : Int) (et : Bool) (ek : List Zg) (hs : SmS (Zp.mk sS sO sD sL sC)) (hk : ¬ eK = 0) (hf : QC 0 sS eL < 0) : Zh Xs Ms Xu [(.d (.agg [.sl (sS.map Zc.enc), .sl (sO.map Zd.enc), .sl (sD.map Zd.enc), J sL, J sC])), (.d (.agg [J eK, J eL, J eX, J eY, J eW, J eH, J epW, J epH, .bool epT, J epK, J eC, J eo, J ea, J ep, .bool et, .sl (ek.map Zg.enc)]))] [] =
  some (.tup [.agg [.own 0, .own 1, .own 2, (.d (J 0)), (.d (J 0))], (.d (.bool false))], [.row 4 [] true false, .row 5 [] true false, .row 5 [] true false]) := by
 have e1 := YA sS eL (by have := hs.2.1; simp only at this; omega)
 refine Ze Xs Ms Z9 W6 (by show 2 ≤ _; decide) ?_
 simp +contextual -implicitDefEqProofs (maxSteps := 10^7) only [go_sem, seval, ↓gZ, Z9, e1, hk, hf]
theorem Zjm (sS : List Zc) (sO sD : List Zd) (sL sC : Int) (eK eL eX eY eW eH epW epH : Int) (epT : Bool) (epK eC eo ea ep : Int) (et : Bool) (ek : List Zg) (hs : SmS (Zp.mk sS sO sD sL sC)) (hk : eK = 5) (a : Nat) (hf : QC 0 sS eL = (a : Int)) (qL qW qH : Int) (qF : List Box) (hx : sS[a]? = some (Zc.mk qL qW qH qF)) (hW : I5 qW) (hH : I5 qH) : Zh Xs Ms Xu [(.d (.agg [.sl (sS.map Zc.enc), .sl (sO.map Zd.enc), .sl (sD.map Zd.enc), J sL, J sC])), (.d (.agg [J eK, J eL, J eX, J eY, J eW, J eH, J epW, J epH, .bool epT, J epK, J eC, J eo, J ea, J ep, .bool et, .sl (ek.map Zg.enc)]))] [] =
  some (.tup [.agg [.own 0, .d (.sl (sO.map Zd.enc)), .d (.sl (sD.map Zd.enc)), (.d (J (sL + qW * qH))), (.d (J sC))], (.d (.bool true))], [.row 4 ((sS.eraseIdx a).map Zc.enc) true false]) := by
 obtain ⟨⟨h1, h2, h3, h4⟩, h5, h6, h7, h8, h9⟩ := hs
 simp only at h1 h2 h3 h4 h5 h6 h7 h8 h9
 subst hk
 have hm := ZwU hW hH
 have e1 := YA sS eL (by omega)
 rw [hf] at e1
 have hlt := (List.getElem?_eq_some_iff.1 hx).1
 have h0 : ¬ (a : Int) < 0 := by omega
 have e2 := VD qL qW qH qF (h2 _ (List.mem_of_getElem? hx)).1
 have e3 := Zf4 sS a h1 (fun x hx => (h2 x hx).1)
 have u1 := wi (qW * qH) (by omega) (by omega)
 have u2 := wi (sL + qW * qH) (by omega) (by omega)
 refine Ze Xs Ms Z9 W6 (by show 2 ≤ _; decide) ?_
 simp +contextual -implicitDefEqProofs (maxSteps := 10^7) only [go_sem, seval, ↓gZ, Z9, e1, e2, e3, h0, hlt, hx, u1, u2]
theorem Zj5 (sS : List Zc) (sO sD : List Zd) (sL sC : Int) (eK eL eX eY eW eH epW epH : Int) (epT : Bool) (epK eC eo ea ep : Int) (et : Bool) (ek : List Zg) (hv : ZN (Zp.mk sS sO sD sL sC)) (hk : eK = 1) (a : Nat) (hf : QC 0 sS eL = (a : Int)) (qL qW qH : Int) (qF : List Box) (hx : sS[a]? = some (Zc.mk qL qW qH qF)) : Zh Xs Ms Xu [(.d (.agg [.sl (sS.map Zc.enc), .sl (sO.map Zd.enc), .sl (sD.map Zd.enc), J sL, J sC])), (.d (.agg [J eK, J eL, J eX, J eY, J eW, J eH, J epW, J epH, .bool epT, J epK, J eC, J eo, J ea, J ep, .bool et, .sl (ek.map Zg.enc)]))] [] =
  some (.tup [.agg [.own 0, .d (.sl (sO.map Zd.enc)), .d (.sl (sD.map Zd.enc)), (.d (J sL)), (.d (J sC))], (.d (.bool (decide (WP ⟨qL, qW, qH, qF ++ [⟨eX, eY, eW, eH⟩]⟩ (sS.eraseIdx a)))))], [.row 4 ((if WP ⟨qL, qW, qH, qF ++ [⟨eX, eY, eW, eH⟩]⟩ (sS.eraseIdx a) then Qf ⟨qL, qW, qH, qF ++ [⟨eX, eY, eW, eH⟩]⟩ (sS.eraseIdx a) else []).map Zc.enc) true false]) := by
 obtain ⟨⟨h1, h2, h3, h4⟩, h5, h6, h7, h8, h9⟩ := Zk7 hv
 simp only at h1 h2 h3 h4 h5 h6 h7 h8 h9
 subst hk
 have e1 := YA sS eL (by omega)
 rw [hf] at e1
 have hlt := (List.getElem?_eq_some_iff.1 hx).1
 have h0 : ¬ (a : Int) < 0 := by omega
 have hqF := h2 _ (List.mem_of_getElem? hx)
 simp only at hqF
 have hel := Zk2 sS a
 have e2 := VD qL qW qH qF hqF.1
 have e3 := Zf4 sS a h1 (fun x hx => (h2 x hx).1)
 have hr : (qF.length + 1) * 32 ≤ 140737488355328 ∧ qF.length ≤ 140737488355327 := by omega
 have hq6 := (Qe hv.1.2 _ (List.mem_of_getElem? hx)).1.2.2.2.2.2.2
 simp only at hq6
 have e4 := Zi2 (sS.eraseIdx a) qL qW qH (qF ++ [⟨eX, eY, eW, eH⟩]) (by omega) (fun x hx => h2 x (List.mem_of_mem_eraseIdx hx)) ⟨by simp; omega, hqF.2⟩
 rw [List.map_append] at e4
 simp only [List.map_cons, List.map_nil, Box.enc] at e4
 generalize (if WP ⟨qL, qW, qH, qF ++ [⟨eX, eY, eW, eH⟩]⟩ (sS.eraseIdx a) then Qf ⟨qL, qW, qH, qF ++ [⟨eX, eY, eW, eH⟩]⟩ (sS.eraseIdx a) else []) = R at e4 ⊢
 generalize decide (WP ⟨qL, qW, qH, qF ++ [⟨eX, eY, eW, eH⟩]⟩ (sS.eraseIdx a)) = V at e4 ⊢
 refine Ze Xs Ms Z9 W6 (by show 2 ≤ _; decide) ?_
 simp +contextual -implicitDefEqProofs (maxSteps := 10^7) only [go_sem, seval, ↓gZ, Z9, e1, e2, e3, e4, h0, hlt, hx, hr]
def Wt (l : Zd) : Prop := VP l.Pane ∧ 1 ≤ l.Count ∧ l.Count ≤ 24
instance (l : Zd) : Decidable (Wt l) := by unfold Wt; infer_instance
theorem ZmA (sS : List Zc) (sO sD : List Zd) (sL sC : Int) (eK eL eX eY eW eH epW epH : Int) (epT : Bool) (epK eC eo ea ep : Int) (et : Bool) (ek : List Zg) (hl : ¬ Wt ⟨⟨epW, epH, epT, epK⟩, eC⟩) : Zh Xs Ms Yv [(.d (.agg [.sl (sS.map Zc.enc), .sl (sO.map Zd.enc), .sl (sD.map Zd.enc), J sL, J sC])), (.d (.agg [J eK, J eL, J eX, J eY, J eW, J eH, J epW, J epH, .bool epT, J epK, J eC, J eo, J ea, J ep, .bool et, .sl (ek.map Zg.enc)]))] [] =
  some (.tup [.agg [.own 0, .own 1, .own 2, (.d (J 0)), (.d (J 0))], (.d (.bool false))], [.row 4 [] true false, .row 5 [] true false, .row 5 [] true false]) := by
 have e1 := VA epW epH epT epK
 have e2 := ZP eC 1 24
 refine Ze Xs Ms Xk Zez (by show 2 ≤ _; decide) ?_
 by_cases v1 : VP ⟨epW, epH, epT, epK⟩
 ·have v2 : ¬ (1 ≤ eC ∧ eC ≤ 24) := fun h => hl ⟨v1, h⟩
  rw [decide_eq_true v1] at e1
  rw [decide_eq_false v2] at e2
  simp +contextual -implicitDefEqProofs (maxSteps := 10^7) only [go_sem, seval, ↓gZ, Xk, e1, e2]
 ·rw [decide_eq_false v1] at e1
  simp +contextual -implicitDefEqProofs (maxSteps := 10^7) only [go_sem, seval, ↓gZ, Xk, e1]
theorem Zj6 (sS : List Zc) (sO sD : List Zd) (sL sC : Int) (eK eL eX eY eW eH epW epH : Int) (epT : Bool) (epK eC eo ea ep : Int) (et : Bool) (ek : List Zg) (hv : ZN (Zp.mk sS sO sD sL sC)) (hl : Wt ⟨⟨epW, epH, epT, epK⟩, eC⟩) (hk : eK = 2) : Zh Xs Ms Yv [(.d (.agg [.sl (sS.map Zc.enc), .sl (sO.map Zd.enc), .sl (sD.map Zd.enc), J sL, J sC])), (.d (.agg [J eK, J eL, J eX, J eY, J eW, J eH, J epW, J epH, .bool epT, J epK, J eC, J eo, J ea, J ep, .bool et, .sl (ek.map Zg.enc)]))] [] =
  some (.tup [.agg [.d (.sl (sS.map Zc.enc)), .own 0, .d (.sl (sD.map Zd.enc)), (.d (J sL)), (.d (J sC))], (.d (.bool true))], [.row 5 ((YB ⟨epW, epH, epT, epK⟩ eC sO).map Zd.enc) true false]) := by
 have e1 := VA epW epH epT epK
 have e2 := ZP eC 1 24
 rw [decide_eq_true hl.1] at e1
 rw [decide_eq_true hl.2] at e2
 subst hk
 have e3 := Zex sO epW epH epT epK eC (by have := hv.2.1.1; simp only at this; omega) (fun x hx => by have := (QS hv.2.1 x hx).2; have := hl.2; simp only at this; unfold R64; omega)
 refine Ze Xs Ms Xk Zez (by show 2 ≤ _; decide) ?_
 simp +contextual -implicitDefEqProofs (maxSteps := 10^7) only [go_sem, seval, ↓gZ, Xk, e1, e2, e3]
theorem Zj7 (sS : List Zc) (sO sD : List Zd) (sL sC : Int) (eK eL eX eY eW eH epW epH : Int) (epT : Bool) (epK eC eo ea ep : Int) (et : Bool) (ek : List Zg) (hv : ZN (Zp.mk sS sO sD sL sC)) (hl : Wt ⟨⟨epW, epH, epT, epK⟩, eC⟩) (hk : ¬ eK = 2) : Zh Xs Ms Yv [(.d (.agg [.sl (sS.map Zc.enc), .sl (sO.map Zd.enc), .sl (sD.map Zd.enc), J sL, J sC])), (.d (.agg [J eK, J eL, J eX, J eY, J eW, J eH, J epW, J epH, .bool epT, J epK, J eC, J eo, J ea, J ep, .bool et, .sl (ek.map Zg.enc)]))] [] =
  some (.tup [.agg [.d (.sl (sS.map Zc.enc)), .own 0, .own 1, (.d (J (sL + eC * epW * epH))), (.d (J sC))], (.d (.bool (Xn ⟨epW, epH, epT, epK⟩ eC false sD)))], [.row 5 ((YB ⟨epW, epH, epT, epK⟩ eC sO).map Zd.enc) true false, .row 5 ((X6 sD ⟨epW, epH, epT, epK⟩ eC).map Zd.enc) true false]) := by
 have e1 := VA epW epH epT epK
 have e2 := ZP eC 1 24
 rw [decide_eq_true hl.1] at e1
 rw [decide_eq_true hl.2] at e2
 have hla := ZcT hl
 have h6 := hv.2.2.2
 simp only at hla h6
 have e3 := Zex sO epW epH epT epK eC (by have := hv.2.1.1; simp only at this; omega) (fun x hx => by have := (QS hv.2.1 x hx).2; have := hl.2; simp only at this; unfold R64; omega)
 have e4 := Zhq sD epW epH epT epK eC (by have := hv.2.2.1.1; simp only at this; omega) (fun x hx => by have := (QS hv.2.2.1 x hx).2; have := hl.2; simp only at this; unfold R64; omega)
 have u0 := wi (eC * epW) (by omega) (by omega)
 have u1 := wi (eC * epW * epH) (by omega) (by omega)
 have u2 := wi (sL + eC * epW * epH) (by omega) (by omega)
 refine Ze Xs Ms Xk Zez (by show 2 ≤ _; decide) ?_
 simp +contextual -implicitDefEqProofs (maxSteps := 10^7) only [go_sem, seval, ↓gZ, Xk, e1, e2, e3, e4, hk, u0, u1, u2]
theorem Zc8 {ps : List Pane} : ∀ {b : BT} {x y w h : Int}, Yn ps b w h = true → ∀ c ∈ plc b x y w h, ∃ n : Nat, c.Pane = (n : Int) ∧ n < ps.length
 | .waste, x, y, w, h, hf, c, hc => by simp [plc] at hc
 | .pane i t, x, y, w, h, hf, c, hc => by
  simp only [plc, List.mem_singleton] at hc
  subst hc
  simp only [Yn, ZaQ, Bool.and_eq_true, decide_eq_true_eq] at hf
  refine ⟨i.toNat, by simp only; omega, ?_⟩
  rcases Nat.lt_or_ge i.toNat ps.length with h1 | h1
  ·exact h1
  ·rw [List.getElem?_eq_none h1] at hf; exact absurd hf.2 (by simp)
 | .cut d a l r, x, y, w, h, hf, c, hc => by
  cases d
  ·simp only [Yn, Bool.and_eq_true, Bool.false_eq_true, if_false] at hf
   simp only [plc, Bool.false_eq_true, if_false, List.mem_append] at hc
   rcases hc with hc | hc
   ·exact Zc8 hf.1.2 c hc
   ·exact Zc8 hf.2 c hc
  ·simp only [Yn, Bool.and_eq_true, if_true] at hf
   simp only [plc, if_true, List.mem_append] at hc
   rcases hc with hc | hc
   ·exact Zc8 hf.1.2 c hc
   ·exact Zc8 hf.2 c hc
def Za2 : List Int → List L.Place → List Int
 | u, [] => u
 | u, x :: l => Za2 (u.set x.Pane.toNat (u[x.Pane.toNat]?.getD 0 + 1)) l
theorem Zno {u : List Int} {l : List L.Place} {k : Nat} {x : L.Place} (hx : l[k]? = some x) : Za2 u (l.drop k) = Za2 (u.set x.Pane.toNat (u[x.Pane.toNat]?.getD 0 + 1)) (l.drop (k + 1)) := by
 obtain ⟨h1, h2⟩ := List.getElem?_eq_some_iff.1 hx
 rw [List.drop_eq_getElem_cons h1, h2, Za2]
theorem Zp8 {u : List Int} {l : List L.Place} : Za2 u (l.drop l.length) = u := by simp [Za2]
theorem Zp9 : ∀ (l : List L.Place) (u : List Int), (Za2 u l).length = u.length
 | [], u => rfl
 | x :: l, u => by rw [Za2, Zp9 l]; simp
theorem Zqa : ∀ (l : List L.Place) (u : List Int) (m : Int), (∀ v ∈ u, 0 ≤ v ∧ v ≤ m) → ∀ v ∈ Za2 u l, 0 ≤ v ∧ v ≤ m + l.length
 | [], u, m, h, v, hv => by have := h v hv; simp; omega
 | x :: l, u, m, h, v, hv => by
  have := Zqa l _ (m + 1) (fun w hw => by
   rcases List.mem_or_eq_of_mem_set hw with h1 | rfl
   ·have := h w h1; omega
   ·cases hg : u[x.Pane.toNat]? with
    | none =>
     simp
     have h0 : ∀ z : Int, 0 ≤ z → 1 ≤ z + 1 := by omega
     by_cases hu : u = []
     ·subst hu; simp at hw
     ·obtain ⟨z, hz⟩ := List.exists_mem_of_ne_nil u hu
      have := h z hz; omega
    | some z => have := h z (List.mem_of_getElem? hg); simp; omega) v hv
  simp only [List.length_cons]
  omega
theorem ZmX (u : List Int) (i : Nat) (v : Int) : (u.map ZaZ).set i (J v) = (u.set i v).map ZaZ := (List.map_set (f := ZaZ) (l := u) (i := i) (a := v)).symm
theorem rep_int (n : Nat) : List.replicate n (D.int .i64 0) = (List.replicate n (0 : Int)).map ZaZ := by simp [ZaZ]
def Zed (k : ZJ) (p : Zg) : List Int := Za2 (List.replicate k.Panes.length 0) ((QR k p).filterMap X3)
theorem Zhr {k : ZJ} {p : Zg} (hv : V5 k p = true) : (Zed k p).length = k.Panes.length ∧ ∀ v ∈ Zed k p, 0 ≤ v ∧ v ≤ 255 := by
 obtain ⟨b, hb, hpb, hvw, hcnt, hfit, hpt⟩ := XT hv
 have hl : ((QR k p).filterMap X3).length ≤ 255 := by
  have := List.length_filterMap_le X3 (QR k p)
  rw [hpt, ZaP] at this
  rw [hpt]
  omega
 refine ⟨by unfold Zed; rw [Zp9]; simp, fun v h => ?_⟩
 have := Zqa _ _ 0 (fun w hw => by rw [List.eq_of_mem_replicate hw]; omega) v h
 omega
theorem Zst (kW kH : Int) (kP : List Pane) (p : Zg) (hv : V5 (ZJ.mk kW kH kP) p = true) : Zh Xs Ms Zbb [(.d (.agg [J kW, J kH, .sl (kP.map Pane.enc)])), .d p.enc] [] = some (.own 0, [.row 1 ((Zed (ZJ.mk kW kH kP) p).map ZaZ) true false]) := by
 obtain ⟨b, hb, hpb, hvw, hcnt, hfit, hpt⟩ := XT hv
 simp only at hfit hpt
 have e := ZiY kW kH kP p b hpb (by simp only [VW, inB] at hvw ⊢; omega) hfit (by omega)
 have hpn := Zc8 (x := 0) (y := 0) hfit
 have hkl : kP.length ≤ 24 := hvw.2.2.2.2.1
 have hln : (plc b 0 0 kW kH).length ≤ 255 := by
  have := List.length_filterMap_le X3 (QR (ZJ.mk kW kH kP) p)
  rw [hpt, ZaP, WO] at this
  omega
 unfold Zed
 rw [hpt, WO]
 generalize plc b 0 0 kW kH = L at e hpn hln ⊢
 have hmk : (kP.length : Int) * ((8 : Nat) : Int) ≤ ((140737488355328 : Nat) : Int) ∧ kP.length ≤ 140737488355328 := by omega
 have hmk2 : (kP.length : Int) * 8 ≤ 140737488355328 ∧ (kP.length : Int) ≤ 140737488355328 := by omega
 clear hv hb hpb hvw hpt hfit
 obtain ⟨o, a, q, t, ks⟩ := p
 rw [Zg.enc_mk] at e ⊢
 refine Ze Xs Ms Zdg Zt7 (by show 2 ≤ _; decide) ?_
 simp +contextual -implicitDefEqProofs (maxSteps := 10^7) only [go_sem, seval, ↓gZ, Zdg, e, rep_int, hmk, hmk2]
 refine ZE Xs Ms (st0 := ?st0) (α := Nat × List Int) (fun s => [(7, .d (J (s.1 : Int)))]) (fun s => [(1, .row 1 (s.2.map ZaZ) true false)]) (fun s => s.1 ≤ L.length ∧ s.2.length = kP.length ∧ (∀ v ∈ s.2, 0 ≤ v ∧ v ≤ s.1) ∧ Za2 s.2 (L.drop s.1) = Za2 (List.replicate kP.length 0) L) (fun s => L.length - s.1) (0, List.replicate kP.length 0) ?hc ⟨by simp, by simp, fun w hw => by rw [List.eq_of_mem_replicate hw]; simp, by simp⟩ ?h0 ?step
 case hc => simp +contextual -implicitDefEqProofs (maxSteps := 10^7) only [go_sem, seval, ↓gZ] <;> exact rfl
 case h0 => rfl
 case step =>
  intro ⟨i, u⟩ ⟨hi, hul, huv, hp⟩ ih
  simp only at hi hul huv hp
  by_cases hlt : i < L.length
  ·obtain ⟨x, hx⟩ := Zw hlt
   have hw := Zm (k := i) (by omega)
   obtain ⟨n, hn, hnl⟩ := hpn x (List.mem_of_getElem? hx)
   rw [Zno hx, hn] at hp
   obtain ⟨q', t', ⟨X, Y, W, H⟩⟩ := x
   simp only at hn
   subst hn
   have hnu : n < u.length := by omega
   obtain ⟨z, hz⟩ := Zw hnu
   have hzb := huv z (List.mem_of_getElem? hz)
   have u1 := wi (z + 1) (by omega) (by omega)
   rw [Int.toNat_natCast, hz] at hp
   simp +contextual -implicitDefEqProofs (maxSteps := 10^7) only [go_sem, seval, ↓gZ, hx, hlt, hw, hnl, hnu, hz, u1, ZmX, hul]
   refine ih (i + 1, u.set n (z + 1)) _ ⟨by simp only; omega, by simpa using hul, fun v hv => ?_, hp⟩ (by simp only; omega) ?_
   ·simp only
    rcases List.mem_or_eq_of_mem_set hv with h1 | rfl
    ·have := huv v h1; omega
    ·omega
   ·simp +contextual -implicitDefEqProofs (maxSteps := 10^7) only [go_sem, seval, ↓gZ, List.headD_cons, ZmX]
  ·have : i = L.length := by omega
   subst this
   rw [Zp8] at hp
   simp +contextual -implicitDefEqProofs (maxSteps := 10^7) only [go_sem, seval, ↓gZ, hp]
def Zjn : BT → Bool
 | .waste => false
 | .pane _ _ => true
 | .cut _ _ l r => Zjn l || Zjn r
theorem Zf7 : ∀ (b : BT), Zh Xs Ms V1 [.d b.plan.enc] [] = some ((.d (.bool (Zjn b))), [])
 | .waste => by
  simp only [BT.plan, Zg.enc_mk]
  refine Ze Xs Ms Ve ZhF (by show 1 ≤ _; decide) ?_
  simp +contextual -implicitDefEqProofs (maxSteps := 10^7) only [go_sem, seval, ↓gZ, Ve, Xm, Zjn]
 | .pane i t => by
  simp only [BT.plan, Zg.enc_mk]
  refine Ze Xs Ms Ve ZhF (by show 1 ≤ _; decide) ?_
  simp +contextual -implicitDefEqProofs (maxSteps := 10^7) only [go_sem, seval, ↓gZ, Ve, Xm, Zjn]
 | .cut d a l r => by
  have e1 := Zf7 l
  have e2 := Zf7 r
  simp only [BT.plan, Zg.enc_mk]
  cases hb : Zjn l <;> rw [hb] at e1 <;> cases d <;>
  ·refine Ze Xs Ms Ve ZhF (by show 1 ≤ _; decide) ?_
   simp +contextual -implicitDefEqProofs (maxSteps := 10^7) only [go_sem, seval, ↓gZ, Ve, Xm, Zjn, J7, e1, e2, hb, Bool.or_eq_true, Bool.true_or, Bool.false_or]
theorem Zpl (kW kH : Int) (kP : List Pane) (p : Zg) (least : Int) (hv : V5 (ZJ.mk kW kH kP) p = true) (h1 : 1 ≤ least) (h2 : least ≤ 200) : Zh Xs Ms UN [(.d (.agg [J kW, J kH, .sl (kP.map Pane.enc)])), .d p.enc, (.d (J least))] [] =
  some ((.d (J (Ym (Zer (ZJ.mk kW kH kP) p least)))), []) := by
 obtain ⟨b, hb, hpb, hvw, hcnt, hfit, hpt⟩ := XT hv
 have hkl : kP.length ≤ 24 := hvw.2.2.2.2.1
 have ev := Zhh kW kH kP p (by omega)
 rw [hv] at ev
 have er := ZP least 1 200
 rw [decide_eq_true (show 1 ≤ least ∧ least ≤ 200 from ⟨h1, h2⟩)] at er
 simp only at hfit hpt
 have ep := ZiZ kW kH kP p b hpb (by simp only [VW, inB] at hvw ⊢; omega) hfit (by omega)
 have hbox := Zc0 hv
 have hlen : ((QR (ZJ.mk kW kH kP) p).filterMap Yh).length ≤ 255 := by
  have := List.length_filterMap_le Yh (QR (ZJ.mk kW kH kP) p)
  rw [hpt, ZaP] at this
  rw [hpt]
  omega
 rw [← ZfT, ← hpt] at ep
 unfold Zer
 generalize (QR (ZJ.mk kW kH kP) p).filterMap Yh = L at ep hbox hlen ⊢
 clear hv hb hpb hvw hpt hfit
 obtain ⟨o, a, n, t, ks⟩ := p
 rw [Zg.enc_mk] at ev ep ⊢
 refine Ze Xs Ms Zax Zrt (by show 3 ≤ _; decide) ?_
 simp +contextual -implicitDefEqProofs (maxSteps := 10^7) only [go_sem, seval, ↓gZ, Zax, ev, ep, er]
 refine ZE Xs Ms (st0 := ?st0) (α := Nat) (fun i => [(9, .d (J (i : Int))), (7, .d (J (Ym ((L.take i).filterMap (JB least)))))]) (fun _ => []) (fun i => i ≤ L.length) (fun i => L.length - i) 0 ?hc (by omega) ?h0 ?step
 case hc => simp +contextual -implicitDefEqProofs (maxSteps := 10^7) only [go_sem, seval, ↓gZ]; exact rfl
 case h0 => rfl
 case step =>
  intro i hi ih
  by_cases hlt : i < L.length
  ·obtain ⟨x, hx⟩ := Zw hlt
   have hw := Zm (k := i) (by omega)
   have hm := ZbE (f := JB least) hx
   have hbx := hbox x (List.mem_of_getElem? hx)
   have ha := ZfV (l := (L.take i).filterMap (JB least)) (fun c hc => by
    obtain ⟨d, hd, hdc⟩ := List.mem_filterMap.1 hc
    unfold JB at hdc
    split at hdc
    ·cases hdc; exact hbox c (List.mem_of_mem_take hd)
    ·cases hdc)
   have hlk : ((L.take i).filterMap (JB least)).length ≤ i := Nat.le_trans (List.length_filterMap_le _ _) (by simp; omega)
   have hax := UX hbx
   obtain ⟨X, Y, W, H⟩ := x
   simp only at hax
   have w0 := wi (W * H) (by omega) (by omega)
   have w1 := wi (Ym ((L.take i).filterMap (JB least)) + W * H) (by omega) (by omega)
   have es := Zc3 X Y W H least
   simp only [JB] at hm
   by_cases ho : W < least ∨ H < least
   ·rw [if_pos ho] at hm
    rw [decide_eq_false (show ¬ (least ≤ W ∧ least ≤ H) by omega)] at es
    simp +contextual -implicitDefEqProofs (maxSteps := 10^7) only [go_sem, seval, ↓gZ, hx, hlt, hw, es, w0, w1]
    refine ih (i + 1) _ (by omega) (by omega) ?_
    simp +contextual -implicitDefEqProofs (maxSteps := 10^7) only [go_sem, seval, ↓gZ, hm, ZcO, Option.toList, Ym]
    first | rfl | (simp; done) | (simp; rfl)
   ·rw [if_neg ho] at hm
    rw [decide_eq_true (show least ≤ W ∧ least ≤ H by omega)] at es
    simp +contextual -implicitDefEqProofs (maxSteps := 10^7) only [go_sem, seval, ↓gZ, hx, hlt, hw, es]
    refine ih (i + 1) _ (by omega) (by omega) ?_
    simp +contextual -implicitDefEqProofs (maxSteps := 10^7) only [go_sem, seval, ↓gZ, hm, Option.toList, List.append_nil]
  ·have : i = L.length := by omega
   subst this
   simp +contextual -implicitDefEqProofs (maxSteps := 10^7) only [go_sem, seval, ↓gZ]
   simp
end Go.Proofs.YtpobhkoombldlaaGreat
