/- Contracts of the functions, by the abstract semantics. -/
import Derived.Test.YtkdjbefmiiibpaaDoorDCode
import Derived.Test.YtkdjbefmiiibpaaDoorAbsParts
import Derived.Test.YtkdjbefmiiibpaaDoorDC3
namespace Go.Proofs.YtkdjbefmiiibpaaDoor
open Go Go.Abs Go.Abs.E Go.Abs.L
open Nat (reduceMul reduceSub reduceLeDiff reduceEqDiff)
open Int (reduceLE reduceEq reduceToNat reduceNeg)
set_option linter.unusedSimpArgs false
set_option linter.unusedVariables false
set_option maxRecDepth 20000
set_option maxHeartbeats 4000000
def turnsW : List UInt8 := [116, 117, 114, 110, 115]
def fixedW : List UInt8 := [102, 105, 120, 101, 100]
def turnW (t : Bool) : List UInt8 := if t then turnsW else fixedW

def wordsOf (l : Line) : List (List UInt8) := [num l.Count.toNat, num l.Pane.W.toNat, num l.Pane.H.toNat, turnW l.Pane.Turns, num l.Pane.Kind.toNat]
def showLn (l : Line) : List UInt8 := joinL 32 (wordsOf l)

def six (n : Int) : Prop := 0 ≤ n ∧ n ≤ 999999
instance (n : Int) : Decidable (six n) := by unfold six; infer_instance
def sixL (l : Line) : Prop := six l.Count ∧ six l.Pane.W ∧ six l.Pane.H ∧ six l.Pane.Kind

def rdLn : List (List UInt8) → Option Line
  | [a, b, c, t, k] => if t = turnsW ∨ t = fixedW then (rd a).bind fun a => (rd b).bind fun b => (rd c).bind fun c => (rd k).bind fun k => some ⟨⟨b, c, decide (t = turnsW), k⟩, a⟩ else none
  | _ => none

theorem num_no {c : UInt8} (hc : isD c = false) (n : Nat) : c ∉ num n := fun h => by rw [num_dig n c h] at hc; cases hc
theorem turnW_no32 (t : Bool) : (32 : UInt8) ∉ turnW t := by cases t <;> decide
theorem turnW_or (t : Bool) : turnW t = turnsW ∨ turnW t = fixedW := by cases t <;> simp [turnW]
theorem turnW_dec (t : Bool) : decide (turnW t = turnsW) = t := by cases t <;> decide
theorem turnW_of {w : List UInt8} (h : w = turnsW ∨ w = fixedW) : turnW (decide (w = turnsW)) = w := by
  rcases h with rfl | rfl
  · simp [turnW]
  · have : ¬ fixedW = turnsW := by decide
    simp [turnW, this]

theorem words_no32 (l : Line) : ∀ w ∈ wordsOf l, (32 : UInt8) ∉ w := by
  intro w hw
  simp only [wordsOf, List.mem_cons, List.not_mem_nil, or_false] at hw
  rcases hw with rfl | rfl | rfl | rfl | rfl
  · exact num_no rfl _
  · exact num_no rfl _
  · exact num_no rfl _
  · exact turnW_no32 _
  · exact num_no rfl _

theorem rdLn_words {l : Line} (h : sixL l) : rdLn (wordsOf l) = some l := by
  obtain ⟨⟨w, h', t, k⟩, c⟩ := l
  obtain ⟨h1, h2, h3, h4⟩ := h
  simp only [six] at h1 h2 h3 h4
  have e1 : ((c.toNat : Nat) : Int) = c := by omega
  have e2 : ((w.toNat : Nat) : Int) = w := by omega
  have e3 : ((h'.toNat : Nat) : Int) = h' := by omega
  have e4 : ((k.toNat : Nat) : Int) = k := by omega
  simp only [wordsOf, rdLn, if_pos (turnW_or t), rd_num (show c.toNat ≤ 999999 by omega), rd_num (show w.toNat ≤ 999999 by omega), rd_num (show h'.toNat ≤ 999999 by omega), rd_num (show k.toNat ≤ 999999 by omega), Option.bind_some, turnW_dec, e1, e2, e3, e4]

theorem rdLn_some {ws : List (List UInt8)} {l : Line} (h : rdLn ws = some l) : ws = wordsOf l ∧ sixL l := by
  unfold rdLn at h
  split at h
  · rename_i a b c t k
    split at h
    · rename_i ht
      simp only [Option.bind_eq_some_iff] at h
      obtain ⟨n1, h1, n2, h2, n3, h3, n4, h4, h⟩ := h
      cases h
      obtain ⟨r1, b1⟩ := rd_some h1
      obtain ⟨r2, b2⟩ := rd_some h2
      obtain ⟨r3, b3⟩ := rd_some h3
      obtain ⟨r4, b4⟩ := rd_some h4
      refine ⟨?_, ?_, ?_, ?_, ?_⟩
      · simp only [wordsOf, Int.toNat_natCast, turnW_of ht]
        rw [r1, r2, r3, r4]
      all_goals (simp only [six]; omega)
    · cases h
  · cases h

theorem rdLn_show {l : Line} (h : sixL l) : rdLn (splitL 32 (showLn l)) = some l := by
  rw [showLn, split_join (by simp [wordsOf]) (words_no32 l), rdLn_words h]

theorem rdLn_split {s : List UInt8} {l : Line} (h : rdLn (splitL 32 s) = some l) : s = showLn l ∧ sixL l := by
  obtain ⟨h1, h2⟩ := rdLn_some h
  exact ⟨by rw [showLn, ← h1, join_split], h2⟩

theorem joinL_no {c d : UInt8} (hd : c ≠ d) : ∀ {ws : List (List UInt8)}, (∀ w ∈ ws, c ∉ w) → c ∉ joinL d ws
  | [], _ => by simp [joinL]
  | [x], h => h x (by simp)
  | x :: y :: r, h => by
    have ih := joinL_no hd (ws := y :: r) fun w hw => h w (by simp [hw])
    have hx := h x (by simp)
    simp only [joinL, List.mem_append, List.mem_cons, not_or]
    exact ⟨hx, hd, ih⟩

theorem turnW_no10 (t : Bool) : (10 : UInt8) ∉ turnW t := by cases t <;> decide
theorem showLn_no10 (l : Line) : (10 : UInt8) ∉ showLn l := by
  refine joinL_no (by decide) fun w hw => ?_
  simp only [wordsOf, List.mem_cons, List.not_mem_nil, or_false] at hw
  rcases hw with rfl | rfl | rfl | rfl | rfl
  · exact num_no rfl _
  · exact num_no rfl _
  · exact num_no rfl _
  · exact turnW_no10 _
  · exact num_no rfl _

/-! ## Texts line by line -/

/-- The texts of things, each with a newline. -/
def linesT {α : Type} (f : α → List UInt8) (l : List α) : List UInt8 := (l.map fun x => f x ++ [10]).flatten

theorem linesT_cons {α : Type} (f : α → List UInt8) (x : α) (l : List α) : linesT f (x :: l) = f x ++ 10 :: linesT f l := by simp [linesT]
theorem linesT_snoc {α : Type} (f : α → List UInt8) (l : List α) (x : α) : linesT f (l ++ [x]) = linesT f l ++ (f x ++ [10]) := by simp [linesT]

theorem split_lines {α : Type} {f : α → List UInt8} : ∀ {l : List α} {s : List UInt8}, (∀ x ∈ l, (10 : UInt8) ∉ f x) → splitL 10 (linesT f l ++ s) = l.map f ++ splitL 10 s
  | [], s, _ => by simp [linesT]
  | x :: l, s, h => by
    rw [linesT_cons, List.append_assoc, List.cons_append, split_cut (h x (by simp)), split_lines (fun y hy => h y (by simp [hy]))]
    simp

def showOrd (l : List Line) : List UInt8 := linesT showLn l

/-- An order read line by line, behind lines that are read. -/
def ordFrom (V : List Line → Prop) [DecidablePred V] : Nat → List Line → List UInt8 → Option (List Line)
  | 0, _, _ => none
  | n + 1, acc, s => if s = [] then (if V acc then some acc else none) else
      match idxOfB 10 s with
      | none => none
      | some i => if acc.length = 8 then none else
        match rdLn (splitL 32 (s.take i)) with
        | none => none
        | some l => ordFrom V n (acc ++ [l]) (s.drop (i + 1))

theorem ordFrom_some {V : List Line → Prop} [DecidablePred V] : ∀ {n : Nat} {acc : List Line} {s : List UInt8} {l : List Line}, ordFrom V n acc s = some l → ∃ r, l = acc ++ r ∧ s = showOrd r ∧ V l ∧ ∀ x ∈ r, sixL x
  | 0, acc, s, l, h => by simp [ordFrom] at h
  | n + 1, acc, s, l, h => by
    simp only [ordFrom] at h
    split at h
    · rename_i hs
      split at h
      · cases h; exact ⟨[], by simp, by rw [hs]; rfl, by assumption, by simp⟩
      · cases h
    · split at h
      · cases h
      · rename_i i hi
        split at h
        · cases h
        · split at h
          · cases h
          · rename_i x hx
            obtain ⟨r, h1, h2, h3, h4⟩ := ordFrom_some h
            obtain ⟨e1, e2⟩ := rdLn_split hx
            obtain ⟨e3, _, _⟩ := idx_some hi
            refine ⟨x :: r, by rw [h1]; simp, ?_, h3, ?_⟩
            · rw [showOrd, linesT_cons, ← showOrd, ← h2, ← e1]; exact e3
            · intro y hy
              rcases List.mem_cons.1 hy with rfl | hy
              · exact e2
              · exact h4 y hy

theorem idx_mid {c : UInt8} : ∀ {a b : List UInt8}, c ∉ a → idxOfB c (a ++ c :: b) = some a.length
  | [], b, _ => by simp [idxOfB]
  | x :: a, b, h => by
    simp only [List.mem_cons, not_or] at h
    simp only [List.cons_append, idxOfB, if_neg (fun e => h.1 (Eq.symm e)), idx_mid h.2, Option.map_some, List.length_cons]

theorem ordFrom_show {V : List Line → Prop} [DecidablePred V] (hV : ∀ l, V l → l.length ≤ 8) : ∀ {n : Nat} {acc r : List Line}, r.length < n → V (acc ++ r) → (∀ x ∈ r, sixL x) → ordFrom V n acc (showOrd r) = some (acc ++ r)
  | 0, acc, r, hn, _, _ => by omega
  | n + 1, acc, [], hn, hv, _ => by
    have hv' : V acc := by simpa using hv
    simp [ordFrom, showOrd, linesT, hv']
  | n + 1, acc, x :: r, hn, hv, hs => by
    have hlen := hV _ hv
    have hne : ¬ showOrd (x :: r) = [] := by rw [showOrd, linesT_cons]; simp
    have hi : idxOfB 10 (showOrd (x :: r)) = some (showLn x).length := by rw [showOrd, linesT_cons]; exact idx_mid (showLn_no10 x)
    have e1 : (showOrd (x :: r)).take (showLn x).length = showLn x := by rw [showOrd, linesT_cons]; simp
    have e2 : (showOrd (x :: r)).drop ((showLn x).length + 1) = showOrd r := by
      rw [showOrd, linesT_cons, ← List.drop_drop]; simp [showOrd]
    have ih := ordFrom_show hV (n := n) (acc := acc ++ [x]) (r := r) (by simp at hn; omega) (by simpa using hv) (fun y hy => hs y (by simp [hy]))
    rw [ordFrom, if_neg hne, hi]
    simp only
    rw [if_neg (by simp at hlen; omega), e1, rdLn_show (hs x (by simp))]
    simp only
    rw [e2, ih]
    simp


def idxI (c : UInt8) (s : List UInt8) : Int := match idxOfB c s with
  | none => -1
  | some i => (i : Int)
theorem idxI_lib (c : UInt8) (s : List UInt8) : Lib.indexByte s c = idxI c s := by
  unfold idxI
  induction s with
  | nil => rfl
  | cons x r ih =>
    simp only [Lib.indexByte, idxOfB, ih]
    by_cases h : x = c
    · simp [h]
    · rw [if_neg h]
      cases idxOfB c r with
      | none => simp [h]
      | some i => simp [h] <;> omega
theorem split_len (c : UInt8) (s : List UInt8) : (splitL c s).length = s.count c + 1 := by
  induction s with
  | nil => rfl
  | cons x r ih =>
    simp only [splitL]
    by_cases h : x = c
    · rw [if_pos h]
      simp [ih, h]
    · rw [if_neg h]
      cases hs : splitL c r with
      | nil => exact absurd hs (splitL_ne c r)
      | cons p q =>
        rw [hs] at ih
        simp only [List.length_cons] at ih ⊢
        rw [List.count_cons_of_ne (fun e => h e)]
        exact ih
theorem strsOf_map (ws : List (List UInt8)) : strsOf (ws.map .str) = some ws := by
  induction ws with
  | nil => rfl
  | cons x r ih => simp only [List.map_cons, strsOf, ih]; rfl
theorem join_lib (c : UInt8) : ∀ ws : List (List UInt8), Lib.join ws [c] = joinL c ws
  | [] => rfl
  | [x] => Lib.join_one x [c]
  | x :: y :: r => by
    have ih := join_lib c (y :: r)
    unfold Lib.join at ih ⊢
    simp only [joinL, ← ih, List.intercalate, List.intersperse, List.flatten_cons, List.append_assoc, List.singleton_append, List.cons_append, List.nil_append]
theorem strings_Join_ev (ws : List (List UInt8)) (c : UInt8) (h0 : 0 < ws.length) (h1 : ws.length ≤ 1000) (h2 : (joinL c ws).length ≤ 1000000) : vcall Xs Ms n_strings_Join [.d (.sl (ws.map .str)), .d (.str [c])] [] = some (.d (.str (joinL c ws)), []) := by
  refine vcall_prim Xs Ms x_strings_Join ?_
  unfold joinP
  simp only
  rw [strsOf_map]
  simp only [bnd_some]
  rw [if_pos ⟨h0, by unfold bldMax; omega, by rw [join_lib]; unfold bldMax; omega⟩, join_lib]
theorem Index_ev (s : List UInt8) (c : UInt8) : vcall Xs Ms n_internal_stringslite_Index [.d (.str s), .d (.str [c])] [] = some ((.d (J (idxI c s))), []) := by
  refine vcall_prim Xs Ms x_internal_stringslite_Index ?_
  unfold idxP
  simp only
  rw [idxI_lib]
theorem strings_Index_ev (s : List UInt8) (c : UInt8) : vcall Xs Ms n_strings_Index [.d (.str s), .d (.str [c])] [] = some ((.d (J (idxI c s))), []) := by
  have e1 := Index_ev s c
  refine callE Xs Ms f_strings_Index x_strings_Index (by show 2 ≤ _; decide) ?_
  simp +contextual -implicitDefEqProofs (maxSteps := 10^7) only [go_sem, seval, ↓gZ, f_strings_Index, e1]
theorem strings_Count_ev (s : List UInt8) (c : UInt8) : vcall Xs Ms n_strings_Count [.d (.str s), .d (.str [c])] [] = some ((.d (J ((s.count c : Nat)))), []) := by
  refine vcall_prim Xs Ms x_strings_Count ?_
  unfold cntP
  simp only [Lib.countByte]
theorem Cut_ev (s : List UInt8) (c : UInt8) (hs : s.length ≤ 1000000) : vcall Xs Ms n_internal_stringslite_Cut [.d (.str s), .d (.str [c])] [] = some (.tup (match idxOfB c s with | none => [.d (.str s), .d (.str []), (.d (.bool false))] | some i => [.d (.str (s.take i)), .d (.str (s.drop (i + 1))), (.d (.bool true))]), []) := by
  have e1 := Index_ev s c
  unfold idxI at e1
  cases h : idxOfB c s with
  | none =>
    rw [h] at e1
    refine callE Xs Ms f_internal_stringslite_Cut x_internal_stringslite_Cut (by show 2 ≤ _; decide) ?_
    simp +contextual -implicitDefEqProofs (maxSteps := 10^7) only [go_sem, seval, ↓gZ, f_internal_stringslite_Cut, e1]
  | some i =>
    obtain ⟨_, _, hi⟩ := idx_some h
    rw [h] at e1
    simp only at e1
    have w := wrap_succ (k := i) (by omega)
    have h1 : ((i + 1 : Nat) : Int) ≤ (s.length : Int) := by omega
    have h2 : (i : Int) ≤ (s.length : Int) := by omega
    refine callE Xs Ms f_internal_stringslite_Cut x_internal_stringslite_Cut (by show 2 ≤ _; decide) ?_
    simp +contextual -implicitDefEqProofs (maxSteps := 10^7) only [go_sem, seval, ↓gZ, f_internal_stringslite_Cut, e1, w, h1, h2, optL, List.nil_append, List.append_nil, List.take_length]
theorem strings_Cut_ev (s : List UInt8) (c : UInt8) (hs : s.length ≤ 1000000) : vcall Xs Ms n_strings_Cut [.d (.str s), .d (.str [c])] [] = some (.tup (match idxOfB c s with | none => [.d (.str s), .d (.str []), (.d (.bool false))] | some i => [.d (.str (s.take i)), .d (.str (s.drop (i + 1))), (.d (.bool true))]), []) := by
  have e1 := Cut_ev s c hs
  cases h : idxOfB c s with
  | none =>
    rw [h] at e1
    refine callE Xs Ms f_strings_Cut x_strings_Cut (by show 2 ≤ _; decide) ?_
    simp +contextual -implicitDefEqProofs (maxSteps := 10^7) only [go_sem, seval, ↓gZ, f_strings_Cut, e1]
  | some i =>
    rw [h] at e1
    refine callE Xs Ms f_strings_Cut x_strings_Cut (by show 2 ≤ _; decide) ?_
    simp +contextual -implicitDefEqProofs (maxSteps := 10^7) only [go_sem, seval, ↓gZ, f_strings_Cut, e1]
theorem set_mid (done : List (List UInt8)) (x y : D) (r : List D) : (done.map D.str ++ x :: r).set done.length y = done.map D.str ++ y :: r := by
  have h := List.set_append_right (s := done.map D.str) (t := x :: r) (i := done.length) y (by simp)
  rw [h]; simp
theorem get_mid (done : List (List UInt8)) (x : D) (r : List D) : (done.map D.str ++ x :: r)[done.length]? = some x := by
  rw [List.getElem?_append_right (by simp)]; simp
theorem setElem_str (a b : List UInt8) : setElem (.str a) 0 [.str b] = .str b := rfl
theorem notSl_str (a : List UInt8) : (D.str a).notSl = true := rfl
theorem cells_str (a : List UInt8) : (D.str a).cells = [.str a] := rfl
theorem genSplit_ev (s : List UInt8) (c : UInt8) (hs : s.length ≤ 1000000) : vcall Xs Ms n_strings_genSplit [.d (.str s), .d (.str [c]), (.d (J 0)), (.d (J (-1)))] [] = some (.ownv 0 0 (splitL c s).length, [.row 1 ((splitL c s).map .str) true false]) := by
  have e1 := strings_Count_ev s c
  have hcl : s.count c ≤ s.length := List.count_le_length
  have w1 := wrap_succ (k := s.count c) (by omega)
  have w2 := wrap_succ (k := s.length) (by omega)
  have hlen := split_len c s
  obtain ⟨n, hn⟩ : ∃ n, s.count c = n := ⟨_, rfl⟩
  rw [hn] at e1 w1 hlen hcl
  have hne : (([c] : List UInt8) == []) = false := rfl
  have hmin : min ((n + 1 : Nat) : Int) ((s.length + 1 : Nat) : Int) = ((n + 1 : Nat) : Int) := by omega
  have w3 : IntKind.i64.wrap (((n + 1 : Nat) : Int) - 1) = (n : Int) := by rw [show ((n + 1 : Nat) : Int) - 1 = n by omega]; exact wi _ (by omega) (by omega)
  have hm1 : ((n + 1 : Nat) : Int) * 16 ≤ 140737488355328 ∧ ((n + 1 : Nat) : Int) ≤ 140737488355328 := by omega
  refine callE Xs Ms f_strings_genSplit x_strings_genSplit (by show 4 ≤ _; decide) ?_
  simp +contextual -implicitDefEqProofs (maxSteps := 10^7) only [go_sem, seval, ↓gZ, f_strings_genSplit, e1, w1, w2, hne, hmin, w3, hm1]
  refine LW_over Xs Ms (st0 := ?st0) (α := List (List UInt8) × List UInt8) (fun a => [(10, .d (J (a.1.length : Nat))), (0, .d (.str a.2))]) (fun a => [(0, .row 1 (a.1.map .str ++ List.replicate (n + 1 - a.1.length) (.str [])) true false)]) (fun a => splitL c s = a.1 ++ splitL c a.2 ∧ a.2.length ≤ s.length) (fun a => n - a.1.length) ([], s) ?hc ⟨rfl, Nat.le_refl _⟩ ?h0 ?step
  case hc => simp +contextual -implicitDefEqProofs (maxSteps := 10^7) only [go_sem, seval, ↓gZ] <;> exact rfl
  case h0 => rfl
  case step =>
    intro ⟨done, rest⟩ ⟨hp, hr⟩ ih
    simp only at hp hr ih ⊢
    have hl2 := split_len c rest
    have hl3 := congrArg List.length hp
    rw [hlen, List.length_append, hl2] at hl3
    by_cases hlt : done.length < n
    · have hlt' : (done.length : Int) < (n : Int) := by omega
      have e2 := strings_Index_ev rest c
      unfold idxI at e2
      have hrep : List.replicate (n + 1 - done.length) (D.str []) = D.str [] :: List.replicate (n - done.length) (D.str []) := by rw [show n + 1 - done.length = (n - done.length) + 1 by omega]; rfl
      rw [hrep]
      cases hi : idxOfB c rest with
      | none =>
        have := split_none (idx_none.1 hi)
        rw [this] at hl2
        simp at hl2
        omega
      | some m =>
        obtain ⟨_, _, hm⟩ := idx_some hi
        rw [hi] at e2
        simp only at e2
        have w := wrap_succ (k := m) (by omega)
        have w' := wrap_succ (k := done.length) (by omega)
        have w0 := wi (m : Int) (by omega) (by omega)
        have h1 : ((m + 1 : Nat) : Int) ≤ (rest.length : Int) := by omega
        have h2 : (m : Int) ≤ (rest.length : Int) := by omega
        have h3 : ¬ (m : Int) < 0 := by omega
        have h4 : done.length < done.length + (n - done.length + 1) := by omega
        have hsp := split_idx c rest
        rw [hi] at hsp
        simp only at hsp
        simp +contextual -implicitDefEqProofs (maxSteps := 10^7) only [go_sem, seval, ↓gZ, hlt', e2, w, w', w0, h1, h2, h3, h4, set_mid, get_mid, setElem_str, notSl_str, cells_str, List.length_cons, List.length_nil, Nat.zero_add, and_self, if_true, bnd_some, Int.add_zero, List.take_length, List.length_replicate]
        refine ih (done ++ [rest.take m], rest.drop (m + 1)) _ ⟨?_, ?_⟩ (by simp; omega) ?_
        · simp only [List.append_assoc, List.singleton_append]
          rw [← hsp]; exact hp
        · simp; omega
        · have hrep2 : n + 1 - (done.length + 1) = n - done.length := by omega
          simp +contextual -implicitDefEqProofs (maxSteps := 10^7) only [go_sem, seval, ↓gZ, List.length_append, List.map_append, List.append_assoc, hrep2]
    · have hi : done.length = n := by omega
      have hr1 : splitL c rest = [rest] := by
        cases hi2 : idxOfB c rest with
        | none => exact split_none (idx_none.1 hi2)
        | some m =>
          obtain ⟨h1, _, hm⟩ := idx_some hi2
          have : c ∈ rest := by rw [h1]; simp
          have := List.count_pos_iff.2 this
          omega
      rw [hr1] at hp
      subst hi
      have w' := wrap_succ (k := done.length) (by omega)
      have hrep : done.length + 1 - done.length = 1 := by omega
      have h5 : done.length < done.length + 1 := by omega
      have h6 : ((done.length + 1 : Nat) : Int) ≤ ((done.length + 1 : Nat) : Int) := Int.le_refl _
      simp +contextual -implicitDefEqProofs (maxSteps := 10^7) only [go_sem, seval, ↓gZ, hrep, w', h5, h6, List.replicate_one, set_mid, get_mid, setElem_str, notSl_str, cells_str, List.length_cons, List.length_nil, Nat.zero_add, and_self, if_true, bnd_some]
      rw [hp]
      simp
theorem strings_Split_ev (s : List UInt8) (c : UInt8) (hs : s.length ≤ 1000000) : vcall Xs Ms n_strings_Split [.d (.str s), .d (.str [c])] [] = some (.ownv 0 0 (splitL c s).length, [.row 1 ((splitL c s).map .str) true false]) := by
  have e1 := genSplit_ev s c hs
  refine callE Xs Ms f_strings_Split x_strings_Split (by show 2 ≤ _; decide) ?_
  simp +contextual -implicitDefEqProofs (maxSteps := 10^7) only [go_sem, seval, ↓gZ, f_strings_Split, e1]
def rdAll : List (List UInt8) → Option (List Int)
  | [] => some []
  | w :: r => (rd w).bind fun v => (rdAll r).bind fun vs => some ((v : Int) :: vs)
def rnV (o : Option (List Int)) : AV × List AObj := match o with
  | none => (.tup [.own 0, (.d (.bool false))], [.row 1 [] true false])
  | some vs => (.tup [.own 0, (.d (.bool true))], [.row 1 (vs.map encI) true false])
theorem rdAll_at {ws : List (List UInt8)} {k : Nat} {x : List UInt8} (hx : ws[k]? = some x) : rdAll (ws.drop k) = (rd x).bind fun v => (rdAll (ws.drop (k + 1))).bind fun vs => some ((v : Int) :: vs) := by
  obtain ⟨h1, h2⟩ := List.getElem?_eq_some_iff.1 hx
  rw [List.drop_eq_getElem_cons h1, h2, rdAll]
theorem i_readNumbers_ev (ws : List (List UInt8)) (hw : ws.length ≤ 1000) : vcall Xs Ms n_i_readNumbers [.d (.sl (ws.map .str))] [] = some (rnV (rdAll ws)) := by
  refine callE Xs Ms f_i_readNumbers x_i_readNumbers (by show 1 ≤ _; decide) ?_
  simp +contextual -implicitDefEqProofs (maxSteps := 10^7) only [go_sem, seval, ↓gZ, f_i_readNumbers]
  refine LW_over Xs Ms (st0 := ?st0) (α := Nat × List Int) (fun a => [(11, .d (J (a.1 : Int)))]) (fun a => [(0, .row 1 (a.2.map encI) true false)]) (fun a => a.1 ≤ ws.length ∧ a.2.length ≤ a.1 ∧ rdAll ws = (rdAll (ws.drop a.1)).map fun r => a.2 ++ r) (fun a => ws.length - a.1) (0, []) ?hc ⟨by simp, by simp, by simp⟩ ?h0 ?step
  case hc => simp +contextual -implicitDefEqProofs (maxSteps := 10^7) only [go_sem, seval, ↓gZ] <;> exact rfl
  case h0 => rfl
  case step =>
    intro ⟨k, vs⟩ ⟨hk, hv, hp⟩ ih
    simp only at hk hv hp ih ⊢
    by_cases hlt : k < ws.length
    · obtain ⟨x, hx⟩ := get_lt hlt
      have hlt' : (k : Int) < (ws.length : Int) := by omega
      have w := wrap_succ (k := k) (by omega)
      have e1 := i_readNumber_ev x
      rw [rdAll_at hx] at hp
      have hroom : (vs.length + 1) * 8 ≤ 140737488355328 ∧ vs.length + 1 ≤ 140737488355328 := by omega
      have hxe : (ws.map D.str)[k]? = some (.str x) := by rw [List.getElem?_map, hx]; rfl
      cases hr : rd x with
      | none =>
        rw [hr] at e1 hp
        simp only [numV] at e1
        simp only [Option.bind_none, Option.map_none] at hp
        rw [hp]
        simp +contextual -implicitDefEqProofs (maxSteps := 10^7) only [go_sem, seval, ↓gZ, hlt', hlt, hxe, hx, w, e1, rnV]
      | some v =>
        rw [hr] at e1 hp
        simp only [numV] at e1
        simp +contextual -implicitDefEqProofs (maxSteps := 10^7) only [go_sem, seval, ↓gZ, hlt', hlt, hxe, hx, w, e1, hroom]
        refine ih (k + 1, vs ++ [(v : Int)]) _ ⟨by omega, by simp; omega, ?_⟩ (by omega) ?_
        · rw [hp]
          cases rdAll (ws.drop (k + 1)) <;> simp
        · simp +contextual -implicitDefEqProofs (maxSteps := 10^7) only [go_sem, seval, ↓gZ, encI, List.map_append, List.map_cons, List.map_nil]
    · have : k = ws.length := by omega
      subst this
      simp only [List.drop_length, rdAll, Option.map_some, List.append_nil] at hp
      rw [hp]
      simp +contextual -implicitDefEqProofs (maxSteps := 10^7) only [go_sem, seval, ↓gZ, rnV]

def rlV (o : Option Line) : AV := match o with
  | none => .tup [.d (.agg [J 0, J 0, .bool false, J 0, J 0]), (.d (.bool false))]
  | some l => .tup [.d l.enc, (.d (.bool true))]
theorem i_readLine_ev (s : List UInt8) (hs : s.length ≤ 1000000) : vcall Xs Ms n_i_readLine [.d (.str s)] [] = some (rlV (rdLn (splitL 32 s)), []) := by
  have e1 := strings_Split_ev s 32 hs
  generalize splitL 32 s = ws at e1
  by_cases h5 : ws.length = 5
  · obtain ⟨a, b, c, t, k, rfl⟩ : ∃ a b c t k, ws = [a, b, c, t, k] := by
      match ws, h5 with
      | [a, b, c, t, k], _ => exact ⟨a, b, c, t, k, rfl⟩
    simp only [List.map_cons, List.map_nil, List.length_cons, List.length_nil, Nat.zero_add, Nat.reduceAdd] at e1
    have key : ∀ tb : Bool, t = turnW tb → vcall Xs Ms n_i_readLine [.d (.str s)] [] = some (rlV (rdLn [a, b, c, t, k]), []) := by
      intro tb ht
      have e2 := i_readNumbers_ev [a, b, c, k] (by simp)
      simp only [List.map_cons, List.map_nil] at e2
      have hor := turnW_or tb
      rw [← ht] at hor
      have hdec := turnW_dec tb
      rw [← ht] at hdec
      have hrl : rdLn [a, b, c, t, k] = match rdAll [a, b, c, k] with
          | some [a, b, c, k] => some ⟨⟨b, c, tb, k⟩, a⟩
          | _ => none := by
        simp only [rdLn, if_pos hor, rdAll, hdec]
        cases rd a <;> cases rd b <;> cases rd c <;> cases rd k <;> rfl
      rw [hrl]
      have h4 : ∀ vs, rdAll [a, b, c, k] = some vs → ∃ x y z u : Int, vs = [x, y, z, u] := by
        intro vs h
        simp only [rdAll, Option.bind_eq_some_iff, Option.some.injEq] at h
        obtain ⟨x, _, _, ⟨y, _, _, ⟨z, _, _, ⟨u, _, _, h1, rfl⟩, rfl⟩, rfl⟩, rfl⟩ := h
        subst h1
        exact ⟨_, _, _, _, rfl⟩
      have q1 : (t == [116, 117, 114, 110, 115]) = tb := by
        rw [ht]; cases tb <;> rfl
      have q2 : (t == [102, 105, 120, 101, 100]) = !tb := by
        rw [ht]; cases tb <;> rfl
      cases hr : rdAll [a, b, c, k] with
      | none =>
        rw [hr] at e2
        simp only [rnV] at e2
        refine callE Xs Ms f_i_readLine x_i_readLine (by show 1 ≤ _; decide) ?_
        cases tb with
        | true => simp +contextual -implicitDefEqProofs (maxSteps := 10^7) only [go_sem, seval, ↓gZ, f_i_readLine, e1, e2, q1, q2, rlV, Bool.not_true]
        | false => simp +contextual -implicitDefEqProofs (maxSteps := 10^7) only [go_sem, seval, ↓gZ, f_i_readLine, e1, e2, q1, q2, rlV, Bool.not_false]
      | some vs =>
        obtain ⟨x, y, z, u, rfl⟩ := h4 vs hr
        rw [hr] at e2
        simp only [rnV, List.map_cons, List.map_nil, encI] at e2
        refine callE Xs Ms f_i_readLine x_i_readLine (by show 1 ≤ _; decide) ?_
        cases tb with
        | true => simp +contextual -implicitDefEqProofs (maxSteps := 10^7) only [go_sem, seval, ↓gZ, f_i_readLine, e1, e2, q1, q2, rlV, Bool.not_true, Line.enc]
        | false => simp +contextual -implicitDefEqProofs (maxSteps := 10^7) only [go_sem, seval, ↓gZ, f_i_readLine, e1, e2, q1, q2, rlV, Bool.not_false, Line.enc]
    by_cases t1 : t = turnsW
    · exact key true t1
    by_cases t2 : t = fixedW
    · exact key false t2
    · have hno : rdLn [a, b, c, t, k] = none := by
        simp only [rdLn]; rw [if_neg (fun h => h.elim t1 t2)]
      rw [hno]
      have q1 : (t == [116, 117, 114, 110, 115]) = false := by simpa [turnsW] using t1
      have q2 : (t == [102, 105, 120, 101, 100]) = false := by simpa [fixedW] using t2
      refine callE Xs Ms f_i_readLine x_i_readLine (by show 1 ≤ _; decide) ?_
      simp +contextual -implicitDefEqProofs (maxSteps := 10^7) only [go_sem, seval, ↓gZ, f_i_readLine, e1, q1, q2, rlV]
  · have hno : rdLn ws = none := by
      unfold rdLn
      split
      · exact absurd rfl h5
      · rfl
    rw [hno]
    have h5' : ¬ (ws.length : Int) = 5 := by omega
    refine callE Xs Ms f_i_readLine x_i_readLine (by show 1 ≤ _; decide) ?_
    simp +contextual -implicitDefEqProofs (maxSteps := 10^7) only [go_sem, seval, ↓gZ, f_i_readLine, e1, h5', rlV]
def poV (o : Option (List Line)) : AV × List AObj := match o with
  | none => (.tup [.own 0, (.d (.bool false))], [.row 5 [] true false])
  | some l => (.tup [.own 0, (.d (.bool true))], [.row 5 (l.map Line.enc) true false])
def prsO (s : List UInt8) : Option (List Line) := ordFrom VOrd (s.length + 1) [] s
theorem i_ParseOrder_ev (s : List UInt8) (hs : s.length ≤ 1000000) : vcall Xs Ms n_i_ParseOrder [.d (.str s)] [] = some (poV (prsO s)) := by
  refine callE Xs Ms f_i_ParseOrder x_i_ParseOrder (by show 1 ≤ _; decide) ?_
  simp +contextual -implicitDefEqProofs (maxSteps := 10^7) only [go_sem, seval, ↓gZ, f_i_ParseOrder]
  refine LW_over Xs Ms (st0 := ?st0) (α := List Line × List UInt8 × Nat) (fun a => [(0, .d (.str a.2.1))]) (fun a => [(0, .row 5 (a.1.map Line.enc) true false)]) (fun a => a.1.length ≤ 8 ∧ a.2.1.length ≤ s.length ∧ a.2.1.length < a.2.2 ∧ ordFrom VOrd a.2.2 a.1 a.2.1 = prsO s) (fun a => a.2.1.length) ([], s, s.length + 1) ?hc ⟨by simp, by simp, by simp, rfl⟩ ?h0 ?step
  case hc => simp +contextual -implicitDefEqProofs (maxSteps := 10^7) only [go_sem, seval, ↓gZ] <;> exact rfl
  case h0 => rfl
  case step =>
    intro ⟨acc, r, n⟩ ⟨ha, hr, hn, hp⟩ ih
    simp only at ha hr hn hp ih ⊢
    match n, hn, hp with
    | n + 1, hn, hp =>
    rw [ordFrom] at hp
    by_cases h0 : r = []
    · subst h0
      rw [if_pos rfl] at hp
      have e1 := i_ValidOrder_ev acc
      by_cases hv : VOrd acc
      · rw [if_pos hv] at hp
        rw [decide_eq_true hv] at e1
        rw [← hp]
        simp +contextual -implicitDefEqProofs (maxSteps := 10^7) only [go_sem, seval, ↓gZ, e1, poV]
      · rw [if_neg hv] at hp
        rw [decide_eq_false hv] at e1
        rw [← hp]
        simp +contextual -implicitDefEqProofs (maxSteps := 10^7) only [go_sem, seval, ↓gZ, e1, poV]
    · rw [if_neg h0] at hp
      have hr0 : (r == []) = false := by cases r with
        | nil => exact absurd rfl h0
        | cons => rfl
      have e2 := strings_Cut_ev r 10 (by omega)
      cases hi : idxOfB 10 r with
      | none =>
        rw [hi] at e2 hp
        simp only at e2 hp
        rw [← hp]
        simp +contextual -implicitDefEqProofs (maxSteps := 10^7) only [go_sem, seval, ↓gZ, hr0, e2, poV]
      | some i =>
        obtain ⟨_, _, him⟩ := idx_some hi
        rw [hi] at e2 hp
        simp only at e2 hp
        by_cases h8 : acc.length = 8
        · rw [if_pos h8] at hp
          have h8' : (acc.length : Int) = 8 := by omega
          rw [← hp]
          simp +contextual -implicitDefEqProofs (maxSteps := 10^7) only [go_sem, seval, ↓gZ, hr0, e2, poV, h8']
        · rw [if_neg h8] at hp
          have h8' : ¬ (acc.length : Int) = 8 := by omega
          have e3 := i_readLine_ev (r.take i) (by simp; omega)
          cases hl : rdLn (splitL 32 (r.take i)) with
          | none =>
            rw [hl] at e3 hp
            simp only [rlV] at e3
            simp only at hp
            rw [← hp]
            simp +contextual -implicitDefEqProofs (maxSteps := 10^7) only [go_sem, seval, ↓gZ, hr0, e2, e3, poV, h8']
          | some l =>
            rw [hl] at e3 hp
            simp only [rlV, Line.enc] at e3
            simp only at hp
            have hroom : (acc.length + 1) * 40 ≤ 140737488355328 ∧ acc.length + 1 ≤ 140737488355328 := by omega
            simp +contextual -implicitDefEqProofs (maxSteps := 10^7) only [go_sem, seval, ↓gZ, hr0, e2, e3, h8', hroom]
            refine ih (acc ++ [l], r.drop (i + 1), n) _ ⟨by simp; omega, by simp; omega, by simp; omega, hp⟩ (by simp; omega) ?_
            simp +contextual -implicitDefEqProofs (maxSteps := 10^7) only [go_sem, seval, ↓gZ, List.map_append, List.map_cons, List.map_nil, Line.enc]

end Go.Proofs.YtkdjbefmiiibpaaDoor
