/- Contracts of the functions, by the abstract semantics. -/
import Derived.Test.YtkdjbefmiiibpaaDoorDCode
import Derived.Test.YtkdjbefmiiibpaaDoorAbsParts
import Derived.Test.YtkdjbefmiiibpaaDoorDC2
namespace Go.Proofs.YtkdjbefmiiibpaaDoor
open Go Go.Abs Go.Abs.E Go.Abs.L
open Nat (reduceMul reduceSub reduceLeDiff reduceEqDiff)
open Int (reduceLE reduceEq reduceToNat reduceNeg)
set_option linter.unusedSimpArgs false
set_option linter.unusedVariables false
set_option maxRecDepth 20000
set_option maxHeartbeats 4000000
def num (n : Nat) : List UInt8 := if n < 10 then [UInt8.ofNat (48 + n)] else num (n / 10) ++ [UInt8.ofNat (48 + n % 10)]
termination_by n
decreasing_by omega

def isD (c : UInt8) : Bool := decide (48 ≤ c.toNat ∧ c.toNat ≤ 57)
def val (s : List UInt8) : Nat := s.foldl (fun n c => 10 * n + (c.toNat - 48)) 0

theorem val_snoc (s : List UInt8) (c : UInt8) : val (s ++ [c]) = 10 * val s + (c.toNat - 48) := by simp [val]
theorem toNat_dig {n : Nat} (h : n < 10) : (UInt8.ofNat (48 + n)).toNat = 48 + n := by
  rw [UInt8.toNat_ofNat']; omega
theorem dig_of {c : UInt8} (h : isD c = true) : UInt8.ofNat (48 + (c.toNat - 48)) = c := by
  simp only [isD, decide_eq_true_eq] at h
  apply UInt8.toNat_inj.1
  rw [UInt8.toNat_ofNat']
  omega
theorem num_small {n : Nat} (h : n < 10) : num n = [UInt8.ofNat (48 + n)] := by rw [num, if_pos h]
theorem num_big {n : Nat} (h : ¬ n < 10) : num n = num (n / 10) ++ [UInt8.ofNat (48 + n % 10)] := by rw [num, if_neg h]

theorem num_ne : ∀ n : Nat, num n ≠ [] := fun n => by
  by_cases h : n < 10
  · rw [num_small h]; simp
  · rw [num_big h]; simp

theorem num_dig (n : Nat) : ∀ c ∈ num n, isD c = true := by
  induction n using Nat.strongRecOn with
  | ind n ih =>
    intro c hc
    by_cases h : n < 10
    · rw [num_small h] at hc
      rw [List.mem_singleton] at hc; subst hc
      have := toNat_dig h
      simp only [isD, decide_eq_true_eq]; omega
    · rw [num_big h] at hc
      rcases List.mem_append.1 hc with hc | hc
      · exact ih (n / 10) (by omega) c hc
      · rw [List.mem_singleton] at hc; subst hc
        have := toNat_dig (n := n % 10) (by omega)
        simp only [isD, decide_eq_true_eq]; omega

theorem val_num (n : Nat) : val (num n) = n := by
  induction n using Nat.strongRecOn with
  | ind n ih =>
    by_cases h : n < 10
    · rw [num_small h]
      have := toNat_dig h
      simp only [val, List.foldl_cons, List.foldl_nil]; omega
    · rw [num_big h, val_snoc, ih (n / 10) (by omega), toNat_dig (by omega)]; omega

theorem num_head {n : Nat} (h : 0 < n) : (num n).head? ≠ some 48 := by
  induction n using Nat.strongRecOn with
  | ind n ih =>
    by_cases h1 : n < 10
    · rw [num_small h1]
      simp only [List.head?_cons, ne_eq, Option.some.injEq]
      intro e
      have := toNat_dig h1
      rw [e] at this
      have e48 : (48 : UInt8).toNat = 48 := rfl
      omega
    · rw [num_big h1]
      have := ih (n / 10) (by omega) (by omega)
      cases hn : num (n / 10) with
      | nil => exact absurd hn (num_ne _)
      | cons a r => rw [hn] at this; simpa using this

theorem num_len : ∀ (k n : Nat), n < 10 ^ (k + 1) → (num n).length ≤ k + 1
  | 0, n, h => by rw [num_small (by simpa using h)]; simp
  | k + 1, n, h => by
    by_cases h1 : n < 10
    · rw [num_small h1]; simp
    · rw [num_big h1]
      have := num_len k (n / 10) (Nat.div_lt_of_lt_mul (by rw [Nat.pow_succ, Nat.mul_comm] at h; exact h))
      simp; omega

theorem val_pos : ∀ (s : List UInt8), (∀ c ∈ s, isD c = true) → s ≠ [] → s.head? ≠ some 48 → 0 < val s := by
  intro s
  have key : ∀ (l : List UInt8) (n : Nat), 0 < n → 0 < l.foldl (fun n (c : UInt8) => 10 * n + (c.toNat - 48)) n := by
    intro l
    induction l with
    | nil => intro n h; exact h
    | cons c l ih => intro n h; exact ih (10 * n + (c.toNat - 48)) (by omega)
  cases s with
  | nil => intro _ h; exact absurd rfl h
  | cons c l =>
    intro hd _ hh
    refine key l _ ?_
    have h1 := hd c (by simp)
    simp only [isD, decide_eq_true_eq] at h1
    have h2 : c.toNat ≠ 48 := fun e => hh (by
      have : c = 48 := UInt8.toNat_inj.1 e
      simp [this])
    show 0 < 10 * 0 + (c.toNat - 48)
    omega

theorem snoc_cases {α : Type} (s : List α) : s = [] ∨ ∃ t c, s = t ++ [c] := by
  rcases List.eq_nil_or_concat s with h | ⟨t, c, h⟩
  · exact .inl h
  · exact .inr ⟨t, c, by simpa using h⟩

theorem num_val : ∀ (k : Nat) (s : List UInt8), s.length ≤ k → (∀ c ∈ s, isD c = true) → s ≠ [] → (s.head? ≠ some 48 ∨ s.length = 1) → num (val s) = s
  | 0, s, hk, _, hn, _ => absurd (List.eq_nil_of_length_eq_zero (by omega)) hn
  | k + 1, s, hk, hd, hn, hh => by
    rcases snoc_cases s with h | ⟨t, c, rfl⟩
    · exact absurd h hn
    · rw [val_snoc]
      have hc := hd c (by simp)
      have hc' := hc
      simp only [isD, decide_eq_true_eq] at hc'
      by_cases ht : t = []
      · subst ht
        have e : val [] = 0 := rfl
        rw [e, num_small (by omega)]
        have := dig_of hc
        rw [Nat.mul_zero, Nat.zero_add, this]
        rfl
      · have hdt : ∀ c ∈ t, isD c = true := fun x hx => hd x (by simp [hx])
        have hht : t.head? ≠ some 48 := by
          cases t with
          | nil => exact absurd rfl ht
          | cons a r => rcases hh with hh | hh
                        · simpa using hh
                        · simp at hh
        have hp := val_pos t hdt ht hht
        rw [num_big (by omega)]
        have e1 : (10 * val t + (c.toNat - 48)) / 10 = val t := by omega
        have e2 : (10 * val t + (c.toNat - 48)) % 10 = c.toNat - 48 := by omega
        rw [e1, e2, num_val k t (by simp at hk; omega) hdt ht (.inl hht), dig_of hc]

/-- Is it a number of at most six digits, without leading zeros? -/
def isNum (s : List UInt8) : Prop := s ≠ [] ∧ s.length ≤ 6 ∧ (s.head? ≠ some 48 ∨ s.length = 1) ∧ ∀ c ∈ s, isD c = true
instance (s : List UInt8) : Decidable (isNum s) := by unfold isNum; infer_instance
def rd (s : List UInt8) : Option Nat := if isNum s then some (val s) else none

theorem val_lt : ∀ (k : Nat) (s : List UInt8), s.length ≤ k → (∀ c ∈ s, isD c = true) → val s < 10 ^ k
  | 0, s, h, _ => by
    have : s = [] := List.eq_nil_of_length_eq_zero (by omega)
    subst this; simp [val]
  | k + 1, s, h, hd => by
    rcases snoc_cases s with rfl | ⟨t, c, rfl⟩
    · have : 0 < 10 ^ (k + 1) := Nat.pow_pos (by omega)
      simpa [val] using this
    · rw [val_snoc]
      have := val_lt k t (by simp at h; omega) (fun x hx => hd x (by simp [hx]))
      have hc := hd c (by simp)
      simp only [isD, decide_eq_true_eq] at hc
      rw [Nat.pow_succ]
      generalize 10 ^ k = m at this ⊢
      omega

theorem rd_num {n : Nat} (h : n ≤ 999999) : rd (num n) = some n := by
  have h6 := num_len 5 n (by omega)
  have : isNum (num n) := by
    refine ⟨num_ne n, h6, ?_, num_dig n⟩
    by_cases h0 : n = 0
    · right; subst h0; rw [num_small (by omega)]; rfl
    · left; exact num_head (by omega)
  rw [rd, if_pos this, val_num]

theorem rd_some {s : List UInt8} {n : Nat} (h : rd s = some n) : s = num n ∧ n ≤ 999999 := by
  unfold rd at h
  split at h
  · rename_i hn
    cases h
    obtain ⟨h1, h2, h3, h4⟩ := hn
    have := val_lt 6 s h2 h4
    exact ⟨(num_val s.length s (Nat.le_refl _) h4 h1 h3).symm, by omega⟩
  · cases h

/-! ## Parts of a text -/

def splitL (c : UInt8) : List UInt8 → List (List UInt8)
  | [] => [[]]
  | x :: r => if x = c then [] :: splitL c r else match splitL c r with
    | [] => [[x]]
    | p :: q => (x :: p) :: q

def joinL (c : UInt8) : List (List UInt8) → List UInt8
  | [] => []
  | [x] => x
  | x :: y :: r => x ++ c :: joinL c (y :: r)

theorem splitL_ne (c : UInt8) : ∀ s, splitL c s ≠ []
  | [] => by simp [splitL]
  | x :: r => by
    unfold splitL
    split
    · simp
    · split <;> simp

theorem join_split (c : UInt8) : ∀ s, joinL c (splitL c s) = s
  | [] => rfl
  | x :: r => by
    have ih := join_split c r
    unfold splitL
    split
    · rename_i h
      cases hs : splitL c r with
      | nil => exact absurd hs (splitL_ne c r)
      | cons p q => rw [hs] at ih; simp [joinL, ih, h]
    · split
      · rename_i hs; exact absurd hs (splitL_ne c r)
      · rename_i p q hs
        rw [hs] at ih
        cases q with
        | nil => simp only [joinL] at ih ⊢; rw [ih]
        | cons y q => simp only [joinL, List.cons_append] at ih ⊢; rw [ih]

theorem split_none {c : UInt8} : ∀ {s : List UInt8}, c ∉ s → splitL c s = [s]
  | [], _ => rfl
  | x :: r, h => by
    simp only [List.mem_cons, not_or] at h
    rw [splitL, if_neg (fun e => h.1 e.symm), split_none h.2]

theorem split_cut {c : UInt8} : ∀ {a : List UInt8} {b : List UInt8}, c ∉ a → splitL c (a ++ c :: b) = a :: splitL c b
  | [], b, _ => by simp [splitL]
  | x :: r, b, h => by
    simp only [List.mem_cons, not_or] at h
    rw [List.cons_append, splitL, if_neg (fun e => h.1 e.symm), split_cut h.2]

theorem split_join {c : UInt8} : ∀ {ws : List (List UInt8)}, ws ≠ [] → (∀ w ∈ ws, c ∉ w) → splitL c (joinL c ws) = ws
  | [], h, _ => absurd rfl h
  | [x], _, h => split_none (h x (by simp))
  | x :: y :: r, _, h => by
    rw [joinL, split_cut (h x (by simp)), split_join (by simp) (fun w hw => h w (by simp [hw]))]

/-- The first place of a byte. -/
def idxOfB (c : UInt8) : List UInt8 → Option Nat
  | [] => none
  | x :: r => if x = c then some 0 else (idxOfB c r).map (· + 1)

theorem idx_none {c : UInt8} : ∀ {s : List UInt8}, idxOfB c s = none ↔ c ∉ s
  | [] => by simp [idxOfB]
  | x :: r => by
    unfold idxOfB
    split
    · rename_i h; simp [h]
    · rename_i h; simp [idx_none (s := r), Ne.symm h]

theorem idx_some {c : UInt8} : ∀ {s : List UInt8} {i : Nat}, idxOfB c s = some i → s = s.take i ++ c :: s.drop (i + 1) ∧ c ∉ s.take i ∧ i < s.length
  | [], i, h => by simp [idxOfB] at h
  | x :: r, i, h => by
    unfold idxOfB at h
    split at h
    · rename_i hx; cases h; simp [hx]
    · rename_i hx
      cases hr : idxOfB c r with
      | none => rw [hr] at h; simp at h
      | some j =>
        rw [hr] at h
        simp at h
        subst h
        obtain ⟨h1, h2, h3⟩ := idx_some hr
        refine ⟨?_, ?_, by simp; omega⟩
        · simp only [List.take_succ_cons, List.drop_succ_cons, List.cons_append]; rw [← h1]
        · simp only [List.take_succ_cons, List.mem_cons, not_or]; exact ⟨fun e => hx e.symm, h2⟩

theorem split_idx (c : UInt8) (s : List UInt8) : splitL c s = match idxOfB c s with
    | none => [s]
    | some i => s.take i :: splitL c (s.drop (i + 1)) := by
  cases h : idxOfB c s with
  | none => exact split_none (idx_none.1 h)
  | some i =>
    obtain ⟨h1, h2, _⟩ := idx_some h
    simp only
    rw [h1, split_cut h2, ← h1]



theorem tdiv10 (n : Nat) : ((n : Int)).tdiv 10 = ((n / 10 : Nat) : Int) := by rw [Int.tdiv_eq_ediv_of_nonneg (by omega)]; omega
theorem tmod10 (n : Nat) : ((n : Int)).tmod 10 = ((n % 10 : Nat) : Int) := by rw [Int.tmod_eq_emod_of_nonneg (by omega)]; omega
theorem s_number_ev (n : Nat) : n ≤ 999999999 → vcall Xs Ms n_s_number [(.d (J n))] [] = some (.d (.str (num n)), []) := by
  induction n using Nat.strongRecOn with
  | ind n ih =>
    intro hn
    by_cases h : n < 10
    · rw [num_small h]
      have h' : (n : Int) < 10 := by omega
      have hw : (n : Int) + 1 = ((n + 1 : Nat) : Int) := by omega
      have a3 := wi 3 (by decide) (by decide)
      have a4 := wi 4 (by decide) (by decide)
      have a5 := wi 5 (by decide) (by decide)
      have a6 := wi 6 (by decide) (by decide)
      have a7 := wi 7 (by decide) (by decide)
      have a8 := wi 8 (by decide) (by decide)
      have a9 := wi 9 (by decide) (by decide)
      have a10 := wi 10 (by decide) (by decide)
      refine callE Xs Ms f_s_number x_s_number (by show 1 ≤ _; decide) ?_
      rcases (show n = 0 ∨ n = 1 ∨ n = 2 ∨ n = 3 ∨ n = 4 ∨ n = 5 ∨ n = 6 ∨ n = 7 ∨ n = 8 ∨ n = 9 by omega) with rfl | rfl | rfl | rfl | rfl | rfl | rfl | rfl | rfl | rfl <;> simp +contextual -implicitDefEqProofs (maxSteps := 10^7) only [go_sem, seval, ↓gZ, f_s_number, a3, a4, a5, a6, a7, a8, a9, a10] <;> rfl
    · have hb : num n = num (n / 10) ++ num (n % 10) := by rw [num_big h, num_small (by omega : n % 10 < 10)]
      rw [hb]
      have h' : ¬ (n : Int) < 10 := by omega
      have e1 := ih (n / 10) (by omega) (by omega)
      have e2 := ih (n % 10) (by omega) (by omega)
      have l1 := num_len 8 (n / 10) (by omega)
      have l2 := num_len 8 (n % 10) (by omega)
      have hs : (num (n / 10)).length + (num (n % 10)).length ≤ 1152921504606846976 := by omega
      have w1 := wi (n / 10 : Nat) (by omega) (by omega)
      refine callE Xs Ms f_s_number x_s_number (by show 1 ≤ _; decide) ?_
      simp +contextual -implicitDefEqProofs (maxSteps := 10^7) only [go_sem, seval, ↓gZ, f_s_number, h', tdiv10, tmod10, w1, e1, e2, hs]
theorem dec_num (n : Nat) : Lib.decDigits n = num n := by
  induction n using Nat.strongRecOn with
  | ind n ih =>
    rw [Lib.decDigits, num]
    by_cases h : n < 10
    · rw [dif_pos h, if_pos h]
    · rw [dif_neg h, if_neg h, ih (n / 10) (by omega)]
theorem strconv_Itoa_ev (n : Int) (h0 : 0 ≤ n) (h1 : n ≤ 999999999) : vcall Xs Ms n_strconv_Itoa [(.d (J n))] [] = some (.d (.str (num n.toNat)), []) := by
  refine vcall_prim Xs Ms x_strconv_Itoa ?_
  unfold itoaP
  simp only
  rw [if_pos ⟨h0, by omega⟩, dec_num]
theorem strings_WriteByte_ev (l : List UInt8) (n : Int) (c : UInt8) (hc : (c.toNat : Int) = n) (hl : l.length ≤ 1000000000) : vcall Xs Ms n_strings_Builder_WriteByte [.ptr 0 0, .d (.int .u8 n)] [.box [.bnil 0 TB, .bbuf 5 l]] = some (.nili, [.box [.bnil 0 TB, .bbuf 5 (l ++ [c])]]) := by
  refine vcall_prim Xs Ms x_strings_Builder_WriteByte ?_
  have hlt := c.toNat_lt
  unfold byteP
  simp only
  rw [if_pos ⟨trivial, trivial, by unfold bldMax; omega, by omega, by omega⟩]
  have e : UInt8.ofNat n.toNat = c := by rw [← hc, Int.toNat_natCast, UInt8.ofNat_toNat]
  rw [e]
theorem strings_WriteString_ev (l s : List UInt8) (h0 : 0 < s.length) (hl : l.length + s.length ≤ 1000000000) : vcall Xs Ms n_strings_Builder_WriteString [.ptr 0 0, .d (.str s)] [.box [.bnil 0 TB, .bbuf 5 l]] = some (.tup [(.d (J (s.length))), .nili], [.box [.bnil 0 TB, .bbuf 5 (l ++ s)]]) := by
  refine vcall_prim Xs Ms x_strings_Builder_WriteString ?_
  unfold strP
  simp only
  rw [if_pos ⟨trivial, trivial, by omega, by unfold bldMax; omega⟩]
theorem strings_String_ev (l : List UInt8) : vcall Xs Ms n_strings_Builder_String [.ptr 0 0] [.box [.bnil 0 TB, .bbuf 5 l]] = some (.d (.str l), [.box [.bnil 0 TB, .junk]]) := by
  refine vcall_prim Xs Ms x_strings_Builder_String ?_
  unfold bstrP
  simp only
  rw [if_pos ⟨trivial, trivial⟩]
theorem num_pos (n : Nat) : 0 < (num n).length := List.length_pos_iff.2 (num_ne n)
theorem wu8 (x : Int) (h0 : 0 ≤ x) (h1 : x < 256) : IntKind.u8.wrap x = x := by
  unfold IntKind.wrap; simp [IntKind.bits, IntKind.signed]; omega
theorem rd_of {s : List UInt8} (h : isNum s) : rd s = some (val s) := by unfold rd; rw [if_pos h]
theorem rd_not {s : List UInt8} (h : ¬ isNum s) : rd s = none := by unfold rd; rw [if_neg h]
theorem isD_iff (c : UInt8) : isD c = true ↔ ¬ (c.toNat : Int) < 48 ∧ ¬ (57 : Int) < (c.toNat : Int) := by
  simp only [isD, decide_eq_true_eq]; omega
theorem val_take {s : List UInt8} {k : Nat} {c : UInt8} (h : s[k]? = some c) : val (s.take (k + 1)) = 10 * val (s.take k) + (c.toNat - 48) := by
  obtain ⟨hk, he⟩ := List.getElem?_eq_some_iff.1 h
  rw [List.take_succ_eq_append_getElem hk, val_snoc, he]
def numV : Option Nat → AV
  | some v => .tup [(.d (J ((v : Nat)))), (.d (.bool true))]
  | none => .tup [(.d (J 0)), (.d (.bool false))]
theorem i_readNumber_ev (s : List UInt8) : vcall Xs Ms n_i_readNumber [.d (.str s)] [] = some (numV (rd s), []) := by
  by_cases h0 : s = []
  · subst h0
    rw [rd_not (fun h => h.1 rfl)]
    simp only [numV]
    refine callE Xs Ms f_i_readNumber x_i_readNumber (by show 1 ≤ _; decide) ?_
    simp +contextual -implicitDefEqProofs (maxSteps := 10^7) only [go_sem, seval, ↓gZ, f_i_readNumber]
  by_cases h6 : s.length ≤ 6
  · obtain ⟨x, r, hs⟩ := List.exists_cons_of_ne_nil h0
    have hlen : s.length = r.length + 1 := by rw [hs]; rfl
    have h6' : ¬ (6 : Int) < ((r.length + 1 : Nat) : Int) := by omega
    have hb : (x :: r == []) = false := rfl
    have hx48 : (x.toNat : Int) = 48 ↔ x = 48 := by
      constructor
      · intro h; apply UInt8.toNat_inj.1; simpa using (by omega : x.toNat = 48)
      · rintro rfl; rfl
    by_cases hz : (x.toNat : Int) = 48 ∧ (1 : Int) < ((r.length + 1 : Nat) : Int)
    · rw [rd_not (fun h => by
        rcases h.2.2.1 with h | h
        · rw [hs] at h; exact h (by rw [hx48.1 hz.1]; rfl)
        · omega)]
      simp only [numV]
      obtain ⟨hz1, hz2⟩ := hz
      rw [hs]
      refine callE Xs Ms f_i_readNumber x_i_readNumber (by show 1 ≤ _; decide) ?_
      simp +contextual -implicitDefEqProofs (maxSteps := 10^7) only [go_sem, seval, ↓gZ, f_i_readNumber, h6', hb, hz1, hz2]
    · have hhead : s.head? ≠ some 48 ∨ s.length = 1 := by
        by_cases hl : s.length = 1
        · exact .inr hl
        · refine .inl ?_
          rw [hs]
          intro h
          simp only [List.head?_cons, Option.some.injEq] at h
          exact hz ⟨hx48.2 h, by omega⟩
      generalize hres : numV (rd s) = res
      rw [hs]
      refine callE Xs Ms f_i_readNumber x_i_readNumber (by show 1 ≤ _; decide) ?_
      simp +contextual -implicitDefEqProofs (maxSteps := 10^7) only [go_sem, seval, ↓gZ, f_i_readNumber, h6', hb, hz]
      rw [← hs, show r.length + 1 = s.length by omega]
      refine LW_over Xs Ms (st0 := ?st0) (α := Nat) (fun k => [(25, .d (J (k : Int))), (4, .d (J (val (s.take k) : Nat)))]) (fun _ => []) (fun k => k ≤ s.length ∧ ∀ c ∈ s.take k, isD c = true) (fun k => s.length - k) 0 ?hc (by simp) ?h0 ?step
      case hc => simp +contextual -implicitDefEqProofs (maxSteps := 10^7) only [go_sem, seval, ↓gZ] <;> exact rfl
      case h0 => rfl
      case step =>
        intro k ⟨hk, hd⟩ ih
        have hv := val_lt k (s.take k) (by simp; omega) hd
        have hp : 10 ^ k ≤ 10 ^ 6 := Nat.pow_le_pow_right (by decide) (by omega)
        by_cases hlt : k < s.length
        · obtain ⟨c, hc⟩ : ∃ c, s[k]? = some c := ⟨_, List.getElem?_eq_getElem hlt⟩
          have hlt' : (k : Int) < (s.length : Int) := by omega
          by_cases hD : isD c = true
          · have hD' := (isD_iff c).1 hD
            have hcn : (48 : Int) ≤ c.toNat ∧ (c.toNat : Int) ≤ 57 := by omega
            have w1 := wi (10 * (val (s.take k) : Nat)) (by omega) (by omega)
            have w2 := wu8 ((c.toNat : Int) - 48) (by omega) (by omega)
            have w3 := wi ((c.toNat : Int) - 48) (by omega) (by omega)
            have w4 : IntKind.i64.wrap (10 * (val (s.take k) : Nat) + ((c.toNat : Int) - 48)) = ((val (s.take (k + 1)) : Nat) : Int) := by
              rw [wi _ (by omega) (by omega), val_take hc]; omega
            have w5 := wrap_succ (k := k) (by omega)
            simp +contextual -implicitDefEqProofs (maxSteps := 10^7) only [go_sem, seval, ↓gZ, hlt', hc, hD'.1, hD'.2, w1, w2, w3, w4, w5]
            refine ih (k + 1) _ ⟨by omega, fun d hdm => ?_⟩ (by omega) ?_
            · rw [List.take_succ_eq_append_getElem hlt] at hdm
              rcases List.mem_append.1 hdm with hdm | hdm
              · exact hd d hdm
              · simp only [List.mem_singleton] at hdm
                rw [hdm, ← (List.getElem?_eq_some_iff.1 hc).2] at *
                exact hD
            · simp +contextual -implicitDefEqProofs (maxSteps := 10^7) only [go_sem, seval, ↓gZ]
          · have hno : rd s = none := rd_not fun h => hD (h.2.2.2 c (List.mem_of_getElem? hc))
            rw [hno] at hres
            simp only [numV] at hres
            subst hres
            by_cases hlo : (c.toNat : Int) < 48
            · simp +contextual -implicitDefEqProofs (maxSteps := 10^7) only [go_sem, seval, ↓gZ, hlt', hc, hlo]
            · have hhi : (57 : Int) < (c.toNat : Int) := Classical.byContradiction fun h => hD ((isD_iff c).2 ⟨hlo, h⟩)
              simp +contextual -implicitDefEqProofs (maxSteps := 10^7) only [go_sem, seval, ↓gZ, hlt', hc, hlo, hhi]
        · have hke : k = s.length := by omega
          subst hke
          rw [List.take_length] at hd
          have hyes : rd s = some (val s) := rd_of ⟨h0, h6, hhead, hd⟩
          rw [hyes] at hres
          simp only [numV] at hres
          subst hres
          have ht : s.take s.length = s := List.take_length
          have hge : ¬ (s.length : Int) < (s.length : Int) := by omega
          simp +contextual -implicitDefEqProofs (maxSteps := 10^7) only [go_sem, seval, ↓gZ, ht, hge]
  · have h6' : (6 : Int) < (s.length : Int) := by omega
    have hb : (s == []) = false := by
      cases s with
      | nil => exact absurd rfl h0
      | cons x r => rfl
    rw [rd_not (fun h => h6 h.2.1)]
    simp only [numV]
    refine callE Xs Ms f_i_readNumber x_i_readNumber (by show 1 ≤ _; decide) ?_
    simp +contextual -implicitDefEqProofs (maxSteps := 10^7) only [go_sem, seval, ↓gZ, f_i_readNumber, h6', hb]


def numS (s : List UInt8) : Int := match rd s with
  | some v => (v : Int)
  | none => -1
theorem numS_no {s : List UInt8} (h : rd s = none) : numS s = -1 := by unfold numS; rw [h]
theorem numS_yes {s : List UInt8} {v : Nat} (h : rd s = some v) : numS s = v := by unfold numS; rw [h]
theorem rd_iff {s : List UInt8} {v : Nat} : rd s = some v ↔ s = num v ∧ v ≤ 999999 := ⟨rd_some, fun ⟨h1, h2⟩ => by rw [h1]; exact rd_num h2⟩
theorem val_mono (s : List UInt8) (k : Nat) : val (s.take k) ≤ val s := by
  have key : ∀ (u : List UInt8) (n : Nat), n ≤ u.foldl (fun n c => 10 * n + (c.toNat - 48)) n := by
    intro u
    induction u with
    | nil => intro n; exact Nat.le_refl _
    | cons c u ih => intro n; exact Nat.le_trans (show n ≤ 10 * n + (c.toNat - 48) by omega) (ih _)
  conv => rhs; rw [← List.take_append_drop k s]
  unfold val
  rw [List.foldl_append]
  exact key _ _
theorem s_readNumber_ev (s : List UInt8) (hs : s.length ≤ 1000000) : vcall Xs Ms n_s_readNumber [.d (.str s)] [] = some ((.d (J (numS s))), []) := by
  generalize hres : numS s = res
  refine callE Xs Ms f_s_readNumber x_s_readNumber (by show 1 ≤ _; decide) ?_
  simp +contextual -implicitDefEqProofs (maxSteps := 10^7) only [go_sem, seval, ↓gZ, f_s_readNumber]
  refine LW_over Xs Ms (st0 := ?st0) (α := Nat) (fun k => [(4, .d (J (k : Int))), (3, .d (J (val (s.take k) : Nat)))]) (fun _ => []) (fun k => k ≤ s.length ∧ (∀ c ∈ s.take k, isD c = true) ∧ val (s.take k) ≤ 999999) (fun k => s.length - k) 0 ?hc (by simp [val]) ?h0 ?step
  case hc => simp +contextual -implicitDefEqProofs (maxSteps := 10^7) only [go_sem, seval, ↓gZ] <;> exact rfl
  case h0 => rfl
  case step =>
    intro k ⟨hk, hd, hv⟩ ih
    by_cases hlt : k < s.length
    · obtain ⟨c, hc⟩ : ∃ c, s[k]? = some c := ⟨_, List.getElem?_eq_getElem hlt⟩
      have hlt' : (k : Int) < (s.length : Int) := by omega
      by_cases hD : isD c = true
      · have hD' := (isD_iff c).1 hD
        have w1 := wi (10 * (val (s.take k) : Nat)) (by omega) (by omega)
        have w2 := wu8 ((c.toNat : Int) - 48) (by omega) (by omega)
        have w3 := wi ((c.toNat : Int) - 48) (by omega) (by omega)
        have w4 : IntKind.i64.wrap (10 * (val (s.take k) : Nat) + ((c.toNat : Int) - 48)) = ((val (s.take (k + 1)) : Nat) : Int) := by
          rw [wi _ (by omega) (by omega), val_take hc]; omega
        have w5 := wrap_succ (k := k) (by omega)
        by_cases hbig : val (s.take (k + 1)) ≤ 999999
        · have hb : ¬ (999999 : Int) < ((val (s.take (k + 1)) : Nat) : Int) := by omega
          simp +contextual -implicitDefEqProofs (maxSteps := 10^7) only [go_sem, seval, ↓gZ, hlt', hc, hD'.1, hD'.2, w1, w2, w3, w4, w5, hb]
          refine ih (k + 1) _ ⟨by omega, fun d hdm => ?_, hbig⟩ (by omega) ?_
          · rw [List.take_succ_eq_append_getElem hlt] at hdm
            rcases List.mem_append.1 hdm with hdm | hdm
            · exact hd d hdm
            · simp only [List.mem_singleton] at hdm
              rw [hdm, (List.getElem?_eq_some_iff.1 hc).2]
              exact hD
          · simp +contextual -implicitDefEqProofs (maxSteps := 10^7) only [go_sem, seval, ↓gZ]
        · have hb : (999999 : Int) < ((val (s.take (k + 1)) : Nat) : Int) := by omega
          have hno : rd s = none := by
            cases hr : rd s with
            | none => rfl
            | some v =>
              obtain ⟨h1, h2⟩ := rd_some hr
              have := val_mono s (k + 1)
              rw [h1, val_num] at this
              rw [h1] at hbig
              omega
          rw [numS_no hno] at hres
          subst hres
          simp +contextual -implicitDefEqProofs (maxSteps := 10^7) only [go_sem, seval, ↓gZ, hlt', hc, hD'.1, hD'.2, w1, w2, w3, w4, w5, hb]
      · have hno : rd s = none := by
          cases hr : rd s with
          | none => rfl
          | some v =>
            obtain ⟨h1, h2⟩ := rd_some hr
            rw [h1] at hc
            exact absurd (num_dig v c (List.mem_of_getElem? hc)) hD
        rw [numS_no hno] at hres
        subst hres
        by_cases hlo : (c.toNat : Int) < 48
        · simp +contextual -implicitDefEqProofs (maxSteps := 10^7) only [go_sem, seval, ↓gZ, hlt', hc, hlo]
        · have hhi : (57 : Int) < (c.toNat : Int) := Classical.byContradiction fun h => hD ((isD_iff c).2 ⟨hlo, h⟩)
          simp +contextual -implicitDefEqProofs (maxSteps := 10^7) only [go_sem, seval, ↓gZ, hlt', hc, hlo, hhi]
    · have hke : k = s.length := by omega
      subst hke
      have ht : s.take s.length = s := List.take_length
      rw [ht] at hd hv
      have hge : ¬ (s.length : Int) < (s.length : Int) := by omega
      have e1 := s_number_ev (val s) (by omega)
      by_cases hn : s = []
      · subst hn
        rw [numS_no (rd_not fun h => h.1 rfl)] at hres
        subst hres
        simp +contextual -implicitDefEqProofs (maxSteps := 10^7) only [go_sem, seval, ↓gZ]
      · have hb : (s == []) = false := by
          cases s with
          | nil => exact absurd rfl hn
          | cons x r => rfl
        by_cases heq : s = num (val s)
        · have hne : (s == num (val s)) = true := by rw [beq_iff_eq]; exact heq
          rw [numS_yes (rd_iff.2 ⟨heq, hv⟩)] at hres
          subst hres
          simp +contextual -implicitDefEqProofs (maxSteps := 10^7) only [go_sem, seval, ↓gZ, ht, hge, e1, hb, hne]
        · have hne : (s == num (val s)) = false := by simpa using heq
          have hno : rd s = none := by
            cases hr : rd s with
            | none => rfl
            | some v =>
              obtain ⟨h1, h2⟩ := rd_some hr
              exact absurd (by conv => rhs; rw [h1, val_num]
                               exact h1) heq
          rw [numS_no hno] at hres
          subst hres
          simp +contextual -implicitDefEqProofs (maxSteps := 10^7) only [go_sem, seval, ↓gZ, ht, hge, e1, hb, hne]

end Go.Proofs.YtkdjbefmiiibpaaDoor
