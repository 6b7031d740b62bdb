/- Contracts of the functions, by the abstract semantics. -/
import Derived.Test.YtkdjbefmiiibpaaDoorBCode
import Derived.Test.YtkdjbefmiiibpaaDoorAbsParts
import Derived.Test.YtkdjbefmiiibpaaDoorBC2
namespace Go.Proofs.YtkdjbefmiiibpaaDoor
open Go Go.Abs Go.Abs.E Go.Abs.L
open Nat (reduceMul reduceSub reduceLeDiff reduceEqDiff)
open Int (reduceLE reduceEq reduceToNat reduceNeg)
set_option linter.unusedSimpArgs false
set_option linter.unusedVariables false
set_option maxRecDepth 20000
set_option maxHeartbeats 4000000





theorem l_equalPlan_same : ∀ (b : BT), vcall Xs Ms n_l_equalPlan [.d b.plan.enc, .d b.plan.enc] [] = some ((.d (.bool true)), [])
  | .waste => by
    have nb : ∀ a b : Bool, binV .neq true (.d (.bool a)) (.d (.bool b)) = only1 (.d (.bool (!(a == b)))) := fun _ _ => rfl
    simp only [BT.plan, Plan.enc_mk]
    refine callE Xs Ms f_l_equalPlan x_l_equalPlan (by show 2 ≤ _; decide) ?_
    simp +contextual -implicitDefEqProofs (maxSteps := 10^7) only [go_sem, seval, ↓gZ, f_l_equalPlan, nb, beq_self_eq_true]
    refine LW_round Xs Ms ?_
    simp +contextual -implicitDefEqProofs (maxSteps := 10^7) only [go_sem, seval, ↓gZ]
  | .pane i t => by
    have nb : ∀ a b : Bool, binV .neq true (.d (.bool a)) (.d (.bool b)) = only1 (.d (.bool (!(a == b)))) := fun _ _ => rfl
    simp only [BT.plan, Plan.enc_mk]
    refine callE Xs Ms f_l_equalPlan x_l_equalPlan (by show 2 ≤ _; decide) ?_
    simp +contextual -implicitDefEqProofs (maxSteps := 10^7) only [go_sem, seval, ↓gZ, f_l_equalPlan, nb, beq_self_eq_true]
    refine LW_round Xs Ms ?_
    simp +contextual -implicitDefEqProofs (maxSteps := 10^7) only [go_sem, seval, ↓gZ]
  | .cut d a l r => by
    have nb : ∀ a b : Bool, binV .neq true (.d (.bool a)) (.d (.bool b)) = only1 (.d (.bool (!(a == b)))) := fun _ _ => rfl
    have e1 := l_equalPlan_same l
    have e2 := l_equalPlan_same r
    have c2 : (1 : Int) < ((2 : Nat) : Int) := by omega
    have c3 : (0 : Int) < ((2 : Nat) : Int) := by omega
    have c4 : ¬ (2 : Int) < ((2 : Nat) : Int) := by omega
    simp only [BT.plan, Plan.enc_mk]
    refine callE Xs Ms f_l_equalPlan x_l_equalPlan (by show 2 ≤ _; decide) ?_
    simp +contextual -implicitDefEqProofs (maxSteps := 10^7) only [go_sem, seval, ↓gZ, f_l_equalPlan, nb, beq_self_eq_true]
    refine LW_round Xs Ms ?_
    simp +contextual -implicitDefEqProofs (maxSteps := 10^7) only [go_sem, seval, ↓gZ, e1, c3]
    refine LW_round Xs Ms ?_
    simp +contextual -implicitDefEqProofs (maxSteps := 10^7) only [go_sem, seval, ↓gZ, e2, c2]
    refine LW_round Xs Ms ?_
    simp +contextual -implicitDefEqProofs (maxSteps := 10^7) only [go_sem, seval, ↓gZ, c4]
def num (n : Nat) : List UInt8 := if n < 10 then [UInt8.ofNat (48 + n)] else num (n / 10) ++ [UInt8.ofNat (48 + n % 10)]
termination_by n
decreasing_by omega

def isD (c : UInt8) : Bool := decide (48 ≤ c.toNat ∧ c.toNat ≤ 57)
def val (s : List UInt8) : Nat := s.foldl (fun n c => 10 * n + (c.toNat - 48)) 0

theorem val_snoc (s : List UInt8) (c : UInt8) : val (s ++ [c]) = 10 * val s + (c.toNat - 48) := by simp [val]
theorem toNat_dig {n : Nat} (h : n < 10) : (UInt8.ofNat (48 + n)).toNat = 48 + n := by
  rw [UInt8.toNat_ofNat']; omega
theorem dig_of {c : UInt8} (h : isD c = true) : UInt8.ofNat (48 + (c.toNat - 48)) = c := by
  simp only [isD, decide_eq_true_eq] at h
  apply UInt8.toNat_inj.1
  rw [UInt8.toNat_ofNat']
  omega
theorem num_small {n : Nat} (h : n < 10) : num n = [UInt8.ofNat (48 + n)] := by rw [num, if_pos h]
theorem num_big {n : Nat} (h : ¬ n < 10) : num n = num (n / 10) ++ [UInt8.ofNat (48 + n % 10)] := by rw [num, if_neg h]

theorem num_ne : ∀ n : Nat, num n ≠ [] := fun n => by
  by_cases h : n < 10
  · rw [num_small h]; simp
  · rw [num_big h]; simp

theorem num_dig (n : Nat) : ∀ c ∈ num n, isD c = true := by
  induction n using Nat.strongRecOn with
  | ind n ih =>
    intro c hc
    by_cases h : n < 10
    · rw [num_small h] at hc
      rw [List.mem_singleton] at hc; subst hc
      have := toNat_dig h
      simp only [isD, decide_eq_true_eq]; omega
    · rw [num_big h] at hc
      rcases List.mem_append.1 hc with hc | hc
      · exact ih (n / 10) (by omega) c hc
      · rw [List.mem_singleton] at hc; subst hc
        have := toNat_dig (n := n % 10) (by omega)
        simp only [isD, decide_eq_true_eq]; omega

theorem val_num (n : Nat) : val (num n) = n := by
  induction n using Nat.strongRecOn with
  | ind n ih =>
    by_cases h : n < 10
    · rw [num_small h]
      have := toNat_dig h
      simp only [val, List.foldl_cons, List.foldl_nil]; omega
    · rw [num_big h, val_snoc, ih (n / 10) (by omega), toNat_dig (by omega)]; omega

theorem num_head {n : Nat} (h : 0 < n) : (num n).head? ≠ some 48 := by
  induction n using Nat.strongRecOn with
  | ind n ih =>
    by_cases h1 : n < 10
    · rw [num_small h1]
      simp only [List.head?_cons, ne_eq, Option.some.injEq]
      intro e
      have := toNat_dig h1
      rw [e] at this
      have e48 : (48 : UInt8).toNat = 48 := rfl
      omega
    · rw [num_big h1]
      have := ih (n / 10) (by omega) (by omega)
      cases hn : num (n / 10) with
      | nil => exact absurd hn (num_ne _)
      | cons a r => rw [hn] at this; simpa using this

theorem num_len : ∀ (k n : Nat), n < 10 ^ (k + 1) → (num n).length ≤ k + 1
  | 0, n, h => by rw [num_small (by simpa using h)]; simp
  | k + 1, n, h => by
    by_cases h1 : n < 10
    · rw [num_small h1]; simp
    · rw [num_big h1]
      have := num_len k (n / 10) (Nat.div_lt_of_lt_mul (by rw [Nat.pow_succ, Nat.mul_comm] at h; exact h))
      simp; omega

theorem val_pos : ∀ (s : List UInt8), (∀ c ∈ s, isD c = true) → s ≠ [] → s.head? ≠ some 48 → 0 < val s := by
  intro s
  have key : ∀ (l : List UInt8) (n : Nat), 0 < n → 0 < l.foldl (fun n (c : UInt8) => 10 * n + (c.toNat - 48)) n := by
    intro l
    induction l with
    | nil => intro n h; exact h
    | cons c l ih => intro n h; exact ih (10 * n + (c.toNat - 48)) (by omega)
  cases s with
  | nil => intro _ h; exact absurd rfl h
  | cons c l =>
    intro hd _ hh
    refine key l _ ?_
    have h1 := hd c (by simp)
    simp only [isD, decide_eq_true_eq] at h1
    have h2 : c.toNat ≠ 48 := fun e => hh (by
      have : c = 48 := UInt8.toNat_inj.1 e
      simp [this])
    show 0 < 10 * 0 + (c.toNat - 48)
    omega

theorem snoc_cases {α : Type} (s : List α) : s = [] ∨ ∃ t c, s = t ++ [c] := by
  rcases List.eq_nil_or_concat s with h | ⟨t, c, h⟩
  · exact .inl h
  · exact .inr ⟨t, c, by simpa using h⟩

theorem num_val : ∀ (k : Nat) (s : List UInt8), s.length ≤ k → (∀ c ∈ s, isD c = true) → s ≠ [] → (s.head? ≠ some 48 ∨ s.length = 1) → num (val s) = s
  | 0, s, hk, _, hn, _ => absurd (List.eq_nil_of_length_eq_zero (by omega)) hn
  | k + 1, s, hk, hd, hn, hh => by
    rcases snoc_cases s with h | ⟨t, c, rfl⟩
    · exact absurd h hn
    · rw [val_snoc]
      have hc := hd c (by simp)
      have hc' := hc
      simp only [isD, decide_eq_true_eq] at hc'
      by_cases ht : t = []
      · subst ht
        have e : val [] = 0 := rfl
        rw [e, num_small (by omega)]
        have := dig_of hc
        rw [Nat.mul_zero, Nat.zero_add, this]
        rfl
      · have hdt : ∀ c ∈ t, isD c = true := fun x hx => hd x (by simp [hx])
        have hht : t.head? ≠ some 48 := by
          cases t with
          | nil => exact absurd rfl ht
          | cons a r => rcases hh with hh | hh
                        · simpa using hh
                        · simp at hh
        have hp := val_pos t hdt ht hht
        rw [num_big (by omega)]
        have e1 : (10 * val t + (c.toNat - 48)) / 10 = val t := by omega
        have e2 : (10 * val t + (c.toNat - 48)) % 10 = c.toNat - 48 := by omega
        rw [e1, e2, num_val k t (by simp at hk; omega) hdt ht (.inl hht), dig_of hc]

/-- Is it a number of at most six digits, without leading zeros? -/
def isNum (s : List UInt8) : Prop := s ≠ [] ∧ s.length ≤ 6 ∧ (s.head? ≠ some 48 ∨ s.length = 1) ∧ ∀ c ∈ s, isD c = true
instance (s : List UInt8) : Decidable (isNum s) := by unfold isNum; infer_instance
def rd (s : List UInt8) : Option Nat := if isNum s then some (val s) else none

theorem val_lt : ∀ (k : Nat) (s : List UInt8), s.length ≤ k → (∀ c ∈ s, isD c = true) → val s < 10 ^ k
  | 0, s, h, _ => by
    have : s = [] := List.eq_nil_of_length_eq_zero (by omega)
    subst this; simp [val]
  | k + 1, s, h, hd => by
    rcases snoc_cases s with rfl | ⟨t, c, rfl⟩
    · have : 0 < 10 ^ (k + 1) := Nat.pow_pos (by omega)
      simpa [val] using this
    · rw [val_snoc]
      have := val_lt k t (by simp at h; omega) (fun x hx => hd x (by simp [hx]))
      have hc := hd c (by simp)
      simp only [isD, decide_eq_true_eq] at hc
      rw [Nat.pow_succ]
      generalize 10 ^ k = m at this ⊢
      omega

theorem rd_num {n : Nat} (h : n ≤ 999999) : rd (num n) = some n := by
  have h6 := num_len 5 n (by omega)
  have : isNum (num n) := by
    refine ⟨num_ne n, h6, ?_, num_dig n⟩
    by_cases h0 : n = 0
    · right; subst h0; rw [num_small (by omega)]; rfl
    · left; exact num_head (by omega)
  rw [rd, if_pos this, val_num]

theorem rd_some {s : List UInt8} {n : Nat} (h : rd s = some n) : s = num n ∧ n ≤ 999999 := by
  unfold rd at h
  split at h
  · rename_i hn
    cases h
    obtain ⟨h1, h2, h3, h4⟩ := hn
    have := val_lt 6 s h2 h4
    exact ⟨(num_val s.length s (Nat.le_refl _) h4 h1 h3).symm, by omega⟩
  · cases h

/-! ## Parts of a text -/

def shw : BT → List UInt8
  | .waste => [119]
  | .pane i t => (if t then 116 else 112) :: num i.toNat
  | .cut d a l r => (if d then 100 else 97) :: (num a.toNat ++ 40 :: (shw l ++ 44 :: (shw r ++ [41])))

/-- All numbers can be written. -/
def cntb : BT → Bool
  | .waste => true
  | .pane i _ => decide (0 ≤ i ∧ i ≤ 24)
  | .cut _ a l r => decide (0 ≤ a ∧ a ≤ 200) && cntb l && cntb r

/-- All numbers have at most six digits. -/
def sixd : BT → Bool
  | .waste => true
  | .pane i _ => decide (0 ≤ i ∧ i ≤ 999999)
  | .cut _ a l r => decide (0 ≤ a ∧ a ≤ 999999) && sixd l && sixd r

theorem sixd_of_cntb : ∀ b : BT, cntb b = true → sixd b = true
  | .waste, _ => rfl
  | .pane i t, h => by simp only [cntb, sixd, decide_eq_true_eq] at h ⊢; omega
  | .cut d a l r, h => by
    simp only [cntb, sixd, Bool.and_eq_true, decide_eq_true_eq] at h ⊢
    exact ⟨⟨by omega, sixd_of_cntb l h.1.2⟩, sixd_of_cntb r h.2⟩

def expect (x : UInt8) : List UInt8 → Option (List UInt8)
  | y :: r => if y = x then some r else none
  | [] => none

def tkCut (d : Bool) (v : Nat) (rec : List UInt8 → Option (BT × List UInt8)) (r : List UInt8) : Option (BT × List UInt8) :=
  (expect 40 r).bind fun r1 => (rec r1).bind fun p => (expect 44 p.2).bind fun r3 => (rec r3).bind fun q => (expect 41 q.2).bind fun r5 => some (.cut d v p.1 q.1, r5)

def tkLet (c : UInt8) (v : Nat) (rec : List UInt8 → Option (BT × List UInt8)) (r : List UInt8) : Option (BT × List UInt8) :=
  if c = 112 then some (.pane v false, r) else if c = 116 then some (.pane v true, r) else if c = 100 then tkCut true v rec r else if c = 97 then tkCut false v rec r else none

/-- The plan at the beginning of a text. -/
def tk : Nat → List UInt8 → Option (BT × List UInt8)
  | 0, _ => none
  | _ + 1, [] => none
  | n + 1, c :: s => if c = 119 then some (.waste, s) else (rd (s.takeWhile isD)).bind fun v => tkLet c v (tk n) (s.dropWhile isD)

theorem expect_some {x : UInt8} {s r : List UInt8} (h : expect x s = some r) : s = x :: r := by
  cases s with
  | nil => simp [expect] at h
  | cons y t => simp only [expect] at h; split at h <;> simp_all

theorem rd_take {s : List UInt8} {v : Nat} (h : rd (s.takeWhile isD) = some v) : s = num v ++ s.dropWhile isD ∧ v ≤ 999999 := by
  obtain ⟨h1, h2⟩ := rd_some h
  exact ⟨by rw [← h1, List.takeWhile_append_dropWhile], h2⟩

theorem tkCut_sound {d : Bool} {v : Nat} {rec : List UInt8 → Option (BT × List UInt8)} (hrec : ∀ s b r, rec s = some (b, r) → s = shw b ++ r ∧ sixd b = true) (hv : v ≤ 999999) {r : List UInt8} {b : BT} {t : List UInt8} (h : tkCut d v rec r = some (b, t)) :
    ∃ x y, b = .cut d v x y ∧ r = 40 :: (shw x ++ 44 :: (shw y ++ 41 :: t)) ∧ sixd b = true := by
  unfold tkCut at h
  simp only [Option.bind_eq_some_iff] at h
  obtain ⟨r1, h1, ⟨x, r2⟩, h2, r3, h3, ⟨y, r4⟩, h4, r5, h5, h6⟩ := h
  simp only [Option.some.injEq, Prod.mk.injEq] at h6
  obtain ⟨rfl, rfl⟩ := h6
  obtain ⟨e2, s2⟩ := hrec _ _ _ h2
  obtain ⟨e4, s4⟩ := hrec _ _ _ h4
  have e1 := expect_some h1
  have e3 := expect_some h3
  have e5 := expect_some h5
  refine ⟨x, y, rfl, ?_, ?_⟩
  · simp only at e3 e5
    rw [e1, e2, e3, e4, e5]
  · simp only [sixd, s2, s4, Bool.and_true, decide_eq_true_eq]; omega

theorem tk_sound : ∀ (n : Nat) (s : List UInt8) (b : BT) (r : List UInt8), tk n s = some (b, r) → s = shw b ++ r ∧ sixd b = true
  | 0, s, b, r, h => by simp [tk] at h
  | n + 1, [], b, r, h => by simp [tk] at h
  | n + 1, c :: s, b, r, h => by
    simp only [tk] at h
    split at h
    · rename_i hc
      cases h
      exact ⟨by simp [shw, hc], rfl⟩
    · simp only [Option.bind_eq_some_iff] at h
      obtain ⟨v, h1, h⟩ := h
      obtain ⟨e1, hv⟩ := rd_take h1
      unfold tkLet at h
      split at h
      · rename_i hc
        cases h
        refine ⟨?_, by simp only [sixd, decide_eq_true_eq]; omega⟩
        simp only [shw, Int.toNat_natCast, Bool.false_eq_true, if_false, List.cons_append]
        rw [← e1, hc]
      · split at h
        · rename_i hc
          cases h
          refine ⟨?_, by simp only [sixd, decide_eq_true_eq]; omega⟩
          simp only [shw, Int.toNat_natCast, if_true, List.cons_append]
          rw [← e1, hc]
        · split at h
          · rename_i hc
            obtain ⟨x, y, rfl, e2, hs⟩ := tkCut_sound (tk_sound n) hv h
            refine ⟨?_, hs⟩
            rw [e1, e2, hc]
            simp [shw, Int.toNat_natCast]
          · split at h
            · rename_i hc
              obtain ⟨x, y, rfl, e2, hs⟩ := tkCut_sound (tk_sound n) hv h
              refine ⟨?_, hs⟩
              rw [e1, e2, hc]
              simp [shw, Int.toNat_natCast]
            · cases h

/-- What does not begin with a digit. -/
def noDig (r : List UInt8) : Prop := ∀ c t, r = c :: t → isD c = false

theorem take_num (v : Nat) {r : List UInt8} (h : noDig r) : (num v ++ r).takeWhile isD = num v ∧ (num v ++ r).dropWhile isD = r := by
  have key : ∀ l : List UInt8, (∀ c ∈ l, isD c = true) → (l ++ r).takeWhile isD = l ∧ (l ++ r).dropWhile isD = r := by
    intro l
    induction l with
    | nil =>
      intro _
      cases r with
      | nil => simp
      | cons c t => have := h c t rfl; simp [this]
    | cons c l ih =>
      intro hl
      have := ih (fun x hx => hl x (by simp [hx]))
      simp only [List.cons_append, List.takeWhile_cons, List.dropWhile_cons, hl c (by simp), if_true, this.1, this.2, and_self]
  exact key _ (num_dig v)

theorem shw_len (b : BT) : 1 ≤ (shw b).length := by cases b <;> simp [shw]

theorem tk_complete : ∀ (n : Nat) (b : BT) (r : List UInt8), (shw b).length ≤ n → sixd b = true → noDig r → tk n (shw b ++ r) = some (b, r)
  | 0, b, r, hn, _, _ => by have := shw_len b; omega
  | n + 1, .waste, r, _, _, _ => by simp [shw, tk]
  | n + 1, .pane i t, r, hn, hs, hr => by
    simp only [sixd, decide_eq_true_eq] at hs
    obtain ⟨h1, h2⟩ := take_num i.toNat hr
    have hi : ((i.toNat : Nat) : Int) = i := by omega
    have hrd := rd_num (n := i.toNat) (by omega)
    cases t
    · simp [shw, tk, tkLet, h1, h2, hrd, hi]
    · simp [shw, tk, tkLet, h1, h2, hrd, hi]
  | n + 1, .cut d a x y, r, hn, hs, hr => by
    simp only [sixd, Bool.and_eq_true, decide_eq_true_eq] at hs
    obtain ⟨⟨ha, hx⟩, hy⟩ := hs
    simp only [shw, List.length_cons, List.length_append, List.length_nil] at hn
    have hrd := rd_num (n := a.toNat) (by omega)
    have hi : ((a.toNat : Nat) : Int) = a := by omega
    have e2 := tk_complete n y (41 :: r) (by omega) hy (fun c t e => by cases e; rfl)
    have e1 := tk_complete n x (44 :: (shw y ++ 41 :: r)) (by omega) hx (fun c t e => by cases e; rfl)
    obtain ⟨h1, h2⟩ := take_num a.toNat (r := 40 :: (shw x ++ 44 :: (shw y ++ 41 :: r))) (fun c t e => by cases e; rfl)
    have hcut : tkCut d a.toNat (tk n) (40 :: (shw x ++ 44 :: (shw y ++ 41 :: r))) = some (.cut d a x y, r) := by
      simp [tkCut, expect, e1, e2, hi]
    have e : shw (.cut d a x y) ++ r = (if d then 100 else 97) :: (num a.toNat ++ 40 :: (shw x ++ 44 :: (shw y ++ 41 :: r))) := by simp [shw]
    rw [e, tk]
    cases d
    · rw [if_neg (by decide), h1, hrd, h2]
      simp only [Option.bind_some, tkLet]
      rw [if_neg (by decide), if_neg (by decide), if_neg (by decide), if_pos (by decide), hcut]
    · rw [if_neg (by decide), h1, hrd, h2]
      simp only [Option.bind_some, tkLet]
      rw [if_neg (by decide), if_neg (by decide), if_pos (by decide), hcut]

/-- The plan of a text. -/
def parseB (s : List UInt8) : Option BT := match tk s.length s with
  | some (b, []) => if b.cnt ≤ 255 ∧ cntb b = true then some b else none
  | _ => none

theorem parseB_some {s : List UInt8} {b : BT} : parseB s = some b ↔ s = shw b ∧ b.cnt ≤ 255 ∧ cntb b = true := by
  unfold parseB
  constructor
  · intro h
    split at h
    · rename_i b' h1
      split at h
      · rename_i hc
        cases h
        obtain ⟨e, _⟩ := tk_sound _ _ _ _ h1
        exact ⟨by simpa using e, hc⟩
      · cases h
    · cases h
  · rintro ⟨rfl, hc⟩
    have := tk_complete (shw b).length b [] (Nat.le_refl _) (sixd_of_cntb b hc.2) (fun c t e => by cases e)
    rw [List.append_nil] at this
    rw [this]
    simp [hc]

theorem bt_mk (b : BT) : ∃ o a q t ks, b.plan = .mk o a q t ks := by cases b.plan; exact ⟨_, _, _, _, _, rfl⟩
theorem tdiv10 (n : Nat) : ((n : Int)).tdiv 10 = ((n / 10 : Nat) : Int) := by rw [Int.tdiv_eq_ediv_of_nonneg (by omega)]; omega
theorem tmod10 (n : Nat) : ((n : Int)).tmod 10 = ((n % 10 : Nat) : Int) := by rw [Int.tmod_eq_emod_of_nonneg (by omega)]; omega
theorem s_number_ev (n : Nat) : n ≤ 999999999 → vcall Xs Ms n_s_number [(.d (J n))] [] = some (.d (.str (num n)), []) := by
  induction n using Nat.strongRecOn with
  | ind n ih =>
    intro hn
    by_cases h : n < 10
    · rw [num_small h]
      have h' : (n : Int) < 10 := by omega
      have hw : (n : Int) + 1 = ((n + 1 : Nat) : Int) := by omega
      have a3 := wi 3 (by decide) (by decide)
      have a4 := wi 4 (by decide) (by decide)
      have a5 := wi 5 (by decide) (by decide)
      have a6 := wi 6 (by decide) (by decide)
      have a7 := wi 7 (by decide) (by decide)
      have a8 := wi 8 (by decide) (by decide)
      have a9 := wi 9 (by decide) (by decide)
      have a10 := wi 10 (by decide) (by decide)
      refine callE Xs Ms f_s_number x_s_number (by show 1 ≤ _; decide) ?_
      rcases (show n = 0 ∨ n = 1 ∨ n = 2 ∨ n = 3 ∨ n = 4 ∨ n = 5 ∨ n = 6 ∨ n = 7 ∨ n = 8 ∨ n = 9 by omega) with rfl | rfl | rfl | rfl | rfl | rfl | rfl | rfl | rfl | rfl <;> simp +contextual -implicitDefEqProofs (maxSteps := 10^7) only [go_sem, seval, ↓gZ, f_s_number, a3, a4, a5, a6, a7, a8, a9, a10] <;> rfl
    · have hb : num n = num (n / 10) ++ num (n % 10) := by rw [num_big h, num_small (by omega : n % 10 < 10)]
      rw [hb]
      have h' : ¬ (n : Int) < 10 := by omega
      have e1 := ih (n / 10) (by omega) (by omega)
      have e2 := ih (n % 10) (by omega) (by omega)
      have l1 := num_len 8 (n / 10) (by omega)
      have l2 := num_len 8 (n % 10) (by omega)
      have hs : (num (n / 10)).length + (num (n % 10)).length ≤ 1152921504606846976 := by omega
      have w1 := wi (n / 10 : Nat) (by omega) (by omega)
      refine callE Xs Ms f_s_number x_s_number (by show 1 ≤ _; decide) ?_
      simp +contextual -implicitDefEqProofs (maxSteps := 10^7) only [go_sem, seval, ↓gZ, f_s_number, h', tdiv10, tmod10, w1, e1, e2, hs]
theorem s_countable_ev : ∀ b : BT, vcall Xs Ms n_s_countable [.d b.plan.enc] [] = some ((.d (.bool (cntb b))), [])
  | .waste => by
    simp only [BT.plan, cntb]
    refine callE Xs Ms f_s_countable x_s_countable (by show 1 ≤ _; decide) ?_
    simp +contextual -implicitDefEqProofs (maxSteps := 10^7) only [go_sem, seval, ↓gZ, f_s_countable, s_inRange_ev]
    refine LW_round Xs Ms ?_
    simp +contextual -implicitDefEqProofs (maxSteps := 10^7) only [go_sem, seval, ↓gZ, s_inRange_ev]
  | .pane i t => by
    simp only [BT.plan, cntb]
    refine callE Xs Ms f_s_countable x_s_countable (by show 1 ≤ _; decide) ?_
    simp +contextual -implicitDefEqProofs (maxSteps := 10^7) only [go_sem, seval, ↓gZ, f_s_countable, s_inRange_ev]
    refine LW_round Xs Ms ?_
    simp +contextual -implicitDefEqProofs (maxSteps := 10^7) only [go_sem, seval, ↓gZ, s_inRange_ev]
  | .cut d a l r => by
    have e1 := s_countable_ev l
    have e2 := s_countable_ev r
    simp only [BT.plan, cntb]
    refine callE Xs Ms f_s_countable x_s_countable (by show 1 ≤ _; decide) ?_
    simp +contextual -implicitDefEqProofs (maxSteps := 10^7) only [go_sem, seval, ↓gZ, f_s_countable, s_inRange_ev]
    refine LW_round Xs Ms ?_
    cases hl : cntb l with
    | false =>
      rw [hl] at e1
      simp +contextual -implicitDefEqProofs (maxSteps := 10^7) only [go_sem, seval, ↓gZ, e1]
    | true =>
      rw [hl] at e1
      simp +contextual -implicitDefEqProofs (maxSteps := 10^7) only [go_sem, seval, ↓gZ, e1]
      refine LW_round Xs Ms ?_
      cases hr : cntb r with
      | false =>
        rw [hr] at e2
        simp +contextual -implicitDefEqProofs (maxSteps := 10^7) only [go_sem, seval, ↓gZ, e2]
      | true =>
        rw [hr] at e2
        simp +contextual -implicitDefEqProofs (maxSteps := 10^7) only [go_sem, seval, ↓gZ, e2]
        refine LW_round Xs Ms ?_
        simp +contextual -implicitDefEqProofs (maxSteps := 10^7) only [go_sem, seval, ↓gZ, s_inRange_ev]
theorem i_numbersFit_ev : ∀ b : BT, vcall Xs Ms n_i_numbersFit [.d b.plan.enc] [] = some ((.d (.bool (cntb b))), [])
  | .waste => by
    simp only [BT.plan, cntb]
    refine callE Xs Ms f_i_numbersFit x_i_numbersFit (by show 1 ≤ _; decide) ?_
    simp +contextual -implicitDefEqProofs (maxSteps := 10^7) only [go_sem, seval, ↓gZ, f_i_numbersFit]
    refine LW_round Xs Ms ?_
    simp +contextual -implicitDefEqProofs (maxSteps := 10^7) only [go_sem, seval, ↓gZ]
  | .pane i t => by
    simp only [BT.plan, cntb]
    refine callE Xs Ms f_i_numbersFit x_i_numbersFit (by show 1 ≤ _; decide) ?_
    by_cases h1 : i < 0
    · have h1' : ¬ 0 ≤ i := by omega
      simp +contextual -implicitDefEqProofs (maxSteps := 10^7) only [go_sem, seval, ↓gZ, f_i_numbersFit, h1, h1']
    · have h1' : 0 ≤ i := by omega
      by_cases h2 : i > 24
      · have h2' : ¬ i ≤ 24 := by omega
        simp +contextual -implicitDefEqProofs (maxSteps := 10^7) only [go_sem, seval, ↓gZ, f_i_numbersFit, h1, h1', h2, h2']
      · have h2' : i ≤ 24 := by omega
        simp +contextual -implicitDefEqProofs (maxSteps := 10^7) only [go_sem, seval, ↓gZ, f_i_numbersFit, h1, h1', h2, h2']
        refine LW_round Xs Ms ?_
        simp +contextual -implicitDefEqProofs (maxSteps := 10^7) only [go_sem, seval, ↓gZ]
  | .cut d a l r => by
    have e1 := i_numbersFit_ev l
    have e2 := i_numbersFit_ev r
    obtain ⟨o1, a1, q1, t1, k1, hk1⟩ := bt_mk l
    obtain ⟨o2, a2, q2, t2, k2, hk2⟩ := bt_mk r
    rw [hk1, Plan.enc_mk] at e1
    rw [hk2, Plan.enc_mk] at e2
    simp only [BT.plan, cntb, hk1, hk2]
    refine callE Xs Ms f_i_numbersFit x_i_numbersFit (by show 1 ≤ _; decide) ?_
    by_cases h1 : a < 0
    · have h1' : ¬ 0 ≤ a := by omega
      simp +contextual -implicitDefEqProofs (maxSteps := 10^7) only [go_sem, seval, ↓gZ, f_i_numbersFit, h1, h1']
    · have h1' : 0 ≤ a := by omega
      by_cases h2 : a > 200
      · have h2' : ¬ a ≤ 200 := by omega
        simp +contextual -implicitDefEqProofs (maxSteps := 10^7) only [go_sem, seval, ↓gZ, f_i_numbersFit, h1, h1', h2, h2']
      · have h2' : a ≤ 200 := by omega
        simp +contextual -implicitDefEqProofs (maxSteps := 10^7) only [go_sem, seval, ↓gZ, f_i_numbersFit, h1, h1', h2, h2']
        refine LW_round Xs Ms ?_
        cases hl : cntb l with
        | false =>
          rw [hl] at e1
          simp +contextual -implicitDefEqProofs (maxSteps := 10^7) only [go_sem, seval, ↓gZ, e1]
        | true =>
          rw [hl] at e1
          simp +contextual -implicitDefEqProofs (maxSteps := 10^7) only [go_sem, seval, ↓gZ, e1]
          refine LW_round Xs Ms ?_
          cases hr : cntb r with
          | false =>
            rw [hr] at e2
            simp +contextual -implicitDefEqProofs (maxSteps := 10^7) only [go_sem, seval, ↓gZ, e2]
          | true =>
            rw [hr] at e2
            simp +contextual -implicitDefEqProofs (maxSteps := 10^7) only [go_sem, seval, ↓gZ, e2]
            refine LW_round Xs Ms ?_
            simp +contextual -implicitDefEqProofs (maxSteps := 10^7) only [go_sem, seval, ↓gZ]
theorem shw_len_le : ∀ b : BT, cntb b = true → (shw b).length ≤ 13 * b.cnt
  | .waste, _ => by simp [shw, BT.cnt]
  | .pane i t, h => by
    simp only [cntb, decide_eq_true_eq] at h
    have := num_len 1 i.toNat (by omega)
    simp [shw, BT.cnt]; omega
  | .cut d a l r, h => by
    simp only [cntb, Bool.and_eq_true, decide_eq_true_eq] at h
    have h1 := shw_len_le l h.1.2
    have h2 := shw_len_le r h.2
    have := num_len 2 a.toNat (by omega)
    simp [shw, BT.cnt]; omega
theorem s_showPlan_ev : ∀ b : BT, cntb b = true → b.cnt ≤ 1000000 → vcall Xs Ms n_s_showPlan [.d b.plan.enc] [] = some (.d (.str (shw b)), [])
  | .waste, _, _ => by
    simp only [BT.plan, shw]
    refine callE Xs Ms f_s_showPlan x_s_showPlan (by show 1 ≤ _; decide) ?_
    simp +contextual -implicitDefEqProofs (maxSteps := 10^7) only [go_sem, seval, ↓gZ, f_s_showPlan]
  | .pane i t, h, _ => by
    simp only [cntb, decide_eq_true_eq] at h
    have e1 := s_number_ev i.toNat (by omega)
    rw [Int.toNat_of_nonneg h.1] at e1
    have l1 := num_len 1 i.toNat (by omega)
    have hs : 1 + (num i.toNat).length ≤ 1152921504606846976 := by omega
    simp only [BT.plan, shw]
    refine callE Xs Ms f_s_showPlan x_s_showPlan (by show 1 ≤ _; decide) ?_
    cases t <;> simp +contextual -implicitDefEqProofs (maxSteps := 10^7) only [go_sem, seval, ↓gZ, f_s_showPlan, e1, hs]
  | .cut d a l r, h, hc => by
    have hL := shw_len_le _ h
    simp only [cntb, Bool.and_eq_true, decide_eq_true_eq] at h
    simp only [BT.cnt] at hc hL
    have e1 := s_number_ev a.toNat (by omega)
    rw [Int.toNat_of_nonneg h.1.1.1] at e1
    have e2 := s_showPlan_ev l h.1.2 (by omega)
    have e3 := s_showPlan_ev r h.2 (by omega)
    have l1 := num_len 2 a.toNat (by omega)
    simp only [shw, List.length_cons, List.length_append, List.length_nil] at hL
    obtain ⟨x, hx⟩ : ∃ x, num a.toNat = x := ⟨_, rfl⟩
    obtain ⟨y, hy⟩ : ∃ y, shw l = y := ⟨_, rfl⟩
    obtain ⟨z, hz⟩ : ∃ z, shw r = z := ⟨_, rfl⟩
    simp only [BT.plan, shw]
    rw [hx] at e1 l1 hL ⊢
    rw [hy] at e2 hL ⊢
    rw [hz] at e3 hL ⊢
    have g1 : 1 + x.length ≤ 1152921504606846976 := by omega
    have g2 : x.length ≤ 1152921504606846974 := by omega
    have g3 : x.length + 1 + 1 + y.length ≤ 1152921504606846976 := by omega
    have g4 : x.length + 1 + y.length ≤ 1152921504606846974 := by omega
    have g5 : x.length + 1 + y.length + 1 + 1 + z.length ≤ 1152921504606846976 := by omega
    have g6 : x.length + 1 + y.length + 1 + z.length ≤ 1152921504606846974 := by omega
    refine callE Xs Ms f_s_showPlan x_s_showPlan (by show 1 ≤ _; decide) ?_
    cases d <;> simp +contextual -implicitDefEqProofs (maxSteps := 10^7) only [go_sem, seval, ↓gZ, f_s_showPlan, opOf, e1, e2, e3, g1, g2, g3, g4, g5, g6] <;> simp

theorem dec_num (n : Nat) : Lib.decDigits n = num n := by
  induction n using Nat.strongRecOn with
  | ind n ih =>
    rw [Lib.decDigits, num]
    by_cases h : n < 10
    · rw [dif_pos h, if_pos h]
    · rw [dif_neg h, if_neg h, ih (n / 10) (by omega)]
theorem strconv_Itoa_ev (n : Int) (h0 : 0 ≤ n) (h1 : n ≤ 999999999) : vcall Xs Ms n_strconv_Itoa [(.d (J n))] [] = some (.d (.str (num n.toNat)), []) := by
  refine vcall_prim Xs Ms x_strconv_Itoa ?_
  unfold itoaP
  simp only
  rw [if_pos ⟨h0, by omega⟩, dec_num]
theorem strings_WriteByte_ev (l : List UInt8) (n : Int) (c : UInt8) (hc : (c.toNat : Int) = n) (hl : l.length ≤ 1000000000) : vcall Xs Ms n_strings_Builder_WriteByte [.ptr 0 0, .d (.int .u8 n)] [.box [.bnil 0 TB, .bbuf 5 l]] = some (.nili, [.box [.bnil 0 TB, .bbuf 5 (l ++ [c])]]) := by
  refine vcall_prim Xs Ms x_strings_Builder_WriteByte ?_
  have hlt := c.toNat_lt
  unfold byteP
  simp only
  rw [if_pos ⟨trivial, trivial, by unfold bldMax; omega, by omega, by omega⟩]
  have e : UInt8.ofNat n.toNat = c := by rw [← hc, Int.toNat_natCast, UInt8.ofNat_toNat]
  rw [e]
theorem strings_WriteString_ev (l s : List UInt8) (h0 : 0 < s.length) (hl : l.length + s.length ≤ 1000000000) : vcall Xs Ms n_strings_Builder_WriteString [.ptr 0 0, .d (.str s)] [.box [.bnil 0 TB, .bbuf 5 l]] = some (.tup [(.d (J (s.length))), .nili], [.box [.bnil 0 TB, .bbuf 5 (l ++ s)]]) := by
  refine vcall_prim Xs Ms x_strings_Builder_WriteString ?_
  unfold strP
  simp only
  rw [if_pos ⟨trivial, trivial, by omega, by unfold bldMax; omega⟩]
theorem strings_String_ev (l : List UInt8) : vcall Xs Ms n_strings_Builder_String [.ptr 0 0] [.box [.bnil 0 TB, .bbuf 5 l]] = some (.d (.str l), [.box [.bnil 0 TB, .junk]]) := by
  refine vcall_prim Xs Ms x_strings_Builder_String ?_
  unfold bstrP
  simp only
  rw [if_pos ⟨trivial, trivial⟩]
theorem num_pos (n : Nat) : 0 < (num n).length := List.length_pos_iff.2 (num_ne n)
theorem i_writePlan_ev : ∀ (b : BT) (l : List UInt8), cntb b = true → l.length + (shw b).length ≤ 100000000 → vcall Xs Ms n_i_writePlan [.ptr 0 0, .d b.plan.enc] [.box [.bnil 0 TB, .bbuf 5 l]] = some (.tup [], [.box [.bnil 0 TB, .bbuf 5 (l ++ shw b)]])
  | .waste, l, _, hl => by
    simp only [shw, List.length_cons, List.length_nil] at hl
    have e1 := strings_WriteByte_ev l 119 119 rfl (by omega)
    simp only [BT.plan, shw]
    refine callE Xs Ms f_i_writePlan x_i_writePlan (by show 2 ≤ _; decide) ?_
    simp +contextual -implicitDefEqProofs (maxSteps := 10^7) only [go_sem, seval, ↓gZ, f_i_writePlan, e1]
  | .pane i t, l, h, hl => by
    simp only [cntb, decide_eq_true_eq] at h
    simp only [shw, List.length_cons] at hl
    have e2 := strconv_Itoa_ev i h.1 (by omega)
    have l1 := num_pos i.toNat
    simp only [BT.plan, shw]
    refine callE Xs Ms f_i_writePlan x_i_writePlan (by show 2 ≤ _; decide) ?_
    cases t with
    | false =>
      have e1 := strings_WriteByte_ev l 112 112 rfl (by omega)
      have e3 := strings_WriteString_ev (l ++ [112]) (num i.toNat) l1 (by simp; omega)
      simp +contextual -implicitDefEqProofs (maxSteps := 10^7) only [go_sem, seval, ↓gZ, f_i_writePlan, e1, e2, e3]
      simp
    | true =>
      have e1 := strings_WriteByte_ev l 116 116 rfl (by omega)
      have e3 := strings_WriteString_ev (l ++ [116]) (num i.toNat) l1 (by simp; omega)
      simp +contextual -implicitDefEqProofs (maxSteps := 10^7) only [go_sem, seval, ↓gZ, f_i_writePlan, e1, e2, e3]
      simp
  | .cut d a x y, l, h, hl => by
    simp only [cntb, Bool.and_eq_true, decide_eq_true_eq] at h
    simp only [shw, List.length_cons, List.length_append, List.length_nil] at hl
    have l1 := num_pos a.toNat
    have main : ∀ (n : Int) (c : UInt8), (c.toNat : Int) = n → True := fun _ _ _ => trivial
    have e2 := strconv_Itoa_ev a h.1.1.1 (by omega)
    have g1 := strings_WriteByte_ev l (if d then 100 else 97) (if d then 100 else 97) (by cases d <;> rfl) (by omega)
    have g2 := strings_WriteString_ev (l ++ [if d then 100 else 97]) (num a.toNat) l1 (by simp; omega)
    have g3 := strings_WriteByte_ev (l ++ [if d then 100 else 97] ++ num a.toNat) 40 40 rfl (by simp; omega)
    have g4 := i_writePlan_ev x (l ++ [if d then 100 else 97] ++ num a.toNat ++ [40]) h.1.2 (by simp; omega)
    have g5 := strings_WriteByte_ev (l ++ [if d then 100 else 97] ++ num a.toNat ++ [40] ++ shw x) 44 44 rfl (by simp; omega)
    have g6 := i_writePlan_ev y (l ++ [if d then 100 else 97] ++ num a.toNat ++ [40] ++ shw x ++ [44]) h.2 (by simp; omega)
    have g7 := strings_WriteByte_ev (l ++ [if d then 100 else 97] ++ num a.toNat ++ [40] ++ shw x ++ [44] ++ shw y) 41 41 rfl (by simp; omega)
    simp only [BT.plan, shw]
    refine callE Xs Ms f_i_writePlan x_i_writePlan (by show 2 ≤ _; decide) ?_
    cases d with
    | true =>
      simp only [if_true] at g1 g2 g3 g4 g5 g6 g7
      simp +contextual -implicitDefEqProofs (maxSteps := 10^7) only [go_sem, seval, ↓gZ, f_i_writePlan, opOf, e2, g1, g2, g3, g4, g5, g6, g7]
      simp
    | false =>
      simp only [Bool.false_eq_true, if_false] at g1 g2 g3 g4 g5 g6 g7
      simp +contextual -implicitDefEqProofs (maxSteps := 10^7) only [go_sem, seval, ↓gZ, f_i_writePlan, opOf, e2, g1, g2, g3, g4, g5, g6, g7]
      simp
def fmtP (p : Plan) : List UInt8 := match toBT p with
  | some b => if b.cnt ≤ 255 ∧ cntb b = true then shw b else []
  | none => []
theorem fmtP_none {p : Plan} (h : toBT p = none) : fmtP p = [] := by unfold fmtP; rw [h]
theorem fmtP_some {p : Plan} {b : BT} (h : toBT p = some b) : fmtP p = if b.cnt ≤ 255 ∧ cntb b = true then shw b else [] := by unfold fmtP; rw [h]
theorem i_FormatPlan_ev (p : Plan) : vcall Xs Ms n_i_FormatPlan [.d p.enc] [] = some (.d (.str (fmtP p)), []) := by
  have e1 := i_PlanSize_ev p
  cases hp : toBT p with
  | none =>
    rw [fmtP_none hp]
    rw [hp, show sizeIn 255 none = -1 from rfl] at e1
    obtain ⟨o, a, q, t, ks⟩ := p
    rw [Plan.enc_mk] at e1 ⊢
    refine callE Xs Ms f_i_FormatPlan x_i_FormatPlan (by show 1 ≤ _; decide) ?_
    simp +contextual -implicitDefEqProofs (maxSteps := 10^7) only [go_sem, seval, ↓gZ, f_i_FormatPlan, e1]
  | some b =>
    rw [fmtP_some hp]
    rw [hp] at e1
    obtain rfl := toBT_some hp
    have e2 := i_numbersFit_ev b
    rcases sizeIn_some 255 b with ⟨hc, hs⟩ | ⟨hc, hs⟩
    · rw [hs] at e1
      have h0 : ¬ (b.cnt : Int) < 0 := by omega
      cases hb : cntb b with
      | false =>
        rw [hb] at e2
        rw [if_neg (fun h => by cases h.2)]
        obtain ⟨o, a, q, t, ks, hk⟩ := bt_mk b
        rw [hk, Plan.enc_mk] at e1 e2 ⊢
        refine callE Xs Ms f_i_FormatPlan x_i_FormatPlan (by show 1 ≤ _; decide) ?_
        simp +contextual -implicitDefEqProofs (maxSteps := 10^7) only [go_sem, seval, ↓gZ, f_i_FormatPlan, e1, e2, h0]
      | true =>
        rw [hb] at e2
        rw [if_pos ⟨by omega, rfl⟩]
        have hl := shw_len_le b hb
        have e3 := i_writePlan_ev b [] hb (by simp; omega)
        have e4 := strings_String_ev ([] ++ shw b)
        obtain ⟨o, a, q, t, ks, hk⟩ := bt_mk b
        rw [hk, Plan.enc_mk] at e1 e2 e3 ⊢
        rw [List.nil_append] at e3 e4
        refine callE Xs Ms f_i_FormatPlan x_i_FormatPlan (by show 1 ≤ _; decide) ?_
        simp +contextual -implicitDefEqProofs (maxSteps := 10^7) only [go_sem, seval, ↓gZ, f_i_FormatPlan, e1, e2, e3, e4, h0]
    · rw [hs] at e1
      rw [if_neg (fun h => by omega)]
      obtain ⟨o, a, q, t, ks, hk⟩ := bt_mk b
      rw [hk, Plan.enc_mk] at e1 ⊢
      refine callE Xs Ms f_i_FormatPlan x_i_FormatPlan (by show 1 ≤ _; decide) ?_
      simp +contextual -implicitDefEqProofs (maxSteps := 10^7) only [go_sem, seval, ↓gZ, f_i_FormatPlan, e1]
theorem HasPrefix_ev (x c : UInt8) (r : List UInt8) (hr : r.length ≤ 1000000000) : vcall Xs Ms n_internal_stringslite_HasPrefix [.d (.str (x :: r)), .d (.str [c])] [] = some ((.d (.bool ([x] == [c]))), []) := by
  have h1 : (1 : Int) ≤ ((r.length + 1 : Nat) : Int) := by omega
  refine callE Xs Ms f_internal_stringslite_HasPrefix x_internal_stringslite_HasPrefix (by show 2 ≤ _; decide) ?_
  simp +contextual -implicitDefEqProofs (maxSteps := 10^7) only [go_sem, seval, ↓gZ, f_internal_stringslite_HasPrefix, h1]
theorem HasPrefix_nil (c : UInt8) : vcall Xs Ms n_internal_stringslite_HasPrefix [.d (.str []), .d (.str [c])] [] = some ((.d (.bool false)), []) := by
  refine callE Xs Ms f_internal_stringslite_HasPrefix x_internal_stringslite_HasPrefix (by show 2 ≤ _; decide) ?_
  simp +contextual -implicitDefEqProofs (maxSteps := 10^7) only [go_sem, seval, ↓gZ, f_internal_stringslite_HasPrefix]
def cutV (s : List UInt8) (c : UInt8) : AV := match expect c s with
  | some r => .tup [.d (.str r), (.d (.bool true))]
  | none => .tup [.d (.str s), (.d (.bool false))]
theorem stringslite_CutPrefix_ev (s : List UInt8) (c : UInt8) (hr : s.length ≤ 1000000000) : vcall Xs Ms n_internal_stringslite_CutPrefix [.d (.str s), .d (.str [c])] [] = some (cutV s c, []) := by
  cases s with
  | nil =>
    have e1 := HasPrefix_nil c
    simp only [cutV, expect]
    refine callE Xs Ms f_internal_stringslite_CutPrefix x_internal_stringslite_CutPrefix (by show 2 ≤ _; decide) ?_
    simp +contextual -implicitDefEqProofs (maxSteps := 10^7) only [go_sem, seval, ↓gZ, f_internal_stringslite_CutPrefix, e1]
  | cons x r =>
    have e1 := HasPrefix_ev x c r (by simp at hr; omega)
    by_cases h : x = c
    · subst h
      simp only [cutV, expect, if_true]
      rw [show ([x] == [x]) = true by simp] at e1
      have h1 : (1 : Int) ≤ ((r.length + 1 : Nat) : Int) := by omega
      have h2 : r.take r.length = r := List.take_length
      refine callE Xs Ms f_internal_stringslite_CutPrefix x_internal_stringslite_CutPrefix (by show 2 ≤ _; decide) ?_
      simp +contextual -implicitDefEqProofs (maxSteps := 10^7) only [go_sem, seval, ↓gZ, f_internal_stringslite_CutPrefix, e1, h1, h2]
    · rw [show ([x] == [c]) = false by simp [h]] at e1
      simp only [cutV, expect, if_neg h]
      refine callE Xs Ms f_internal_stringslite_CutPrefix x_internal_stringslite_CutPrefix (by show 2 ≤ _; decide) ?_
      simp +contextual -implicitDefEqProofs (maxSteps := 10^7) only [go_sem, seval, ↓gZ, f_internal_stringslite_CutPrefix, e1]
theorem strings_CutPrefix_ev (s : List UInt8) (c : UInt8) (hr : s.length ≤ 1000000000) : vcall Xs Ms n_strings_CutPrefix [.d (.str s), .d (.str [c])] [] = some (cutV s c, []) := by
  have e1 := stringslite_CutPrefix_ev s c hr
  unfold cutV at e1 ⊢
  cases h : expect c s with
  | none =>
    rw [h] at e1
    refine callE Xs Ms f_strings_CutPrefix x_strings_CutPrefix (by show 2 ≤ _; decide) ?_
    simp +contextual -implicitDefEqProofs (maxSteps := 10^7) only [go_sem, seval, ↓gZ, f_strings_CutPrefix, e1]
  | some r =>
    rw [h] at e1
    refine callE Xs Ms f_strings_CutPrefix x_strings_CutPrefix (by show 2 ≤ _; decide) ?_
    simp +contextual -implicitDefEqProofs (maxSteps := 10^7) only [go_sem, seval, ↓gZ, f_strings_CutPrefix, e1]
theorem wu8 (x : Int) (h0 : 0 ≤ x) (h1 : x < 256) : IntKind.u8.wrap x = x := by
  unfold IntKind.wrap; simp [IntKind.bits, IntKind.signed]; omega
theorem rd_of {s : List UInt8} (h : isNum s) : rd s = some (val s) := by unfold rd; rw [if_pos h]
theorem rd_not {s : List UInt8} (h : ¬ isNum s) : rd s = none := by unfold rd; rw [if_neg h]
theorem isD_iff (c : UInt8) : isD c = true ↔ ¬ (c.toNat : Int) < 48 ∧ ¬ (57 : Int) < (c.toNat : Int) := by
  simp only [isD, decide_eq_true_eq]; omega
theorem val_take {s : List UInt8} {k : Nat} {c : UInt8} (h : s[k]? = some c) : val (s.take (k + 1)) = 10 * val (s.take k) + (c.toNat - 48) := by
  obtain ⟨hk, he⟩ := List.getElem?_eq_some_iff.1 h
  rw [List.take_succ_eq_append_getElem hk, val_snoc, he]
def numV : Option Nat → AV
  | some v => .tup [(.d (J ((v : Nat)))), (.d (.bool true))]
  | none => .tup [(.d (J 0)), (.d (.bool false))]
theorem i_readNumber_ev (s : List UInt8) : vcall Xs Ms n_i_readNumber [.d (.str s)] [] = some (numV (rd s), []) := by
  by_cases h0 : s = []
  · subst h0
    rw [rd_not (fun h => h.1 rfl)]
    simp only [numV]
    refine callE Xs Ms f_i_readNumber x_i_readNumber (by show 1 ≤ _; decide) ?_
    simp +contextual -implicitDefEqProofs (maxSteps := 10^7) only [go_sem, seval, ↓gZ, f_i_readNumber]
  by_cases h6 : s.length ≤ 6
  · obtain ⟨x, r, hs⟩ := List.exists_cons_of_ne_nil h0
    have hlen : s.length = r.length + 1 := by rw [hs]; rfl
    have h6' : ¬ (6 : Int) < ((r.length + 1 : Nat) : Int) := by omega
    have hb : (x :: r == []) = false := rfl
    have hx48 : (x.toNat : Int) = 48 ↔ x = 48 := by
      constructor
      · intro h; apply UInt8.toNat_inj.1; simpa using (by omega : x.toNat = 48)
      · rintro rfl; rfl
    by_cases hz : (x.toNat : Int) = 48 ∧ (1 : Int) < ((r.length + 1 : Nat) : Int)
    · rw [rd_not (fun h => by
        rcases h.2.2.1 with h | h
        · rw [hs] at h; exact h (by rw [hx48.1 hz.1]; rfl)
        · omega)]
      simp only [numV]
      obtain ⟨hz1, hz2⟩ := hz
      rw [hs]
      refine callE Xs Ms f_i_readNumber x_i_readNumber (by show 1 ≤ _; decide) ?_
      simp +contextual -implicitDefEqProofs (maxSteps := 10^7) only [go_sem, seval, ↓gZ, f_i_readNumber, h6', hb, hz1, hz2]
    · have hhead : s.head? ≠ some 48 ∨ s.length = 1 := by
        by_cases hl : s.length = 1
        · exact .inr hl
        · refine .inl ?_
          rw [hs]
          intro h
          simp only [List.head?_cons, Option.some.injEq] at h
          exact hz ⟨hx48.2 h, by omega⟩
      generalize hres : numV (rd s) = res
      rw [hs]
      refine callE Xs Ms f_i_readNumber x_i_readNumber (by show 1 ≤ _; decide) ?_
      simp +contextual -implicitDefEqProofs (maxSteps := 10^7) only [go_sem, seval, ↓gZ, f_i_readNumber, h6', hb, hz]
      rw [← hs, show r.length + 1 = s.length by omega]
      refine LW_over Xs Ms (st0 := ?st0) (α := Nat) (fun k => [(25, .d (J (k : Int))), (4, .d (J (val (s.take k) : Nat)))]) (fun _ => []) (fun k => k ≤ s.length ∧ ∀ c ∈ s.take k, isD c = true) (fun k => s.length - k) 0 ?hc (by simp) ?h0 ?step
      case hc => simp +contextual -implicitDefEqProofs (maxSteps := 10^7) only [go_sem, seval, ↓gZ] <;> exact rfl
      case h0 => rfl
      case step =>
        intro k ⟨hk, hd⟩ ih
        have hv := val_lt k (s.take k) (by simp; omega) hd
        have hp : 10 ^ k ≤ 10 ^ 6 := Nat.pow_le_pow_right (by decide) (by omega)
        by_cases hlt : k < s.length
        · obtain ⟨c, hc⟩ : ∃ c, s[k]? = some c := ⟨_, List.getElem?_eq_getElem hlt⟩
          have hlt' : (k : Int) < (s.length : Int) := by omega
          by_cases hD : isD c = true
          · have hD' := (isD_iff c).1 hD
            have hcn : (48 : Int) ≤ c.toNat ∧ (c.toNat : Int) ≤ 57 := by omega
            have w1 := wi (10 * (val (s.take k) : Nat)) (by omega) (by omega)
            have w2 := wu8 ((c.toNat : Int) - 48) (by omega) (by omega)
            have w3 := wi ((c.toNat : Int) - 48) (by omega) (by omega)
            have w4 : IntKind.i64.wrap (10 * (val (s.take k) : Nat) + ((c.toNat : Int) - 48)) = ((val (s.take (k + 1)) : Nat) : Int) := by
              rw [wi _ (by omega) (by omega), val_take hc]; omega
            have w5 := wrap_succ (k := k) (by omega)
            simp +contextual -implicitDefEqProofs (maxSteps := 10^7) only [go_sem, seval, ↓gZ, hlt', hc, hD'.1, hD'.2, w1, w2, w3, w4, w5]
            refine ih (k + 1) _ ⟨by omega, fun d hdm => ?_⟩ (by omega) ?_
            · rw [List.take_succ_eq_append_getElem hlt] at hdm
              rcases List.mem_append.1 hdm with hdm | hdm
              · exact hd d hdm
              · simp only [List.mem_singleton] at hdm
                rw [hdm, ← (List.getElem?_eq_some_iff.1 hc).2] at *
                exact hD
            · simp +contextual -implicitDefEqProofs (maxSteps := 10^7) only [go_sem, seval, ↓gZ]
          · have hno : rd s = none := rd_not fun h => hD (h.2.2.2 c (List.mem_of_getElem? hc))
            rw [hno] at hres
            simp only [numV] at hres
            subst hres
            by_cases hlo : (c.toNat : Int) < 48
            · simp +contextual -implicitDefEqProofs (maxSteps := 10^7) only [go_sem, seval, ↓gZ, hlt', hc, hlo]
            · have hhi : (57 : Int) < (c.toNat : Int) := Classical.byContradiction fun h => hD ((isD_iff c).2 ⟨hlo, h⟩)
              simp +contextual -implicitDefEqProofs (maxSteps := 10^7) only [go_sem, seval, ↓gZ, hlt', hc, hlo, hhi]
        · have hke : k = s.length := by omega
          subst hke
          rw [List.take_length] at hd
          have hyes : rd s = some (val s) := rd_of ⟨h0, h6, hhead, hd⟩
          rw [hyes] at hres
          simp only [numV] at hres
          subst hres
          have ht : s.take s.length = s := List.take_length
          have hge : ¬ (s.length : Int) < (s.length : Int) := by omega
          simp +contextual -implicitDefEqProofs (maxSteps := 10^7) only [go_sem, seval, ↓gZ, ht, hge]
  · have h6' : (6 : Int) < (s.length : Int) := by omega
    have hb : (s == []) = false := by
      cases s with
      | nil => exact absurd rfl h0
      | cons x r => rfl
    rw [rd_not (fun h => h6 h.2.1)]
    simp only [numV]
    refine callE Xs Ms f_i_readNumber x_i_readNumber (by show 1 ≤ _; decide) ?_
    simp +contextual -implicitDefEqProofs (maxSteps := 10^7) only [go_sem, seval, ↓gZ, f_i_readNumber, h6', hb]

end Go.Proofs.YtkdjbefmiiibpaaDoor
