/- The abstract semantics: calls in regions that draw. Own text. -/
import Derived.Test.YtpobhkoombldlaaGreatAbsDraw3
import Derived.Test.YtpobhkoombldlaaGreatAbsSound5
set_option linter.unusedVariables false
set_option linter.unusedSimpArgs false
namespace Go.Abs
open Go
theorem Zvp {v : AV} (h : okC v = true) : okV v = true := by
 cases v <;> first | exact h | cases h
theorem Zls {g : List Nat} {v : AV} (h : okC (Qr g v) = true) : Qr g v = v := by
 cases v <;> simp only [Qr] at h ⊢ <;> first | rfl | (split at h <;> rename_i h' <;> first | (cases h; done) | rw [if_neg h'])
theorem ZjB {g : List Nat} : ∀ {cs : List AV}, Zr9 (cs.map (Qr g)) = true → cs.map (Qr g) = cs
 | [], _ => rfl
 | c :: cs, h => by
  simp only [List.map_cons, Zr9, Bool.and_eq_true] at h ⊢
  rw [Zls h.1, ZjB h.2]
theorem ZfF {g : List Nat} {v : AV} (h : okV (Z4 g v) = true) : Z4 g v = v := by
 cases v with
 | agg cs => simp only [Z4, okV] at h ⊢; rw [ZjB h]
 | clo f cs => simp only [Z4, okV, okC] at h; cases h
 | tup vs => rfl
 | _ =>
  simp only [Z4] at h ⊢
  refine Zls ?_
  revert h
  simp only [Qr]
  first | exact id | (split <;> first | exact id | (intro h; cases h))
theorem ZdN {g : List Nat} {v : AV} (h : okV (kill g v) = true) : kill g v = v := by
 cases v with
 | tup vs =>
  cases vs with
  | nil => rfl
  | cons x r => simp only [kill, List.map_cons, okV, okC] at h; cases h
 | _ => simp only [kill] at h ⊢; exact ZfF h
theorem Ztf {g : List Nat} {v : AV} (hn : ∀ id ∈ Zn v, id ∉ g) : Qr g v = v := by
 cases v <;> simp only [Qr] <;> first | rfl | (rw [if_neg]; simpa [Zn] using hn)
theorem Zvq {g : List Nat} {v : AV} (h : okV v = true) (hn : ∀ id ∈ ZF v, id ∉ g) : kill g v = v := by
 cases v with
 | tup vs =>
  cases vs with
  | nil => rfl
  | cons x r => simp only [okV, okC] at h; cases h
 | clo f cs => simp only [okV, okC] at h; cases h
 | agg cs =>
  simp only [kill, Z4]
  congr 1
  rw [List.map_congr_left (g := id), List.map_id]
  intro c hc
  exact Ztf fun id hid => hn id (by simp only [ZF, ZG, List.mem_flatMap]; exact ⟨c, hc, hid⟩)
 | _ => simp only [kill, Z4]; exact Ztf hn
theorem ZxK {g : List Nat} {v : AV} (h : kill g v = v) : ∀ id ∈ ZF v, id ∉ g := fun id hid => (Zln g v id (by rw [h]; exact hid)).2
theorem Zwh {g : List Nat} {c : AV} (h : okC c = true) (h1 : Qr g c = c) : Z4 g c = c := by
 cases c <;> simp only [Z4] <;> first | exact h1 | cases h
def ZdO (g : List Nat) : Option Zr → Option Zr → Prop
 | none, none => True
 | some (.row s xs _ _), some (.row s' xs' _ _) => s' = s ∧ xs' = xs
 | some (.box cs), some (.box cs') => cs' = cs.map (Z4 g)
 | some (.deep s n xs l), some (.deep s' n' xs' l') => s' = s ∧ n' = n ∧ xs' = xs ∧ l' = ZhO g l
 | _, _ => False
theorem Ztg {g : List Nat} {b : Bool} (o : Option Zr) : ZdO g o ((o.map (Ye g)).map fun o => if b then Wo o else o) := by
 cases o with
 | none => trivial
 | some o => cases o <;> cases b <;> exact (by first | exact ⟨rfl, rfl⟩ | exact rfl | exact ⟨rfl, rfl, rfl, rfl⟩)
theorem Zqw {g : List Nat} : ∀ {l : List AV} {ds : List D}, ZiQ l = some ds → l.map (Z4 g) = l
 | [], ds, _ => rfl
 | v :: l, ds, h => by
  simp only [ZiQ] at h
  obtain ⟨x, h1, h⟩ := Za h
  obtain ⟨ds', h2, h⟩ := Za h
  have : Z4 g v = v := by cases v <;> first | rfl | cases h1
  rw [List.map_cons, this, Zqw h2]
theorem Zoh {g : List Nat} : ∀ {l : List AV} {ds : List D}, ZiQ (l.map (Z4 g)) = some ds → l.map (Z4 g) = l
 | [], ds, _ => rfl
 | v :: l, ds, h => by
  simp only [List.map_cons, ZiQ] at h
  obtain ⟨x, h1, h⟩ := Za h
  obtain ⟨ds', h2, h⟩ := Za h
  have hv : Z4 g v = v := by
   refine ZfF ?_
   cases hk : Z4 g v <;> rw [hk] at h1 <;> first | rfl | cases h1
  rw [List.map_cons, hv, Zoh h2]
theorem ZhT (l : List AV) : (∃ ds, ZiQ l = some ds ∧ Zcu l = .d (.agg ds)) ∨ (ZiQ l = none ∧ (Zcu l = .junk ∨ Zcu l = .agg l)) := by
 unfold Zcu
 cases h : ZiQ l with
 | some ds => exact .inl ⟨ds, rfl, rfl⟩
 | none =>
  refine .inr ⟨rfl, ?_⟩
  unfold Zir
  split
  ·rename_i h; cases h
  ·split
   ·exact .inl rfl
   ·exact .inr rfl
theorem Zku : ∀ {l : List AV}, Zr9 l = true → ∀ c ∈ l, okC c = true
 | [], _, c, hc => by simp at hc
 | x :: l, h, c, hc => by
  simp only [Zr9, Bool.and_eq_true] at h
  rcases List.mem_cons.1 hc with rfl | hc
  ·exact h.1
  ·exact Zku h.2 c hc
theorem Zwi {g : List Nat} {l : List AV} (h : okV (Zcu l) = true) (hk : kill g (Zcu l) = Zcu l) : l.map (Z4 g) = l := by
 rcases ZhT l with ⟨ds, h1, h2⟩ | ⟨h1, h2 | h2⟩
 ·exact Zqw h1
 ·rw [h2] at h; cases h
 ·rw [h2] at h hk
  simp only [kill, Z4, AV.agg.injEq] at hk
  simp only [okV] at h
  have hm := Zku h
  have hk' : ∀ c ∈ l, Qr g c = c := by
   intro c hc
   have := ZjB (g := g) (cs := l) (by rw [hk]; exact h)
   exact Zls (by
    have h3 : Qr g c ∈ l.map (Qr g) := List.mem_map_of_mem hc
    rw [hk] at h3
    exact hm _ h3)
  rw [List.map_congr_left (g := id), List.map_id]
  intro c hc
  exact Zwh (hm c hc) (hk' c hc)
theorem Zwj {g : List Nat} {l : List AV} (h : okV (Zcu (l.map (Z4 g))) = true) : l.map (Z4 g) = l := by
 rcases ZhT (l.map (Z4 g)) with ⟨ds, h1, h2⟩ | ⟨h1, h2 | h2⟩
 ·exact Zoh h1
 ·rw [h2] at h; cases h
 ·rw [h2] at h
  simp only [okV] at h
  have hm := Zku h
  rw [List.map_congr_left (g := id), List.map_id]
  intro c hc
  exact ZfF (Zvp (hm _ (List.mem_map_of_mem hc)))
theorem ZuA {g : List Nat} {v : AV} (h : okV v = true) (hk : kill g v = v) : Z4 g v = v := by
 cases v with
 | tup vs => rfl
 | _ => simp only [kill] at hk; exact hk
theorem ZuB {g : List Nat} {v : AV} (h : okV v = true) (hk : Z4 g v = v) : kill g v = v := by
 cases v with
 | tup vs =>
  cases vs with
  | nil => rfl
  | cons x r => simp only [okV, okC] at h; cases h
 | _ => simp only [kill]; exact hk
theorem Zjd {α β : Type} (f : α → β) (l : List α) (a b : Nat) : ((l.map f).drop a).take b = ((l.drop a).take b).map f := by
 rw [← List.map_drop, ← List.map_take]
theorem Zth {g : List Nat} {cs : List AV} {a : Bool} {s off : Nat} {v : AV} (h : ZbC a s off (some (.box cs)) = some v) (ho : okV v = true) (hk : kill g v = v) : ZbC a s off (some (.box (cs.map (Z4 g)))) = some v := by
 unfold ZbC at h ⊢
 cases a with
 | true =>
  simp only [if_true] at h ⊢
  split at h
  ·rename_i hl
   cases h
   rw [if_pos (by simpa using hl), Zjd, Zwi ho hk]
  ·cases h
 | false =>
  simp only [Bool.false_eq_true, if_false] at h ⊢
  rw [List.getElem?_map, h]
  simp only [Option.map_some]
  rw [ZuA ho hk]
theorem Zti {g : List Nat} {cs : List AV} {a : Bool} {s off : Nat} {v : AV} (h : ZbC a s off (some (.box (cs.map (Z4 g)))) = some v) (ho : okV v = true) : ZbC a s off (some (.box cs)) = some v ∧ kill g v = v := by
 unfold ZbC at h ⊢
 cases a with
 | true =>
  simp only [if_true] at h ⊢
  split at h
  ·rename_i hl
   cases h
   rw [Zjd] at ho ⊢
   have he := Zwj ho
   rw [he] at ho ⊢
   refine ⟨by rw [if_pos (by simpa using hl)], ?_⟩
   rcases ZhT ((cs.drop off).take s) with ⟨ds, h1, h2⟩ | ⟨h1, h2 | h2⟩
   ·rw [h2]; rfl
   ·rw [h2] at ho; cases ho
   ·rw [h2] at ho ⊢
    simp only [okV] at ho
    have hm := Zku ho
    simp only [kill, Z4, AV.agg.injEq]
    rw [List.map_congr_left (g := id), List.map_id]
    intro c hc
    have h3 : Z4 g c = c := by
     refine ZfF ?_
     have h4 : Z4 g c ∈ ((cs.drop off).take s).map (Z4 g) := List.mem_map_of_mem hc
     rw [he] at h4
     exact Zvp (hm _ h4)
    have := hm c hc
    cases c <;> first | exact h3 | cases this
  ·cases h
 | false =>
  simp only [Bool.false_eq_true, if_false] at h ⊢
  rw [List.getElem?_map] at h
  cases hc : cs[off]? with
  | none => rw [hc] at h; cases h
  | some c =>
   rw [hc] at h
   simp only [Option.map_some, Option.some.injEq] at h
   have h3 : Z4 g c = c := ZfF (by rw [h]; exact ho)
   rw [h3] at h
   subst h
   exact ⟨rfl, ZuB ho h3⟩
theorem ZuC {g : List Nat} {o o' : Option Zr} (h : ZdO g o o') : ZaH o' = ZaH o := by
 cases o with
 | none => cases o' with
  | none => rfl
  | some o' => cases h
 | some o => cases o' with
  | none => cases o <;> cases h
  | some o' => cases o <;> cases o' <;> simp only [ZdO] at h <;> first | (cases h; done) | rfl | (obtain ⟨rfl, rfl⟩ := h; rfl) | (obtain ⟨_, _, rfl, _⟩ := h; rfl)
theorem ZdP {g : List Nat} {o o' : Option Zr} (h : ZdO g o o') : (∃ s xs e f e' f', o = some (.row s xs e f) ∧ o' = some (.row s xs e' f')) ∨ (o = none ∧ o' = none) ∨ (∃ cs, o = some (.box cs) ∧ o' = some (.box (cs.map (Z4 g)))) ∨ (∃ s n xs l, o = some (.deep s n xs l) ∧ o' = some (.deep s n xs (ZhO g l))) := by
 cases o with
 | none => cases o' with
  | none => exact .inr (.inl ⟨rfl, rfl⟩)
  | some o' => cases h
 | some o => cases o' with
  | none => cases o <;> cases h
  | some o' =>
   cases o with
   | box cs => cases o' with
    | box cs' => simp only [ZdO] at h; subst h; exact .inr (.inr (.inl ⟨cs, rfl, rfl⟩))
    | row _ _ _ _ => cases h
    | deep _ _ _ _ => cases h
   | row s xs e f => cases o' with
    | box cs' => cases h
    | row s' xs' e' f' => simp only [ZdO] at h; obtain ⟨rfl, rfl⟩ := h; exact .inl ⟨_, _, _, _, _, _, rfl, rfl⟩
    | deep _ _ _ _ => cases h
   | deep s n xs l => cases o' with
    | box cs' => cases h
    | row _ _ _ _ => cases h
    | deep s' n' xs' l' => simp only [ZdO] at h; obtain ⟨rfl, rfl, rfl, rfl⟩ := h; exact .inr (.inr (.inr ⟨_, _, _, _, rfl, rfl⟩))
section
variable {g : List Nat} {o o' : Option Zr}
theorem ZrN (h : ZdO g o o') (sz id n : Nat) : Zek sz id n o' = Zek sz id n o := by
 rcases ZdP h with ⟨s, xs, e, f, e', f', rfl, rfl⟩ | ⟨rfl, rfl⟩ | ⟨cs, rfl, rfl⟩ | ⟨s, n, xs, l, rfl, rfl⟩ <;> rfl
theorem ZpU (h : ZdO g o o') (sz id off m n : Nat) : ZdU sz id off m n o' = ZdU sz id off m n o := by
 rcases ZdP h with ⟨s, xs, e, f, e', f', rfl, rfl⟩ | ⟨rfl, rfl⟩ | ⟨cs, rfl, rfl⟩ | ⟨s, n, xs, l, rfl, rfl⟩ <;> rfl
theorem ZpV (h : ZdO g o o') (s id : Nat) (lo hi : Option AV) : ZdV s id lo hi o' = ZdV s id lo hi o := by
 rcases ZdP h with ⟨s, xs, e, f, e', f', rfl, rfl⟩ | ⟨rfl, rfl⟩ | ⟨cs, rfl, rfl⟩ | ⟨s, n, xs, l, rfl, rfl⟩ <;> rfl
theorem Zoi (h : ZdO g o o') (s id off n : Nat) (lo hi : Option AV) : Zbm s id off n lo hi o' = Zbm s id off n lo hi o := by
 rcases ZdP h with ⟨s, xs, e, f, e', f', rfl, rfl⟩ | ⟨rfl, rfl⟩ | ⟨cs, rfl, rfl⟩ | ⟨s, n, xs, l, rfl, rfl⟩ <;> rfl
theorem Zma {id i off : Nat} {l l' : Option (Nat × Nat × Nat)} {x : D} {v : AV} (h : ZfL id i off l x = some v) (ho : okV v = true) : ZfL id i off l' x = some v ∧ ∃ d, v = .d d := by
 unfold ZfL at h ⊢
 split at h
 ·unfold Ztv at h
  split at h
  ·split at h
   ·cases h; cases ho
   ·cases h
  ·cases h
 ·split at h
  ·rename_i hp; cases h; exact ⟨by rw [if_pos hp], _, rfl⟩
  ·cases h
 ·cases h
theorem Zkv {id : Nat} (h : ZdO g o o') {a : Bool} {s sz i off : Nat} {v : AV} (ho : okV v = true) : ZbD id a s sz i off o' = some v ↔ ZbD id a s sz i off o = some v := by
 rcases ZdP h with ⟨s, xs, e, f, e', f', rfl, rfl⟩ | ⟨rfl, rfl⟩ | ⟨cs, rfl, rfl⟩ | ⟨s, n, xs, l, rfl, rfl⟩
 ·exact Iff.rfl
 ·exact Iff.rfl
 ·exact Iff.rfl
 ·simp only [ZbD]
  split
  ·split
   ·exact Iff.rfl
   ·constructor <;> intro hh <;> obtain ⟨x, h1, hh⟩ := Za hh <;> rw [h1, Zj] <;> exact (Zma hh ho).1
  ·exact Iff.rfl
end
section
variable {hp hp' : Hp} {g : List Nat}
def Zkw (g : List Nat) (hp hp' : Hp) (v : AV) : Prop := ∀ k ∈ ZF v, ZdO g (lkp hp k) (lkp hp' k)
theorem ZfG {v : AV} (h : Zkw g hp hp' v) : Zfd hp' v = Zfd hp v := by
 cases v <;> simp only [Zfd]
 case d x => cases x <;> rfl
 case own id => rw [ZuC (h id (by simp [ZF, ZG, Zn]))]
theorem Zcn {v : AV} (h : Zkw g hp hp' v) (sz n : Nat) : QJ hp' sz n v = QJ hp sz n v := by
 cases v <;> simp only [QJ]
 case d x => cases x <;> rfl
 case own id => rw [ZrN (h id (by simp [ZF, ZG, Zn]))]
 case ownv id off n => rw [ZpU (h id (by simp [ZF, ZG, Zn]))]
theorem ZhU {v : AV} (h : Zkw g hp hp' v) (s : Nat) (lo hi : Option AV) : WS hp' s lo hi v = WS hp s lo hi v := by
 cases v <;> simp only [WS]
 case d x => cases x <;> rfl
 case own id => rw [ZpV (h id (by simp [ZF, ZG, Zn]))]
 case ownv id off n => rw [Zoi (h id (by simp [ZF, ZG, Zn]))]
theorem Zwk {x v : AV} (hs : Zkw g hp hp' x) {a : Bool} {s : Nat} (h : Jz hp a s x = some v) (ho : okV v = true) (hk : kill g v = v) : Jz hp' a s x = some v := by
 cases x <;> simp only [Jz] at h ⊢ <;> first | (cases h; done) | skip
 case ptr id off =>
  rcases ZdP (hs id (by simp [ZF, ZG, Zn])) with ⟨_, _, _, _, _, _, e1, e2⟩ | ⟨e1, e2⟩ | ⟨cs, e1, e2⟩ | ⟨_, _, _, _, e1, e2⟩
  ·rw [e1] at h; cases h
  ·rw [e1] at h; cases h
  ·rw [e1] at h; rw [e2]; exact Zth h ho hk
  ·rw [e1] at h; cases h
 case prow id sz i off => exact (Zkv (hs id (by simp [ZF, ZG, Zn])) ho).2 h
 case pim cs => exact h
theorem Zwl {id : Nat} {a : Bool} {s sz i off : Nat} {o : Option Zr} {v : AV} (h : ZbD id a s sz i off o = some v) (ho : okV v = true) : ∃ d, v = .d d := by
 unfold ZbD at h
 split at h
 ·split at h
  ·obtain ⟨x, _, h⟩ := Za h
   unfold ZkA at h
   split at h
   ·unfold Zfg at h
    split at h
    ·split at h
     ·cases h; exact ⟨_, rfl⟩
     ·cases h
    ·unfold asD at h
     obtain ⟨y, _, h⟩ := Za h
     cases h; exact ⟨_, rfl⟩
   ·cases h
  ·cases h
 ·split at h
  ·split at h
   ·cases h
   ·obtain ⟨x, _, h⟩ := Za h
    exact (Zma (l' := none) h ho).2
  ·cases h
 ·cases h
theorem ZxL {a : Bool} {s off : Nat} {cs : List D} {v : AV} (h : Zfg a s off cs = some v) : ∃ d, v = .d d := by
 unfold Zfg at h
 split at h
 ·split at h
  ·cases h; exact ⟨_, rfl⟩
  ·cases h
 ·unfold asD at h
  obtain ⟨y, _, h⟩ := Za h
  cases h; exact ⟨_, rfl⟩
theorem Zwm {x v : AV} (hs : Zkw g hp hp' x) {a : Bool} {s : Nat} (h : Jz hp' a s x = some v) (ho : okV v = true) : Jz hp a s x = some v ∧ kill g v = v := by
 cases x <;> simp only [Jz] at h ⊢ <;> first | (cases h; done) | skip
 case ptr id off =>
  rcases ZdP (hs id (by simp [ZF, ZG, Zn])) with ⟨_, _, _, _, _, _, e1, e2⟩ | ⟨e1, e2⟩ | ⟨cs, e1, e2⟩ | ⟨_, _, _, _, e1, e2⟩
  ·rw [e2] at h; cases h
  ·rw [e2] at h; cases h
  ·rw [e2] at h; rw [e1]; exact Zti h ho
  ·rw [e2] at h; cases h
 case prow id sz i off =>
  have h := (Zkv (hs id (by simp [ZF, ZG, Zn])) ho).1 h
  obtain ⟨d, rfl⟩ := Zwl h ho
  exact ⟨h, rfl⟩
 case pim cs =>
  obtain ⟨d, rfl⟩ := ZxL h
  exact ⟨h, rfl⟩
theorem Zmb {x : AV} {d : D} {e : Bool} (h : Zcw hp x = some (d, e, [])) (hp' : Hp) : Zcw hp' x = some (d, e, []) := by
 cases x <;> simp only [Zcw] at h ⊢ <;> first | exact h | skip
 case own id => obtain ⟨q, _, h⟩ := Za h; simp at h
theorem Zmc : ∀ {xs : List AV} {d : List D} {e : Bool}, WW hp xs = some (d, e, []) → ∀ hp' : Hp, WW hp' xs = some (d, e, [])
 | [], d, e, h, hp' => h
 | x :: xs, d, e, h, hp' => by
  simp only [WW] at h ⊢
  obtain ⟨⟨d1, e1, l1⟩, h1, h⟩ := Za h
  obtain ⟨⟨d2, e2, l2⟩, h2, h⟩ := Za h
  have hl : l1 = [] ∧ l2 = [] := by
   simp only at h
   split at h
   ·simp only [Option.some.injEq, Prod.mk.injEq, List.append_eq_nil_iff] at h; exact h.2.2
   ·cases h
  obtain ⟨rfl, rfl⟩ := hl
  rw [Zmb h1 hp', Zj, Zmc h2 hp', Zj]
  exact h
theorem ZuD {x : AV} {d : D} {e : Bool} (h : give hp x = some (d, e, [])) (hp' : Hp) : give hp' x = some (d, e, []) := by
 cases x <;> simp only [give] at h ⊢ <;> first | exact Zmb h hp' | skip
 case agg cs =>
  obtain ⟨⟨d1, e1, l1⟩, h1, h⟩ := Za h
  simp only [Option.some.injEq, Prod.mk.injEq] at h
  obtain ⟨rfl, rfl, rfl⟩ := h
  rw [Zmc h1 hp', Zj]
theorem Zje : ∀ {xs : List AV} {d : List D} {e : Bool}, UU hp xs = some (d, e, []) → ∀ hp' : Hp, UU hp' xs = some (d, e, [])
 | [], d, e, h, hp' => h
 | x :: xs, d, e, h, hp' => by
  simp only [UU] at h ⊢
  obtain ⟨⟨d1, e1, l1⟩, h1, h⟩ := Za h
  obtain ⟨⟨d2, e2, l2⟩, h2, h⟩ := Za h
  have hl : l1 = [] ∧ l2 = [] := by
   simp only at h
   split at h
   ·simp only [Option.some.injEq, Prod.mk.injEq, List.append_eq_nil_iff] at h; exact h.2.2
   ·cases h
  obtain ⟨rfl, rfl⟩ := hl
  rw [ZuD h1 hp', Zj, Zje h2 hp', Zj]
  exact h
theorem Zjf {base s : Nat} {vs : List AV} {ce : Zf} (h : buildSl hp base s vs = some ce) (hf : ce.eff.frz = []) (hp' : Hp) :
  buildSl hp' base s vs = some ce ∧ (ce.eff.val = .nil ∨ ce.eff.val = .own base) ∧ (∀ k o, (k, o) ∈ ce.eff.adds → ∃ sz xs e f, o = .row sz xs e f) := by
 cases vs with
 | nil => simp only [buildSl, QB] at h ⊢; cases h; exact ⟨rfl, .inl rfl, fun k o h => by simp at h⟩
 | cons v vs =>
  simp only [buildSl] at h ⊢
  obtain ⟨⟨ds, e, l⟩, h1, h⟩ := Za h
  unfold ZuP at h
  split at h
  ·rename_i hc
   cases h
   simp only at hf
   subst hf
   rw [Zje h1 hp', Zj]
   refine ⟨?_, .inr rfl, fun k o ho => ?_⟩
   ·unfold ZuP; rw [if_pos hc]
   ·simp at ho; obtain ⟨rfl, rfl⟩ := ho; exact ⟨_, _, _, _, rfl⟩
  ·cases h
end
theorem Zkx {C : Orc} {M : Zq} {sl : Sl} {hp hp' : Hp} {base : Nat} {c : COp} (hc : Ut c = true) : vop C M sl hp base c = vop C M sl hp' base c := by
 cases c <;> first | rfl | (simp [Ut] at hc)
section
variable {C : Orc} {M : Zq} {sl sl' : Sl} {hp hp' : Hp} {base : Nat} {g : List Nat}
theorem Qj {v : AV} {ce : Zf} (h : QB v = some ce) : ce.eff.adds = [] := by cases h; rfl
theorem QZ {v : Option AV} {ce : Zf} (h : WT v = some ce) : ce.eff.adds = [] := by obtain ⟨v, _, h⟩ := Za h; exact Qj h
theorem ZbQ {v : Option AV} {ce : Zf} (h : WT v = some ce) : v = some ce.eff.val := by obtain ⟨v, rfl, h⟩ := Za h; cases h; rfl
theorem Zvr {v : Option AV} {ce : Zf} {w : Option AV} (h : WT v = some ce) (hw : w = some ce.eff.val) : WT w = some ce := by
 obtain ⟨v, rfl, h⟩ := Za h; cases h; rw [hw]; rfl
theorem ZuE {c : COp} (hc : Ut c = true) (hv : ZuZ c = true) {ce : Zf} (h : vop C M sl hp base c = some ce) : ce.eff.adds = [] := by
 cases c <;> simp only [Ut, ZuZ, Bool.false_eq_true] at hc hv <;> simp only [vop] at h
 case stuck => cases h
 case move x => exact Qj h
 case pick c a b =>
  unfold Zg7 at h
  split at h
  ·split at h <;> exact Qj h
  ·cases h
 case build zs ps => obtain ⟨cs, _, h⟩ := Za h; exact Qj h
 case nilCheck x => unfold ZaO at h; split at h <;> first | exact Qj h | cases h
 case bin op eq x y =>
  unfold Zhf at h
  split at h
  ·split at h
   ·exact QZ h
   ·cases h
  ·exact QZ h
 case un op x => exact QZ h
 case eqA neg n x y =>
  unfold ZpY at h
  split at h
  ·obtain ⟨r, _, h⟩ := Za h; exact Qj h
  ·cases h
 case convI k x => unfold Go.Abs.convI at h; split at h <;> first | exact Qj h | cases h
 case convS x => unfold Go.Abs.convS at h; split at h <;> first | exact Qj h | cases h
 case sliceS x lo hi => exact QZ h
 case shift off x => unfold Wp at h; split at h <;> first | exact Qj h | cases h
 case part g s off x => exact QZ h
 case iaA len s x i =>
  obtain ⟨n, _, h⟩ := Za h
  unfold Zmj at h
  split at h
  ·unfold Wp at h; split at h <;> first | exact Qj h | cases h
  ·cases h
 case ixS x i =>
  obtain ⟨n, _, h⟩ := Za h
  unfold Zty at h
  split at h
  ·unfold ZqK at h
   split at h
   ·obtain ⟨b, _, h⟩ := Za h; exact Qj h
   ·cases h
  ·cases h
 case ixA g s len x i =>
  obtain ⟨n, _, h⟩ := Za h
  unfold ZuQ at h
  split at h
  ·exact QZ h
  ·cases h
 case nth i x => unfold ZrW at h; split at h <;> first | exact QZ h | cases h
 case lenS x => obtain ⟨n, _, h⟩ := Za h; exact Qj h
 case min x y => unfold ZkE at h; split at h <;> first | (split at h <;> first | exact Qj h | cases h) | cases h
 case max x y => unfold ZkF at h; split at h <;> first | (split at h <;> first | exact Qj h | cases h) | cases h
theorem Zmd {c : AV} (h : Zh7 c = true) : Z4 g c = c := by cases c <;> first | rfl | cases h
theorem ZgE : ∀ {cs : List AV}, ZbS cs = true → ∀ c ∈ cs, Zh7 c = true
 | [], _, c, hc => by simp at hc
 | x :: l, h, c, hc => by
  simp only [ZbS, Bool.and_eq_true] at h
  rcases List.mem_cons.1 hc with rfl | hc
  ·exact h.1
  ·exact ZgE h.2 c hc
theorem Zlt : ∀ (slc : List (Option Nat)) (cs : List AV) (b : Nat), (∀ c ∈ (mat slc cs b).1, c ∈ cs ∨ ∃ k o, c = .own k ∧ (k, o) ∈ (mat slc cs b).2) ∧ ∀ k o, (k, o) ∈ (mat slc cs b).2 → ∃ sz, o = .row sz [] true false
 | [], cs, b => by simp only [mat]; exact ⟨fun c hc => .inl hc, fun k o h => by simp at h⟩
 | t :: ts, [], b => by cases t <;> (simp only [mat]; exact ⟨fun c hc => .inl hc, fun k o h => by simp at h⟩)
 | t :: ts, v :: vs, b => by
  by_cases hv : (∃ sz, t = some sz) ∧ v = .nil
  ·obtain ⟨⟨sz, rfl⟩, rfl⟩ := hv
   obtain ⟨h1, h2⟩ := Zlt ts vs (b + 1)
   simp only [mat]
   refine ⟨fun c hc => ?_, fun k o h => ?_⟩
   ·rcases List.mem_cons.1 hc with rfl | hc
    ·exact .inr ⟨b, _, rfl, List.mem_cons_self ..⟩
    ·rcases h1 c hc with h | ⟨k, o, e, h⟩
     ·exact .inl (List.mem_cons_of_mem _ h)
     ·exact .inr ⟨k, o, e, List.mem_cons_of_mem _ h⟩
   ·rcases List.mem_cons.1 h with h | h
    ·cases h; exact ⟨_, rfl⟩
    ·exact h2 k o h
  ·obtain ⟨h1, h2⟩ := Zlt ts vs b
   have e : mat (t :: ts) (v :: vs) b = (v :: (mat ts vs b).1, (mat ts vs b).2) := by
    cases t with
    | none => simp [mat]
    | some sz => cases v <;> first | (exact absurd ⟨⟨sz, rfl⟩, rfl⟩ hv) | simp [mat]
   rw [e]
   refine ⟨fun c hc => ?_, h2⟩
   rcases List.mem_cons.1 hc with rfl | hc
   ·exact .inl (List.mem_cons_self ..)
   ·rcases h1 c hc with h | h
    ·exact .inl (List.mem_cons_of_mem _ h)
    ·exact .inr h
theorem Zme {slc : List (Option Nat)} {cs : List AV} {ce : Zf} (hb : ∀ k, base ≤ k → k < base + 64 → k ∉ g) (hc : ZbS cs = true) (h : ZgI slc base cs = some ce) (hok : Q4 base (base + 64) ce.eff.adds = true) :
  (∀ id ∈ ZF ce.eff.val, id ∉ g) ∧ ∀ k o, (k, o) ∈ ce.eff.adds → Ye g o = o := by
 have hr := UY hok
 unfold ZgI at h
 split at h
 ·cases h
  simp only at hr ⊢
  obtain ⟨h1, h2⟩ := Zlt slc cs (base + 1)
  refine ⟨fun id hid => ?_, fun k o hm => ?_⟩
  ·simp [ZF, ZG, Zn] at hid; subst hid; exact hb _ (Nat.le_refl _) (by omega)
  ·rcases List.mem_cons.1 hm with hm | hm
   ·cases hm
    simp only [Ye]
    congr 1
    rw [List.map_congr_left (g := id), List.map_id]
    intro c hcm
    rcases h1 c hcm with h | ⟨k, o, rfl, h⟩
    ·exact Zmd (ZgE hc c h)
    ·have := hr k o (List.mem_cons_of_mem _ h)
     have hk := hb k this.1 this.2
     simp [Z4, Qr, hk]
   ·obtain ⟨sz, rfl⟩ := h2 k o hm; rfl
 ·cases h
  simp only at hr ⊢
  refine ⟨fun id hid => ?_, fun k o hm => ?_⟩
  ·simp [ZF, ZG, Zn] at hid; subst hid; exact hb _ (Nat.le_refl _) (by omega)
  ·simp at hm
   obtain ⟨rfl, rfl⟩ := hm
   simp only [Ye]
   congr 1
   rw [List.map_congr_left (g := id), List.map_id]
   exact fun c hcm => Zmd (ZgE hc c hcm)
theorem Zwn {c : COp} (hc : ZoO c = true) (he : ∀ x ∈ ZM c, evO sl' x = evO sl x) (hs : ∀ x ∈ ZM c, Zkw g hp hp' (evO sl x)) {ce : Zf}
  (hb : ∀ k, base ≤ k → k < base + 64 → k ∉ g) (h : vop C M sl hp base c = some ce) (hok : Q4 base (base + 64) ce.eff.adds = true) (hfz : ce.eff.frz = []) (ho : okV ce.eff.val = true) (hk : kill g ce.eff.val = ce.eff.val) : vop C M sl' hp' base c = some ce ∧ ∀ k o, (k, o) ∈ ce.eff.adds → Ye g o = o := by
 rw [XH C M hp' base he]
 have none0 : ce.eff.adds = [] → ∀ k o, (k, o) ∈ ce.eff.adds → Ye g o = o := fun e k o hm => by rw [e] at hm; simp at hm
 simp only [ZoO, Bool.or_eq_true, Bool.and_eq_true] at hc
 rcases hc with ((hc | hc) | ⟨hc1, hc2⟩) | hc
 ·cases c <;> simp only [ZaU, Bool.false_eq_true] at hc <;> simp only [vop] at h ⊢ <;> simp only [ZM] at hs
  case load a s x => exact ⟨Zvr h (Zwk (hs x (by simp)) (ZbQ h) ho hk), none0 (QZ h)⟩
  case slice s x lo hi =>
   rw [ZhU (hs x (by simp))]
   exact ⟨h, none0 (QZ h)⟩
  case slice0 x hi mx =>
   unfold slice0 at h ⊢
   rw [ZfG (hs x (by simp))]
   exact ⟨h, none0 (QZ h)⟩
  case iaS s x i =>
   obtain ⟨n, h1, h⟩ := Za h
   rw [h1, Zj]
   unfold Zh3 at h ⊢
   rw [Zcn (hs x (by simp))]
   refine ⟨h, none0 ?_⟩
   split at h
   ·exact QZ h
   ·cases h
  case len x =>
   rw [ZfG (hs x (by simp))]
   refine ⟨h, none0 ?_⟩
   obtain ⟨n, _, h⟩ := Za h; exact Qj h
 ·cases c <;> simp only [ZqO, Bool.false_eq_true] at hc
  simp only [vop] at h ⊢
  obtain ⟨h1, h2, h3⟩ := Zjf h hfz hp'
  refine ⟨h1, fun k o hm => ?_⟩
  obtain ⟨sz, xs, e, f, rfl⟩ := h3 k o hm
  rfl
 ·rw [← Zkx (hp := hp) hc1]
  exact ⟨h, none0 (ZuE hc1 hc2 h)⟩
 ·cases c <;> simp only [Zm3, Bool.false_eq_true] at hc
  simp only [vop] at h ⊢
  exact ⟨h, (Zme hb hc h hok).2⟩
theorem ZuF {c : COp} (hc : ZkK c = true) (he : ∀ x ∈ ZM c, evO sl' x = evO sl x) (hs : ∀ x ∈ ZM c, Zkw g hp hp' (evO sl x)) {ce : Zf}
  (hn : ∀ x ∈ ZM c, ∀ id ∈ ZF (evO sl x), id ∉ g) (hb : ∀ k, base ≤ k → k < base + 64 → k ∉ g)
  (h : vop C M sl' hp' base c = some ce) (hok : Q4 base (base + 64) ce.eff.adds = true) (hfz : ce.eff.frz = []) (ho : okV ce.eff.val = true) : vop C M sl hp base c = some ce ∧ kill g ce.eff.val = ce.eff.val ∧ ∀ k o, (k, o) ∈ ce.eff.adds → Ye g o = o := by
 rw [XH C M hp' base he] at h
 have none0 : ce.eff.adds = [] → ∀ k o, (k, o) ∈ ce.eff.adds → Ye g o = o := fun e k o hm => by rw [e] at hm; simp at hm
 have names : (∀ id ∈ ZF ce.eff.val, id ∉ g) → kill g ce.eff.val = ce.eff.val := Zvq ho
 cases c <;> simp only [ZkK, Bool.false_eq_true] at hc <;> simp only [vop] at h ⊢ <;> simp only [ZM] at hs hn
 case alloc slc cs =>
  obtain ⟨h1, h2⟩ := Zme hb hc h hok
  exact ⟨h, names h1, h2⟩
 case buildSl s xs =>
  obtain ⟨h1, h2, h3⟩ := Zjf h hfz hp
  refine ⟨h1, names fun id hid => ?_, fun k o hm => ?_⟩
  ·rcases h2 with h2 | h2
   ·rw [h2] at hid; simp [ZF, ZG, Zn] at hid
   ·rw [h2] at hid; simp [ZF, ZG, Zn] at hid; subst hid; exact hb _ (Nat.le_refl _) (by omega)
  ·obtain ⟨sz, xs, e, f, rfl⟩ := h3 k o hm
   rfl
 case load a s x =>
  obtain ⟨h1, h2⟩ := Zwm (hs x (by simp)) (ZbQ h) ho
  exact ⟨Zvr h h1, h2, none0 (QZ h)⟩
 case nilCheck x =>
  have hx := hn x (by simp)
  refine ⟨h, names ?_, none0 ?_⟩
  ·unfold ZaO at h
   split at h <;> rename_i hv <;> first | (cases h; done) | (cases h; show ∀ id ∈ ZF _, _; rw [← hv]; exact hx)
  ·unfold ZaO at h; split at h <;> first | exact Qj h | cases h
 case bin op eq x y =>
  have hd : ∃ d, ce.eff.val = .d d := by
   have o2 : ∀ {a b : AV}, WT (vbin op a b) = some ce → ∃ d, ce.eff.val = .d d := fun {a b} h => by
    have h1 := ZbQ h
    unfold vbin at h1
    split at h1
    ·unfold ZaI at h1
     split at h1
     ·obtain ⟨y, _, h1⟩ := Za h1; exact ⟨_, (Option.some.inj h1).symm⟩
     ·obtain ⟨y, _, h1⟩ := Za h1; exact ⟨_, (Option.some.inj h1).symm⟩
     ·split at h1
      ·obtain ⟨y, _, h1⟩ := Za h1
       have := Option.some.inj h1
       exact ⟨_, this.symm⟩
      ·cases h1
    ·obtain ⟨y, _, h1⟩ := Za h1
     have := Option.some.inj h1
     exact ⟨_, this.symm⟩
    ·cases h1
   unfold Zhf at h
   split at h
   ·split at h
    ·have h1 := ZbQ h
     unfold Zqj at h1
     split at h1
     ·exact ⟨_, (Option.some.inj h1).symm⟩
     ·exact ⟨_, (Option.some.inj h1).symm⟩
     ·cases h1
    ·cases h
   ·exact o2 h
  obtain ⟨d, hd⟩ := hd
  refine ⟨h, by rw [hd]; rfl, none0 ?_⟩
  unfold Zhf at h
  split at h
  ·split at h
   ·exact QZ h
   ·cases h
  ·exact QZ h
 case un op x =>
  have hd : ∃ d, ce.eff.val = .d d := by
   have h1 := ZbQ h
   unfold vun at h1
   split at h1
   ·unfold neg1 at h1
    split at h1
    ·exact ⟨_, (Option.some.inj h1).symm⟩
    ·cases h1
   ·unfold not1 at h1
    split at h1
    ·exact ⟨_, (Option.some.inj h1).symm⟩
    ·cases h1
   ·cases h1
  obtain ⟨d, hd⟩ := hd
  exact ⟨h, by rw [hd]; rfl, none0 (QZ h)⟩
 case convI k x =>
  unfold Go.Abs.convI at h ⊢
  split at h
  ·exact ⟨h, by cases h; rfl, none0 (Qj h)⟩
  ·cases h
 case shift off x =>
  have hx := hn x (by simp)
  refine ⟨h, names ?_, none0 ?_⟩
  ·unfold Wp at h
   split at h <;> rename_i hv <;> first | (cases h; done) | skip
   ·cases h; rw [hv] at hx; simpa [ZF, ZG, Zn] using hx
   ·cases h; rw [hv] at hx; simpa [ZF, ZG, Zn] using hx
   ·cases h; simp [ZF, ZG, Zn]
  ·unfold Wp at h; split at h <;> first | exact Qj h | cases h
 case slice s x lo hi =>
  have hx := hn x (by simp)
  rw [ZhU (hs x (by simp))] at h
  refine ⟨h, names ?_, none0 (QZ h)⟩
  have h1 := ZbQ h
  cases hv : evO sl x <;> rw [hv] at h1 hx <;> simp only [WS] at h1 <;> first | (cases h1; done) | skip
  case d y =>
   cases y <;> simp only [WS] at h1 <;> first | (cases h1; done) | skip
   split at h1
   ·obtain ⟨b, _, h1⟩ := Za h1; rw [← Option.some.inj h1]; simp [ZF, ZG, Zn]
   ·cases h1
  case nil => obtain ⟨b, _, h1⟩ := Za h1; rw [← Option.some.inj h1]; simp [ZF, ZG, Zn]
  case own id =>
   unfold ZdV at h1
   split at h1
   ·split at h1
    ·unfold Ztx at h1
     split at h1
     ·rw [← Option.some.inj h1]; exact hx
     ·obtain ⟨b, _, h1⟩ := Za h1; rw [← Option.some.inj h1]; simpa [ZF, ZG, Zn] using hx
    ·cases h1
   ·cases h1
  case ownv id off n =>
   unfold Zbm at h1
   split at h1
   ·split at h1
    ·obtain ⟨b, _, h1⟩ := Za h1; rw [← Option.some.inj h1]; simpa [ZF, ZG, Zn] using hx
    ·cases h1
   ·cases h1
 case sliceS x lo hi =>
  have hd : ∃ d, ce.eff.val = .d d := by
   have h1 := ZbQ h
   unfold sliceS at h1
   split at h1
   ·obtain ⟨b, _, h1⟩ := Za h1; exact ⟨_, (Option.some.inj h1).symm⟩
   ·cases h1
  obtain ⟨d, hd⟩ := hd
  exact ⟨h, by rw [hd]; rfl, none0 (QZ h)⟩
 case lenS x =>
  obtain ⟨n, h1, h⟩ := Za h
  refine ⟨by rw [h1, Zj]; exact h, by cases h; rfl, none0 (Qj h)⟩
 case iaS s x i =>
  have hx := hn x (by simp)
  obtain ⟨n, h1, h⟩ := Za h
  rw [h1, Zj]
  unfold Zh3 at h ⊢
  rw [Zcn (hs x (by simp))] at h
  refine ⟨h, names ?_, none0 ?_⟩
  ·split at h
   ·have h1 := ZbQ h
    cases hv : evO sl x <;> rw [hv] at h1 hx <;> simp only [QJ] at h1 <;> first | (cases h1; done) | skip
    case d y =>
     cases y <;> simp only [QJ] at h1 <;> first | (cases h1; done) | skip
     obtain ⟨b, _, h1⟩ := Za h1
     unfold Zvz at h1
     split at h1
     ·rw [← Option.some.inj h1]; simp [ZF, ZG, Zn]
     ·cases h1
    case own id =>
     unfold Zek at h1
     split at h1
     ·split at h1
      ·rw [← Option.some.inj h1]; simpa [ZF, ZG, Zn] using hx
      ·cases h1
     ·split at h1
      ·rw [← Option.some.inj h1]; simpa [ZF, ZG, Zn] using hx
      ·cases h1
     ·cases h1
    case ownv id off n =>
     unfold ZdU at h1
     split at h1
     ·split at h1
      ·rw [← Option.some.inj h1]; simpa [ZF, ZG, Zn] using hx
      ·cases h1
     ·cases h1
   ·cases h
  ·split at h
   ·exact QZ h
   ·cases h
 case len x =>
  rw [ZfG (hs x (by simp))] at h
  obtain ⟨n, h1, h2⟩ := Za h
  exact ⟨h, by cases h2; rfl, none0 (Qj h2)⟩
end
end Go.Abs
