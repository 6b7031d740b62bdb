/- The abstract semantics and the model: names told anew, objects handed over. Own text. -/
import Derived.Test.YtpobhkoombldlaaGreatAbsStep8
set_option linter.unusedVariables false
set_option linter.unusedSimpArgs false
namespace Go.Abs
open Go
section
variable {Γ Γ' : Gh} {w w' : World} {I I' : Nat → Prop}
def AV.small : AV → Bool
 | .d _ => false
 | .agg _ => false
 | .tup _ => false
 | .clo _ _ => false
 | _ => true
theorem UV {x : AV} (hs : x.small = true) (v : Value) : (Rep Γ w I x v = VQ Γ w I x v) ∧ (ZaS Γ w I x v = VQ Γ w I x v) ∧ (YU Γ w I x v = VQ Γ w I x v) := by
 cases x <;> first | exact ⟨rfl, rfl, rfl⟩ | cases hs
theorem Vf {x : AV} (hs : x.small = true) (g : Nat → Nat) (bad : List Nat) :
  ren g x = Zhc g x ∧ Zhd g x = Zhc g x ∧ kill bad x = Qr bad x ∧ Z4 bad x = Qr bad x ∧ ZF x = Zn x ∧ ZG x = Zn x := by
 cases x <;> first | exact ⟨rfl, rfl, rfl, rfl, rfl, rfl⟩ | cases hs
def ZbB (Γ Γ' : Gh) (g : Nat → Nat) (ids : List Nat) : Prop := ∀ id ∈ ids, ∀ r, Γ id = some r → Γ' (g id) = some r
theorem Zkj {g : Nat → Nat} {x : AV} {v : Value} (hg : ZbB Γ Γ' g (Zn x)) (hk : ZV I I' w w') (h : VQ Γ w I x v) : VQ Γ' w' I' (Zhc g x) v := by
 cases x with
 | d x => exact ⟨h.1, h.2.mono hk⟩
 | nil => exact h
 | nilp => exact h
 | nili => exact h
 | ptr id off => obtain ⟨b, h1, h2⟩ := h; exact ⟨b, hg id (by simp [Zn]) _ h1, h2⟩
 | prow id sz i off => obtain ⟨b, n, c, h1, h2⟩ := h; exact ⟨b, n, c, hg id (by simp [Zn]) _ h1, h2⟩
 | pim cs => obtain ⟨b, o, vs, h1, h2, h3, h4⟩ := h; exact ⟨b, o, vs, h1, hk.sub b h2, h3.mono (hk.blk b h2), h4.mono hk⟩
 | own id => obtain ⟨a, n, c, sz, h1, h2⟩ := h; exact ⟨a, n, c, sz, hg id (by simp [Zn]) _ h1, h2⟩
 | ownv id off n => obtain ⟨a0, m, c, sz, a, h1, h2⟩ := h; exact ⟨a0, m, c, sz, a, hg id (by simp [Zn]) _ h1, h2⟩
 | sub id nm => obtain ⟨⟨r, h0⟩, a, n, c, sz, h1, h2⟩ := h; exact ⟨⟨r, hg id (by simp [Zn]) _ h0⟩, a, n, c, sz, hg nm (by simp [Zn]) _ h1, h2⟩
 | agg cs => exact h.elim
 | tup cs => exact h.elim
 | clo f cs => exact h.elim
 | junk => exact trivial
theorem Zkk {g : Nat → Nat} : ∀ {xs : List AV} {vs : List Value}, ZbB Γ Γ' g (xs.flatMap Zn) → ZV I I' w w' → Zy (VQ Γ w I) xs vs → Zy (VQ Γ' w' I') (xs.map (Zhc g)) vs
 | [], [], _, _, _ => trivial
 | [], _ :: _, _, _, h => h.elim
 | _ :: _, [], _, _, h => h.elim
 | x :: xs, v :: vs, hg, hk, h => ⟨Zkj (fun id hid => hg id (by simp [hid])) hk h.1, Zkk (fun id hid => hg id (by simp only [List.flatMap_cons, List.mem_append]; exact .inr hid)) hk h.2⟩
theorem Zxs {g : Nat → Nat} {x : AV} {v : Value} (hg : ZbB Γ Γ' g (ZG x)) (hk : ZV I I' w w') (h : YU Γ w I x v) : YU Γ' w' I' (Zhd g x) v := by
 by_cases hs : x.small = true
 ·rw [(Vf hs g []).2.2.2.2.2] at hg
  rw [(UV hs v).2.2] at h
  rw [(Vf hs g []).2.1]
  exact (Zkj hg hk h).repB
 ·cases x with
  | clo f cs => obtain ⟨us, h1, h2⟩ := h; exact ⟨us, h1, Zkk hg hk h2⟩
  | agg cs => exact h.elim
  | tup cs => exact h.elim
  | d x => exact ⟨h.1, h.2.mono hk⟩
  | _ => exact absurd rfl hs
theorem ZnU {g : Nat → Nat} {x : AV} {v : Value} (hg : ZbB Γ Γ' g (ZG x)) (hk : ZV I I' w w') (h : ZaS Γ w I x v) : ZaS Γ' w' I' (Zhd g x) v := by
 by_cases hs : x.small = true
 ·rw [(Vf hs g []).2.2.2.2.2] at hg
  rw [(UV hs v).2.1] at h
  rw [(Vf hs g []).2.1]
  exact (Zkj hg hk h).rep2
 ·cases x with
  | clo f cs => obtain ⟨us, h1, h2⟩ := h; exact ⟨us, h1, Zkk hg hk h2⟩
  | agg cs => obtain ⟨us, h1, h2⟩ := h; exact ⟨us, h1, Zkk hg hk h2⟩
  | tup cs => exact h.elim
  | d x => exact Zr4.2 ((Zr4.1 h).mono hk)
  | _ => exact absurd rfl hs
theorem Zqk {g : Nat → Nat} : ∀ {xs : List AV} {vs : List Value}, ZbB Γ Γ' g (xs.flatMap ZG) → ZV I I' w w' → Zy (ZaS Γ w I) xs vs → Zy (ZaS Γ' w' I') (xs.map (Zhd g)) vs
 | [], [], _, _, _ => trivial
 | [], _ :: _, _, _, h => h.elim
 | _ :: _, [], _, _, h => h.elim
 | x :: xs, v :: vs, hg, hk, h => ⟨ZnU (fun id hid => hg id (by simp only [List.flatMap_cons, List.mem_append]; exact .inl hid)) hk h.1, Zqk (fun id hid => hg id (by simp only [List.flatMap_cons, List.mem_append]; exact .inr hid)) hk h.2⟩
theorem ZfB {g : Nat → Nat} : ∀ {xs : List AV} {vs : List Value}, ZbB Γ Γ' g (xs.flatMap ZG) → ZV I I' w w' → Zy (YU Γ w I) xs vs → Zy (YU Γ' w' I') (xs.map (Zhd g)) vs
 | [], [], _, _, _ => trivial
 | [], _ :: _, _, _, h => h.elim
 | _ :: _, [], _, _, h => h.elim
 | x :: xs, v :: vs, hg, hk, h => ⟨Zxs (fun id hid => hg id (by simp only [List.flatMap_cons, List.mem_append]; exact .inl hid)) hk h.1, ZfB (fun id hid => hg id (by simp only [List.flatMap_cons, List.mem_append]; exact .inr hid)) hk h.2⟩
theorem ZmY {g : Nat → Nat} {x : AV} {v : Value} (hg : ZbB Γ Γ' g (ZF x)) (hk : ZV I I' w w') (h : Rep Γ w I x v) : Rep Γ' w' I' (ren g x) v := by
 by_cases hs : x.small = true
 ·rw [(Vf hs g []).2.2.2.2.1] at hg
  rw [(UV hs v).1] at h
  rw [(Vf hs g []).1]
  exact (Zkj hg hk h).rep2.rep
 ·cases x with
  | tup vs => obtain ⟨us, h1, h2⟩ := h; exact ⟨us, h1, Zqk hg hk h2⟩
  | clo f cs => exact ZnU (g := g) (x := .clo f cs) hg hk h
  | agg cs => exact ZnU (g := g) (x := .agg cs) hg hk h
  | d x => exact Yp.2 ((Yp.1 h).mono hk)
  | _ => exact absurd rfl hs
theorem Zit {bad : List Nat} {x : AV} {v : Value} (h : VQ Γ w I x v) : VQ Γ w I (Qr bad x) v := by
 cases x <;> simp only [Qr] <;> first | exact h | (split <;> first | exact trivial | exact h)
theorem Zlk {bad : List Nat} {xs : List AV} {vs : List Value} (h : Zy (VQ Γ w I) xs vs) : Zy (VQ Γ w I) (xs.map (Qr bad)) vs := h.map_left fun _ _ h => Zit h
theorem Zll {bad : List Nat} {x : AV} {v : Value} (h : YU Γ w I x v) : YU Γ w I (Z4 bad x) v := by
 by_cases hs : x.small = true
 ·rw [(UV hs v).2.2] at h
  rw [(Vf hs id bad).2.2.2.1]
  exact (Zit h).repB
 ·cases x with
  | clo f cs => obtain ⟨us, h1, h2⟩ := h; exact ⟨us, h1, Zlk h2⟩
  | agg cs => exact h.elim
  | tup cs => exact h.elim
  | d x => exact h
  | _ => exact absurd rfl hs
theorem Zlm {bad : List Nat} {x : AV} {v : Value} (h : ZaS Γ w I x v) : ZaS Γ w I (Z4 bad x) v := by
 by_cases hs : x.small = true
 ·rw [(UV hs v).2.1] at h
  rw [(Vf hs id bad).2.2.2.1]
  exact (Zit h).rep2
 ·cases x with
  | clo f cs => obtain ⟨us, h1, h2⟩ := h; exact ⟨us, h1, Zlk h2⟩
  | agg cs => obtain ⟨us, h1, h2⟩ := h; exact ⟨us, h1, Zlk h2⟩
  | tup cs => exact h.elim
  | d x => exact h
  | _ => exact absurd rfl hs
theorem ZsS {bad : List Nat} {x : AV} {v : Value} (h : Rep Γ w I x v) : Rep Γ w I (kill bad x) v := by
 by_cases hs : x.small = true
 ·rw [(UV hs v).1] at h
  rw [(Vf hs id bad).2.2.1]
  exact (Zit h).rep2.rep
 ·cases x with
  | tup vs => obtain ⟨us, h1, h2⟩ := h; exact ⟨us, h1, h2.map_left fun _ _ h => Zlm h⟩
  | clo f cs => exact (Zlm (bad := bad) (x := .clo f cs) h).rep
  | agg cs => exact (Zlm (bad := bad) (x := .agg cs) h).rep
  | d x => exact h
  | _ => exact absurd rfl hs
theorem Zjv (bad : List Nat) (x : AV) : ∀ id ∈ Zn (Qr bad x), id ∈ Zn x ∧ id ∉ bad := by
 intro id hid
 cases x <;> simp only [Qr] at hid <;> first
  | (simp [Zn] at hid; done)
  | (split at hid
     ·simp [Zn] at hid
     ·rename_i hb; simp [Zn] at hid hb ⊢; first | (subst hid; simpa using hb) | (rcases hid with rfl | rfl <;> simp [hb]))
theorem Zgv (bad : List Nat) (xs : List AV) : ∀ id ∈ (xs.map (Qr bad)).flatMap Zn, id ∈ xs.flatMap Zn ∧ id ∉ bad := by
 intro id hid
 obtain ⟨y, hy, hid⟩ := List.mem_flatMap.1 hid
 obtain ⟨x, hx, rfl⟩ := List.mem_map.1 hy
 obtain ⟨h1, h2⟩ := Zjv bad x id hid
 exact ⟨List.mem_flatMap.2 ⟨x, hx, h1⟩, h2⟩
theorem Zgw (bad : List Nat) (x : AV) : ∀ id ∈ ZG (Z4 bad x), id ∈ ZG x ∧ id ∉ bad := by
 intro id hid
 by_cases hs : x.small = true
 ·rw [(Vf hs (fun k => k) bad).2.2.2.1] at hid
  have hs' : ZG (Qr bad x) = Zn (Qr bad x) := by
   cases x <;> simp only [Qr] <;> first | rfl | (split <;> rfl) | (cases hs)
  rw [hs'] at hid
  rw [(Vf hs (fun k => k) bad).2.2.2.2.2]
  exact Zjv bad x id hid
 ·cases x with
  | agg cs => exact Zgv bad cs id hid
  | clo f cs => exact Zgv bad cs id hid
  | tup cs => simp [Z4, Qr, ZG, Zn] at hid
  | d x => simp [Z4, Qr, ZG, Zn] at hid
  | _ => exact absurd rfl hs
theorem Zln (bad : List Nat) (x : AV) : ∀ id ∈ ZF (kill bad x), id ∈ ZF x ∧ id ∉ bad := by
 intro id hid
 by_cases hs : x.small = true
 ·rw [(Vf hs (fun k => k) bad).2.2.1] at hid
  have hs' : ZF (Qr bad x) = Zn (Qr bad x) := by
   cases x <;> simp only [Qr] <;> first | rfl | (split <;> rfl) | (cases hs)
  rw [hs'] at hid
  rw [(Vf hs (fun k => k) bad).2.2.2.2.1]
  exact Zjv bad x id hid
 ·cases x with
  | tup vs =>
   obtain ⟨y, hy, hid⟩ := List.mem_flatMap.1 hid
   obtain ⟨x, hx, rfl⟩ := List.mem_map.1 hy
   obtain ⟨h1, h2⟩ := Zgw bad x id hid
   exact ⟨List.mem_flatMap.2 ⟨x, hx, h1⟩, h2⟩
  | agg cs => exact Zgv bad cs id hid
  | clo f cs => exact Zgv bad cs id hid
  | d x => simp [kill, Z4, Qr, ZF, ZG, Zn] at hid
  | _ => exact absurd rfl hs
end
theorem ZbP (hp : Hp) : ∀ (n : Nat) (todo acc : List Nat), acc.Nodup → (QT hp n todo acc).Nodup ∧ (∀ id ∈ acc, id ∈ QT hp n todo acc) ∧ (∀ id ∈ QT hp n todo acc, id ∈ acc ∨ ∃ o, lkp hp id = some o)
 | 0, todo, acc, h => by simp only [QT]; exact ⟨h, fun _ h => h, fun _ h => .inl h⟩
 | n + 1, [], acc, h => by simp only [QT]; exact ⟨h, fun _ h => h, fun _ h => .inl h⟩
 | n + 1, id :: todo, acc, h => by
  simp only [QT]
  split
  ·exact ZbP hp n todo acc h
  ·rename_i hc
   cases hl : lkp hp id with
   | none => simp only [ZaL]; exact ZbP hp n todo acc h
   | some o =>
    simp only [ZaL]
    have hnd : (acc ++ [id]).Nodup := by
     rw [List.nodup_append]
     refine ⟨h, by simp, ?_⟩
     intro a ha b hb
     simp at hb
     subst hb
     intro e
     subst e
     simp at hc
     exact hc ha
    obtain ⟨h1, h2, h3⟩ := ZbP hp n (todo ++ ZbO o) (acc ++ [id]) hnd
    refine ⟨h1, fun x hx => h2 x (by simp [hx]), fun x hx => ?_⟩
    rcases h3 x hx with h4 | h4
    ·simp at h4
     rcases h4 with h4 | rfl
     ·exact .inl h4
     ·exact .inr ⟨o, hl⟩
    ·exact .inr h4
theorem Zkl : ∀ {ids : List Nat} {id : Nat}, id ∈ ids → WY ids id < ids.length ∧ ids[WY ids id]? = some id
 | [], _, h => by simp at h
 | x :: r, id, h => by
  simp only [WY]
  split
  ·rename_i e; subst e; simp
  ·rename_i e
   rcases List.mem_cons.1 h with h | h
   ·exact absurd h.symm e
   ·obtain ⟨h1, h2⟩ := Zkl h
    exact ⟨by simp; omega, by simpa using h2⟩
theorem Ziu : ∀ {ids : List Nat}, ids.Nodup → ∀ {k id : Nat}, ids[k]? = some id → WY ids id = k
 | [], _, k, id, h => by simp at h
 | x :: r, hn, k, id, h => by
  rw [List.nodup_cons] at hn
  cases k with
  | zero => simp at h; subst h; simp [WY]
  | succ k =>
   simp at h
   have hne : x ≠ id := fun e => hn.1 (e ▸ List.mem_of_getElem? h)
   simp only [WY, if_neg hne, Ziu hn.2 h]
def ZvZ {α : Type} (b : Option α) : Option α → Option α
 | some v => some v
 | none => b
theorem Zkm {α : Type} : ∀ (l : List (Nat × α)) (k : Nat) (v : α) (t : Nat), lkp (l ++ [(k, v)]) t = ZvZ (if k = t then some v else none) (lkp l t)
 | [], k, v, t => by simp [lkp, ZvZ]
 | (j, x) :: l, k, v, t => by
  by_cases h : j = t
  ·simp [lkp, h, ZvZ]
  ·simp [lkp, h, Zkm l k v t]
theorem Wv : ∀ (l : List Zr) (k i : Nat), lkp (WU k l) i = if k ≤ i then l[i - k]? else none
 | [], k, i => by simp [WU, lkp]
 | o :: r, k, i => by
  simp only [WU, Zkm, Wv r]
  by_cases h1 : k = i
  ·subst h1; simp [ZvZ, Nat.not_succ_le_self]
  ·by_cases h2 : k ≤ i
   ·rw [if_neg h1, if_pos (by omega), if_pos h2]
    have : i - k = (i - (k + 1)) + 1 := by omega
    rw [this]; simp; cases r[i - (k + 1)]? <;> rfl
   ·rw [if_neg h1, if_neg (by omega), if_neg h2]; rfl
theorem ZdM (hp : Hp) : ∀ (ids : List Nat) (k : Nat), (ZdW hp ids)[k]? = (ids[k]?).map fun id => ZkC (lkp hp id)
 | [], k => by simp [ZdW]
 | id :: r, 0 => by simp [ZdW]
 | id :: r, k + 1 => by simp [ZdW, ZdM hp r k]
end Go.Abs
