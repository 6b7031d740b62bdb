/- The abstract semantics and the model: names told anew, objects handed over. Own text. -/
import Derived.Test.YtkdjbefmiiibpaaDoorAbsStep8
set_option linter.unusedVariables false
set_option linter.unusedSimpArgs false
namespace Go.Abs
open Go

/-! ## Names told anew -/

section
variable {Γ Γ' : Gh} {w w' : World} {I I' : Nat → Prop}

/-- Neither data nor put together. -/
def AV.small : AV → Bool
  | .d _ => false
  | .agg _ => false
  | .tup _ => false
  | .clo _ _ => false
  | _ => true

theorem small_rep {x : AV} (hs : x.small = true) (v : Value) : (Rep Γ w I x v = Rep1 Γ w I x v) ∧ (Rep2 Γ w I x v = Rep1 Γ w I x v) ∧ (RepB Γ w I x v = Rep1 Γ w I x v) := by
  cases x <;> first | exact ⟨rfl, rfl, rfl⟩ | cases hs

theorem small_fn {x : AV} (hs : x.small = true) (g : Nat → Nat) (bad : List Nat) :
    ren g x = ren1 g x ∧ ren2 g x = ren1 g x ∧ kill bad x = kill1 bad x ∧ kill2 bad x = kill1 bad x ∧ refs x = refs1 x ∧ refs2 x = refs1 x := by
  cases x <;> first | exact ⟨rfl, rfl, rfl, rfl, rfl, rfl⟩ | cases hs

/-- The values of names are kept by g. -/
def Renames (Γ Γ' : Gh) (g : Nat → Nat) (ids : List Nat) : Prop := ∀ id ∈ ids, ∀ r, Γ id = some r → Γ' (g id) = some r

theorem ren1_rep {g : Nat → Nat} {x : AV} {v : Value} (hg : Renames Γ Γ' g (refs1 x)) (hk : Keeps I I' w w') (h : Rep1 Γ w I x v) : Rep1 Γ' w' I' (ren1 g x) v := by
  cases x with
  | d x => exact ⟨h.1, h.2.mono hk⟩
  | nil => exact h
  | nilp => exact h
  | nili => exact h
  | ptr id off => obtain ⟨b, h1, h2⟩ := h; exact ⟨b, hg id (by simp [refs1]) _ h1, h2⟩
  | prow id sz i off => obtain ⟨b, n, c, h1, h2⟩ := h; exact ⟨b, n, c, hg id (by simp [refs1]) _ h1, h2⟩
  | pim cs => obtain ⟨b, o, vs, h1, h2, h3, h4⟩ := h; exact ⟨b, o, vs, h1, hk.sub b h2, h3.mono (hk.blk b h2), h4.mono hk⟩
  | own id => obtain ⟨a, n, c, sz, h1, h2⟩ := h; exact ⟨a, n, c, sz, hg id (by simp [refs1]) _ h1, h2⟩
  | ownv id off n => obtain ⟨a0, m, c, sz, a, h1, h2⟩ := h; exact ⟨a0, m, c, sz, a, hg id (by simp [refs1]) _ h1, h2⟩
  | sub id nm => obtain ⟨⟨r, h0⟩, a, n, c, sz, h1, h2⟩ := h; exact ⟨⟨r, hg id (by simp [refs1]) _ h0⟩, a, n, c, sz, hg nm (by simp [refs1]) _ h1, h2⟩
  | bnil id e => obtain ⟨b, h1, h2⟩ := h; exact ⟨b, hg id (by simp [refs1]) _ h1, h2⟩
  | bbuf a b => exact h
  | agg cs => exact h.elim
  | tup cs => exact h.elim
  | clo f cs => exact h.elim
  | junk => exact trivial

theorem renL_rep {g : Nat → Nat} : ∀ {xs : List AV} {vs : List Value}, Renames Γ Γ' g (xs.flatMap refs1) → Keeps I I' w w' → All2 (Rep1 Γ w I) xs vs → All2 (Rep1 Γ' w' I') (xs.map (ren1 g)) vs
  | [], [], _, _, _ => trivial
  | [], _ :: _, _, _, h => h.elim
  | _ :: _, [], _, _, h => h.elim
  | x :: xs, v :: vs, hg, hk, h => ⟨ren1_rep (fun id hid => hg id (by simp [hid])) hk h.1, renL_rep (fun id hid => hg id (by simp only [List.flatMap_cons, List.mem_append]; exact .inr hid)) hk h.2⟩

theorem renB_rep {g : Nat → Nat} {x : AV} {v : Value} (hg : Renames Γ Γ' g (refs2 x)) (hk : Keeps I I' w w') (h : RepB Γ w I x v) : RepB Γ' w' I' (ren2 g x) v := by
  by_cases hs : x.small = true
  · rw [(small_fn hs g []).2.2.2.2.2] at hg
    rw [(small_rep hs v).2.2] at h
    rw [(small_fn hs g []).2.1]
    exact (ren1_rep hg hk h).repB
  · cases x with
    | clo f cs => obtain ⟨us, h1, h2⟩ := h; exact ⟨us, h1, renL_rep hg hk h2⟩
    | agg cs => exact h.elim
    | tup cs => exact h.elim
    | d x => exact ⟨h.1, h.2.mono hk⟩
    | _ => exact absurd rfl hs

theorem ren2_rep {g : Nat → Nat} {x : AV} {v : Value} (hg : Renames Γ Γ' g (refs2 x)) (hk : Keeps I I' w w') (h : Rep2 Γ w I x v) : Rep2 Γ' w' I' (ren2 g x) v := by
  by_cases hs : x.small = true
  · rw [(small_fn hs g []).2.2.2.2.2] at hg
    rw [(small_rep hs v).2.1] at h
    rw [(small_fn hs g []).2.1]
    exact (ren1_rep hg hk h).rep2
  · cases x with
    | clo f cs => obtain ⟨us, h1, h2⟩ := h; exact ⟨us, h1, renL_rep hg hk h2⟩
    | agg cs => obtain ⟨us, h1, h2⟩ := h; exact ⟨us, h1, renL_rep hg hk h2⟩
    | tup cs => exact h.elim
    | d x => exact rep2_d.2 ((rep2_d.1 h).mono hk)
    | _ => exact absurd rfl hs

theorem renL2_rep {g : Nat → Nat} : ∀ {xs : List AV} {vs : List Value}, Renames Γ Γ' g (xs.flatMap refs2) → Keeps I I' w w' → All2 (Rep2 Γ w I) xs vs → All2 (Rep2 Γ' w' I') (xs.map (ren2 g)) vs
  | [], [], _, _, _ => trivial
  | [], _ :: _, _, _, h => h.elim
  | _ :: _, [], _, _, h => h.elim
  | x :: xs, v :: vs, hg, hk, h => ⟨ren2_rep (fun id hid => hg id (by simp only [List.flatMap_cons, List.mem_append]; exact .inl hid)) hk h.1, renL2_rep (fun id hid => hg id (by simp only [List.flatMap_cons, List.mem_append]; exact .inr hid)) hk h.2⟩

theorem renBL_rep {g : Nat → Nat} : ∀ {xs : List AV} {vs : List Value}, Renames Γ Γ' g (xs.flatMap refs2) → Keeps I I' w w' → All2 (RepB Γ w I) xs vs → All2 (RepB Γ' w' I') (xs.map (ren2 g)) vs
  | [], [], _, _, _ => trivial
  | [], _ :: _, _, _, h => h.elim
  | _ :: _, [], _, _, h => h.elim
  | x :: xs, v :: vs, hg, hk, h => ⟨renB_rep (fun id hid => hg id (by simp only [List.flatMap_cons, List.mem_append]; exact .inl hid)) hk h.1, renBL_rep (fun id hid => hg id (by simp only [List.flatMap_cons, List.mem_append]; exact .inr hid)) hk h.2⟩

theorem ren_rep {g : Nat → Nat} {x : AV} {v : Value} (hg : Renames Γ Γ' g (refs x)) (hk : Keeps I I' w w') (h : Rep Γ w I x v) : Rep Γ' w' I' (ren g x) v := by
  by_cases hs : x.small = true
  · rw [(small_fn hs g []).2.2.2.2.1] at hg
    rw [(small_rep hs v).1] at h
    rw [(small_fn hs g []).1]
    exact (ren1_rep hg hk h).rep2.rep
  · cases x with
    | tup vs => obtain ⟨us, h1, h2⟩ := h; exact ⟨us, h1, renL2_rep hg hk h2⟩
    | clo f cs => exact ren2_rep (g := g) (x := .clo f cs) hg hk h
    | agg cs => exact ren2_rep (g := g) (x := .agg cs) hg hk h
    | d x => exact rep_d.2 ((rep_d.1 h).mono hk)
    | _ => exact absurd rfl hs

/-! ## Names struck -/

theorem kill1_rep {bad : List Nat} {x : AV} {v : Value} (h : Rep1 Γ w I x v) : Rep1 Γ w I (kill1 bad x) v := by
  cases x <;> simp only [kill1] <;> first | exact h | (split <;> first | exact trivial | exact h)

theorem killL_rep {bad : List Nat} {xs : List AV} {vs : List Value} (h : All2 (Rep1 Γ w I) xs vs) : All2 (Rep1 Γ w I) (xs.map (kill1 bad)) vs := h.map_left fun _ _ h => kill1_rep h

theorem killB_rep {bad : List Nat} {x : AV} {v : Value} (h : RepB Γ w I x v) : RepB Γ w I (kill2 bad x) v := by
  by_cases hs : x.small = true
  · rw [(small_rep hs v).2.2] at h
    rw [(small_fn hs id bad).2.2.2.1]
    exact (kill1_rep h).repB
  · cases x with
    | clo f cs => obtain ⟨us, h1, h2⟩ := h; exact ⟨us, h1, killL_rep h2⟩
    | agg cs => exact h.elim
    | tup cs => exact h.elim
    | d x => exact h
    | _ => exact absurd rfl hs

theorem kill2_rep {bad : List Nat} {x : AV} {v : Value} (h : Rep2 Γ w I x v) : Rep2 Γ w I (kill2 bad x) v := by
  by_cases hs : x.small = true
  · rw [(small_rep hs v).2.1] at h
    rw [(small_fn hs id bad).2.2.2.1]
    exact (kill1_rep h).rep2
  · cases x with
    | clo f cs => obtain ⟨us, h1, h2⟩ := h; exact ⟨us, h1, killL_rep h2⟩
    | agg cs => obtain ⟨us, h1, h2⟩ := h; exact ⟨us, h1, killL_rep h2⟩
    | tup cs => exact h.elim
    | d x => exact h
    | _ => exact absurd rfl hs

theorem kill_rep {bad : List Nat} {x : AV} {v : Value} (h : Rep Γ w I x v) : Rep Γ w I (kill bad x) v := by
  by_cases hs : x.small = true
  · rw [(small_rep hs v).1] at h
    rw [(small_fn hs id bad).2.2.1]
    exact (kill1_rep h).rep2.rep
  · cases x with
    | tup vs => obtain ⟨us, h1, h2⟩ := h; exact ⟨us, h1, h2.map_left fun _ _ h => kill2_rep h⟩
    | clo f cs => exact (kill2_rep (bad := bad) (x := .clo f cs) h).rep
    | agg cs => exact (kill2_rep (bad := bad) (x := .agg cs) h).rep
    | d x => exact h
    | _ => exact absurd rfl hs

/-! The names that are left. -/

theorem refs_kill1 (bad : List Nat) (x : AV) : ∀ id ∈ refs1 (kill1 bad x), id ∈ refs1 x ∧ id ∉ bad := by
  intro id hid
  cases x <;> simp only [kill1] at hid <;> first
    | (simp [refs1] at hid; done)
    | (split at hid
       · simp [refs1] at hid
       · rename_i hb; simp [refs1] at hid hb ⊢; first | (subst hid; simpa using hb) | (rcases hid with rfl | rfl <;> simp [hb]))

theorem refsL_kill (bad : List Nat) (xs : List AV) : ∀ id ∈ (xs.map (kill1 bad)).flatMap refs1, id ∈ xs.flatMap refs1 ∧ id ∉ bad := by
  intro id hid
  obtain ⟨y, hy, hid⟩ := List.mem_flatMap.1 hid
  obtain ⟨x, hx, rfl⟩ := List.mem_map.1 hy
  obtain ⟨h1, h2⟩ := refs_kill1 bad x id hid
  exact ⟨List.mem_flatMap.2 ⟨x, hx, h1⟩, h2⟩

theorem refs_kill2 (bad : List Nat) (x : AV) : ∀ id ∈ refs2 (kill2 bad x), id ∈ refs2 x ∧ id ∉ bad := by
  intro id hid
  by_cases hs : x.small = true
  · rw [(small_fn hs (fun k => k) bad).2.2.2.1] at hid
    have hs' : refs2 (kill1 bad x) = refs1 (kill1 bad x) := by
      cases x <;> simp only [kill1] <;> first | rfl | (split <;> rfl) | (cases hs)
    rw [hs'] at hid
    rw [(small_fn hs (fun k => k) bad).2.2.2.2.2]
    exact refs_kill1 bad x id hid
  · cases x with
    | agg cs => exact refsL_kill bad cs id hid
    | clo f cs => exact refsL_kill bad cs id hid
    | tup cs => simp [kill2, kill1, refs2, refs1] at hid
    | d x => simp [kill2, kill1, refs2, refs1] at hid
    | _ => exact absurd rfl hs

theorem refs_kill (bad : List Nat) (x : AV) : ∀ id ∈ refs (kill bad x), id ∈ refs x ∧ id ∉ bad := by
  intro id hid
  by_cases hs : x.small = true
  · rw [(small_fn hs (fun k => k) bad).2.2.1] at hid
    have hs' : refs (kill1 bad x) = refs1 (kill1 bad x) := by
      cases x <;> simp only [kill1] <;> first | rfl | (split <;> rfl) | (cases hs)
    rw [hs'] at hid
    rw [(small_fn hs (fun k => k) bad).2.2.2.2.1]
    exact refs_kill1 bad x id hid
  · cases x with
    | tup vs =>
      obtain ⟨y, hy, hid⟩ := List.mem_flatMap.1 hid
      obtain ⟨x, hx, rfl⟩ := List.mem_map.1 hy
      obtain ⟨h1, h2⟩ := refs_kill2 bad x id hid
      exact ⟨List.mem_flatMap.2 ⟨x, hx, h1⟩, h2⟩
    | agg cs => exact refsL_kill bad cs id hid
    | clo f cs => exact refsL_kill bad cs id hid
    | d x => simp [kill, kill2, kill1, refs, refs2, refs1] at hid
    | _ => exact absurd rfl hs

end

/-! ## What is reached -/

theorem reach_ok (hp : Hp) : ∀ (n : Nat) (todo acc : List Nat), acc.Nodup → (reach hp n todo acc).Nodup ∧ (∀ id ∈ acc, id ∈ reach hp n todo acc) ∧ (∀ id ∈ reach hp n todo acc, id ∈ acc ∨ ∃ o, lkp hp id = some o)
  | 0, todo, acc, h => by simp only [reach]; exact ⟨h, fun _ h => h, fun _ h => .inl h⟩
  | n + 1, [], acc, h => by simp only [reach]; exact ⟨h, fun _ h => h, fun _ h => .inl h⟩
  | n + 1, id :: todo, acc, h => by
    simp only [reach]
    split
    · exact reach_ok hp n todo acc h
    · rename_i hc
      cases hl : lkp hp id with
      | none => simp only [reachGo]; exact reach_ok hp n todo acc h
      | some o =>
        simp only [reachGo]
        have hnd : (acc ++ [id]).Nodup := by
          rw [List.nodup_append]
          refine ⟨h, by simp, ?_⟩
          intro a ha b hb
          simp at hb
          subst hb
          intro e
          subst e
          simp at hc
          exact hc ha
        obtain ⟨h1, h2, h3⟩ := reach_ok hp n (todo ++ orefs o) (acc ++ [id]) hnd
        refine ⟨h1, fun x hx => h2 x (by simp [hx]), fun x hx => ?_⟩
        rcases h3 x hx with h4 | h4
        · simp at h4
          rcases h4 with h4 | rfl
          · exact .inl h4
          · exact .inr ⟨o, hl⟩
        · exact .inr h4

theorem posOf_lt : ∀ {ids : List Nat} {id : Nat}, id ∈ ids → posOf ids id < ids.length ∧ ids[posOf ids id]? = some id
  | [], _, h => by simp at h
  | x :: r, id, h => by
    simp only [posOf]
    split
    · rename_i e; subst e; simp
    · rename_i e
      rcases List.mem_cons.1 h with h | h
      · exact absurd h.symm e
      · obtain ⟨h1, h2⟩ := posOf_lt h
        exact ⟨by simp; omega, by simpa using h2⟩

theorem posOf_get : ∀ {ids : List Nat}, ids.Nodup → ∀ {k id : Nat}, ids[k]? = some id → posOf ids id = k
  | [], _, k, id, h => by simp at h
  | x :: r, hn, k, id, h => by
    rw [List.nodup_cons] at hn
    cases k with
    | zero => simp at h; subst h; simp [posOf]
    | succ k =>
      simp at h
      have hne : x ≠ id := fun e => hn.1 (e ▸ List.mem_of_getElem? h)
      simp only [posOf, if_neg hne, posOf_get hn.2 h]

def orIf {α : Type} (b : Option α) : Option α → Option α
  | some v => some v
  | none => b

theorem lkp_snoc {α : Type} : ∀ (l : List (Nat × α)) (k : Nat) (v : α) (t : Nat), lkp (l ++ [(k, v)]) t = orIf (if k = t then some v else none) (lkp l t)
  | [], k, v, t => by simp [lkp, orIf]
  | (j, x) :: l, k, v, t => by
    by_cases h : j = t
    · simp [lkp, h, orIf]
    · simp [lkp, h, lkp_snoc l k v t]

theorem lkp_numb : ∀ (l : List AObj) (k i : Nat), lkp (numb k l) i = if k ≤ i then l[i - k]? else none
  | [], k, i => by simp [numb, lkp]
  | o :: r, k, i => by
    simp only [numb, lkp_snoc, lkp_numb r]
    by_cases h1 : k = i
    · subst h1; simp [orIf, Nat.not_succ_le_self]
    · by_cases h2 : k ≤ i
      · rw [if_neg h1, if_pos (by omega), if_pos h2]
        have : i - k = (i - (k + 1)) + 1 := by omega
        rw [this]; simp; cases r[i - (k + 1)]? <;> rfl
      · rw [if_neg h1, if_neg (by omega), if_neg h2]; rfl

theorem lkpL_get (hp : Hp) : ∀ (ids : List Nat) (k : Nat), (lkpL hp ids)[k]? = (ids[k]?).map fun id => objOr (lkp hp id)
  | [], k => by simp [lkpL]
  | id :: r, 0 => by simp [lkpL]
  | id :: r, k + 1 => by simp [lkpL, lkpL_get hp r k]

end Go.Abs
