/- The abstract semantics and the model: operations that make or turn something. Own text. -/
import Derived.Test.YtbodfpboklcgoaaAbsPure
set_option linter.unusedVariables false
set_option linter.unusedSimpArgs false
namespace Go.Abs
open Go

/-! ## Finite maps -/

theorem lkp_ins {α : Type} : ∀ (l : List (Nat × α)) (t : Nat) (v : α) (t' : Nat), lkp (ins l t v) t' = if t = t' then some v else lkp l t'
  | [], t, v, t' => by simp [ins, lkp]
  | (k, x) :: r, t, v, t' => by
    simp only [ins]
    split
    · simp [lkp]
    · split
      · rename_i h; subst h; by_cases ht : k = t' <;> simp [lkp, ht]
      · rename_i h
        simp only [lkp, lkp_ins r t v t']
        by_cases hk : k = t'
        · subst hk; simp [Ne.symm h]
        · simp [hk]

theorem lkp_del : ∀ (l : Hp) (t t' : Nat), lkp (del l t) t' = if t = t' then none else lkp l t'
  | [], t, t' => by simp [del, lkp]
  | (k, x) :: r, t, t' => by
    simp only [del]
    split
    · rename_i h; subst h; rw [lkp_del r k t']
      by_cases ht : k = t' <;> simp [lkp, ht]
    · rename_i h
      simp only [lkp, lkp_del r t t']
      by_cases hk : k = t'
      · subst hk; simp [Ne.symm h]
      · simp [hk]

theorem lkp_delAll : ∀ (ds : List Nat) (l : Hp) (id : Nat) (o : AObj), lkp (delAll l ds) id = some o → lkp l id = some o ∧ id ∉ ds
  | [], l, id, o, h => ⟨h, by simp⟩
  | d :: ds, l, id, o, h => by
    obtain ⟨h1, h2⟩ := lkp_delAll ds (del l d) id o h
    rw [lkp_del] at h1
    split at h1
    · cases h1
    · rename_i hd
      exact ⟨h1, by simp only [List.mem_cons, not_or]; exact ⟨fun e => hd e.symm, h2⟩⟩

theorem lkp_insAll : ∀ (l : Hp) (hp : Hp) (id : Nat) (o : AObj), lkp (insAll hp l) id = some o → (id, o) ∈ l ∨ lkp hp id = some o
  | [], hp, id, o, h => .inr h
  | (k, x) :: r, hp, id, o, h => by
    rcases lkp_insAll r (ins hp k x) id o h with h1 | h1
    · exact .inl (List.mem_cons_of_mem _ h1)
    · rw [lkp_ins] at h1
      split at h1
      · rename_i hk; subst hk; cases h1; exact .inl (List.mem_cons_self ..)
      · exact .inr h1

theorem lkp_freeze (ids : List Nat) : ∀ (l : Hp) (id : Nat), lkp (freeze ids l) id = (lkp l id).map fun o => if ids.contains id then freeze1 o else o
  | [], id => by simp [freeze, lkp]
  | (k, x) :: r, id => by
    simp only [freeze, lkp, lkp_freeze ids r id]
    by_cases hk : k = id
    · subst hk; simp
    · simp [hk]

theorem lkp_freezeAll (ids : List Nat) (l : Hp) (id : Nat) : lkp (freezeAll ids l) id = (lkp l id).map fun o => if ids.contains id then freeze1 o else o := by
  unfold freezeAll
  split
  · simp
  · exact lkp_freeze _ l id

theorem lkp_mapV {α β : Type} (f : α → β) : ∀ (l : List (Nat × α)) (t : Nat), lkp (mapV f l) t = (lkp l t).map f
  | [], t => by simp [mapV, lkp]
  | (k, x) :: r, t => by
    simp only [mapV, lkp, lkp_mapV f r t]
    by_cases hk : k = t <;> simp [hk]

theorem gs_putD (sl : Sl) (dst : Option Nat) (v : AV) (t : Nat) : gs (putD sl dst v) t = if dst = some t then v else gs sl t := by
  cases dst with
  | none => simp [putD]
  | some d =>
    simp only [putD, gs, lkp_ins, Option.some.injEq]
    by_cases h : d = t <;> simp [h, orJunk]

theorem okAdds_lt : ∀ {l : Hp} {lo hi : Nat}, okAdds lo hi l = true → ∀ k o, (k, o) ∈ l → lo ≤ k ∧ k < hi
  | [], _, _, _, k, o, h => by simp at h
  | (k', o') :: r, lo, hi, h, k, o, hm => by
    simp only [okAdds, Bool.and_eq_true, decide_eq_true_eq] at h
    rcases List.mem_cons.1 hm with hm | hm
    · cases hm; exact ⟨h.1.1, h.1.2⟩
    · have := okAdds_lt h.2 k o hm; exact ⟨by omega, this.2⟩

/-! ## One step -/

/-- What is known behind a piece of code. -/
def Post (nt : Nat) (F A I : Nat → Prop) (Γ : Gh) (w : World) (U' : Nat → Prop) (sl' : Sl) (hp' : Hp) (a' : Act) (w' : World) : Prop :=
  ∃ I' Γ', (∀ id b, Γ id = some (.box b) → Γ' id = some (.box b)) ∧ Keeps I I' w w' ∧ (∀ b, I' b → I b ∨ F b) ∧ Fr F w w' ∧ Sim nt F A I' Γ' U' sl' hp' a' w'

theorem Keeps.refl (I : Nat → Prop) (w : World) : Keeps I I w w := ⟨fun _ h => h, fun _ _ => rfl⟩

theorem Keeps.trans {I I' I'' : Nat → Prop} {w w' w'' : World} (h : Keeps I I' w w') (k : Keeps I' I'' w' w'') : Keeps I I'' w w'' :=
  ⟨fun b hb => k.sub b (h.sub b hb), fun b hb => (k.blk b (h.sub b hb)).trans (h.blk b hb)⟩

theorem Knows.refl (Γ : Gh) : Knows Γ Γ := fun _ _ h => h

theorem put_size (a : Act) (dst : Option Tmp) (u : Value) : (a.put dst u).tmps.size = a.tmps.size := by
  cases dst <;> simp [Act.put]

theorem put_defers (a : Act) (dst : Option Tmp) (u : Value) : (a.put dst u).defers = a.defers := by
  cases dst <;> simp [Act.put]

theorem put_get {a : Act} {nt : Nat} (hn : a.tmps.size = nt) {dst : Option Tmp} (hd : dstOk nt dst = true) (u : Value) (t : Nat) : (a.put dst u).tmps.getD t undef = if dst = some t then u else a.tmps.getD t undef := by
  cases dst with
  | none => simp [Act.put]
  | some d =>
    simp only [dstOk, decide_eq_true_eq] at hd
    by_cases h : d = t
    · subst h; simp [Act.put, hn, hd]
    · simp [Act.put, h]

section
variable {P : Program} {nt : Nat} {U : Nat → Prop} {F A I : Nat → Prop} {Γ : Gh} {sl : Sl} {hp : Hp} {a : Act} {w : World}

theorem Sim.slOK (h : Sim nt F A I Γ U sl hp a w) : SlOK Γ w I sl a := h.slots
theorem Sim.hpOK (h : Sim nt F A I Γ U sl hp a w) : HpOK Γ w I F A hp := h.objs

theorem Sim.more (h : Sim nt F A I Γ U sl hp a w) {U' : Nat → Prop} (hn : ∀ id, U id → U' id) : Sim nt F A I Γ U' sl hp a w :=
  { h with names := fun id hid => h.names id fun hu => hid (hn id hu) }

/-- A step behind which every name stands for what it stood for. -/
theorem Sim.next (h : Sim nt F A I Γ U sl hp a w) {I' : Nat → Prop} {Γ' : Gh} {w' : World} {hp' : Hp} {v : AV} {u : Value} {dst : Option Nat} {U' : Nat → Prop}
    (hk : Knows Γ Γ') (hkeep : Keeps I I' w w') (hobj : HpOK Γ' w' I' F A hp')
    (hinj : ∀ i j o o' b, lkp hp' i = some o → lkp hp' j = some o' → blkOf (Γ' i) = some b → blkOf (Γ' j) = some b → i = j)
    (hbound : ∀ b, I' b → b < w'.heap.size) (hsz : w.heap.size ≤ w'.heap.size) (hnames : ∀ id, ¬ U' id → Γ' id = none) (hrep : Rep Γ' w' I' v u) (hdst : dstOk nt dst = true) :
    Sim nt F A I' Γ' U' (putD sl dst v) hp' (a.put dst u) w' where
  nt := by rw [put_size]; exact h.nt
  dfr := by rw [put_defers]; exact h.dfr
  slots := fun t => by
    rw [gs_putD, put_get h.nt hdst]
    split
    · exact hrep
    · exact (h.slots t).mono hk hkeep
  objs := hobj
  inj := hinj
  bound := hbound
  fresh := fun b hb => h.fresh b (by omega)
  own := h.own
  names := hnames

/-- A step that turns nothing. -/
theorem Sim.pure (h : Sim nt F A I Γ U sl hp a w) {v : AV} {u : Value} {dst : Option Nat} {U' : Nat → Prop} (hn : ∀ id, U id → U' id) (hrep : Rep Γ w I v u) (hdst : dstOk nt dst = true) :
    Post nt F A I Γ w U' (putD sl dst v) hp (a.put dst u) w :=
  ⟨I, Γ, fun _ _ h => h, Keeps.refl I w, fun _ h => .inl h, Fr.refl F w, h.next (Knows.refl Γ) (Keeps.refl I w) h.objs h.inj h.bound (Nat.le_refl _) (fun id hid => h.names id fun hu => hid (hn id hu)) hrep hdst⟩

/-! ## Objects stay -/

theorem ObjOK.mono {Γ' : Gh} {I' : Nat → Prop} {w' : World} {id : Nat} {o : AObj} (ho : ObjOK Γ w I F A id o) (hk : Knows Γ Γ') (hkeep : Keeps I I' w w')
    (hblk : ∀ b, blkOf (Γ id) = some b → w'.heap[b]? = w.heap[b]? ∧ (I' b → I b)) : ObjOK Γ' w' I' F A id o := by
  cases o with
  | box cs =>
    obtain ⟨b, cur, e, h1, h2, h3, h4, h5⟩ := ho
    obtain ⟨h6, h7⟩ := hblk b (by rw [h1]; rfl)
    exact ⟨b, cur, e, hk _ _ h1, by rw [h6, h2], fun hi => h3 (h7 hi), h4, h5.mono fun _ _ h => h.mono hk hkeep⟩
  | row sz xs ex fz =>
    obtain ⟨ad, n, c, h1, h2, h3⟩ := ho
    refine ⟨ad, n, c, hk _ _ h1, h2, ?_⟩
    rcases h3 with h3 | ⟨g, cur, e, rfl, hc, hw, h4, h5, h6, h7, h8, hFg, h9⟩
    · exact .inl h3
    · obtain ⟨h10, h11⟩ := hblk g (by rw [h1]; simp [blkOf, Nat.ne_of_gt hc])
      refine .inr ⟨g, cur, e, rfl, hc, by rw [h10, hw], h4, h5, h6, h7, ?_, hFg, ?_⟩
      · cases fz
        · simp at h8 ⊢; exact fun hi => h8 (h11 hi)
        · simp at h8 ⊢; exact hkeep.sub g h8
      · cases ex
        · exact h9.mono' hkeep h10
        · simp only [if_true] at h9 ⊢
          exact h9.mono' ⟨fun b hb => ⟨hkeep.sub b hb.1, hb.2⟩, fun b hb => hkeep.blk b hb.1⟩ h10

/-- The object of a name has a block in the heap. -/
theorem Sim.blk_lt (h : Sim nt F A I Γ U sl hp a w) {id : Nat} {o : AObj} (hl : lkp hp id = some o) {b : Nat} (hb : blkOf (Γ id) = some b) : b < w.heap.size := by
  have ho := h.objs id o hl
  cases o with
  | box cs =>
    obtain ⟨b', cur, e, h1, h2, _⟩ := ho
    rw [h1] at hb; cases hb
    exact (Array.getElem?_eq_some_iff.1 h2).1
  | row sz xs ex fz =>
    obtain ⟨ad, n, c, h1, h2, h3⟩ := ho
    rw [h1] at hb
    rcases h3 with h3 | ⟨g, cur, e, rfl, hc, hw, _⟩
    · cases ad <;> simp [blkOf, h3.2] at hb
    · simp only [blkOf, Nat.ne_of_gt hc, if_false] at hb; cases hb
      exact (Array.getElem?_eq_some_iff.1 hw).1

theorem Sim.id_in (h : Sim nt F A I Γ U sl hp a w) {id : Nat} {o : AObj} (hl : lkp hp id = some o) : U id := by
  have ho := h.objs id o hl
  by_cases hid : ¬ U id
  · have hn := h.names id hid
    cases o with
    | box cs => obtain ⟨b', cur, e, h1, _⟩ := ho; rw [hn] at h1; cases h1
    | row sz xs ex fz => obtain ⟨ad, n, c, h1, _⟩ := ho; rw [hn] at h1; cases h1
  · exact Classical.not_not.1 hid

/-! ## New names -/

def upd (Γ : Gh) (id : Nat) (r : Ref) : Gh := fun k => if k = id then some r else Γ k

theorem upd_self (Γ : Gh) (id : Nat) (r : Ref) : upd Γ id r id = some r := by simp [upd]
theorem upd_other (Γ : Gh) {id k : Nat} (r : Ref) (h : k ≠ id) : upd Γ id r k = Γ k := by simp [upd, h]
theorem knows_upd {Γ : Gh} {id : Nat} (r : Ref) (h : Γ id = none) : Knows Γ (upd Γ id r) := fun k x hk => by
  unfold upd
  split
  · rename_i e; subst e; rw [h] at hk; cases hk
  · exact hk

/-- New objects are made: rows without a block, and at most one object with a block of its own, the new one. -/
theorem Sim.add (h : Sim nt F A I Γ U sl hp a w) {U' : Nat → Prop} {adds : Hp} {Γ' : Gh} {w' : World} {v : AV} {u : Value} {dst : Option Nat}
    (hk : Knows Γ Γ') (hext : ∀ k, k < w.heap.size → w'.heap[k]? = w.heap[k]?) (hsz : w.heap.size ≤ w'.heap.size) (hos : w'.os = w.os) (htape : w'.tape = w.tape) (hout : w'.output = w.output)
    (hobj : ∀ k o, (k, o) ∈ adds → ObjOK Γ' w' I F A k o)
    (hinj : ∀ i j o o' b, (i, o) ∈ adds → (j, o') ∈ adds → blkOf (Γ' i) = some b → blkOf (Γ' j) = some b → i = j)
    (hnew : ∀ k o b, (k, o) ∈ adds → blkOf (Γ' k) = some b → w.heap.size ≤ b)
    (hbefore : ∀ k, U k → Γ' k = Γ k)
    (hnames : ∀ id, ¬ U' id → Γ' id = none) (hrep : Rep Γ' w' I v u) (hdst : dstOk nt dst = true) :
    Post nt F A I Γ w U' (putD sl dst v) (insAll hp adds) (a.put dst u) w' := by
  have hkeep : Keeps I I w w' := ⟨fun _ h => h, fun b hI => hext b (h.bound b hI)⟩
  have hold : ∀ id o, lkp hp id = some o → Γ' id = Γ id := fun id o hl => hbefore id (h.id_in hl)
  refine ⟨I, Γ', fun id b hg => hk _ _ hg, hkeep, fun _ h => .inl h, ⟨hos, htape, hout, hsz, fun k hk _ => hext k hk⟩, ?_⟩
  refine h.next hk hkeep ?_ ?_ (fun b hI => by have := h.bound b hI; omega) hsz hnames hrep hdst
  · intro id o hl
    rcases lkp_insAll adds hp id o hl with hm | hm
    · exact hobj id o hm
    · exact (h.objs id o hm).mono hk hkeep fun b hb => ⟨hext b (h.blk_lt hm hb), fun h => h⟩
  · intro i j o o' b hi hj hbi hbj
    rcases lkp_insAll adds hp i o hi with hi | hi <;> rcases lkp_insAll adds hp j o' hj with hj | hj
    · exact hinj i j o o' b hi hj hbi hbj
    · have h1 := hnew i o b hi hbi
      rw [hold j o' hj] at hbj
      have h2 := h.blk_lt hj hbj
      omega
    · have h1 := hnew j o' b hj hbj
      rw [hold i o hi] at hbi
      have h2 := h.blk_lt hi hbi
      omega
    · rw [hold i o hi] at hbi
      rw [hold j o' hj] at hbj
      exact h.inj i j o o' b hi hj hbi hbj

/-- Nil slices get rows of their own. -/
theorem mat_ok (w : World) (I F A : Nat → Prop) (hi : Nat) : ∀ (slc : List (Option Nat)) (cs : List AV) (vs : List Value) (b : Nat) (Γ : Gh), okAdds b hi (mat slc cs b).2 = true → (∀ id, b ≤ id → id < hi → Γ id = none) → All2 (RepB Γ w I) cs vs →
    ∃ Γ', Knows Γ Γ' ∧ (∀ k, k < b ∨ hi ≤ k → Γ' k = Γ k) ∧ (∀ k o, (k, o) ∈ (mat slc cs b).2 → b ≤ k ∧ ObjOK Γ' w I F A k o ∧ blkOf (Γ' k) = none) ∧ All2 (RepB Γ' w I) (mat slc cs b).1 vs := by
  intro slc cs
  induction cs generalizing slc with
  | nil =>
    intro vs b Γ hok hn h
    have hm : mat slc [] b = ([], []) := by cases slc <;> simp [mat] <;> (rename_i x _; cases x <;> simp [mat])
    rw [hm]
    exact ⟨Γ, Knows.refl Γ, fun _ _ => rfl, fun k o hko => by simp at hko, h⟩
  | cons c cs ih =>
    intro vs b Γ hok hn h
    cases vs with
    | nil => exact h.elim
    | cons v vs =>
      have skip : ∀ slc', mat slc (c :: cs) b = (c :: (mat slc' cs b).1, (mat slc' cs b).2) → ∃ Γ', Knows Γ Γ' ∧ (∀ k, k < b ∨ hi ≤ k → Γ' k = Γ k) ∧
          (∀ k o, (k, o) ∈ (mat slc (c :: cs) b).2 → b ≤ k ∧ ObjOK Γ' w I F A k o ∧ blkOf (Γ' k) = none) ∧ All2 (RepB Γ' w I) (mat slc (c :: cs) b).1 (v :: vs) := by
        intro slc' he
        rw [he] at hok
        obtain ⟨Γ', h1, h2, h3, h5⟩ := ih slc' vs b Γ hok hn h.2
        rw [he]
        exact ⟨Γ', h1, h2, h3, h.1.mono h1 (Keeps.refl I w), h5⟩
      cases slc with
      | nil =>
        have he : mat [] (c :: cs) b = (c :: cs, []) := by cases c <;> simp [mat]
        rw [he]
        exact ⟨Γ, Knows.refl Γ, fun _ _ => rfl, fun k o hko => by simp at hko, h⟩
      | cons s slc =>
        by_cases hc : ∃ s', s = some s' ∧ c = .nil
        · obtain ⟨s', rfl, rfl⟩ := hc
          obtain ⟨ad, hv⟩ : ∃ ad, v = .slice ad 0 0 := h.1
          have he : mat (some s' :: slc) (.nil :: cs) b = (.own b :: (mat slc cs (b + 1)).1, (b, .row s' [] true false) :: (mat slc cs (b + 1)).2) := by simp [mat]
          rw [he] at hok
          simp only [okAdds, Bool.and_eq_true, decide_eq_true_eq] at hok
          have hn' : ∀ id, b + 1 ≤ id → id < hi → upd Γ b (.row ad 0 0 s') id = none := fun id hid hlt => by rw [upd_other _ _ (by omega)]; exact hn id (by omega) hlt
          have hk := knows_upd (.row ad 0 0 s') (hn b (Nat.le_refl b) hok.1.2)
          obtain ⟨Γ', h1, h2, h3, h5⟩ := ih slc vs (b + 1) (upd Γ b (.row ad 0 0 s')) hok.2 hn' (h.2.mono fun _ _ h => h.mono hk (Keeps.refl I w))
          have hb : Γ' b = some (.row ad 0 0 s') := h1 _ _ (upd_self _ _ _)
          rw [he]
          refine ⟨Γ', fun id r hr => h1 _ _ (hk _ _ hr), fun k hk' => by rw [h2 k (by omega), upd_other _ _ (by omega)], ?_, ⟨ad, 0, 0, s', hb, hv⟩, h5⟩
          intro k o hko
          rcases List.mem_cons.1 hko with hko | hko
          · cases hko
            exact ⟨Nat.le_refl _, ⟨ad, 0, 0, hb, rfl, .inl ⟨rfl, rfl⟩⟩, by rw [hb]; cases ad <;> simp [blkOf]⟩
          · obtain ⟨h6, h7⟩ := h3 k o hko
            exact ⟨by omega, h7⟩
        · refine skip slc ?_
          cases s with
          | none => cases c <;> simp [mat]
          | some s' => cases c <;> first | (exact absurd ⟨s', rfl, rfl⟩ hc) | simp [mat]

end
end Go.Abs
