/- The abstract semantics: calls in regions that draw. Own text. -/
import Derived.Test.YtkdjbefmiiibpaaDoorAbsDraw3
import Derived.Test.YtkdjbefmiiibpaaDoorAbsSound5
set_option linter.unusedVariables false
set_option linter.unusedSimpArgs false
namespace Go.Abs
open Go

/-! ## Values of which nothing has been struck -/

theorem okC_okV {v : AV} (h : okC v = true) : okV v = true := by
  cases v <;> first | exact h | cases h

theorem okC_kill1 {g : List Nat} {v : AV} (h : okC (kill1 g v) = true) : kill1 g v = v := by
  cases v <;> simp only [kill1] at h ⊢ <;> first | rfl | (split at h <;> rename_i h' <;> first | (cases h; done) | rw [if_neg h'])

theorem allC_kill1 {g : List Nat} : ∀ {cs : List AV}, allC (cs.map (kill1 g)) = true → cs.map (kill1 g) = cs
  | [], _ => rfl
  | c :: cs, h => by
    simp only [List.map_cons, allC, Bool.and_eq_true] at h ⊢
    rw [okC_kill1 h.1, allC_kill1 h.2]

theorem okV_kill2 {g : List Nat} {v : AV} (h : okV (kill2 g v) = true) : kill2 g v = v := by
  cases v with
  | agg cs => simp only [kill2, okV] at h ⊢; rw [allC_kill1 h]
  | clo f cs => simp only [kill2, okV, okC] at h; cases h
  | tup vs => rfl
  | _ => 
    simp only [kill2] at h ⊢
    refine okC_kill1 ?_
    revert h
    simp only [kill1]
    first | exact id | (split <;> first | exact id | (intro h; cases h))

theorem okV_kill {g : List Nat} {v : AV} (h : okV (kill g v) = true) : kill g v = v := by
  cases v with
  | tup vs =>
    cases vs with
    | nil => rfl
    | cons x r => simp only [kill, List.map_cons, okV, okC] at h; cases h
  | _ => simp only [kill] at h ⊢; exact okV_kill2 h

theorem kill1_id {g : List Nat} {v : AV} (hn : ∀ id ∈ refs1 v, id ∉ g) : kill1 g v = v := by
  cases v <;> simp only [kill1] <;> first | rfl | (rw [if_neg]; simpa [refs1] using hn)

theorem kill_id {g : List Nat} {v : AV} (h : okV v = true) (hn : ∀ id ∈ refs v, id ∉ g) : kill g v = v := by
  cases v with
  | tup vs =>
    cases vs with
    | nil => rfl
    | cons x r => simp only [okV, okC] at h; cases h
  | clo f cs => simp only [okV, okC] at h; cases h
  | agg cs =>
    simp only [kill, kill2]
    congr 1
    rw [List.map_congr_left (g := id), List.map_id]
    intro c hc
    exact kill1_id fun id hid => hn id (by simp only [refs, refs2, List.mem_flatMap]; exact ⟨c, hc, hid⟩)
  | _ => simp only [kill, kill2]; exact kill1_id hn

theorem okV_refs {g : List Nat} {v : AV} (h : kill g v = v) : ∀ id ∈ refs v, id ∉ g := fun id hid => (refs_kill g v id (by rw [h]; exact hid)).2

theorem okC_kill2 {g : List Nat} {c : AV} (h : okC c = true) (h1 : kill1 g c = c) : kill2 g c = c := by
  cases c <;> simp only [kill2] <;> first | exact h1 | cases h

/-! ## What is read -/

/-- An object here, and what it is where names have been struck. -/
def SeenO (g : List Nat) : Option AObj → Option AObj → Prop
  | none, none => True
  | some (.row s xs _ _), some (.row s' xs' _ _) => s' = s ∧ xs' = xs
  | some (.box cs), some (.box cs') => cs' = cs.map (kill2 g)
  | some (.deep s n xs l), some (.deep s' n' xs' l') => s' = s ∧ n' = n ∧ xs' = xs ∧ l' = killLk g l
  | _, _ => False

theorem seenO_on {g : List Nat} {b : Bool} (o : Option AObj) : SeenO g o ((o.map (okill g)).map fun o => if b then freeze1 o else o) := by
  cases o with
  | none => trivial
  | some o => cases o <;> cases b <;> exact (by first | exact ⟨rfl, rfl⟩ | exact rfl | exact ⟨rfl, rfl, rfl, rfl⟩)

theorem allD_kill {g : List Nat} : ∀ {l : List AV} {ds : List D}, allD l = some ds → l.map (kill2 g) = l
  | [], ds, _ => rfl
  | v :: l, ds, h => by
    simp only [allD] at h
    obtain ⟨x, h1, h⟩ := bnd_eq_some h
    obtain ⟨ds', h2, h⟩ := bnd_eq_some h
    have : kill2 g v = v := by cases v <;> first | rfl | cases h1
    rw [List.map_cons, this, allD_kill h2]

theorem allD_kill' {g : List Nat} : ∀ {l : List AV} {ds : List D}, allD (l.map (kill2 g)) = some ds → l.map (kill2 g) = l
  | [], ds, _ => rfl
  | v :: l, ds, h => by
    simp only [List.map_cons, allD] at h
    obtain ⟨x, h1, h⟩ := bnd_eq_some h
    obtain ⟨ds', h2, h⟩ := bnd_eq_some h
    have hv : kill2 g v = v := by
      refine okV_kill2 ?_
      cases hk : kill2 g v <;> rw [hk] at h1 <;> first | rfl | cases h1
    rw [List.map_cons, hv, allD_kill' h2]

theorem mkAgg_cases (l : List AV) : (∃ ds, allD l = some ds ∧ mkAgg l = .d (.agg ds)) ∨ (allD l = none ∧ (mkAgg l = .junk ∨ mkAgg l = .agg l)) := by
  unfold mkAgg
  cases h : allD l with
  | some ds => exact .inl ⟨ds, rfl, rfl⟩
  | none =>
    refine .inr ⟨rfl, ?_⟩
    unfold mkAggOf
    split
    · rename_i h; cases h
    · split
      · exact .inl rfl
      · exact .inr rfl

theorem allC_mem : ∀ {l : List AV}, allC l = true → ∀ c ∈ l, okC c = true
  | [], _, c, hc => by simp at hc
  | x :: l, h, c, hc => by
    simp only [allC, Bool.and_eq_true] at h
    rcases List.mem_cons.1 hc with rfl | hc
    · exact h.1
    · exact allC_mem h.2 c hc

theorem mkAgg_fwd {g : List Nat} {l : List AV} (h : okV (mkAgg l) = true) (hk : kill g (mkAgg l) = mkAgg l) : l.map (kill2 g) = l := by
  rcases mkAgg_cases l with ⟨ds, h1, h2⟩ | ⟨h1, h2 | h2⟩
  · exact allD_kill h1
  · rw [h2] at h; cases h
  · rw [h2] at h hk
    simp only [kill, kill2, AV.agg.injEq] at hk
    simp only [okV] at h
    have hm := allC_mem h
    have hk' : ∀ c ∈ l, kill1 g c = c := by
      intro c hc
      have := allC_kill1 (g := g) (cs := l) (by rw [hk]; exact h)
      exact okC_kill1 (by
        have h3 : kill1 g c ∈ l.map (kill1 g) := List.mem_map_of_mem hc
        rw [hk] at h3
        exact hm _ h3)
    rw [List.map_congr_left (g := id), List.map_id]
    intro c hc
    exact okC_kill2 (hm c hc) (hk' c hc)

theorem mkAgg_bwd {g : List Nat} {l : List AV} (h : okV (mkAgg (l.map (kill2 g))) = true) : l.map (kill2 g) = l := by
  rcases mkAgg_cases (l.map (kill2 g)) with ⟨ds, h1, h2⟩ | ⟨h1, h2 | h2⟩
  · exact allD_kill' h1
  · rw [h2] at h; cases h
  · rw [h2] at h
    simp only [okV] at h
    have hm := allC_mem h
    rw [List.map_congr_left (g := id), List.map_id]
    intro c hc
    exact okV_kill2 (okC_okV (hm _ (List.mem_map_of_mem hc)))

theorem kill_kill2 {g : List Nat} {v : AV} (h : okV v = true) (hk : kill g v = v) : kill2 g v = v := by
  cases v with
  | tup vs => rfl
  | _ => simp only [kill] at hk; exact hk

theorem kill2_kill {g : List Nat} {v : AV} (h : okV v = true) (hk : kill2 g v = v) : kill g v = v := by
  cases v with
  | tup vs =>
    cases vs with
    | nil => rfl
    | cons x r => simp only [okV, okC] at h; cases h
  | _ => simp only [kill]; exact hk

theorem drop_take_map {α β : Type} (f : α → β) (l : List α) (a b : Nat) : ((l.map f).drop a).take b = ((l.drop a).take b).map f := by
  rw [← List.map_drop, ← List.map_take]

theorem norm1_kill2 (g : List Nat) (c : AV) : norm1 (kill2 g c) = kill2 g (norm1 c) := by
  have key : ∀ v : AV, (∀ a b, v ≠ .bbuf a b) → norm1 v = v := fun v h' => by cases v <;> first | rfl | exact absurd rfl (h' _ _)
  by_cases h' : ∃ a b, c = .bbuf a b
  · obtain ⟨a, b, rfl⟩ := h'; rfl
  · have h2 : ∀ a b, c ≠ .bbuf a b := fun a b e => h' ⟨a, b, e⟩
    rw [key c h2, key]
    exact fun a b e => h2 a b ((kill2_bbuf g c a b).1 e)

theorem loadBox_fwd {g : List Nat} {cs : List AV} {a : Bool} {s off : Nat} {v : AV} (h : loadBox a s off (some (.box cs)) = some v) (ho : okV v = true) (hk : kill g v = v) : loadBox a s off (some (.box (cs.map (kill2 g)))) = some v := by
  unfold loadBox at h ⊢
  cases a with
  | true =>
    simp only [if_true] at h ⊢
    split at h
    · rename_i hl
      cases h
      rw [if_pos (by simpa using hl), drop_take_map, mkAgg_fwd ho hk]
    · cases h
  | false =>
    simp only [Bool.false_eq_true, if_false] at h ⊢
    obtain ⟨c, hc, rfl⟩ := Option.map_eq_some_iff.1 h
    rw [List.getElem?_map, hc]
    simp only [Option.map_some]
    rw [norm1_kill2, kill_kill2 ho hk]

theorem loadBox_bwd {g : List Nat} {cs : List AV} {a : Bool} {s off : Nat} {v : AV} (h : loadBox a s off (some (.box (cs.map (kill2 g)))) = some v) (ho : okV v = true) : loadBox a s off (some (.box cs)) = some v ∧ kill g v = v := by
  unfold loadBox at h ⊢
  cases a with
  | true =>
    simp only [if_true] at h ⊢
    split at h
    · rename_i hl
      cases h
      rw [drop_take_map] at ho ⊢
      have he := mkAgg_bwd ho
      rw [he] at ho ⊢
      refine ⟨by rw [if_pos (by simpa using hl)], ?_⟩
      rcases mkAgg_cases ((cs.drop off).take s) with ⟨ds, h1, h2⟩ | ⟨h1, h2 | h2⟩
      · rw [h2]; rfl
      · rw [h2] at ho; cases ho
      · rw [h2] at ho ⊢
        simp only [okV] at ho
        have hm := allC_mem ho
        simp only [kill, kill2, AV.agg.injEq]
        rw [List.map_congr_left (g := id), List.map_id]
        intro c hc
        have h3 : kill2 g c = c := by
          refine okV_kill2 ?_
          have h4 : kill2 g c ∈ ((cs.drop off).take s).map (kill2 g) := List.mem_map_of_mem hc
          rw [he] at h4
          exact okC_okV (hm _ h4)
        have := hm c hc
        cases c <;> first | exact h3 | cases this
    · cases h
  | false =>
    simp only [Bool.false_eq_true, if_false] at h ⊢
    rw [List.getElem?_map] at h
    cases hc : cs[off]? with
    | none => rw [hc] at h; cases h
    | some c =>
      rw [hc] at h
      simp only [Option.map_some, Option.some.injEq] at h
      rw [norm1_kill2] at h
      have h3 : kill2 g (norm1 c) = norm1 c := okV_kill2 (by rw [h]; exact ho)
      rw [h3] at h
      subst h
      exact ⟨rfl, kill2_kill ho h3⟩

theorem seen_elems {g : List Nat} {o o' : Option AObj} (h : SeenO g o o') : elemsOf o' = elemsOf o := by
  cases o with
  | none => cases o' with
    | none => rfl
    | some o' => cases h
  | some o => cases o' with
    | none => cases o <;> cases h
    | some o' => cases o <;> cases o' <;> simp only [SeenO] at h <;> first | (cases h; done) | rfl | (obtain ⟨rfl, rfl⟩ := h; rfl) | (obtain ⟨_, _, rfl, _⟩ := h; rfl)

/-- Rows are told alike. -/
theorem seen_row {g : List Nat} {o o' : Option AObj} (h : SeenO g o o') : (∃ s xs e f e' f', o = some (.row s xs e f) ∧ o' = some (.row s xs e' f')) ∨ (o = none ∧ o' = none) ∨ (∃ cs, o = some (.box cs) ∧ o' = some (.box (cs.map (kill2 g)))) ∨ (∃ s n xs l, o = some (.deep s n xs l) ∧ o' = some (.deep s n xs (killLk g l))) := by
  cases o with
  | none => cases o' with
    | none => exact .inr (.inl ⟨rfl, rfl⟩)
    | some o' => cases h
  | some o => cases o' with
    | none => cases o <;> cases h
    | some o' =>
      cases o with
      | box cs => cases o' with
        | box cs' => simp only [SeenO] at h; subst h; exact .inr (.inr (.inl ⟨cs, rfl, rfl⟩))
        | row _ _ _ _ => cases h
        | deep _ _ _ _ => cases h
      | row s xs e f => cases o' with
        | box cs' => cases h
        | row s' xs' e' f' => simp only [SeenO] at h; obtain ⟨rfl, rfl⟩ := h; exact .inl ⟨_, _, _, _, _, _, rfl, rfl⟩
        | deep _ _ _ _ => cases h
      | deep s n xs l => cases o' with
        | box cs' => cases h
        | row _ _ _ _ => cases h
        | deep s' n' xs' l' => simp only [SeenO] at h; obtain ⟨rfl, rfl, rfl, rfl⟩ := h; exact .inr (.inr (.inr ⟨_, _, _, _, rfl, rfl⟩))

section
variable {g : List Nat} {o o' : Option AObj}
theorem seen_addrRow (h : SeenO g o o') (sz id n : Nat) : addrRow sz id n o' = addrRow sz id n o := by
  rcases seen_row h with ⟨s, xs, e, f, e', f', rfl, rfl⟩ | ⟨rfl, rfl⟩ | ⟨cs, rfl, rfl⟩ | ⟨s, n, xs, l, rfl, rfl⟩ <;> rfl
theorem seen_addrView (h : SeenO g o o') (sz id off m n : Nat) : addrView sz id off m n o' = addrView sz id off m n o := by
  rcases seen_row h with ⟨s, xs, e, f, e', f', rfl, rfl⟩ | ⟨rfl, rfl⟩ | ⟨cs, rfl, rfl⟩ | ⟨s, n, xs, l, rfl, rfl⟩ <;> rfl
theorem seen_sliceRow (h : SeenO g o o') (s id : Nat) (lo hi : Option AV) : sliceRow s id lo hi o' = sliceRow s id lo hi o := by
  rcases seen_row h with ⟨s, xs, e, f, e', f', rfl, rfl⟩ | ⟨rfl, rfl⟩ | ⟨cs, rfl, rfl⟩ | ⟨s, n, xs, l, rfl, rfl⟩ <;> rfl
theorem seen_sliceView (h : SeenO g o o') (s id off n : Nat) (lo hi : Option AV) : sliceView s id off n lo hi o' = sliceView s id off n lo hi o := by
  rcases seen_row h with ⟨s, xs, e, f, e', f', rfl, rfl⟩ | ⟨rfl, rfl⟩ | ⟨cs, rfl, rfl⟩ | ⟨s, n, xs, l, rfl, rfl⟩ <;> rfl
theorem loadDeep_lk {id i off : Nat} {l l' : Option (Nat × Nat × Nat)} {x : D} {v : AV} (h : loadDeep id i off l x = some v) (ho : okV v = true) : loadDeep id i off l' x = some v ∧ ∃ d, v = .d d := by
  unfold loadDeep at h ⊢
  split at h
  · unfold subOf at h
    split at h
    · split at h
      · cases h; cases ho
      · cases h
    · cases h
  · split at h
    · rename_i hp; cases h; exact ⟨by rw [if_pos hp], _, rfl⟩
    · cases h
  · cases h
theorem seen_loadRow {id : Nat} (h : SeenO g o o') {a : Bool} {s sz i off : Nat} {v : AV} (ho : okV v = true) : loadRow id a s sz i off o' = some v ↔ loadRow id a s sz i off o = some v := by
  rcases seen_row h with ⟨s, xs, e, f, e', f', rfl, rfl⟩ | ⟨rfl, rfl⟩ | ⟨cs, rfl, rfl⟩ | ⟨s, n, xs, l, rfl, rfl⟩
  · exact Iff.rfl
  · exact Iff.rfl
  · exact Iff.rfl
  · simp only [loadRow]
    split
    · split
      · exact Iff.rfl
      · constructor <;> intro hh <;> obtain ⟨x, h1, hh⟩ := bnd_eq_some hh <;> rw [h1, bnd_some] <;> exact (loadDeep_lk hh ho).1
    · exact Iff.rfl
end

section
variable {hp hp' : Hp} {g : List Nat}

def SeenV (g : List Nat) (hp hp' : Hp) (v : AV) : Prop := ∀ k ∈ refs v, SeenO g (lkp hp k) (lkp hp' k)

theorem seen_vlen {v : AV} (h : SeenV g hp hp' v) : vlen hp' v = vlen hp v := by
  cases v <;> simp only [vlen]
  case d x => cases x <;> rfl
  case own id => rw [seen_elems (h id (by simp [refs, refs2, refs1]))]

theorem seen_indexAddrv {v : AV} (h : SeenV g hp hp' v) (sz n : Nat) : indexAddrv hp' sz n v = indexAddrv hp sz n v := by
  cases v <;> simp only [indexAddrv]
  case d x => cases x <;> rfl
  case own id => rw [seen_addrRow (h id (by simp [refs, refs2, refs1]))]
  case ownv id off n => rw [seen_addrView (h id (by simp [refs, refs2, refs1]))]

theorem seen_slicev {v : AV} (h : SeenV g hp hp' v) (s : Nat) (lo hi : Option AV) : slicev hp' s lo hi v = slicev hp s lo hi v := by
  cases v <;> simp only [slicev]
  case d x => cases x <;> rfl
  case own id => rw [seen_sliceRow (h id (by simp [refs, refs2, refs1]))]
  case ownv id off n => rw [seen_sliceView (h id (by simp [refs, refs2, refs1]))]

theorem loadv_fwd {x v : AV} (hs : SeenV g hp hp' x) {a : Bool} {s : Nat} (h : loadv hp a s x = some v) (ho : okV v = true) (hk : kill g v = v) : loadv hp' a s x = some v := by
  cases x <;> simp only [loadv] at h ⊢ <;> first | (cases h; done) | skip
  case ptr id off =>
    rcases seen_row (hs id (by simp [refs, refs2, refs1])) with ⟨_, _, _, _, _, _, e1, e2⟩ | ⟨e1, e2⟩ | ⟨cs, e1, e2⟩ | ⟨_, _, _, _, e1, e2⟩
    · rw [e1] at h; cases h
    · rw [e1] at h; cases h
    · rw [e1] at h; rw [e2]; exact loadBox_fwd h ho hk
    · rw [e1] at h; cases h
  case prow id sz i off => exact (seen_loadRow (hs id (by simp [refs, refs2, refs1])) ho).2 h
  case pim cs => exact h

theorem loadRow_d {id : Nat} {a : Bool} {s sz i off : Nat} {o : Option AObj} {v : AV} (h : loadRow id a s sz i off o = some v) (ho : okV v = true) : ∃ d, v = .d d := by
  unfold loadRow at h
  split at h
  · split at h
    · obtain ⟨x, _, h⟩ := bnd_eq_some h
      unfold loadElem at h
      split at h
      · unfold loadCs at h
        split at h
        · split at h
          · cases h; exact ⟨_, rfl⟩
          · cases h
        · unfold asD at h
          obtain ⟨y, _, h⟩ := bnd_eq_some h
          cases h; exact ⟨_, rfl⟩
      · cases h
    · cases h
  · split at h
    · split at h
      · cases h
      · obtain ⟨x, _, h⟩ := bnd_eq_some h
        exact (loadDeep_lk (l' := none) h ho).2
    · cases h
  · cases h

theorem loadCs_d {a : Bool} {s off : Nat} {cs : List D} {v : AV} (h : loadCs a s off cs = some v) : ∃ d, v = .d d := by
  unfold loadCs at h
  split at h
  · split at h
    · cases h; exact ⟨_, rfl⟩
    · cases h
  · unfold asD at h
    obtain ⟨y, _, h⟩ := bnd_eq_some h
    cases h; exact ⟨_, rfl⟩

theorem loadv_bwd {x v : AV} (hs : SeenV g hp hp' x) {a : Bool} {s : Nat} (h : loadv hp' a s x = some v) (ho : okV v = true) : loadv hp a s x = some v ∧ kill g v = v := by
  cases x <;> simp only [loadv] at h ⊢ <;> first | (cases h; done) | skip
  case ptr id off =>
    rcases seen_row (hs id (by simp [refs, refs2, refs1])) with ⟨_, _, _, _, _, _, e1, e2⟩ | ⟨e1, e2⟩ | ⟨cs, e1, e2⟩ | ⟨_, _, _, _, e1, e2⟩
    · rw [e2] at h; cases h
    · rw [e2] at h; cases h
    · rw [e2] at h; rw [e1]; exact loadBox_bwd h ho
    · rw [e2] at h; cases h
  case prow id sz i off =>
    have h := (seen_loadRow (hs id (by simp [refs, refs2, refs1])) ho).1 h
    obtain ⟨d, rfl⟩ := loadRow_d h ho
    exact ⟨h, rfl⟩
  case pim cs =>
    obtain ⟨d, rfl⟩ := loadCs_d h
    exact ⟨h, rfl⟩

/-! ## Rows that are built of data alone -/

theorem give1_quiet {x : AV} {d : D} {e : Bool} (h : give1 hp x = some (d, e, [])) (hp' : Hp) : give1 hp' x = some (d, e, []) := by
  cases x <;> simp only [give1] at h ⊢ <;> first | exact h | skip
  case own id => obtain ⟨q, _, h⟩ := bnd_eq_some h; simp at h

theorem giveL_quiet : ∀ {xs : List AV} {d : List D} {e : Bool}, giveL hp xs = some (d, e, []) → ∀ hp' : Hp, giveL hp' xs = some (d, e, [])
  | [], d, e, h, hp' => h
  | x :: xs, d, e, h, hp' => by
    simp only [giveL] at h ⊢
    obtain ⟨⟨d1, e1, l1⟩, h1, h⟩ := bnd_eq_some h
    obtain ⟨⟨d2, e2, l2⟩, h2, h⟩ := bnd_eq_some h
    have hl : l1 = [] ∧ l2 = [] := by
      simp only at h
      split at h
      · simp only [Option.some.injEq, Prod.mk.injEq, List.append_eq_nil_iff] at h; exact h.2.2
      · cases h
    obtain ⟨rfl, rfl⟩ := hl
    rw [give1_quiet h1 hp', bnd_some, giveL_quiet h2 hp', bnd_some]
    exact h

theorem give_quiet {x : AV} {d : D} {e : Bool} (h : give hp x = some (d, e, [])) (hp' : Hp) : give hp' x = some (d, e, []) := by
  cases x <;> simp only [give] at h ⊢ <;> first | exact give1_quiet h hp' | skip
  case agg cs =>
    obtain ⟨⟨d1, e1, l1⟩, h1, h⟩ := bnd_eq_some h
    simp only [Option.some.injEq, Prod.mk.injEq] at h
    obtain ⟨rfl, rfl, rfl⟩ := h
    rw [giveL_quiet h1 hp', bnd_some]

theorem giveAll_quiet : ∀ {xs : List AV} {d : List D} {e : Bool}, giveAll hp xs = some (d, e, []) → ∀ hp' : Hp, giveAll hp' xs = some (d, e, [])
  | [], d, e, h, hp' => h
  | x :: xs, d, e, h, hp' => by
    simp only [giveAll] at h ⊢
    obtain ⟨⟨d1, e1, l1⟩, h1, h⟩ := bnd_eq_some h
    obtain ⟨⟨d2, e2, l2⟩, h2, h⟩ := bnd_eq_some h
    have hl : l1 = [] ∧ l2 = [] := by
      simp only at h
      split at h
      · simp only [Option.some.injEq, Prod.mk.injEq, List.append_eq_nil_iff] at h; exact h.2.2
      · cases h
    obtain ⟨rfl, rfl⟩ := hl
    rw [give_quiet h1 hp', bnd_some, giveAll_quiet h2 hp', bnd_some]
    exact h

theorem buildSl_quiet {base s : Nat} {vs : List AV} {ce : CallEff} (h : buildSl hp base s vs = some ce) (hf : ce.eff.frz = []) (hp' : Hp) :
    buildSl hp' base s vs = some ce ∧ (ce.eff.val = .nil ∨ ce.eff.val = .own base) ∧ (∀ k o, (k, o) ∈ ce.eff.adds → ∃ sz xs e f, o = .row sz xs e f) := by
  cases vs with
  | nil => simp only [buildSl, only1] at h ⊢; cases h; exact ⟨rfl, .inl rfl, fun k o h => by simp at h⟩
  | cons v vs =>
    simp only [buildSl] at h ⊢
    obtain ⟨⟨ds, e, l⟩, h1, h⟩ := bnd_eq_some h
    unfold rowV at h
    split at h
    · rename_i hc
      cases h
      simp only at hf
      subst hf
      rw [giveAll_quiet h1 hp', bnd_some]
      refine ⟨?_, .inr rfl, fun k o ho => ?_⟩
      · unfold rowV; rw [if_pos hc]
      · simp at ho; obtain ⟨rfl, rfl⟩ := ho; exact ⟨_, _, _, _, rfl⟩
    · cases h
end

/-! ## Operations around a call -/

theorem vop_heapFree {C : Orc} {M : Modes} {sl : Sl} {hp hp' : Hp} {base : Nat} {c : COp} (hc : heapFree c = true) : vop C M sl hp base c = vop C M sl hp' base c := by
  cases c <;> first | rfl | (simp [heapFree] at hc)


section
variable {C : Orc} {M : Modes} {sl sl' : Sl} {hp hp' : Hp} {base : Nat} {g : List Nat}

theorem only1_adds {v : AV} {ce : CallEff} (h : only1 v = some ce) : ce.eff.adds = [] := by cases h; rfl
theorem opt1_adds {v : Option AV} {ce : CallEff} (h : opt1 v = some ce) : ce.eff.adds = [] := by obtain ⟨v, _, h⟩ := bnd_eq_some h; exact only1_adds h
theorem opt1_val {v : Option AV} {ce : CallEff} (h : opt1 v = some ce) : v = some ce.eff.val := by obtain ⟨v, rfl, h⟩ := bnd_eq_some h; cases h; rfl
theorem opt1_mk {v : Option AV} {ce : CallEff} {w : Option AV} (h : opt1 v = some ce) (hw : w = some ce.eff.val) : opt1 w = some ce := by
  obtain ⟨v, rfl, h⟩ := bnd_eq_some h; cases h; rw [hw]; rfl

theorem plain_adds {c : COp} (hc : heapFree c = true) (hv : noVars c = true) {ce : CallEff} (h : vop C M sl hp base c = some ce) : ce.eff.adds = [] := by
  cases c <;> simp only [heapFree, noVars, Bool.false_eq_true] at hc hv <;> simp only [vop] at h
  case stuck => cases h
  case move x => exact only1_adds h
  case pick c a b =>
    unfold pickV at h
    split at h
    · split at h <;> exact only1_adds h
    · cases h
  case build zs ps => obtain ⟨cs, _, h⟩ := bnd_eq_some h; exact only1_adds h
  case nilCheck x => unfold notNil at h; split at h <;> first | exact only1_adds h | cases h
  case bin op eq x y =>
    unfold binV at h
    split at h
    · split at h
      · exact opt1_adds h
      · cases h
    · exact opt1_adds h
  case un op x => exact opt1_adds h
  case eqA neg n x y =>
    unfold eqAV at h
    split at h
    · obtain ⟨r, _, h⟩ := bnd_eq_some h; exact only1_adds h
    · cases h
  case convI k x => unfold Go.Abs.convI at h; split at h <;> first | exact only1_adds h | cases h
  case convS x => unfold Go.Abs.convS at h; split at h <;> first | exact only1_adds h | cases h
  case sliceS x lo hi => exact opt1_adds h
  case shift off x => unfold shiftP at h; split at h <;> first | exact only1_adds h | cases h
  case part g s off x => exact opt1_adds h
  case iaA len s x i =>
    obtain ⟨n, _, h⟩ := bnd_eq_some h
    unfold arrAt at h
    split at h
    · unfold shiftP at h; split at h <;> first | exact only1_adds h | cases h
    · cases h
  case ixS x i =>
    obtain ⟨n, _, h⟩ := bnd_eq_some h
    unfold ixSV at h
    split at h
    · unfold strAt at h
      split at h
      · obtain ⟨b, _, h⟩ := bnd_eq_some h; exact only1_adds h
      · cases h
    · cases h
  case ixA g s len x i =>
    obtain ⟨n, _, h⟩ := bnd_eq_some h
    unfold elAt at h
    split at h
    · exact opt1_adds h
    · cases h
  case nth i x => unfold nthV at h; split at h <;> first | exact opt1_adds h | cases h
  case lenS x => obtain ⟨n, _, h⟩ := bnd_eq_some h; exact only1_adds h
  case min x y => unfold min2V at h; split at h <;> first | (split at h <;> first | exact only1_adds h | cases h) | cases h
  case max x y => unfold max2V at h; split at h <;> first | (split at h <;> first | exact only1_adds h | cases h) | cases h

theorem kill2_const {c : AV} (h : constC c = true) : kill2 g c = c := by cases c <;> first | rfl | cases h

theorem allConst_mem : ∀ {cs : List AV}, allConst cs = true → ∀ c ∈ cs, constC c = true
  | [], _, c, hc => by simp at hc
  | x :: l, h, c, hc => by
    simp only [allConst, Bool.and_eq_true] at h
    rcases List.mem_cons.1 hc with rfl | hc
    · exact h.1
    · exact allConst_mem h.2 c hc

theorem mat_names : ∀ (slc : List (Option Nat)) (cs : List AV) (b : Nat), (∀ c ∈ (mat slc cs b).1, c ∈ cs ∨ ∃ k o, c = .own k ∧ (k, o) ∈ (mat slc cs b).2) ∧ ∀ k o, (k, o) ∈ (mat slc cs b).2 → ∃ sz, o = .row sz [] true false
  | [], cs, b => by simp only [mat]; exact ⟨fun c hc => .inl hc, fun k o h => by simp at h⟩
  | t :: ts, [], b => by cases t <;> (simp only [mat]; exact ⟨fun c hc => .inl hc, fun k o h => by simp at h⟩)
  | t :: ts, v :: vs, b => by
    by_cases hv : (∃ sz, t = some sz) ∧ v = .nil
    · obtain ⟨⟨sz, rfl⟩, rfl⟩ := hv
      obtain ⟨h1, h2⟩ := mat_names ts vs (b + 1)
      simp only [mat]
      refine ⟨fun c hc => ?_, fun k o h => ?_⟩
      · rcases List.mem_cons.1 hc with rfl | hc
        · exact .inr ⟨b, _, rfl, List.mem_cons_self ..⟩
        · rcases h1 c hc with h | ⟨k, o, e, h⟩
          · exact .inl (List.mem_cons_of_mem _ h)
          · exact .inr ⟨k, o, e, List.mem_cons_of_mem _ h⟩
      · rcases List.mem_cons.1 h with h | h
        · cases h; exact ⟨_, rfl⟩
        · exact h2 k o h
    · obtain ⟨h1, h2⟩ := mat_names ts vs b
      have e : mat (t :: ts) (v :: vs) b = (v :: (mat ts vs b).1, (mat ts vs b).2) := by
        cases t with
        | none => simp [mat]
        | some sz => cases v <;> first | (exact absurd ⟨⟨sz, rfl⟩, rfl⟩ hv) | simp [mat]
      rw [e]
      refine ⟨fun c hc => ?_, h2⟩
      rcases List.mem_cons.1 hc with rfl | hc
      · exact .inl (List.mem_cons_self ..)
      · rcases h1 c hc with h | h
        · exact .inl (List.mem_cons_of_mem _ h)
        · exact .inr h

theorem tag_const {base : Nat} : ∀ {cs : List AV}, allConst cs = true → cs.map (tagB base) = cs
  | [], _ => rfl
  | c :: cs, h => by
    simp only [allConst, Bool.and_eq_true] at h
    rw [List.map_cons, tag_const h.2]
    congr 1
    cases c <;> first | rfl | (simp [constC] at h)

theorem const_buf : ∀ {cs : List AV}, allConst cs = true → noBuf cs = true
  | [], _ => rfl
  | c :: cs, h => by
    simp only [allConst, Bool.and_eq_true] at h
    have := const_buf h.2
    cases c <;> first | exact this | (simp [constC] at h)

theorem alloc_okill {slc : List (Option Nat)} {cs : List AV} {ce : CallEff} (hb : ∀ k, base ≤ k → k < base + 64 → k ∉ g) (hc : allConst cs = true) (h : allocV slc base cs = some ce) (hok : okAdds base (base + 64) ce.eff.adds = true) :
    (∀ id ∈ refs ce.eff.val, id ∉ g) ∧ ∀ k o, (k, o) ∈ ce.eff.adds → okill g o = o := by
  have hr := okAdds_lt hok
  unfold allocV at h
  rw [tag_const hc] at h
  unfold allocC at h
  rw [if_neg (by rw [const_buf hc]; decide)] at h
  split at h
  · cases h
    simp only at hr ⊢
    obtain ⟨h1, h2⟩ := mat_names slc cs (base + 1)
    refine ⟨fun id hid => ?_, fun k o hm => ?_⟩
    · simp [refs, refs2, refs1] at hid; subst hid; exact hb _ (Nat.le_refl _) (by omega)
    · rcases List.mem_cons.1 hm with hm | hm
      · cases hm
        simp only [okill]
        congr 1
        rw [List.map_congr_left (g := id), List.map_id]
        intro c hcm
        rcases h1 c hcm with h | ⟨k, o, rfl, h⟩
        · exact kill2_const (allConst_mem hc c h)
        · have := hr k o (List.mem_cons_of_mem _ h)
          have hk := hb k this.1 this.2
          simp [kill2, kill1, hk]
      · obtain ⟨sz, rfl⟩ := h2 k o hm; rfl
  · cases h
    simp only at hr ⊢
    refine ⟨fun id hid => ?_, fun k o hm => ?_⟩
    · simp [refs, refs2, refs1] at hid; subst hid; exact hb _ (Nat.le_refl _) (by omega)
    · simp at hm
      obtain ⟨rfl, rfl⟩ := hm
      simp only [okill]
      congr 1
      rw [List.map_congr_left (g := id), List.map_id]
      exact fun c hcm => kill2_const (allConst_mem hc c hcm)

/-- What is done ahead of the call comes to the same behind it. -/
theorem ahead_fwd {c : COp} (hc : aheadK c = true) (he : ∀ x ∈ opds c, evO sl' x = evO sl x) (hs : ∀ x ∈ opds c, SeenV g hp hp' (evO sl x)) {ce : CallEff}
    (hb : ∀ k, base ≤ k → k < base + 64 → k ∉ g) (h : vop C M sl hp base c = some ce) (hok : okAdds base (base + 64) ce.eff.adds = true) (hfz : ce.eff.frz = []) (ho : okV ce.eff.val = true) (hk : kill g ce.eff.val = ce.eff.val) : vop C M sl' hp' base c = some ce ∧ ∀ k o, (k, o) ∈ ce.eff.adds → okill g o = o := by
  rw [vop_congr C M hp' base he]
  have none0 : ce.eff.adds = [] → ∀ k o, (k, o) ∈ ce.eff.adds → okill g o = o := fun e k o hm => by rw [e] at hm; simp at hm
  simp only [aheadK, Bool.or_eq_true, Bool.and_eq_true] at hc
  rcases hc with ((hc | hc) | ⟨hc1, hc2⟩) | hc
  · cases c <;> simp only [readKind, Bool.false_eq_true] at hc <;> simp only [vop] at h ⊢ <;> simp only [opds] at hs
    case load a s x => exact ⟨opt1_mk h (loadv_fwd (hs x (by simp)) (opt1_val h) ho hk), none0 (opt1_adds h)⟩
    case slice s x lo hi =>
      rw [seen_slicev (hs x (by simp))]
      exact ⟨h, none0 (opt1_adds h)⟩
    case slice0 x hi mx =>
      unfold slice0 at h ⊢
      rw [seen_vlen (hs x (by simp))]
      exact ⟨h, none0 (opt1_adds h)⟩
    case iaS s x i =>
      obtain ⟨n, h1, h⟩ := bnd_eq_some h
      rw [h1, bnd_some]
      unfold slcAt at h ⊢
      rw [seen_indexAddrv (hs x (by simp))]
      refine ⟨h, none0 ?_⟩
      split at h
      · exact opt1_adds h
      · cases h
    case len x =>
      rw [seen_vlen (hs x (by simp))]
      refine ⟨h, none0 ?_⟩
      obtain ⟨n, _, h⟩ := bnd_eq_some h; exact only1_adds h
  · cases c <;> simp only [isBuildSl, Bool.false_eq_true] at hc
    simp only [vop] at h ⊢
    obtain ⟨h1, h2, h3⟩ := buildSl_quiet h hfz hp'
    refine ⟨h1, fun k o hm => ?_⟩
    obtain ⟨sz, xs, e, f, rfl⟩ := h3 k o hm
    rfl
  · rw [← vop_heapFree (hp := hp) hc1]
    exact ⟨h, none0 (plain_adds hc1 hc2 h)⟩
  · cases c <;> simp only [isAlloc, Bool.false_eq_true] at hc
    simp only [vop] at h ⊢
    exact ⟨h, (alloc_okill hb hc h hok).2⟩

/-- What is done behind the call comes to the same ahead of it. -/
theorem behind_bwd {c : COp} (hc : behindK c = true) (he : ∀ x ∈ opds c, evO sl' x = evO sl x) (hs : ∀ x ∈ opds c, SeenV g hp hp' (evO sl x)) {ce : CallEff}
    (hn : ∀ x ∈ opds c, ∀ id ∈ refs (evO sl x), id ∉ g) (hb : ∀ k, base ≤ k → k < base + 64 → k ∉ g)
    (h : vop C M sl' hp' base c = some ce) (hok : okAdds base (base + 64) ce.eff.adds = true) (hfz : ce.eff.frz = []) (ho : okV ce.eff.val = true) : vop C M sl hp base c = some ce ∧ kill g ce.eff.val = ce.eff.val ∧ ∀ k o, (k, o) ∈ ce.eff.adds → okill g o = o := by
  rw [vop_congr C M hp' base he] at h
  have none0 : ce.eff.adds = [] → ∀ k o, (k, o) ∈ ce.eff.adds → okill g o = o := fun e k o hm => by rw [e] at hm; simp at hm
  have names : (∀ id ∈ refs ce.eff.val, id ∉ g) → kill g ce.eff.val = ce.eff.val := kill_id ho
  cases c <;> simp only [behindK, Bool.false_eq_true] at hc <;> simp only [vop] at h ⊢ <;> simp only [opds] at hs hn
  case alloc slc cs =>
    obtain ⟨h1, h2⟩ := alloc_okill hb hc h hok
    exact ⟨h, names h1, h2⟩
  case buildSl s xs =>
    obtain ⟨h1, h2, h3⟩ := buildSl_quiet h hfz hp
    refine ⟨h1, names fun id hid => ?_, fun k o hm => ?_⟩
    · rcases h2 with h2 | h2
      · rw [h2] at hid; simp [refs, refs2, refs1] at hid
      · rw [h2] at hid; simp [refs, refs2, refs1] at hid; subst hid; exact hb _ (Nat.le_refl _) (by omega)
    · obtain ⟨sz, xs, e, f, rfl⟩ := h3 k o hm
      rfl
  case load a s x =>
    obtain ⟨h1, h2⟩ := loadv_bwd (hs x (by simp)) (opt1_val h) ho
    exact ⟨opt1_mk h h1, h2, none0 (opt1_adds h)⟩
  case nilCheck x =>
    have hx := hn x (by simp)
    refine ⟨h, names ?_, none0 ?_⟩
    · unfold notNil at h
      split at h <;> rename_i hv <;> first | (cases h; done) | (cases h; show ∀ id ∈ refs _, _; rw [← hv]; exact hx)
    · unfold notNil at h; split at h <;> first | exact only1_adds h | cases h
  case bin op eq x y =>
    have hd : ∃ d, ce.eff.val = .d d := by
      have o2 : ∀ {a b : AV}, opt1 (vbin op a b) = some ce → ∃ d, ce.eff.val = .d d := fun {a b} h => by
        have h1 := opt1_val h
        unfold vbin at h1
        split at h1
        · unfold int2 at h1
          split at h1
          · obtain ⟨y, _, h1⟩ := bnd_eq_some h1; exact ⟨_, (Option.some.inj h1).symm⟩
          · obtain ⟨y, _, h1⟩ := bnd_eq_some h1; exact ⟨_, (Option.some.inj h1).symm⟩
          · split at h1
            · obtain ⟨y, _, h1⟩ := bnd_eq_some h1
              have := Option.some.inj h1
              exact ⟨_, this.symm⟩
            · cases h1
        · obtain ⟨y, _, h1⟩ := bnd_eq_some h1
          have := Option.some.inj h1
          exact ⟨_, this.symm⟩
        · cases h1
      unfold binV at h
      split at h
      · split at h
        · have h1 := opt1_val h
          unfold bool2 at h1
          split at h1
          · exact ⟨_, (Option.some.inj h1).symm⟩
          · exact ⟨_, (Option.some.inj h1).symm⟩
          · cases h1
        · cases h
      · exact o2 h
    obtain ⟨d, hd⟩ := hd
    refine ⟨h, by rw [hd]; rfl, none0 ?_⟩
    unfold binV at h
    split at h
    · split at h
      · exact opt1_adds h
      · cases h
    · exact opt1_adds h
  case un op x =>
    have hd : ∃ d, ce.eff.val = .d d := by
      have h1 := opt1_val h
      unfold vun at h1
      split at h1
      · unfold neg1 at h1
        split at h1
        · exact ⟨_, (Option.some.inj h1).symm⟩
        · cases h1
      · unfold not1 at h1
        split at h1
        · exact ⟨_, (Option.some.inj h1).symm⟩
        · cases h1
      · cases h1
    obtain ⟨d, hd⟩ := hd
    exact ⟨h, by rw [hd]; rfl, none0 (opt1_adds h)⟩
  case convI k x =>
    unfold Go.Abs.convI at h ⊢
    split at h
    · exact ⟨h, by cases h; rfl, none0 (only1_adds h)⟩
    · cases h
  case shift off x =>
    have hx := hn x (by simp)
    refine ⟨h, names ?_, none0 ?_⟩
    · unfold shiftP at h
      split at h <;> rename_i hv <;> first | (cases h; done) | skip
      · cases h; rw [hv] at hx; simpa [refs, refs2, refs1] using hx
      · cases h; rw [hv] at hx; simpa [refs, refs2, refs1] using hx
      · cases h; simp [refs, refs2, refs1]
    · unfold shiftP at h; split at h <;> first | exact only1_adds h | cases h
  case slice s x lo hi =>
    have hx := hn x (by simp)
    rw [seen_slicev (hs x (by simp))] at h
    refine ⟨h, names ?_, none0 (opt1_adds h)⟩
    have h1 := opt1_val h
    cases hv : evO sl x <;> rw [hv] at h1 hx <;> simp only [slicev] at h1 <;> first | (cases h1; done) | skip
    case d y =>
      cases y <;> simp only [slicev] at h1 <;> first | (cases h1; done) | skip
      split at h1
      · obtain ⟨b, _, h1⟩ := bnd_eq_some h1; rw [← Option.some.inj h1]; simp [refs, refs2, refs1]
      · cases h1
    case nil => obtain ⟨b, _, h1⟩ := bnd_eq_some h1; rw [← Option.some.inj h1]; simp [refs, refs2, refs1]
    case own id =>
      unfold sliceRow at h1
      split at h1
      · split at h1
        · unfold ownSl at h1
          split at h1
          · rw [← Option.some.inj h1]; exact hx
          · obtain ⟨b, _, h1⟩ := bnd_eq_some h1; rw [← Option.some.inj h1]; simpa [refs, refs2, refs1] using hx
        · cases h1
      · cases h1
    case ownv id off n =>
      unfold sliceView at h1
      split at h1
      · split at h1
        · obtain ⟨b, _, h1⟩ := bnd_eq_some h1; rw [← Option.some.inj h1]; simpa [refs, refs2, refs1] using hx
        · cases h1
      · cases h1
  case sliceS x lo hi =>
    have hd : ∃ d, ce.eff.val = .d d := by
      have h1 := opt1_val h
      unfold sliceS at h1
      split at h1
      · obtain ⟨b, _, h1⟩ := bnd_eq_some h1; exact ⟨_, (Option.some.inj h1).symm⟩
      · cases h1
    obtain ⟨d, hd⟩ := hd
    exact ⟨h, by rw [hd]; rfl, none0 (opt1_adds h)⟩
  case lenS x =>
    obtain ⟨n, h1, h⟩ := bnd_eq_some h
    refine ⟨by rw [h1, bnd_some]; exact h, by cases h; rfl, none0 (only1_adds h)⟩
  case iaS s x i =>
    have hx := hn x (by simp)
    obtain ⟨n, h1, h⟩ := bnd_eq_some h
    rw [h1, bnd_some]
    unfold slcAt at h ⊢
    rw [seen_indexAddrv (hs x (by simp))] at h
    refine ⟨h, names ?_, none0 ?_⟩
    · split at h
      · have h1 := opt1_val h
        cases hv : evO sl x <;> rw [hv] at h1 hx <;> simp only [indexAddrv] at h1 <;> first | (cases h1; done) | skip
        case d y =>
          cases y <;> simp only [indexAddrv] at h1 <;> first | (cases h1; done) | skip
          obtain ⟨b, _, h1⟩ := bnd_eq_some h1
          unfold pimOf at h1
          split at h1
          · rw [← Option.some.inj h1]; simp [refs, refs2, refs1]
          · cases h1
        case own id =>
          unfold addrRow at h1
          split at h1
          · split at h1
            · rw [← Option.some.inj h1]; simpa [refs, refs2, refs1] using hx
            · cases h1
          · split at h1
            · rw [← Option.some.inj h1]; simpa [refs, refs2, refs1] using hx
            · cases h1
          · cases h1
        case ownv id off n =>
          unfold addrView at h1
          split at h1
          · split at h1
            · rw [← Option.some.inj h1]; simpa [refs, refs2, refs1] using hx
            · cases h1
          · cases h1
      · cases h
    · split at h
      · exact opt1_adds h
      · cases h
  case len x =>
    rw [seen_vlen (hs x (by simp))] at h
    obtain ⟨n, h1, h2⟩ := bnd_eq_some h
    exact ⟨h, by cases h2; rfl, none0 (only1_adds h2)⟩
end

end Go.Abs
