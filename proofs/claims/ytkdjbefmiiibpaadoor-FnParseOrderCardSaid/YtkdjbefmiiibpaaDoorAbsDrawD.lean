/- The abstract semantics: calls in regions that draw, done in another order. Own text. -/
import Derived.Test.YtkdjbefmiiibpaaDoorAbsDrawC
set_option linter.unusedVariables false
set_option linter.unusedSimpArgs false
namespace Go.Abs
open Go

theorem argV_ptrs {hp : Hp} {m : Bool} {x y : AV} (h : argV hp m x = some y) : ∀ k ∈ ptrsV y, k ∈ ptrsV x := by
  intro k hk
  have nod : ∀ {r : Option D}, asD r = some y → False := fun {r} h => by
    obtain ⟨d, _, h⟩ := bnd_eq_some h
    cases h; simp [ptrsV] at hk
  cases x <;> simp only [argV] at h <;> first | (exact (nod h).elim) | skip
  case d d => cases h; simp [ptrsV] at hk
  case nil => cases m <;> simp only [nilArg] at h <;> (cases h; simp [ptrsV] at hk)
  case nilp => cases h; exact hk
  case nili => cases h; exact hk
  case ptr a b => cases h; exact hk
  case pim c => cases h; exact hk
  case clo f c => cases h; exact hk
  case own id =>
    cases m <;> simp only [argRow] at h
    · exact (nod h).elim
    · cases h; simp [ptrsV] at hk

theorem args_ptrs {hp : Hp} {m : Nat → Bool} : ∀ {xs ys : List AV} (i : Nat), args hp m i xs = some ys → ∀ y ∈ ys, ∀ k ∈ ptrsV y, ∃ x ∈ xs, k ∈ ptrsV x
  | [], ys, i, h, y, hy, k, hk => by simp only [args] at h; cases h; simp at hy
  | x :: xs, ys, i, h, y, hy, k, hk => by
    simp only [args] at h
    obtain ⟨a, h1, h⟩ := bnd_eq_some h
    obtain ⟨as, h2, h⟩ := bnd_eq_some h
    cases h
    rcases List.mem_cons.1 hy with rfl | hy
    · exact ⟨x, by simp, argV_ptrs h1 k hk⟩
    · obtain ⟨x', h3, h4⟩ := args_ptrs (i + 1) h2 y hy k hk
      exact ⟨x', by simp [h3], h4⟩

theorem rows1_refs {x : AV} : ∀ id ∈ rows1 x, id ∈ refs1 x := by
  intro id h
  cases x <;> simp [rows1] at h <;> simp [refs1, h]

theorem rowsOf_refs {x : AV} : ∀ id ∈ rowsOf x, id ∈ refs x := by
  intro id h
  cases x <;> simp only [rowsOf] at h <;> first | exact rows1_refs id h | (simp [rows1] at h; done) | skip
  case agg cs =>
    obtain ⟨c, h1, h2⟩ := List.mem_flatMap.1 h
    exact List.mem_flatMap.2 ⟨c, h1, rows1_refs id h2⟩

theorem lentOf_refs : ∀ {xs ys : List AV}, ∀ i ∈ lentOf xs ys, ∃ x ∈ xs, i ∈ refs x
  | [], ys, i, h => by cases ys <;> simp [lentOf] at h
  | x :: xs, [], i, h => by simp [lentOf] at h
  | x :: xs, y :: ys, i, h => by
    have key : i ∈ lentOf xs ys → ∃ x' ∈ x :: xs, i ∈ refs x' := fun h => by
      obtain ⟨x', h1, h2⟩ := lentOf_refs i h
      exact ⟨x', by simp [h1], h2⟩
    rw [lentOf_cons] at h
    rcases List.mem_append.1 h with h | h
    · cases y <;> simp only [lent1] at h <;> first | (simp at h; done) | exact ⟨x, by simp, rowsOf_refs i h⟩
    · exact key h

/-- What a call touches. -/
theorem call_keys {C : Orc} {m : Nat → Bool} {hp : Hp} {base f : Nat} {avs : List AV} {ce : CallEff} (h : callv C m hp base f avs = some ce) :
    ce.eff.dels = [] ∧ (∀ i ∈ ce.eff.frz, ∃ a ∈ avs, i ∈ refs a) ∧ (∀ i ∈ ce.gone, ∃ o, lkp hp i = some o) ∧ (∀ k o, (k, o) ∈ ce.eff.sets → (∃ o, lkp hp k = some o) ∧ (k ∈ ce.gone ∨ ∃ a ∈ avs, k ∈ ptrsV a)) := by
  unfold callv at h
  obtain ⟨as, h1, h⟩ := bnd_eq_some h
  unfold callIds at h
  split at h
  · rename_i hc
    obtain ⟨⟨r, out⟩, h2, h⟩ := bnd_eq_some h
    unfold callBack at h
    split at h
    · cases h
    split at h
    · cases h
    · cases h
      obtain ⟨_, _, hpres⟩ := reach_ok hp (fuelOf hp) (as.flatMap refs) [] List.nodup_nil
      have hpres' : ∀ id ∈ reach hp (fuelOf hp) (as.flatMap refs) [], ∃ o, lkp hp id = some o := fun id hid => (hpres id hid).resolve_left (by simp)
      refine ⟨rfl, fun i hi => ?_, fun i hi => ?_, fun k o hk => ?_⟩
      · simp only at hi
        split at hi
        · simp at hi
        · exact lentOf_refs i hi
      · exact hpres' i (List.mem_filter.1 hi).1
      · obtain ⟨q, o0, h3, _, _⟩ := mem_setsOf _ _ _ _ _ hk
        have hk' := List.mem_of_getElem? h3
        refine ⟨hpres' k hk', ?_⟩
        have := List.all_eq_true.1 hc.2.2 k hk'
        simp only [Bool.or_eq_true, List.contains_eq_mem, decide_eq_true_eq] at this
        rcases this with h4 | h4
        · exact .inl (List.mem_filter.2 ⟨hk', h4⟩)
        · obtain ⟨y, h5, h6⟩ := List.mem_flatMap.1 h4
          exact .inr (args_ptrs 0 h1 y h5 k h6)
  · cases h

/-! ## What is added -/

theorem lkp_insAll_mem : ∀ {l : Hp} {hp : Hp} {k : Nat} {o : AObj}, (∃ o', (k, o') ∈ l) → lkp (insAll hp l) k = some o → (k, o) ∈ l
  | [], hp, k, o, h, _ => by obtain ⟨o', h⟩ := h; simp at h
  | (a, x) :: r, hp, k, o, h, hl => by
    simp only [insAll] at hl
    by_cases h1 : ∃ o', (k, o') ∈ r
    · exact List.mem_cons_of_mem _ (lkp_insAll_mem h1 hl)
    · rw [lkp_insAll_ne r _ k fun o' ho' => h1 ⟨o', ho'⟩, lkp_ins] at hl
      obtain ⟨o', h2⟩ := h
      rcases List.mem_cons.1 h2 with h2 | h2
      · cases h2
        rw [if_pos rfl] at hl
        cases hl
        exact List.mem_cons_self ..
      · exact absurd ⟨o', h2⟩ h1

theorem lkp_insAll_any : ∀ {l : Hp} {hp hp' : Hp} {k : Nat}, (∃ o', (k, o') ∈ l) → lkp (insAll hp l) k = lkp (insAll hp' l) k
  | [], hp, hp', k, h => by obtain ⟨o', h⟩ := h; simp at h
  | (a, x) :: r, hp, hp', k, h => by
    simp only [insAll]
    by_cases h1 : ∃ o', (k, o') ∈ r
    · exact lkp_insAll_any h1
    · rw [lkp_insAll_ne r _ k fun o' ho' => h1 ⟨o', ho'⟩, lkp_insAll_ne r _ k fun o' ho' => h1 ⟨o', ho'⟩, lkp_ins, lkp_ins]
      obtain ⟨o', h2⟩ := h
      rcases List.mem_cons.1 h2 with h2 | h2
      · cases h2; simp
      · exact absurd ⟨o', h2⟩ h1

theorem lkp_insAll_congr : ∀ (l : Hp) {hp hp' : Hp} {k : Nat}, lkp hp k = lkp hp' k → lkp (insAll hp l) k = lkp (insAll hp' l) k
  | [], hp, hp', k, h => h
  | (a, x) :: r, hp, hp', k, h => by
    simp only [insAll]
    exact lkp_insAll_congr r (by rw [lkp_ins, lkp_ins, h])

/-- A call and an operation that adds only: in either order. -/
theorem on_swap {ce : CallEff} {dX dY : Option Nat} {v : AV} {ax : Hp} {s : Sl × Hp} (hd : apartO dX dY = true) (hdel : ce.eff.dels = [])
    (h1 : ∀ k o, (k, o) ∈ ax → (∀ o', (k, o') ∉ ce.eff.sets) ∧ (∀ o', (k, o') ∉ ce.eff.adds) ∧ k ∉ ce.eff.frz) (h2 : ∀ k o, (k, o) ∈ ax → okill ce.gone o = o) (hv : kill ce.gone v = v) :
    Alike (putD (ce.on dY s.1 s.2).1 dX v, insAll (ce.on dY s.1 s.2).2 ax) (ce.on dY (putD s.1 dX v) (insAll s.2 ax)) := by
  refine ⟨fun t => ?_, fun k => ?_⟩
  · show gs (putD (putD (strike ce.gone s.1) dY ce.eff.val) dX v) t = gs (putD (strike ce.gone (putD s.1 dX v)) dY ce.eff.val) t
    simp only [gs_putD, gs_strike]
    by_cases hx : dX = some t
    · have hy : ¬ dY = some t := fun e => by rw [hx, e] at hd; simp [apartO] at hd
      simp [hx, hy, hv]
    · simp [hx]
  · show lkp (insAll (ce.eff.on (strikeO ce.gone s.2)) ax) k = lkp (ce.eff.on (strikeO ce.gone (insAll s.2 ax))) k
    unfold Eff.on
    rw [hdel]
    simp only [delAll]
    by_cases hk : ∃ o, (k, o) ∈ ax
    · obtain ⟨o, ho⟩ := hk
      obtain ⟨g1, g2, g3⟩ := h1 k o ho
      rw [lkp_insAll_ne _ (insAll (freezeAll ce.eff.frz (strikeO ce.gone (insAll s.2 ax))) ce.eff.sets) k g2, lkp_insAll_ne _ (freezeAll ce.eff.frz (strikeO ce.gone (insAll s.2 ax))) k g1]
      rw [lkp_freezeAll, lkp_strikeO]
      rw [lkp_insAll_any (hp' := s.2) ⟨o, ho⟩]
      cases hl : lkp (insAll s.2 ax) k with
      | none => rfl
      | some o' =>
        have := h2 k o' (lkp_insAll_mem ⟨o, ho⟩ hl)
        simp [this, g3]
    · have hk' : ∀ o, (k, o) ∉ ax := fun o ho => hk ⟨o, ho⟩
      rw [lkp_insAll_ne ax _ k hk']
      refine lkp_insAll_congr _ (lkp_insAll_congr _ ?_)
      rw [lkp_freezeAll, lkp_freezeAll, lkp_strikeO, lkp_strikeO, lkp_insAll_ne ax _ k hk']

/-! ## A step that is quiet -/

structure QuietE (ce : CallEff) : Prop where
  gone : ce.gone = []
  sets : ce.eff.sets = []
  dels : ce.eff.dels = []
  frz : ce.eff.frz = []

theorem quiet_on {ce : CallEff} (h : QuietE ce) (d : Option Nat) (s : Sl × Hp) : ce.on d s.1 s.2 = (putD s.1 d ce.eff.val, insAll s.2 ce.eff.adds) := by
  unfold CallEff.on Eff.on
  rw [h.gone, h.sets, h.dels, h.frz]
  rfl

theorem step_q {C : Orc} {M : Modes} {nx i : Nat} {o : CO} {s s' : Sl × Hp} (h : stepCO C M nx i false o s = some s') :
    (wantV s.1 o.guard = some false ∧ s' = (putD s.1 o.dst (.tup []), s.2)) ∨
    (wantV s.1 o.guard = some true ∧ ∃ ce, QuietE ce ∧ vop C M s.1 s.2 (nx + 64 * i) o.op = some ce ∧ okAdds (nx + 64 * i) (nx + 64 * i + 64) ce.eff.adds = true ∧ s' = (putD s.1 o.dst ce.eff.val, insAll s.2 ce.eff.adds)) := by
  unfold stepCO at h
  obtain ⟨b, hw, h⟩ := bnd_eq_some h
  cases b with
  | true =>
    simp only [if_true] at h
    obtain ⟨ce, h1, h2, rfl⟩ := stepE_some h
    unfold vopD at h1
    simp only [Bool.false_eq_true, if_false] at h1
    unfold quietE at h1
    obtain ⟨c, h3, h1⟩ := bnd_eq_some h1
    unfold quietC at h1
    split at h1
    · rename_i e1 e2 e3 e4
      cases h1
      have hq : QuietE ce := ⟨e1, e2, e3, e4⟩
      exact .inr ⟨hw, ce, hq, h3, h2, quiet_on hq _ s⟩
    · cases h1
  | false =>
    simp only [Bool.false_eq_true, if_false] at h
    cases h
    exact .inl ⟨hw, rfl⟩

theorem step_q_mk {C : Orc} {M : Modes} {nx i : Nat} {o : CO} {s : Sl × Hp} {ce : CallEff} (hw : wantV s.1 o.guard = some true) (hq : QuietE ce) (hv : vop C M s.1 s.2 (nx + 64 * i) o.op = some ce) (hk : okAdds (nx + 64 * i) (nx + 64 * i + 64) ce.eff.adds = true) :
    stepCO C M nx i false o s = some (putD s.1 o.dst ce.eff.val, insAll s.2 ce.eff.adds) := by
  unfold stepCO
  rw [hw, bnd_some]
  simp only [if_true]
  unfold stepE vopD
  simp only [Bool.false_eq_true, if_false]
  rw [hv]
  simp only [quietE, bnd_some, hq.gone, hq.sets, hq.dels, hq.frz, quietC]
  rw [if_pos hk, quiet_on hq _ s]

theorem step_q_skip {C : Orc} {M : Modes} {nx i : Nat} {t : Bool} {o : CO} {s : Sl × Hp} (hw : wantV s.1 o.guard = some false) : stepCO C M nx i t o s = some (putD s.1 o.dst (.tup []), s.2) := by
  unfold stepCO
  rw [hw, bnd_some]
  rfl

theorem want_kill {sl sl' : Sl} {g : List Nat} {gd : Option (Nat × Bool)} (h : ∀ q, gd = some q → gs sl' q.1 = kill g (gs sl q.1)) : wantV sl' gd = wantV sl gd := by
  cases gd with
  | none => rfl
  | some q =>
    simp only [wantV, h q rfl]
    cases gs sl q.1 with
    | d x => rfl
    | tup vs => cases vs <;> rfl
    | ptr a b => simp only [kill, kill2, kill1]; split <;> rfl
    | prow a b c d => simp only [kill, kill2, kill1]; split <;> rfl
    | own a => simp only [kill, kill2, kill1]; split <;> rfl
    | ownv a b c => simp only [kill, kill2, kill1]; split <;> rfl
    | sub a b => simp only [kill, kill2, kill1]; split <;> rfl
    | bnil a b => simp only [kill, kill2, kill1]; split <;> rfl
    | _ => rfl

end Go.Abs
