/- The abstract semantics and the model: regions, codes. Own text. -/
import Derived.Test.YtkdjbefmiiibpaaDoorAbsCall4
import Derived.Orders
set_option linter.unusedVariables false
set_option linter.unusedSimpArgs false
namespace Go.Abs
open Go

/-! ## Variables stay variables -/

/-- What was a variable is one. -/
def BoxKept (hp hp' : Hp) (n : Nat) : Prop := ∀ id cs, id < n → lkp hp id = some (.box cs) → ∃ cs', lkp hp' id = some (.box cs')

theorem BoxKept.refl (hp : Hp) (n : Nat) : BoxKept hp hp n := fun _ cs _ h => ⟨cs, h⟩
theorem BoxKept.trans {a b c : Hp} {n : Nat} (h : BoxKept a b n) (k : BoxKept b c n) : BoxKept a c n := fun id cs hn hl => by
  obtain ⟨cs', h1⟩ := h id cs hn hl
  exact k id cs' hn h1

/-- An oracle that leaves variables variables. -/
def BoxOrc (C : Orc) : Prop := ∀ f as h r hs, C f as h = some (r, hs) → ∀ (k : Nat) (cs : List AV), h[k]? = some (AObj.box cs) → ∃ cs', hs[k]? = some (AObj.box cs')

theorem lkp_insAll_ne : ∀ (l : Hp) (hp : Hp) (id : Nat), (∀ o, (id, o) ∉ l) → lkp (insAll hp l) id = lkp hp id
  | [], hp, id, _ => rfl
  | (k, x) :: r, hp, id, h => by
    simp only [insAll]
    rw [lkp_insAll_ne r _ id fun o ho => h o (List.mem_cons_of_mem _ ho), lkp_ins, if_neg]
    intro e
    subst e
    exact h x (List.mem_cons_self ..)

/-- An effect that deletes no variable, and tells variables anew as variables. -/
structure BoxEff (hp : Hp) (ce : CallEff) : Prop where
  dels : ∀ id ∈ ce.eff.dels, ∀ cs, lkp hp id ≠ some (.box cs)
  sets : ∀ id o, (id, o) ∈ ce.eff.sets → (∃ cs, lkp hp id = some (.box cs)) → ∃ cs', o = .box cs'

theorem BoxEff.keeps {hp : Hp} {ce : CallEff} (h : BoxEff hp ce) {base hi : Nat} (hok : okAdds base hi ce.eff.adds = true) (dst : Option Nat) (sl : Sl) : BoxKept hp (ce.on dst sl hp).2 base := by
  intro id cs hn hl
  show ∃ cs', lkp (insAll (insAll (delAll (freezeAll ce.eff.frz (strikeO ce.gone hp)) ce.eff.dels) ce.eff.sets) ce.eff.adds) id = some (.box cs')
  rw [lkp_insAll_ne _ _ _ (fun o ho => by have := (okAdds_lt hok id o ho).1; omega)]
  by_cases hs : ∃ o, (id, o) ∈ ce.eff.sets
  · obtain ⟨o, ho⟩ := hs
    cases hq : lkp (insAll (delAll (freezeAll ce.eff.frz (strikeO ce.gone hp)) ce.eff.dels) ce.eff.sets) id with
    | none =>
      exfalso
      have key : ∀ (l : Hp) (hp : Hp), (id, o) ∈ l → lkp (insAll hp l) id ≠ none := by
        intro l
        induction l with
        | nil => intro hp h; simp at h
        | cons q r ih =>
          intro hp hm
          obtain ⟨k, x⟩ := q
          simp only [insAll]
          rcases List.mem_cons.1 hm with hm | hm
          · cases hm
            by_cases hr : ∃ o', (id, o') ∈ r
            · intro hn
              obtain ⟨o', ho'⟩ := hr
              -- some later one tells it
              have : ∀ (l : Hp) (hp : Hp), (∃ v, lkp hp id = some v) → lkp (insAll hp l) id ≠ none := by
                intro l
                induction l with
                | nil => rintro hp ⟨v, hv⟩ hn; simp only [insAll] at hn; rw [hv] at hn; cases hn
                | cons q r ih =>
                  rintro hp ⟨v, hv⟩
                  obtain ⟨k, x⟩ := q
                  simp only [insAll]
                  refine ih _ ?_
                  rw [lkp_ins]
                  split
                  · exact ⟨_, rfl⟩
                  · exact ⟨v, hv⟩
              exact this r _ ⟨o, by rw [lkp_ins, if_pos rfl]⟩ hn
            · rw [lkp_insAll_ne r _ id fun o' ho' => hr ⟨o', ho'⟩, lkp_ins, if_pos rfl]
              simp
          · exact ih _ hm
      exact key _ _ ho hq
    | some o' =>
      rcases lkp_insAll' _ _ _ _ hq with hm | ⟨hm, _⟩
      · obtain ⟨cs', h1⟩ := h.sets id o' hm ⟨cs, hl⟩
        exact ⟨cs', by rw [h1]⟩
      · exact absurd ho (hm o)
  · rw [lkp_insAll_ne _ _ _ (fun o ho => hs ⟨o, ho⟩), lkp_delAll_ne _ _ _ (fun hd => h.dels id hd cs hl), lkp_freezeAll, lkp_strikeO, hl]
    simp only [Option.map_some, okill, freeze1]
    split
    · exact ⟨_, rfl⟩
    · exact ⟨_, rfl⟩

theorem boxEff_simple {hp : Hp} {ce : CallEff} (h1 : ce.eff.dels = []) (h2 : ce.eff.sets = []) : BoxEff hp ce :=
  ⟨fun id hid => by rw [h1] at hid; simp at hid, fun id o ho => by rw [h2] at ho; simp at ho⟩

theorem boxEff_only {hp : Hp} {v : AV} {ce : CallEff} (h : only1 v = some ce) : BoxEff hp ce := by cases h; exact boxEff_simple rfl rfl
theorem boxEff_opt {hp : Hp} {v : Option AV} {ce : CallEff} (h : opt1 v = some ce) : BoxEff hp ce := by
  obtain ⟨r, _, h⟩ := bnd_eq_some h
  exact boxEff_only h

theorem boxEff_call {C : Orc} (hC : BoxOrc C) {hp : Hp} {m : Nat → Bool} {base f : Nat} {avs : List AV} {ce : CallEff} (h : callv C m hp base f avs = some ce) : BoxEff hp ce := by
  unfold callv at h
  obtain ⟨as, _, h⟩ := bnd_eq_some h
  unfold callIds at h
  split at h
  · obtain ⟨⟨r, out⟩, h1, h⟩ := bnd_eq_some h
    unfold callBack at h
    split at h
    · cases h
    split at h
    · cases h
    · cases h
      refine ⟨fun id hid => by simp at hid, fun id o ho hb => ?_⟩
      obtain ⟨k, o0, h2, h3, rfl⟩ := mem_setsOf _ _ _ _ _ ho
      obtain ⟨cs, hcs⟩ := hb
      have h4 : ((lkpL hp (reach hp (fuelOf hp) (as.flatMap refs) [])).map (handOver (reach hp (fuelOf hp) (as.flatMap refs) [])))[k]? = some (handOver (reach hp (fuelOf hp) (as.flatMap refs) []) (.box cs)) := by
        rw [List.getElem?_map, lkpL_get, h2]
        simp [hcs, objOr]
      obtain ⟨cs', h5⟩ := hC _ _ _ _ _ h1 k _ h4
      rw [h3] at h5
      cases h5
      exact ⟨_, rfl⟩
  · cases h

theorem boxEff_append {hp : Hp} {s b base : Nat} {str flat : Bool} {x y : AV} {ef : Eff} (h1 : appendv hp s b str flat base x y = some ef) : BoxEff hp { eff := ef, gone := [] } := by
  unfold appendv at h1
  obtain ⟨q, _, h1⟩ := bnd_eq_some h1
  split at h1
  · unfold appOn at h1
    split at h1
    · split at h1
      · cases h1; exact boxEff_simple rfl rfl
      · cases h1
    · split at h1
      · cases h1
      · unfold appRow at h1
        split at h1
        · rename_i hl
          split at h1
          · cases h1
            refine ⟨fun id hid cs hcs => ?_, fun id o ho => by simp [appEff] at ho⟩
            simp [appEff] at hid
            rw [hid, hl] at hcs
            cases hcs
          · cases h1
        · cases h1
    · split at h1
      · cases h1
      · split at h1
        · unfold appSelf at h1
          split at h1
          · rename_i hl
            split at h1
            · cases h1
              refine ⟨fun id hid cs hcs => ?_, fun id o ho => by simp at ho⟩
              simp at hid
              rw [hid, hl] at hcs
              cases hcs
            · cases h1
          · cases h1
        · unfold appView at h1
          split at h1
          · rename_i hl
            split at h1
            · cases h1
              refine ⟨fun id hid cs hcs => ?_, fun id o ho => by simp [appEff] at ho⟩
              simp [appEff] at hid
              rw [hid, hl] at hcs
              cases hcs
            · cases h1
          · cases h1
    · cases h1
  · cases h1

theorem deepL_rows {hp : Hp} {ns : Nat} : ∀ {cs : List AV} {q : List D × List Nat}, deepL hp ns cs = some q → ∀ id ∈ q.2, ∀ ds, lkp hp id ≠ some (.box ds)
  | [], q, h, id, hid => by simp only [deepL] at h; cases h; simp at hid
  | c :: cs, q, h, id, hid => by
    simp only [deepL] at h
    obtain ⟨q1, h1, h⟩ := bnd_eq_some h
    obtain ⟨q2, h2, h⟩ := bnd_eq_some h
    split at h
    · cases h
      simp only [List.mem_append] at hid
      rcases hid with hid | hid
      · unfold deep1 at h1
        split at h1
        · split at h1
          · cases h1; simp at hid
          · cases h1
        · cases h1; simp at hid
        · unfold deep1.deepRow at h1
          split at h1
          · rename_i hl
            split at h1
            · cases h1
              simp at hid
              subst hid
              intro ds hds
              rw [hl] at hds; cases hds
            · cases h1
          · cases h1
        · cases h1
      · exact deepL_rows h2 id hid
    · cases h

theorem deepOf_row {hp : Hp} {id : Nat} {q : Nat × Nat × List D} (h : deepOf (lkp hp id) = some q) : ∀ ds, lkp hp id ≠ some (.box ds) := by
  intro ds hds
  rw [hds] at h; cases h

theorem boxEff_appT {hp : Hp} {s b base : Nat} {str flat : Bool} {x y : AV} {ef : Eff} (h1 : appTo hp s b str flat base y x = some ef) : BoxEff hp { eff := ef, gone := [] } := by
  unfold appTo at h1
  split at h1
  · split at h1
    · cases h1
    · obtain ⟨q, _, h2⟩ := bnd_eq_some h1
      split at h2
      · cases h2
      · unfold appSub at h2
        split at h2
        · rename_i hl
          obtain ⟨fl, _, h3⟩ := bnd_eq_some h2
          split at h3
          · cases h3
            refine ⟨fun id hid => by simp at hid, fun id o ho hb => ?_⟩
            simp at ho
            obtain ⟨cs, hcs⟩ := hb
            rw [ho.1, hl] at hcs
            cases hcs
          · cases h3
        · cases h2
  · generalize hm : deepId hp x ++ deepId hp y = ms at h1
    have hrow : ∀ k ∈ ms, ∀ ds, lkp hp k ≠ some (.box ds) := by
      intro k hk ds hds
      rw [← hm] at hk
      have key : ∀ z, k ∈ deepId hp z → False := by
        intro z hz
        unfold deepId at hz
        split at hz
        · split at hz
          · rename_i hdp
            simp at hz; subst hz
            rw [hds] at hdp; cases hdp
          · simp at hz
        · simp at hz
      rcases List.mem_append.1 hk with hk | hk <;> exact key _ hk
    cases ms with
    | nil => exact boxEff_append h1
    | cons i r =>
      simp only [appMelt] at h1
      split at h1
      · cases h1
      · obtain ⟨e0, h2, h1⟩ := bnd_eq_some h1
        cases h1
        have hbe := boxEff_append h2
        have hbox : ∀ k ds, lkp hp k = some (.box ds) → lkp (meltIn hp (i :: r)) k = some (.box ds) := by
          intro k ds hk
          rw [lkp_meltIn, hk]
          simp only [Option.map_some, meltO, ite_self]
        refine ⟨fun k hk ds hds => ?_, fun k o ho ⟨ds, hds⟩ => hbe.sets k o ho ⟨ds, hbox k ds hds⟩⟩
        rcases List.mem_append.1 hk with hk | hk
        · exact hbe.dels k hk ds (hbox k ds hds)
        · exact hrow k hk ds hds

theorem boxEff_appD {hp : Hp} {s b base : Nat} {x y : AV} {ce : CallEff} (h : appD hp s b base x y = some ce) : BoxEff hp ce := by
  unfold appD at h
  obtain ⟨ef, h1, h⟩ := bnd_eq_some h
  cases h
  obtain ⟨q, hq, h1⟩ := bnd_eq_some h1
  split at h1
  · unfold deepSrc at hq
    split at hq
    · obtain ⟨q2, h2, hq⟩ := bnd_eq_some hq
      cases hq
      unfold appDeep at h1
      split at h1
      · split at h1
        · cases h1
          refine ⟨fun id hid => ?_, fun id o ho => by simp at ho⟩
          simp at hid; subst hid
          exact deepOf_row h2
        · cases h1
      · obtain ⟨q1, h3, h4⟩ := bnd_eq_some h1
        split at h4
        · cases h4
          refine ⟨fun id hid => ?_, fun id o ho => by simp at ho⟩
          simp at hid
          rcases hid with rfl | rfl
          · exact deepOf_row h3
          · exact deepOf_row h2
        · cases h4
      · cases h1
    · cases hq
  · cases h1

theorem boxEff_all {C : Orc} {M : Modes} (hC : BoxOrc C) {sl : Sl} {hp : Hp} {base : Nat} {c : COp} {ce : CallEff} (h : vop C M sl hp base c = some ce) : BoxEff hp ce := by
  cases c with
  | move x => exact boxEff_only h
  | assign s x =>
    simp only [vop] at h
    unfold assignV at h
    split at h
    · obtain ⟨s, _, h⟩ := bnd_eq_some h; cases h; exact boxEff_simple rfl rfl
    · exact boxEff_only h
  | pick c x y =>
    simp only [vop] at h
    unfold pickV at h
    split at h
    · split at h <;> exact boxEff_only h
    · cases h
  | alloc slc cs =>
    simp only [vop] at h
    unfold allocV allocC at h
    split at h
    · split at h <;> first | (cases h; done) | (cases h; exact boxEff_simple rfl rfl)
    · split at h <;> (cases h; exact boxEff_simple rfl rfl)
  | box x =>
    simp only [vop] at h
    unfold boxV at h
    split at h
    · cases h; exact boxEff_simple rfl rfl
    · cases h
  | build zs ps =>
    simp only [vop] at h
    obtain ⟨cs, _, h⟩ := bnd_eq_some h
    exact boxEff_only h
  | buildSl s xs =>
    simp only [vop] at h
    cases hx : evL sl xs with
    | nil => rw [hx] at h; exact boxEff_only h
    | cons v vs =>
      rw [hx] at h
      obtain ⟨q, _, h⟩ := bnd_eq_some h
      unfold rowV at h
      split at h
      · cases h; exact boxEff_simple rfl rfl
      · cases h
  | load g s x => exact boxEff_opt h
  | store slc s x y =>
    simp only [vop] at h
    obtain ⟨ef, h1, h⟩ := bnd_eq_some h
    cases h
    unfold storev at h1
    split at h1
    · unfold storeBox at h1
      split at h1
      · rename_i hl
        split at h1
        · split at h1
          · cases h1
            exact ⟨fun id hid => by simp at hid, fun id o ho _ => by simp at ho; exact ⟨_, ho.2⟩⟩
          · cases h1
            exact ⟨fun id hid => by simp at hid, fun id o ho _ => by simp at ho; exact ⟨_, ho.2⟩⟩
        · cases h1
      · cases h1
    · unfold storeRow at h1
      split at h1
      · rename_i hl
        split at h1
        · obtain ⟨x, _, h1⟩ := bnd_eq_some h1
          obtain ⟨ds, _, h1⟩ := bnd_eq_some h1
          unfold storeElem at h1
          split at h1
          · cases h1
            refine ⟨fun id hid => by simp at hid, fun id o ho hb => ?_⟩
            simp at ho
            obtain ⟨cs, hcs⟩ := hb
            rw [ho.1, hl] at hcs
            cases hcs
          · cases h1
        · cases h1
      · cases h1
    · cases h1
  | nilCheck x =>
    simp only [vop] at h
    unfold notNil at h
    split at h <;> first | exact boxEff_only h | cases h
  | bin op eq x y =>
    simp only [vop] at h
    unfold binV at h
    split at h
    · split at h
      · exact boxEff_opt h
      · cases h
    · exact boxEff_opt h
  | un op x => exact boxEff_opt h
  | eqA neg ks x y =>
    simp only [vop] at h
    unfold eqAV at h
    split at h
    · obtain ⟨r, _, h⟩ := bnd_eq_some h; exact boxEff_only h
    · cases h
  | convI k x =>
    simp only [vop] at h
    unfold Abs.convI at h
    split at h <;> first | exact boxEff_only h | cases h
  | convS x =>
    simp only [vop] at h
    unfold Abs.convS at h
    split at h <;> first | exact boxEff_only h | cases h
  | fn f cs => exact boxEff_opt h
  | make s b z l c =>
    simp only [vop] at h
    obtain ⟨n, _, h⟩ := bnd_eq_some h
    obtain ⟨m, _, h⟩ := bnd_eq_some h
    unfold makeV at h
    split at h
    · cases h; exact boxEff_simple rfl rfl
    · cases h
  | slice s x lo hi => exact boxEff_opt h
  | sliceS x lo hi => exact boxEff_opt h
  | slice0 x hi mx => exact boxEff_opt h
  | slice3 s x lo hi mx => exact boxEff_opt h
  | stuck => cases h
  | appDp s b f x y => exact boxEff_appD h
  | asgDp s n x =>
    simp only [vop] at h
    unfold Abs.asgDp at h
    split at h
    · cases h; exact boxEff_simple rfl rfl
    · cases h
  | buildDp s n xs =>
    simp only [vop] at h
    unfold buildDp at h
    split at h
    · obtain ⟨q, h1, h⟩ := bnd_eq_some h
      split at h
      · cases h
        exact ⟨fun id hid => deepL_rows h1 id hid, fun id o ho => by simp at ho⟩
      · cases h
    · cases h
  | clear s z x =>
    simp only [vop] at h
    obtain ⟨ef, h1, h⟩ := bnd_eq_some h
    cases h
    unfold clearv at h1
    split at h1
    · unfold clearRow at h1
      split at h1
      · rename_i hl
        split at h1
        · cases h1
          refine ⟨fun id hid => by simp at hid, fun id o ho hb => ?_⟩
          simp at ho
          obtain ⟨cs, hcs⟩ := hb
          rw [ho.1, hl] at hcs
          cases hcs
        · cases h1
      · cases h1
    · cases h1
  | shift off x =>
    simp only [vop] at h
    unfold shiftP at h
    split at h <;> first | exact boxEff_only h | cases h
  | part g s off x => exact boxEff_opt h
  | iaS s x i =>
    simp only [vop] at h
    obtain ⟨n, _, h⟩ := bnd_eq_some h
    unfold slcAt at h
    split at h
    · exact boxEff_opt h
    · cases h
  | iaA len s x i =>
    simp only [vop] at h
    obtain ⟨n, _, h⟩ := bnd_eq_some h
    unfold arrAt at h
    split at h
    · unfold shiftP at h
      split at h <;> first | exact boxEff_only h | cases h
    · cases h
  | ixS x i =>
    simp only [vop] at h
    obtain ⟨n, _, h⟩ := bnd_eq_some h
    unfold ixSV at h
    split at h
    · unfold strAt at h
      split at h
      · obtain ⟨b, _, h⟩ := bnd_eq_some h; exact boxEff_only h
      · cases h
    · cases h
  | ixA g s len x i =>
    simp only [vop] at h
    obtain ⟨n, _, h⟩ := bnd_eq_some h
    unfold elAt at h
    split at h
    · exact boxEff_opt h
    · cases h
  | nth i x =>
    simp only [vop] at h
    unfold nthV at h
    split at h
    · exact boxEff_opt h
    · cases h
  | len x =>
    simp only [vop] at h
    obtain ⟨n, _, h⟩ := bnd_eq_some h
    exact boxEff_only h
  | lenS x =>
    simp only [vop] at h
    obtain ⟨n, _, h⟩ := bnd_eq_some h
    exact boxEff_only h
  | append s b str flat x y =>
    simp only [vop] at h
    unfold appV at h
    obtain ⟨ef, h1, h⟩ := bnd_eq_some h
    cases h
    exact boxEff_appT h1
  | min x y =>
    simp only [vop] at h
    unfold min2V at h
    split at h
    · split at h
      · exact boxEff_only h
      · cases h
    · cases h
  | max x y =>
    simp only [vop] at h
    unfold max2V at h
    split at h
    · split at h
      · exact boxEff_only h
      · cases h
    · cases h
  | call f as =>
    simp only [vop] at h
    unfold callOf at h
    split at h
    · exact boxEff_call hC h
    · cases h

end Go.Abs
