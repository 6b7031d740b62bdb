/- The abstract semantics: operations done in any order come to the same. Own text. -/
import Derived.Test.YtkdjbefmiiibpaaDoorAbsDraw
import Derived.Test.YtkdjbefmiiibpaaDoorAbsSound3
set_option linter.unusedVariables false
set_option linter.unusedSimpArgs false
namespace Go.Abs
open Go

section
variable {U : Nat → Prop} {hp hp' : Hp}

def GoodU (U : Nat → Prop) (x : AV) : Prop := InU U x ∧ ∀ f caps, x = .clo f caps → ∀ c ∈ caps, InU U c

theorem evL_mem {sl : Sl} : ∀ {xs : List Opd} {v : AV}, v ∈ evL sl xs → ∃ x ∈ xs, v = evO sl x
  | [], v, h => by simp [evL] at h
  | x :: xs, v, h => by
    simp only [evL] at h
    rcases List.mem_cons.1 h with rfl | h
    · exact ⟨x, by simp, rfl⟩
    · obtain ⟨y, h1, h2⟩ := evL_mem h
      exact ⟨y, List.mem_cons_of_mem _ h1, h2⟩

theorem vop_agree (h : Agree U hp hp') (C : Orc) (M : Modes) {sl : Sl} (base : Nat) {c : COp} (hx : ∀ x ∈ opds c, GoodU U (evO sl x)) : vop C M sl hp base c = vop C M sl hp' base c := by
  cases c <;> simp only [opds] at hx <;> simp only [vop]
  case buildSl s xs =>
    cases hv : evL sl xs with
    | nil => rfl
    | cons v vs =>
      simp only [buildSl]
      rw [giveAll_agree h]
      intro y hy
      rw [← hv] at hy
      obtain ⟨z, h1, rfl⟩ := evL_mem hy
      exact (hx z h1).1
  case load g s a => rw [loadv_agree h (hx a (by simp)).1]
  case store slc s a x => rw [storev_agree h (hx a (by simp)).1 _ _ _ _ (cells_in (hx x (by simp)).1)]
  case slice s x lo hi => rw [slicev_agree h (hx x (by simp)).1]
  case slice0 x hi mx => unfold slice0; rw [vlen_agree h (hx x (by simp)).1]
  case slice3 s x lo hi mx => unfold slice3; rw [vlen_agree h (hx x (by simp)).1]
  case clear s z x => rw [clearv_agree h (hx x (by simp)).1]
  case iaS s x i =>
    congr 1
    funext n
    simp only [slcAt]
    rw [indexAddrv_agree h (hx x (by simp)).1]
  case len x => rw [vlen_agree h (hx x (by simp)).1]
  case append s b str flat x y =>
    simp only [appV]
    rw [appTo_agree h (hx x (by simp)).1 (hx y (by simp)).1]
  case appDp s b f x y => exact appD_agree h (hx x (by simp)).1 (hx y (by simp)).1 s b base
  case buildDp s n xs =>
    refine buildDp_agree h fun y hy => ?_
    obtain ⟨z, h1, rfl⟩ := evL_mem hy
    exact (hx z h1).1
  case call f as =>
    have hf := hx f (by simp)
    cases he : evO sl f <;> simp only [callOf]
    rename_i g caps
    refine callv_agree h C (M g) base g fun y hy => ?_
    rcases List.mem_append.1 hy with hy | hy
    · obtain ⟨z, h1, rfl⟩ := evL_mem hy
      exact (hx z (by simp [h1])).1
    · exact hf.2 g caps he y hy

/-! ## From states -/

theorem rep1_refs {Γ : Gh} {w : World} {I : Nat → Prop} {x : AV} {v : Value} (h : Rep1 Γ w I x v) : ∀ id ∈ refs1 x, ∃ r, Γ id = some r := by
  intro id hid
  cases x <;> simp only [refs1, List.mem_singleton, List.not_mem_nil, List.mem_cons, or_false] at hid
  case ptr i off => subst hid; obtain ⟨b, h1, _⟩ := h; exact ⟨_, h1⟩
  case prow i sz k off => subst hid; obtain ⟨b, n, c, h1, _⟩ := h; exact ⟨_, h1⟩
  case own i => subst hid; obtain ⟨a, n, c, sz, h1, _⟩ := h; exact ⟨_, h1⟩
  case ownv i off n => subst hid; obtain ⟨a0, m, c, sz, a, h1, _⟩ := h; exact ⟨_, h1⟩
  case bnil i e => subst hid; obtain ⟨b, h1, _⟩ := h; exact ⟨_, h1⟩
  case sub i nm => obtain ⟨h0, a, n, c, sz, h1, _⟩ := h; rcases hid with rfl | rfl; exact h0; exact ⟨_, h1⟩

theorem repL_refs {Γ : Gh} {w : World} {I : Nat → Prop} : ∀ {xs : List AV} {vs : List Value}, All2 (Rep1 Γ w I) xs vs → ∀ id ∈ xs.flatMap refs1, ∃ r, Γ id = some r
  | [], [], _, id, hid => by simp at hid
  | [], _ :: _, h, _, _ => h.elim
  | _ :: _, [], h, _, _ => h.elim
  | x :: xs, v :: vs, h, id, hid => by
    simp only [List.flatMap_cons, List.mem_append] at hid
    rcases hid with hid | hid
    · exact rep1_refs h.1 id hid
    · exact repL_refs h.2 id hid

theorem rep2_refs {Γ : Gh} {w : World} {I : Nat → Prop} {x : AV} {v : Value} (h : Rep2 Γ w I x v) : ∀ id ∈ refs2 x, ∃ r, Γ id = some r := by
  intro id hid
  by_cases hs : x.small = true
  · rw [(small_fn hs (fun k => k) []).2.2.2.2.2] at hid
    rw [(small_rep hs v).2.1] at h
    exact rep1_refs h id hid
  · cases x with
    | agg cs => obtain ⟨us, _, h2⟩ := h; exact repL_refs h2 id hid
    | clo f cs => obtain ⟨us, _, h2⟩ := h; exact repL_refs h2 id hid
    | tup cs => exact h.elim
    | d x => simp [refs2, refs1] at hid
    | _ => exact absurd rfl hs

theorem repB_refs {Γ : Gh} {w : World} {I : Nat → Prop} {x : AV} {v : Value} (h : RepB Γ w I x v) : ∀ id ∈ refs2 x, ∃ r, Γ id = some r := rep2_refs h.rep2

theorem rep2L_refs {Γ : Gh} {w : World} {I : Nat → Prop} : ∀ {xs : List AV} {vs : List Value}, All2 (Rep2 Γ w I) xs vs → ∀ id ∈ xs.flatMap refs2, ∃ r, Γ id = some r
  | [], [], _, id, hid => by simp at hid
  | [], _ :: _, h, _, _ => h.elim
  | _ :: _, [], h, _, _ => h.elim
  | x :: xs, v :: vs, h, id, hid => by
    simp only [List.flatMap_cons, List.mem_append] at hid
    rcases hid with hid | hid
    · exact rep2_refs h.1 id hid
    · exact rep2L_refs h.2 id hid

theorem rep_refs {Γ : Gh} {w : World} {I : Nat → Prop} {x : AV} {v : Value} (h : Rep Γ w I x v) : ∀ id ∈ refs x, ∃ r, Γ id = some r := by
  intro id hid
  by_cases ht : ∃ vs, x = .tup vs
  · obtain ⟨vs, rfl⟩ := ht
    obtain ⟨us, _, h2⟩ := h
    exact rep2L_refs h2 id hid
  · have e : Rep Γ w I x v = Rep2 Γ w I x v := by cases x <;> first | rfl | exact absurd ⟨_, rfl⟩ ht
    rw [e] at h
    refine rep2_refs h id ?_
    cases x <;> first | exact hid | exact absurd ⟨_, rfl⟩ ht

theorem repBL_refs {Γ : Gh} {w : World} {I : Nat → Prop} : ∀ {xs : List AV} {vs : List Value}, All2 (RepB Γ w I) xs vs → ∀ id ∈ xs.flatMap refs2, ∃ r, Γ id = some r
  | [], [], _, id, hid => by simp at hid
  | [], _ :: _, h, _, _ => h.elim
  | _ :: _, [], h, _, _ => h.elim
  | x :: xs, v :: vs, h, id, hid => by
    simp only [List.flatMap_cons, List.mem_append] at hid
    rcases hid with hid | hid
    · exact repB_refs h.1 id hid
    · exact repBL_refs h.2 id hid

theorem rep_good {Γ : Gh} {w : World} {I : Nat → Prop} {x : AV} {v : Value} (hn : ∀ id, ¬ U id → Γ id = none) (h : Rep Γ w I x v) : GoodU U x := by
  have key : ∀ id, (∃ r, Γ id = some r) → U id := fun id ⟨r, hr⟩ => Classical.byContradiction fun hu => by rw [hn id hu] at hr; cases hr
  refine ⟨fun id hid => key id (rep_refs h id hid), fun f caps hx c hc => ?_⟩
  subst hx
  obtain ⟨us, _, h2⟩ := h
  obtain ⟨i, hi⟩ := List.getElem?_of_mem hc
  obtain ⟨u, _, h3⟩ := h2.get i c hi
  exact fun id hid => key id (rep_refs h3.rep2.rep id hid)

end

section
variable {P : Program} {nt : Nat} {F A I : Nat → Prop} {Γ : Gh} {U : Nat → Prop} {sl : Sl} {hp : Hp} {a : Act} {w : World}

theorem Sim.good (h : Sim nt F A I Γ U sl hp a w) (t : Nat) : GoodU U (gs sl t) := rep_good h.names (h.slots t)

theorem Sim.agree (h : Sim nt F A I Γ U sl hp a w) {hp' : Hp} (hs : ∀ id, U id → lkp hp id = lkp hp' id) : Agree U hp hp' := by
  refine ⟨hs, fun id o hu hl i hi => ?_⟩
  have ho := h.objs id o hl
  cases o with
  | box cs =>
    obtain ⟨b, cur, e, _, _, _, _, h5, _⟩ := ho
    obtain ⟨r, hr⟩ := repBL_refs h5 i hi
    exact Classical.byContradiction fun hu => by rw [h.names i hu] at hr; cases hr
  | row sz xs ex fz => simp [orefs] at hi
  | deep sz ns xs lk => simp [orefs] at hi

theorem Oper.wp_ex {o : Oper} {a : Act} {w : World} {K : Act → World → Prop} (h : o.wp P a w K (fun _ _ _ => False)) : ∃ a' w', K a' w' := by
  unfold Oper.wp at h
  generalize (execOp a.eval o).run P w = r at h
  cases r with
  | ok n w' =>
    cases n <;> simp only [Oper.upon] at h
    case value v => exact ⟨_, _, h⟩
    case skip => exact ⟨_, _, h⟩
    case defer d => exact ⟨_, _, h⟩
    case enter f args =>
      obtain ⟨e, w'', fr, he, _⟩ := h []
      cases e with
      | returned v => exact ⟨_, _, he⟩
      | panicked c => exact he.elim
      | outgrown => obtain ⟨a, w, hf⟩ := he; exact hf.elim
    case row row args =>
      obtain ⟨v, w'', he, _⟩ := h default []
      exact ⟨_, _, he⟩
  | halt x w' => cases x <;> simp only [Oper.upon] at h

end
end Go.Abs
set_option linter.unusedVariables false
set_option linter.unusedSimpArgs false
namespace Go.Abs
open Go

/-! ## Alike states -/

def Alike (s s' : Sl × Hp) : Prop := (∀ t, gs s.1 t = gs s'.1 t) ∧ ∀ id, lkp s.2 id = lkp s'.2 id

theorem Alike.refl (s : Sl × Hp) : Alike s s := ⟨fun _ => rfl, fun _ => rfl⟩
theorem Alike.symm {s s' : Sl × Hp} (h : Alike s s') : Alike s' s := ⟨fun t => (h.1 t).symm, fun id => (h.2 id).symm⟩
theorem Alike.trans {a b c : Sl × Hp} (h : Alike a b) (k : Alike b c) : Alike a c := ⟨fun t => (h.1 t).trans (k.1 t), fun id => (h.2 id).trans (k.2 id)⟩

theorem insAll_alike : ∀ (l : Hp) {hp hp' : Hp}, (∀ id, lkp hp id = lkp hp' id) → ∀ id, lkp (insAll hp l) id = lkp (insAll hp' l) id
  | [], _, _, h => h
  | (k, o) :: r, hp, hp', h => by
    simp only [insAll]
    exact insAll_alike r fun id => by rw [lkp_ins, lkp_ins, h id]

theorem delAll_alike : ∀ (l : List Nat) {hp hp' : Hp}, (∀ id, lkp hp id = lkp hp' id) → ∀ id, lkp (delAll hp l) id = lkp (delAll hp' l) id
  | [], _, _, h => h
  | d :: r, hp, hp', h => by
    simp only [delAll]
    exact delAll_alike r fun id => by rw [lkp_del, lkp_del, h id]

theorem on_alike (ce : CallEff) (dst : Option Nat) {s s' : Sl × Hp} (h : Alike s s') : Alike (ce.on dst s.1 s.2) (ce.on dst s'.1 s'.2) := by
  refine ⟨fun t => ?_, fun id => ?_⟩
  · show gs (putD (strike ce.gone s.1) dst ce.eff.val) t = gs (putD (strike ce.gone s'.1) dst ce.eff.val) t
    rw [gs_putD, gs_putD, gs_strike, gs_strike, h.1 t]
  · exact insAll_alike _ (insAll_alike _ (delAll_alike _ fun id => by rw [lkp_freezeAll, lkp_freezeAll, lkp_strikeO, lkp_strikeO, h.2 id])) id

/-! ## One operation of a region -/

noncomputable def stepCO (C : Orc) (M : Modes) (nx i : Nat) (t : Bool) (o : CO) (s : Sl × Hp) : Option (Sl × Hp) :=
  bnd (wantV s.1 o.guard) fun b => if b then stepE (nx + 64 * i) o.dst s.1 s.2 (vopD C M nx i t o.op s.1 s.2) else some (putD s.1 o.dst (.tup []), s.2)

noncomputable def stepI (C : Orc) (M : Modes) (os : List CO) (nx i : Nat) (s : Sl × Hp) : Option (Sl × Hp) := bnd os[i]? fun o => stepCO C M nx i (startAt os i) o s

noncomputable def runL (C : Orc) (M : Modes) (os : List CO) (nx : Nat) : List Nat → Sl × Hp → Option (Sl × Hp)
  | [], s => some s
  | i :: l, s => bnd (stepI C M os nx i s) (runL C M os nx l)

theorem vopsD_runL (C : Orc) (M : Modes) (os : List CO) (nx : Nat) : ∀ (rest : List CO) (i : Nat) (t : Bool) (sl : Sl) (hp : Hp), os.drop i = rest →
    vopsD C M nx i t rest sl hp = runL C M os nx (List.range' i rest.length) (sl, hp)
  | [], i, t, sl, hp, _ => rfl
  | o :: rest, i, t, sl, hp, hd => by
    have h1 : os[i]? = some o := by
      have : (os.drop i)[0]? = some o := by rw [hd]; rfl
      rw [List.getElem?_drop] at this; simpa using this
    have h2 : os.drop (i + 1) = rest := by rw [← List.drop_drop, hd]; rfl
    have h4 : CO.starts o = startAt os i := by simp only [startAt, h1]
    simp only [vopsD, List.length_cons, List.range'_succ, runL, stepI, h1, bnd_some, stepCO, h4]
    cases hw : wantV sl o.guard with
    | none => rfl
    | some b =>
      cases b with
      | true =>
        simp only [bnd_some, if_true]
        cases hs : stepE (nx + 64 * i) o.dst sl hp (vopD C M nx i (startAt os i) o.op sl hp) with
        | none => rfl
        | some r =>
          simp only [bnd_some]
          exact vopsD_runL C M os nx rest (i + 1) t r.1 r.2 h2
      | false =>
        simp only [bnd_some, Bool.false_eq_true, if_false]
        exact vopsD_runL C M os nx rest (i + 1) t _ _ h2

theorem agree_true {hp hp' : Hp} (h : ∀ id, lkp hp id = lkp hp' id) : Agree (fun _ => True) hp hp' := ⟨fun id _ => h id, fun _ _ _ _ _ _ => trivial⟩

theorem vop_alike (C : Orc) (M : Modes) {s s' : Sl × Hp} (h : Alike s s') (base : Nat) (c : COp) : vop C M s.1 s.2 base c = vop C M s'.1 s'.2 base c := by
  have h1 : ∀ x : Opd, evO s.1 x = evO s'.1 x := fun x => by cases x <;> simp only [evO]; exact h.1 _
  rw [vop_congr C M s.2 base (sl := s.1) (sl' := s'.1) fun x _ => h1 x]
  exact vop_agree (agree_true h.2) C M base fun x _ => ⟨fun _ _ => trivial, fun _ _ _ _ _ _ _ => trivial⟩

theorem wantV_alike {s s' : Sl × Hp} (h : Alike s s') (g : Option (Nat × Bool)) : wantV s.1 g = wantV s'.1 g := by
  cases g with
  | none => rfl
  | some q => simp only [wantV, h.1]

theorem stepI_alike {C : Orc} {M : Modes} {os : List CO} {nx i : Nat} {s s' r : Sl × Hp} (h : Alike s s') (hr : stepI C M os nx i s = some r) : ∃ r', stepI C M os nx i s' = some r' ∧ Alike r r' := by
  unfold stepI at hr ⊢
  obtain ⟨o, h1, hr⟩ := bnd_eq_some hr
  rw [h1, bnd_some]
  unfold stepCO at hr ⊢
  obtain ⟨b, h2, hr⟩ := bnd_eq_some hr
  rw [← wantV_alike h, h2, bnd_some]
  cases b with
  | true =>
    simp only [if_true] at hr ⊢
    obtain ⟨ce, h3, h4, rfl⟩ := stepE_some hr
    have h5 : vopD C M nx i (startAt os i) o.op s'.1 s'.2 = some ce := by
      rw [← h3]; unfold vopD; rw [vop_alike C M h]
    refine ⟨ce.on o.dst s'.1 s'.2, ?_, on_alike ce o.dst h⟩
    unfold stepE
    rw [h5, bnd_some, if_pos h4]
  | false =>
    simp only [Bool.false_eq_true, if_false] at hr ⊢
    cases hr
    refine ⟨_, rfl, fun t => ?_, h.2⟩
    show gs (putD s.1 o.dst (.tup [])) t = gs (putD s'.1 o.dst (.tup [])) t
    rw [gs_putD, gs_putD, h.1 t]

theorem runL_alike {C : Orc} {M : Modes} {os : List CO} {nx : Nat} : ∀ {l : List Nat} {s s' r : Sl × Hp}, Alike s s' → runL C M os nx l s = some r → ∃ r', runL C M os nx l s' = some r' ∧ Alike r r'
  | [], s, s', r, h, hr => by simp only [runL] at hr ⊢; cases hr; exact ⟨s', rfl, h⟩
  | i :: l, s, s', r, h, hr => by
    simp only [runL] at hr ⊢
    obtain ⟨s1, h1, hr⟩ := bnd_eq_some hr
    obtain ⟨s1', h2, h3⟩ := stepI_alike h h1
    rw [h2, bnd_some]
    exact runL_alike h3 hr

/-! ## Two operations that are apart -/

theorem want_put {sl : Sl} {d : Option Nat} {v : AV} {o : CO} (h : apartD d (looks o) = true) : wantV (putD sl d v) o.guard = wantV sl o.guard := by
  cases hg : o.guard with
  | none => rfl
  | some q =>
    simp only [wantV]
    rw [gs_putD, if_neg]
    intro e
    rw [e] at h
    simp [apartD, looks, hg, guardSlots] at h

theorem ev_put {sl : Sl} {d : Option Nat} {v : AV} {o : CO} (h : apartD d (looks o) = true) : ∀ x ∈ opds o.op, evO (putD sl d v) x = evO sl x := by
  intro x hx
  cases x with
  | t n =>
    simp only [evO]
    rw [gs_putD, if_neg]
    intro e
    rw [e] at h
    simp only [apartD, looks, Bool.not_eq_true', List.contains_eq_mem, decide_eq_false_iff_not] at h
    exact h (List.mem_append.2 (.inl (List.mem_flatMap.2 ⟨_, hx, by simp [slotOf]⟩)))
  | _ => rfl

/-- What a quiet operation comes to, here and elsewhere. -/
theorem step_quiet {C : Orc} {M : Modes} {nx i : Nat} {o : CO} {s s' : Sl × Hp} (h : stepCO C M nx i false o s = some s') :
    ∃ v adds, s' = (putD s.1 o.dst v, insAll s.2 adds) ∧ (∀ k x, (k, x) ∈ adds → nx + 64 * i ≤ k ∧ k < nx + 64 * i + 64) ∧
      ∀ s'' : Sl × Hp, wantV s''.1 o.guard = wantV s.1 o.guard → vop C M s''.1 s''.2 (nx + 64 * i) o.op = vop C M s.1 s.2 (nx + 64 * i) o.op → stepCO C M nx i false o s'' = some (putD s''.1 o.dst v, insAll s''.2 adds) := by
  unfold stepCO at h
  obtain ⟨b, hw, h⟩ := bnd_eq_some h
  cases b with
  | true =>
    simp only [if_true] at h
    obtain ⟨ce, h1, h2, rfl⟩ := stepE_some h
    unfold vopD at h1
    simp only [Bool.false_eq_true, if_false] at h1
    have h1' := h1
    unfold quietE at h1
    obtain ⟨c, h3, h1⟩ := bnd_eq_some h1
    unfold quietC at h1
    split at h1
    · rename_i e1 e2 e3 e4
      cases h1
      have hon : ∀ s : Sl × Hp, ce.on o.dst s.1 s.2 = (putD s.1 o.dst ce.eff.val, insAll s.2 ce.eff.adds) := by
        intro s
        unfold CallEff.on Eff.on
        rw [e1, e2, e3, e4]
        rfl
      refine ⟨ce.eff.val, ce.eff.adds, hon s, okAdds_lt h2, fun s'' g1 g2 => ?_⟩
      unfold stepCO
      rw [g1, hw, bnd_some]
      simp only [if_true]
      unfold stepE vopD
      simp only [Bool.false_eq_true, if_false]
      rw [g2, h1', bnd_some, if_pos h2, hon]
    · cases h1
  | false =>
    simp only [Bool.false_eq_true, if_false] at h
    cases h
    refine ⟨.tup [], [], rfl, fun k x hk => by simp at hk, fun s'' g1 g2 => ?_⟩
    unfold stepCO
    rw [g1, hw, bnd_some]
    rfl

theorem constOk_good {U : Nat → Prop} {a : AV} (h : constOk (.v a) = true) : GoodU U a := by
  simp only [constOk, Bool.and_eq_true, List.isEmpty_iff, Bool.not_eq_true'] at h
  refine ⟨fun id hid => by rw [h.1] at hid; simp at hid, fun f caps hx => ?_⟩
  subst hx
  simp [isClo] at h

section
variable {P : Program} {nt : Nat}

/-- Such a state comes up. -/
def SimEx (nt : Nat) (s : Sl × Hp) (U : Nat → Prop) : Prop := ∃ F A I Γ a w, Sim nt F A I Γ U s.1 s.2 a w

theorem insAll_free {U : Nat → Prop} {base : Nat} (hf : Free U base) {adds : Hp} (ha : ∀ k x, (k, x) ∈ adds → base ≤ k ∧ k < base + 64) (hp : Hp) : ∀ id, U id → lkp hp id = lkp (insAll hp adds) id := by
  intro id hu
  rw [lkp_insAll_ne]
  intro o ho
  obtain ⟨h1, h2⟩ := ha id o ho
  exact hf id h1 h2 hu

theorem put_swap {sl : Sl} {d e : Option Nat} (h : apartO d e = true) (u v : AV) (t : Nat) : gs (putD (putD sl d u) e v) t = gs (putD (putD sl e v) d u) t := by
  simp only [gs_putD]
  by_cases h1 : e = some t
  · by_cases h2 : d = some t
    · rw [h1, h2] at h; simp [apartO] at h
    · simp [h1, h2]
  · simp [h1]

theorem ins_swap {adds adds' : Hp} {b b' : Nat} (ha : ∀ k x, (k, x) ∈ adds → b ≤ k ∧ k < b + 64) (ha' : ∀ k x, (k, x) ∈ adds' → b' ≤ k ∧ k < b' + 64) (hd : b + 64 ≤ b' ∨ b' + 64 ≤ b) (hp : Hp) (id : Nat) :
    lkp (insAll (insAll hp adds) adds') id = lkp (insAll (insAll hp adds') adds) id := by
  have key : ∀ (l : Hp) (hp hp' : Hp), (∀ o, (id, o) ∉ l) → lkp (insAll hp l) id = lkp hp id := fun l hp _ h => lkp_insAll_ne l hp id h
  by_cases h1 : ∃ o, (id, o) ∈ adds
  · have h2 : ∀ o, (id, o) ∉ adds' := fun o ho => by
      obtain ⟨o', ho'⟩ := h1
      have := ha id o' ho'
      have := ha' id o ho
      omega
    rw [lkp_insAll_ne adds' _ id h2]
    -- what adds says does not depend on what lies beneath, once it says something
    have key : ∀ (l : Hp) (hp hp' : Hp), lkp hp id = lkp hp' id → lkp (insAll hp l) id = lkp (insAll hp' l) id := by
      intro l
      induction l with
      | nil => intro hp hp' h; exact h
      | cons q r ih =>
        intro hp hp' h
        obtain ⟨k, x⟩ := q
        simp only [insAll]
        exact ih _ _ (by rw [lkp_ins, lkp_ins, h])
    exact key adds _ _ (lkp_insAll_ne adds' hp id h2).symm
  · have h2 : ∀ o, (id, o) ∉ adds := fun o ho => h1 ⟨o, ho⟩
    rw [lkp_insAll_ne adds _ id h2]
    have key : ∀ (l : Hp) (hp hp' : Hp), lkp hp id = lkp hp' id → lkp (insAll hp l) id = lkp (insAll hp' l) id := by
      intro l
      induction l with
      | nil => intro hp hp' h; exact h
      | cons q r ih =>
        intro hp hp' h
        obtain ⟨k, x⟩ := q
        simp only [insAll]
        exact ih _ _ (by rw [lkp_ins, lkp_ins, h])
    exact key adds' _ _ (lkp_insAll_ne adds hp id h2)

theorem swap_quiet {C : Orc} {M : Modes} {os : List CO} {nx i j : Nat} {oi oj : CO} (hoi : os[i]? = some oi) (hoj : os[j]? = some oj) (hqj : startAt os j = false) (hij : i ≠ j) (hap : apartCO oj oi = true)
    (hops : ∀ (k : Nat) (o : CO), os[k]? = some o → ∀ x ∈ opds o.op, constOk x = true) {s s1 s2 : Sl × Hp} {U : Nat → Prop} (hs : SimEx nt s U) (hfi : Free U (nx + 64 * i)) (hfj : Free U (nx + 64 * j))
    (h1 : stepI C M os nx j s = some s1) (h2 : stepCO C M nx i false oi s1 = some s2) : ∃ t1, stepCO C M nx i false oi s = some t1 ∧ ∃ t2, stepI C M os nx j t1 = some t2 ∧ Alike t2 s2 := by
  obtain ⟨F, A, I, Γ, a, w, hsim⟩ := hs
  simp only [apartCO, Bool.and_eq_true] at hap
  obtain ⟨⟨ap1, ap2⟩, ap3⟩ := hap
  have good : ∀ (k : Nat) (o : CO), os[k]? = some o → ∀ x ∈ opds o.op, GoodU U (evO s.1 x) := by
    intro k o ho x hx
    cases x with
    | t n => exact hsim.good n
    | v y => exact constOk_good (hops k o ho _ hx)
    | f n => exact ⟨fun id hid => by simp [evO, refs, refs2] at hid, fun f caps h c hc => by cases h; simp at hc⟩
  simp only [stepI, hoj, bnd_some, hqj] at h1
  obtain ⟨vj, aj, rfl, hj1, hj2⟩ := step_quiet h1
  obtain ⟨vi, ai, rfl, hi1, hi2⟩ := step_quiet h2
  dsimp only at hi2
  have e1 : stepCO C M nx i false oi s = some (putD s.1 oi.dst vi, insAll s.2 ai) := by
    refine hi2 s (want_put ap1).symm ?_
    rw [vop_congr C M (insAll s.2 aj) (nx + 64 * i) (ev_put (o := oi) ap1)]
    exact vop_agree (hsim.agree (insAll_free hfj hj1 s.2)) C M _ (good i oi hoi)
  refine ⟨_, e1, ?_⟩
  have e2 : stepCO C M nx j false oj (putD s.1 oi.dst vi, insAll s.2 ai) = some (putD (putD s.1 oi.dst vi) oj.dst vj, insAll (insAll s.2 ai) aj) := by
    refine hj2 (putD s.1 oi.dst vi, insAll s.2 ai) (want_put ap3) ?_
    rw [vop_congr C M (insAll s.2 ai) (nx + 64 * j) (ev_put (o := oj) ap3)]
    exact (vop_agree (hsim.agree (insAll_free hfi hi1 s.2)) C M _ (good j oj hoj)).symm
  refine ⟨_, by simp only [stepI, hoj, bnd_some, hqj]; exact e2, fun t => ?_, fun id => ?_⟩
  · exact (put_swap ap2 vj vi t).symm
  · refine ins_swap hi1 hj1 ?_ s.2 id
    rcases Nat.lt_or_gt_of_ne hij with h | h
    · left; omega
    · right; omega

theorem swap_step {C : Orc} {M : Modes} {os : List CO} {nx i j : Nat} {oi oj : CO} (hoi : os[i]? = some oi) (hoj : os[j]? = some oj) (hqi : startAt os i = false) (hqj : startAt os j = false) (hij : i ≠ j) (hap : apartCO oj oi = true)
    (hops : ∀ (k : Nat) (o : CO), os[k]? = some o → ∀ x ∈ opds o.op, constOk x = true) {s s1 s2 : Sl × Hp} {U : Nat → Prop} (hs : SimEx nt s U) (hfi : Free U (nx + 64 * i)) (hfj : Free U (nx + 64 * j))
    (h1 : stepI C M os nx j s = some s1) (h2 : stepI C M os nx i s1 = some s2) : ∃ t1, stepI C M os nx i s = some t1 ∧ ∃ t2, stepI C M os nx j t1 = some t2 ∧ Alike t2 s2 := by
  have e : ∀ s : Sl × Hp, stepI C M os nx i s = stepCO C M nx i false oi s := fun s => by simp only [stepI, hoi, bnd_some, hqi]
  rw [e] at h2
  simp only [e]
  exact swap_quiet hoi hoj hqj hij hap hops hs hfi hfj h1 h2

end
end Go.Abs
