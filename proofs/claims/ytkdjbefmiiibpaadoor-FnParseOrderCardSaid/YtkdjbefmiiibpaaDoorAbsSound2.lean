/- The abstract semantics and the model: codes. Own text. -/
import Derived.Test.YtkdjbefmiiibpaaDoorAbsSound
set_option linter.unusedVariables false
set_option linter.unusedSimpArgs false
namespace Go.Abs
open Go

section
variable {P : Program} {nt : Nat} {F A : Nat → Prop} {Γ0 : Gh}

/-- The names below a number. -/
def Upto (n : Nat) : Nat → Prop := fun id => id < n

theorem free_upto (n : Nat) : Free (Upto n) n := fun id h _ hu => by simp only [Upto] at hu; omega

theorem used_upto {n : Nat} : ∀ id, Used (Upto n) n id → Upto (n + 64) id := fun id h => by
  simp only [Used, Upto] at h ⊢; omega

theorem upto_le {n m : Nat} (h : n ≤ m) : ∀ id, Upto n id → Upto m id := fun id hu => by simp only [Upto] at hu ⊢; omega

/-- The variables that were handed over are where they were. -/
def CPre (Γ0 Γ : Gh) (hp : Hp) : Prop := ∀ k b, Γ0 k = some (.box b) → Γ k = some (.box b) ∧ ∃ cs, lkp hp k = some (.box cs)

/-- What is known behind a code. -/
def CPost (nt : Nat) (F A : Nat → Prop) (Γ0 : Gh) (I : Nat → Prop) (w : World) (st' : St) (a' : Act) (w' : World) : Prop :=
  ∃ I' Γ', CPre Γ0 Γ' st'.hp ∧ Keeps I I' w w' ∧ (∀ b, I' b → I b ∨ F b) ∧ Fr F w w' ∧ Sim nt F A I' Γ' (Upto st'.nx) st'.sl st'.hp a' w'

theorem CPost.refl {I : Nat → Prop} {Γ : Gh} {st : St} {a : Act} {w : World} (h : Sim nt F A I Γ (Upto st.nx) st.sl st.hp a w) (hc : CPre Γ0 Γ st.hp) : CPost nt F A Γ0 I w st a w :=
  ⟨I, Γ, hc, Keeps.refl I w, fun _ h => .inl h, Fr.refl F w, h⟩

theorem CPost.step {I I1 : Nat → Prop} {w w1 w' : World} {st' : St} {a' : Act} (hk : Keeps I I1 w w1) (hs : ∀ b, I1 b → I b ∨ F b) (hf : Fr F w w1) (h : CPost nt F A Γ0 I1 w1 st' a' w') : CPost nt F A Γ0 I w st' a' w' := by
  obtain ⟨I', Γ', h1, h2, h3, h4, h5⟩ := h
  refine ⟨I', Γ', h1, hk.trans h2, fun b hb => ?_, hf.trans h4, h5⟩
  rcases h3 b hb with h6 | h6
  · exact hs b h6
  · exact .inr h6

theorem Post.cpre {Γ Γ' : Gh} {hp hp' : Hp} (hg : ∀ id b, Γ id = some (.box b) → Γ' id = some (.box b)) {n : Nat} (hb : BoxKept hp hp' n) (hc : CPre Γ0 Γ hp) (hlt : ∀ id o, lkp hp id = some o → id < n) : CPre Γ0 Γ' hp' := by
  intro k b hk
  obtain ⟨h1, cs, h2⟩ := hc k b hk
  exact ⟨hg k b h1, hb k cs (hlt k _ h2) h2⟩

/-! ## Regions -/

theorem guard_ok {I : Nat → Prop} {Γ : Gh} {U : Nat → Prop} {sl : Sl} {hp : Hp} {a : Act} {w : World} (h : Sim nt F A I Γ U sl hp a w) {ops : Array Oper} {o : Oper} {g : Option (Nat × Bool)} (hg : cGuard ops.toList o.guard = some g)
    {b : Bool} (hw : wantV sl g = some b) : Region.wanted o (yielded ops a.tmps) = b := by
  unfold Region.wanted
  cases ho : o.guard with
  | none =>
    rw [ho] at hg
    simp only [cGuard] at hg
    cases hg
    simp only [wantV] at hw
    cases hw
    rfl
  | some q =>
    rw [ho] at hg
    simp only [cGuard] at hg
    obtain ⟨g', h1, hg⟩ := bnd_eq_some hg
    obtain ⟨t, h2, hg⟩ := bnd_eq_some hg
    cases hg
    simp only [wantV] at hw
    have hr := h.slots t
    have h1' : ops[q.1]? = some g' := by simpa using h1
    have hy : yielded ops a.tmps q.1 = match a.tmps[t]? with
      | some (.bool b) => some b
      | _ => none := by unfold yielded; rw [h1']; simp only [Option.bind_some, h2]; rfl
    unfold guardV at hw
    split at hw
    · rename_i b' hb'
      cases hw
      rw [hb'] at hr
      have h3 := rep_bool hr
      have h4 : a.tmps[t]? = some (.bool b') := by
        cases ht : a.tmps[t]? with
        | none => simp [ht, undef] at h3
        | some v => simp [ht] at h3; rw [h3]
      obtain ⟨qj, qw⟩ := q
      simp only at hy ⊢
      rw [hy, h4]
      cases b' <;> cases qw <;> rfl
    · rename_i hb'
      cases hw
      rw [hb'] at hr
      obtain ⟨us, h3, h4⟩ := hr
      have h5 : ∀ b', a.tmps[t]? ≠ some (.bool b') := by
        intro b' hb''
        simp [hb''] at h3
      obtain ⟨qj, qw⟩ := q
      simp only at hy ⊢
      rw [hy]
      cases ht : a.tmps[t]? with
      | none => rfl
      | some v =>
        cases v <;> first | rfl | (exfalso; exact h5 _ ht)
    · cases hw

theorem undef_rep {Γ : Gh} {w : World} {I : Nat → Prop} : Rep Γ w I (.tup []) undef := ⟨#[], rfl, trivial⟩

theorem cOper_some {ops : List Oper} {o : Oper} {co : CO} (h : cOper P nt ops o = some co) : cGuard ops o.guard = some co.guard ∧ orStuck (cOp P o.type o.op) = co.op ∧ dstOk nt o.dst = true ∧ co.dst = o.dst := by
  unfold cOper at h
  obtain ⟨g, h1, h⟩ := bnd_eq_some h
  split at h
  · cases h; exact ⟨h1, rfl, by assumption, rfl⟩
  · cases h

theorem stepE_some {base : Nat} {dst : Option Nat} {sl : Sl} {hp : Hp} {e : Option CallEff} {r : Sl × Hp} (h : stepE base dst sl hp e = some r) : ∃ ce, e = some ce ∧ okAdds base (base + 64) ce.eff.adds = true ∧ r = ce.on dst sl hp := by
  unfold stepE at h
  obtain ⟨ce, h1, h⟩ := bnd_eq_some h
  split at h
  · cases h; exact ⟨ce, h1, by assumption, rfl⟩
  · cases h

theorem drop_get {ops : Array Oper} {i : Nat} {o : Oper} {rest : List Oper} (h : ops.toList.drop i = o :: rest) : ops[i]? = some o ∧ ops.toList.drop (i + 1) = rest ∧ i < ops.size := by
  have h1 : (ops.toList.drop i)[0]? = some o := by rw [h]; rfl
  rw [List.getElem?_drop] at h1
  have h2 : ops[i]? = some o := by simpa using h1
  refine ⟨h2, ?_, (Array.getElem?_eq_some_iff.1 h2).1⟩
  rw [← List.drop_drop, h]; rfl

theorem vops_sound {C : Orc} {M : Modes} (hC : SoundOrc P C) (hB : BoxOrc C) {ops : Array Oper} {Q : Exit → Act → World → Prop} {nx m : Nat} :
    ∀ (os : List CO) (i : Nat) {sl : Sl} {hp : Hp} {r : Sl × Hp} {I : Nat → Prop} {Γ : Gh} {a : Act} {w : World}, i ≤ ops.size → mapO (cOper P nt ops.toList) (ops.toList.drop i) = some (stripL os) → vops C M nx i os sl hp = some r →
      Sim nt F A I Γ (Upto (nx + 64 * i)) sl hp a w → CPre Γ0 Γ hp → (∀ a' w', CPost nt F A Γ0 I w { sl := r.1, hp := r.2, nx := nx + 64 * ops.size, m := m } a' w' → Q .normal a' w') →
      wpOps P ops Q (List.range' i (ops.size - i)) a w := by
  intro os
  induction os with
  | nil =>
    intro i sl hp r I Γ a w hile hos hv hS hc hQ
    have hd : ops.toList.drop i = [] := by
      cases hd : ops.toList.drop i with
      | nil => rfl
      | cons o rest =>
        rw [hd] at hos
        simp only [mapO] at hos
        obtain ⟨_, _, hos⟩ := bnd_eq_some hos
        obtain ⟨_, _, hos⟩ := bnd_eq_some hos
        simp [stripL] at hos
    have hi : ops.size ≤ i := by
      have := List.drop_eq_nil_iff.1 hd
      simpa using this
    have hie : i = ops.size := by omega
    subst hie
    rw [show ops.size - ops.size = 0 by omega]
    simp only [vops] at hv
    cases hv
    simp only [List.range', wpOps]
    exact hQ a w (CPost.refl (st := { sl := sl, hp := hp, nx := nx + 64 * ops.size, m := m }) hS hc)
  | cons co os ih =>
    intro i sl hp r I Γ a w hile hos hv hS hc hQ
    cases hd : ops.toList.drop i with
    | nil => rw [hd] at hos; simp [mapO, stripL] at hos
    | cons o rest =>
      obtain ⟨ho, hrest, hlt⟩ := drop_get hd
      rw [hd] at hos
      simp only [mapO] at hos
      obtain ⟨co', h1, hos⟩ := bnd_eq_some hos
      obtain ⟨os', h2, hos⟩ := bnd_eq_some hos
      simp only [stripL, Option.some.injEq, List.cons.injEq] at hos
      obtain ⟨rfl, rfl⟩ := hos
      obtain ⟨hg, hop, hdst, hdd⟩ := cOper_some h1
      dsimp only at hg hop hdd
      rw [show ops.size - i = (ops.size - (i + 1)) + 1 by omega, List.range'_succ]
      simp only [vops] at hv
      obtain ⟨b, hw, hv⟩ := bnd_eq_some hv
      have hwant := guard_ok hS hg hw
      simp only [wpOps, ho, hwant]
      rw [hdd] at hv
      cases b with
      | true =>
        simp only [if_true] at hv ⊢
        obtain ⟨q, hq, hv⟩ := bnd_eq_some hv
        obtain ⟨ce, hce, hok, rfl⟩ := stepE_some hq
        refine .inl (op_allS hC hS hop (free_upto _) hdst hok hce _ _ fun u w' hp' => ?_)
        obtain ⟨I1, Γ1, b1, b2, b3, b4, b5⟩ := hp'
        refine ih (i + 1) (by omega) (by rw [hrest]; exact h2) hv (by rw [show nx + 64 * (i + 1) = nx + 64 * i + 64 by omega]; exact b5.more used_upto) (Post.cpre b1 (n := nx + 64 * i) ((boxEff_all hB hce).keeps hok o.dst sl) hc fun id o hl => hS.id_in hl) fun a' w'' hpost => hQ a' w'' (hpost.step b2 b3 b4)
      | false =>
        simp only [Bool.false_eq_true, if_false] at hv ⊢
        obtain ⟨I1, Γ1, b1, b2, b3, b4, b5⟩ := hS.pure (U' := Upto (nx + 64 * (i + 1))) (v := .tup []) (u := undef) (dst := o.dst) (upto_le (by omega)) undef_rep hdst
        exact ih (i + 1) (by omega) (by rw [hrest]; exact h2) hv b5 (Post.cpre b1 (BoxKept.refl hp (nx + 64 * i)) hc fun id o hl => hS.id_in hl) fun a' w'' hpost => hQ a' w'' (hpost.step b2 b3 b4)

/-! ## Names told anew, at loops and at the end -/

theorem mem_dead {hp : Hp} {ids : List Nat} : ∀ {l : List Nat} {i : Nat}, i ∈ l → i ∉ dead hp ids l → liveIn hp ids i = true
  | [], i, h, _ => by simp at h
  | x :: r, i, h, hn => by
    simp only [dead] at hn
    cases hl : liveIn hp ids x with
    | true =>
      rw [hl] at hn
      simp only [if_true] at hn
      rcases List.mem_cons.1 h with rfl | h
      · exact hl
      · exact mem_dead h hn
    | false =>
      rw [hl] at hn
      simp only [Bool.false_eq_true, if_false, List.mem_cons, not_or] at hn
      rcases List.mem_cons.1 h with rfl | h
      · exact absurd rfl hn.1
      · exact mem_dead h hn.2

def livG (hp : Hp) (ids : List Nat) (Γ : Gh) : Gh := fun k => match ids[k]? with
  | some id => if isThere (lkp hp id) then Γ id else some (.row none 0 0 0)
  | none => none

theorem livG_live {hp : Hp} {ids : List Nat} {Γ : Gh} {id : Nat} (h : liveIn hp ids id = true) : livG hp ids Γ (posOf ids id) = Γ id := by
  simp only [liveIn, Bool.and_eq_true, List.contains_eq_mem, decide_eq_true_eq] at h
  simp only [livG, (posOf_lt h.1).2, h.2, if_true]

section
variable {I : Nat → Prop} {Γ : Gh} {U : Nat → Prop} {sl : Sl} {hp : Hp} {a : Act} {w : World}

theorem tidy_rep (ids : List Nat) {x : AV} {v : Value} (h : Rep Γ w I x v) : Rep (livG hp ids Γ) w I (tidy hp ids x) v := by
  refine ren_rep (fun id hid r hr => ?_) (Keeps.refl I w) (kill_rep (bad := dead hp ids (refs x)) h)
  obtain ⟨h1, h2⟩ := refs_kill _ _ id hid
  rw [livG_live (mem_dead h1 h2)]
  exact hr

theorem tidyO_ok {ids : List Nat} {k id : Nat} (hk : ids[k]? = some id) {o : AObj} (hl : lkp hp id = some o) (ho : ObjOK Γ w I F A id o) : ObjOK (livG hp ids Γ) w I F A k (tidyO hp ids o) := by
  have hG : livG hp ids Γ k = Γ id := by simp [livG, hk, hl, isThere]
  cases o with
  | box cs =>
    obtain ⟨b, cur, e, h1, h2, h3, h4, h5, hbf⟩ := ho
    refine ⟨b, cur, e, by rw [hG, h1], h2, h3, h4, ?_, (hbf.map (kill2_bbuf _)).map (ren2_bbuf _)⟩
    have h6 : All2 (RepB Γ w I) (cs.map (kill2 (dead hp ids (orefs (.box cs))))) cur.toList := h5.map_left fun _ _ h => killB_rep h
    refine renBL_rep (fun id' hid r hr => ?_) (Keeps.refl I w) h6
    obtain ⟨y, hy, hid⟩ := List.mem_flatMap.1 hid
    obtain ⟨x, hx, rfl⟩ := List.mem_map.1 hy
    obtain ⟨h7, h8⟩ := refs_kill2 _ x id' hid
    rw [livG_live (mem_dead (List.mem_flatMap.2 ⟨x, hx, h7⟩) h8)]
    exact hr
  | row sz xs ex fz =>
    obtain ⟨ad, n, c, h1, h2⟩ := ho
    exact ⟨ad, n, c, by rw [hG, h1], h2⟩
  | deep sz ns xs lk =>
    obtain ⟨ad, n, c, h1, h2, _⟩ := ho
    exact ⟨ad, n, c, by rw [hG, h1], h2, trivial⟩

/-- Objects told anew. -/
theorem tidied (h : Sim nt F A I Γ U sl hp a w) {ids : List Nat} (hnd : ids.Nodup) :
    HpOK (livG hp ids Γ) w I F A (numb 0 ((lkpL hp ids).map (tidyO hp ids))) ∧
    (∀ i j o o' b, lkp (numb 0 ((lkpL hp ids).map (tidyO hp ids))) i = some o → lkp (numb 0 ((lkpL hp ids).map (tidyO hp ids))) j = some o' → Blk (livG hp ids Γ) w i o b → Blk (livG hp ids Γ) w j o' b → i = j) ∧
    (∀ id, ids.length ≤ id → livG hp ids Γ id = none) := by
  have get : ∀ k o, lkp (numb 0 ((lkpL hp ids).map (tidyO hp ids))) k = some o → ∃ id, ids[k]? = some id ∧ o = tidyO hp ids (objOr (lkp hp id)) := by
    intro k o hk
    rw [lkp_numb] at hk
    simp only [Nat.zero_le, if_true, Nat.sub_zero, List.getElem?_map, lkpL_get, Option.map_map] at hk
    cases hi : ids[k]? with
    | none => rw [hi] at hk; cases hk
    | some id =>
      rw [hi] at hk
      simp only [Option.map_some, Option.some.injEq, Function.comp_apply] at hk
      exact ⟨id, rfl, hk.symm⟩
  refine ⟨fun k o hk => ?_, fun i j o o' b hi hj hbi hbj => ?_, fun id hid => ?_⟩
  · obtain ⟨id, h1, rfl⟩ := get k o hk
    cases hl : lkp hp id with
    | none => exact ⟨none, 0, 0, by simp [livG, h1, hl, isThere], rfl, .inl ⟨rfl, rfl⟩⟩
    | some o0 => exact tidyO_ok h1 hl (h.objs id o0 hl)
  · obtain ⟨id, h1, rfl⟩ := get i o hi
    obtain ⟨id', h2, rfl⟩ := get j o' hj
    have bk : ∀ (k id : Nat) (o0 : AObj), livG hp ids Γ k = Γ id → Blk (livG hp ids Γ) w k (tidyO hp ids o0) b → Blk Γ w id o0 b := by
      intro k id o0 e hb
      rcases hb with hb | hb | hb
      · exact .inl (e ▸ hb)
      · cases o0 with
        | box cs => exact False.elim hb
        | row sz xs ex fz => exact False.elim hb
        | deep sz ns xs lk => obtain ⟨g, p, h5, h6⟩ := hb; exact .inr (.inl ⟨g, p, e ▸ h5, h6⟩)
      · cases o0 with
        | box cs => exact .inr (.inr ((Buf.unmap (kill2_bbuf _) (Buf.unmap (ren2_bbuf _) hb)).ren e.symm))
        | row sz xs ex fz => exact False.elim hb
        | deep sz ns xs lk => exact False.elim hb
    cases hl : lkp hp id with
    | none => exact (hbi.nil (by simp [livG, h1, hl, isThere, blkOf])).elim
    | some o0 =>
      cases hl' : lkp hp id' with
      | none => exact (hbj.nil (by simp [livG, h2, hl', isThere, blkOf])).elim
      | some o1 =>
        have e1 : livG hp ids Γ i = Γ id := by simp [livG, h1, hl, isThere]
        have e2 : livG hp ids Γ j = Γ id' := by simp [livG, h2, hl', isThere]
        rw [hl] at hbi; rw [hl'] at hbj
        have := h.inj id id' o0 o1 b hl hl' (bk i id o0 e1 hbi) (bk j id' o1 e2 hbj)
        subst this
        exact nodup_inj hnd h1 h2
  · simp [livG, List.getElem?_eq_none hid]

theorem reach_prefix (hp : Hp) : ∀ (n : Nat) (todo acc : List Nat), ∃ t, reach hp n todo acc = acc ++ t
  | 0, todo, acc => ⟨[], by simp [reach]⟩
  | n + 1, [], acc => ⟨[], by simp [reach]⟩
  | n + 1, id :: todo, acc => by
    simp only [reach]
    split
    · exact reach_prefix hp n todo acc
    · cases lkp hp id with
      | none => simp only [reachGo]; exact reach_prefix hp n todo acc
      | some o =>
        simp only [reachGo]
        obtain ⟨t, ht⟩ := reach_prefix hp n (todo ++ orefs o) (acc ++ [id])
        exact ⟨id :: t, by rw [ht]; simp⟩

theorem reach_range {hp : Hp} {n m : Nat} {todo : List Nat} {k : Nat} (hk : k < m) : (reach hp n todo (List.range m))[k]? = some k := by
  obtain ⟨t, ht⟩ := reach_prefix hp n todo (List.range m)
  rw [ht, List.getElem?_append_left (by simpa using hk)]
  simp [hk]

/-- What was handed over is told by the same names. -/
theorem tidy_cpre {n m : Nat} {todo : List Nat} (hc : CPre Γ0 Γ hp) (hm : ∀ k, m ≤ k → Γ0 k = none) :
    CPre Γ0 (livG hp (reach hp n todo (List.range m)) Γ) (numb 0 ((lkpL hp (reach hp n todo (List.range m))).map (tidyO hp (reach hp n todo (List.range m))))) := by
  intro k b hk
  have hkm : k < m := by
    rcases Nat.lt_or_ge k m with h | h
    · exact h
    · rw [hm k h] at hk; cases hk
  obtain ⟨h1, cs, h2⟩ := hc k b hk
  have h3 := reach_range (hp := hp) (n := n) (todo := todo) hkm
  refine ⟨by simp [livG, h3, h2, isThere, h1], ?_⟩
  rw [lkp_numb]
  simp only [Nat.zero_le, if_true, Nat.sub_zero, List.getElem?_map, lkpL_get, h3, Option.map_some, h2, objOr]
  exact ⟨_, rfl⟩

theorem lkp_only {α : Type} (K : List Nat) : ∀ (l : List (Nat × α)) (t : Nat), lkp (only K l) t = if K.contains t then lkp l t else none
  | [], t => by simp [only, lkp]
  | (k, v) :: r, t => by
    simp only [only]
    by_cases hk : K.contains k = true
    · rw [if_pos hk]
      simp only [lkp, lkp_only K r]
      by_cases hkt : k = t
      · subst hkt; simp only [if_true, hk]
      · simp only [if_neg hkt]
    · rw [if_neg hk, lkp_only K r]
      simp only [lkp]
      by_cases hkt : k = t
      · subst hkt; simp only [if_true]; rw [if_neg hk, if_neg hk]
      · simp only [if_neg hkt]

end

theorem canon_sim {I : Nat → Prop} {Γ : Gh} {st : St} {a : Act} {w : World} (h : Sim nt F A I Γ (Upto st.nx) st.sl st.hp a w) (hc : CPre Γ0 Γ st.hp) (hm : ∀ k, st.m ≤ k → Γ0 k = none) (K : List Nat) :
    ∃ Γ', Sim nt F A I Γ' (Upto (canon K st).nx) (canon K st).sl (canon K st).hp a w ∧ CPre Γ0 Γ' (canon K st).hp := by
  have hnd := (reach_ok st.hp (fuelOf st.hp) (refsS (only K st.sl) ++ orefsOf st.hp (List.range st.m)) (List.range st.m) List.nodup_range).1
  obtain ⟨h1, h2, h3⟩ := tidied h hnd
  refine ⟨livG st.hp (reach st.hp (fuelOf st.hp) (refsS (only K st.sl) ++ orefsOf st.hp (List.range st.m)) (List.range st.m)) Γ,
    { nt := h.nt, dfr := h.dfr, slots := fun t => ?_, objs := h1, inj := h2, bound := h.bound, fresh := h.fresh, own := h.own, names := fun id hid => h3 id (Nat.le_of_not_lt hid), glob := h.glob }, tidy_cpre hc hm⟩
  show Rep _ w I (gs (mapV _ (only K st.sl)) t) _
  simp only [gs, lkp_mapV, lkp_only]
  have hs := h.slots t
  simp only [gs] at hs
  by_cases hK : K.contains t = true
  · rw [if_pos hK]
    cases hl : lkp st.sl t with
    | none => exact trivial
    | some v => rw [hl] at hs; exact tidy_rep _ hs
  · rw [if_neg hK]; exact trivial

end
end Go.Abs
