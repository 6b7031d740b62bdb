/- The abstract semantics and the model: new variables and rows, freezing. Own text. -/
import Derived.Test.YtbodfpboklcgoaaAbsStep
set_option linter.unusedVariables false
set_option linter.unusedSimpArgs false
namespace Go.Abs
open Go

theorem ceon_none (v : AV) (adds sets : Hp) (dels frz : List Nat) (dst : Option Nat) (sl : Sl) (hp : Hp) :
    CallEff.on { eff := { val := v, adds := adds, sets := sets, dels := dels, frz := frz }, gone := [] } dst sl hp =
      (putD sl dst v, insAll (insAll (delAll (freezeAll frz hp) dels) sets) adds) := rfl

section
variable {P : Program} {nt : Nat} {U : Nat → Prop} {F A I : Nat → Prop} {Γ : Gh} {sl : Sl} {hp : Hp} {a : Act} {w : World}

/-- An operation is carried out, and what its effect tells is so. -/
def OpOK (P : Program) (nt : Nat) (F A I : Nat → Prop) (Γ : Gh) (U : Nat → Prop) (sl : Sl) (hp : Hp) (a : Act) (w : World) (o : Oper) (base : Nat) (ce : CallEff) : Prop :=
  ∃ u w', Gives P o a w u w' ∧ Post nt F A I Γ w (Used U base) (ce.on o.dst sl hp).1 (ce.on o.dst sl hp).2 (a.put o.dst u) w'

theorem PureOK.opOK (h : Sim nt F A I Γ U sl hp a w) {o : Oper} {base : Nat} {ce : CallEff} (hb : Free U base) (hd : dstOk nt o.dst = true) (hp' : PureOK P Γ I o a w ce) : OpOK P nt F A I Γ U sl hp a w o base ce := by
  obtain ⟨u, r, h1, rfl, h2⟩ := hp'
  exact ⟨u, w, h1, h.pure (fun id hu => .inl hu) h2 hd⟩

/-! ## A slice variable is set -/

theorem op_assign (h : Sim nt F A I Γ U sl hp a w) {o : Oper} {x : Operand} {y : Opd} {e : Option Nat} (ho : o.op = .assign x) (hc : cOpd x = some y) {base : Nat} (hb : Free U base) (hd : dstOk nt o.dst = true) {ce : CallEff}
    (hok : okAdds base (base + 64) ce.eff.adds = true) (hv : assignV base e (evO sl y) = some ce) : OpOK P nt F A I Γ U sl hp a w o base ce := by
  unfold assignV at hv
  split at hv
  · rename_i hy
    obtain ⟨s, hs, hv⟩ := bnd_eq_some hv
    cases hv
    have h1 := h.slOK.ev hc
    rw [hy] at h1
    obtain ⟨ad, h2⟩ := h1
    refine ⟨a.eval x, w, .inl (by simp [execOp, ho]), ?_⟩
    rw [ceon_none, h2]
    refine h.add (Γ' := upd Γ base (.row ad 0 0 s)) (knows_upd _ (h.names base hb.self)) (fun _ _ => rfl) (Nat.le_refl _) rfl rfl rfl ?_ ?_ ?_ ?_ ?_ ?_ hd
    · intro k o' hk
      simp at hk
      obtain ⟨rfl, rfl⟩ := hk
      exact ⟨ad, 0, 0, upd_self _ _ _, rfl, .inl ⟨rfl, rfl⟩⟩
    · intro i j o1 o2 b hi hj _ _
      simp at hi hj
      omega
    · intro k o' b hk hbb
      simp at hk
      obtain ⟨rfl, rfl⟩ := hk
      rw [upd_self] at hbb
      cases ad <;> simp [blkOf] at hbb
    · intro k hk; exact upd_other _ _ (fun e => hb.self (e ▸ hk))
    · intro id hid; rw [upd_other _ _ (fun e => hid (.inr (by omega)))]; exact h.names id (fun hu => hid (.inl hu))
    · exact ⟨ad, 0, 0, s, upd_self _ _ _, rfl⟩
  · exact (pure_move (.inr ho) h.slOK hc hv).opOK h hb hd

/-! ## New variables -/

theorem anyClo_atoms : ∀ (vs : List Value), anyClo (vs.map atomC) = false
  | [] => rfl
  | v :: vs => by
    simp only [List.map_cons, anyClo, anyClo_atoms vs, Bool.or_false]
    cases v <;> try rfl
    · rename_i x; cases x <;> rfl
    · rename_i x n c; cases x <;> cases n <;> cases c <;> rfl

theorem evC_cells (Γ : Gh) (w : World) (I : Nat → Prop) (z : Value) : All2 (RepB Γ w I) (evC z).cells z.cells.toList := by
  have one : ∀ z : Value, (∀ c, z ≠ .agg c) → (atomC z).cells = [atomC z] := by
    intro z hz
    cases z <;> try rfl
    · rename_i x; cases x <;> rfl
    · rename_i x n c; cases x <;> cases n <;> cases c <;> rfl
  cases z with
  | agg cs =>
    refine Rep.cells ?_ (evC_rep (Value.agg cs))
    simp only [evC, mkAgg]
    cases allD (cs.toList.map atomC)
    · simp only [mkAggOf, anyClo_atoms, Bool.false_eq_true, if_false]; rfl
    · rfl
  | _ =>
    simp only [evC]
    rw [one _ (by simp)]
    exact ⟨atomC_rep _, trivial⟩

theorem alloc_heap (w : World) (o : Obj) : ∀ k, k < w.heap.size → (w.alloc o).heap[k]? = w.heap[k]? := fun k hk => heap_alloc_old w o k hk

/-- A new variable, whose cells are cs. -/
theorem new_box (h : Sim nt F A I Γ U sl hp a w) {o : Oper} {base : Nat} (hb : Free U base) (hd : dstOk nt o.dst = true) {e : TypeId} {cs : List AV} {vs : Array Value} (hr : All2 (RepB Γ w I) cs vs.toList)
    (slc : List (Option Nat)) {ce : CallEff} (hok : okAdds base (base + 64) ce.eff.adds = true)
    (hv : ce = { eff := { val := .ptr base 0, adds := [(base, .box cs)] }, gone := [] } ∨
      ce = { eff := { val := .ptr base 0, adds := (base, .box (mat slc cs (base + 1)).1) :: (mat slc cs (base + 1)).2 }, gone := [] })
    (hg : Gives P o a w (.pointer (some ⟨w.heap.size, 0, none⟩)) (w.alloc (.cells vs e))) : OpOK P nt F A I Γ U sl hp a w o base ce := by
  refine ⟨_, _, hg, ?_⟩
  have hI : Keeps I I w (w.alloc (.cells vs e)) := ⟨fun _ h => h, fun b hb => alloc_heap w _ b (h.bound b hb)⟩
  have hk0 := knows_upd (.box w.heap.size) (h.names base hb.self)
  have hn1 : ∀ id, base + 1 ≤ id → id < base + 64 → upd Γ base (.box w.heap.size) id = none := fun id hid hlt => by rw [upd_other _ _ (by omega)]; exact h.names id (hb id (by omega) hlt)
  have hr1 : All2 (RepB (upd Γ base (.box w.heap.size)) (w.alloc (.cells vs e)) I) cs vs.toList := hr.mono fun _ _ h => h.mono hk0 hI
  have boxOK : ∀ (Γ' : Gh) (cs' : List AV), Γ' base = some (.box w.heap.size) → All2 (RepB Γ' (w.alloc (.cells vs e)) I) cs' vs.toList → ObjOK Γ' (w.alloc (.cells vs e)) I F A base (.box cs') :=
    fun Γ' cs' h1 h2 => ⟨w.heap.size, vs, e, h1, heap_alloc_new w _, fun hi => absurd (h.bound _ hi) (by omega), h.fresh _ (Nat.le_refl _), h2⟩
  rcases hv with rfl | rfl
  · rw [ceon_none]
    refine h.add (Γ' := upd Γ base (.box w.heap.size)) hk0 (alloc_heap w _) (by simp) rfl rfl rfl ?_ ?_ ?_ ?_ ?_ ?_ hd
    · intro k o' hk
      simp at hk
      obtain ⟨rfl, rfl⟩ := hk
      exact boxOK _ _ (upd_self _ _ _) hr1
    · intro i j o1 o2 b hi hj _ _
      simp at hi hj
      omega
    · intro k o' b hk hbb
      simp at hk
      obtain ⟨rfl, rfl⟩ := hk
      rw [upd_self] at hbb
      cases hbb; exact Nat.le_refl _
    · intro k hk; exact upd_other _ _ (fun e => hb.self (e ▸ hk))
    · intro id hid; rw [upd_other _ _ (fun e => hid (.inr (by omega)))]; exact h.names id (fun hu => hid (.inl hu))
    · exact ⟨w.heap.size, upd_self _ _ _, rfl⟩
  · rw [ceon_none]
    simp only [okAdds, Bool.and_eq_true, decide_eq_true_eq] at hok
    obtain ⟨Γ', h1, h2, h3, h5⟩ := mat_ok (w.alloc (.cells vs e)) I F A (base + 64) slc cs vs.toList (base + 1) (upd Γ base (.box w.heap.size)) hok.2 hn1 hr1
    have hbase : Γ' base = some (.box w.heap.size) := by rw [h2 base (by omega), upd_self]
    refine h.add (Γ' := Γ') (fun id r hr => h1 _ _ (hk0 _ _ hr)) (alloc_heap w _) (by simp) rfl rfl rfl ?_ ?_ ?_ ?_ ?_ ?_ hd
    · intro k o' hk
      rcases List.mem_cons.1 hk with hk | hk
      · cases hk; exact boxOK _ _ hbase h5
      · exact (h3 k o' hk).2.1
    · intro i j o1 o2 b hi hj hbi hbj
      rcases List.mem_cons.1 hi with hi | hi <;> rcases List.mem_cons.1 hj with hj | hj
      · cases hi; cases hj; rfl
      · rw [(h3 j o2 hj).2.2] at hbj; cases hbj
      · rw [(h3 i o1 hi).2.2] at hbi; cases hbi
      · rw [(h3 j o2 hj).2.2] at hbj; cases hbj
    · intro k o' b hk hbb
      rcases List.mem_cons.1 hk with hk | hk
      · cases hk; rw [hbase] at hbb; cases hbb; exact Nat.le_refl _
      · rw [(h3 k o' hk).2.2] at hbb; cases hbb
    · intro k hk
      have hne : k ≠ base := fun e => hb.self (e ▸ hk)
      have hout : k < base + 1 ∨ base + 64 ≤ k := by
        rcases Nat.lt_or_ge k (base + 1) with h' | h'
        · exact .inl h'
        · rcases Nat.lt_or_ge k (base + 64) with h'' | h''
          · exact absurd hk (hb k (by omega) h'')
          · exact .inr h''
      rw [h2 k hout, upd_other _ _ hne]
    · intro id hid
      have hne : id ≠ base := fun e => hid (.inr (by omega))
      have hout : id < base + 1 ∨ base + 64 ≤ id := by
        rcases Nat.lt_or_ge id (base + 1) with h' | h'
        · exact .inl h'
        · rcases Nat.lt_or_ge id (base + 64) with h'' | h''
          · exact absurd (.inr ⟨by omega, h''⟩) hid
          · exact .inr h''
      rw [h2 id hout, upd_other _ _ hne]
      exact h.names id (fun hu => hid (.inl hu))
    · exact ⟨w.heap.size, hbase, rfl⟩

theorem op_alloc (h : Sim nt F A I Γ U sl hp a w) {o : Oper} {t : TypeId} {z : Value} (ho : o.op = .alloc t) (hz : zeroT P t = some z) {base : Nat} (hb : Free U base) (hd : dstOk nt o.dst = true) {ce : CallEff} {slc : List (Option Nat)}
    (hok : okAdds base (base + 64) ce.eff.adds = true) (hv : allocV slc base (evC z).cells = some ce) : OpOK P nt F A I Γ U sl hp a w o base ce := by
  refine new_box h hb hd (e := t) (evC_cells Γ w I z) slc hok ?_ (.inl ?_)
  · unfold allocV at hv
    split at hv
    · cases hv; exact .inr rfl
    · cases hv; exact .inl rfl
  · simp [execOp, ho, Instr.alloc, zeroT_run hz, newVar, newRow]

theorem op_box (h : Sim nt F A I Γ U sl hp a w) {o : Oper} {t : TypeId} {x : Operand} {y : Opd} (ho : o.op = .box t x) (hc : cOpd x = some y) {base : Nat} (hb : Free U base) (hd : dstOk nt o.dst = true) {ce : CallEff}
    (hok : okAdds base (base + 64) ce.eff.adds = true) (hv : boxV base (evO sl y) = some ce) : OpOK P nt F A I Γ U sl hp a w o base ce := by
  unfold boxV at hv
  split at hv
  · rename_i hs
    cases hv
    refine new_box h hb hd (e := t) (Rep.cells hs (h.slOK.ev hc)) [] hok (.inl rfl) (.inl ?_)
    simp [execOp, ho, Instr.box, newVar, newRow]
  · cases hv

/-! ## Freezing -/

/-- The rows of such names may be written no more. -/
def Froze (Γ : Gh) (hp : Hp) (I : Nat → Prop) (ids : List Nat) (b : Nat) : Prop :=
  I b ∨ ∃ id ∈ ids, ∃ sz xs ex, lkp hp id = some (.row sz xs ex false) ∧ blkOf (Γ id) = some b

theorem blkOf_row {a : Option Addr} {n c sz b : Nat} (h : blkOf (some (.row a n c sz)) = some b) : ∃ ad, a = some ad ∧ ad.block = b ∧ c ≠ 0 := by
  cases a with
  | none => simp [blkOf] at h
  | some ad =>
    simp only [blkOf] at h
    split at h
    · cases h
    · cases h; exact ⟨ad, rfl, rfl, by assumption⟩

theorem Sim.froze_F (h : Sim nt F A I Γ U sl hp a w) {ids : List Nat} {b : Nat} (hb : Froze Γ hp I ids b) : I b ∨ F b := by
  rcases hb with hb | ⟨id, hid, sz, xs, ex, hl, hb⟩
  · exact .inl hb
  · obtain ⟨ad, n, c, h1, h2, h3⟩ := h.objs id _ hl
    rw [h1] at hb
    obtain ⟨ad', rfl, rfl, hc⟩ := blkOf_row hb
    rcases h3 with h3 | ⟨g, cur, e, hg, h4, h5, h6, h7, h8, h9, h10, hFg, h11⟩
    · exact absurd h3.2 hc
    · cases hg
      exact .inr hFg

theorem Sim.freeze (h : Sim nt F A I Γ U sl hp a w) (ids : List Nat) : Sim nt F A (Froze Γ hp I ids) Γ U sl (freezeAll ids hp) a w := by
  have hkeep : Keeps I (Froze Γ hp I ids) w w := ⟨fun _ h => .inl h, fun _ _ => rfl⟩
  refine { nt := h.nt, dfr := h.dfr, slots := fun t => (h.slots t).mono (Knows.refl Γ) hkeep, objs := ?_, inj := ?_, bound := ?_, fresh := h.fresh, own := h.own, names := h.names }
  · intro id o hl
    rw [lkp_freezeAll] at hl
    cases hl0 : lkp hp id with
    | none => rw [hl0] at hl; cases hl
    | some o0 =>
      rw [hl0] at hl
      simp only [Option.map_some, Option.some.injEq] at hl
      have ho := h.objs id o0 hl0
      have notI : ∀ b, blkOf (Γ id) = some b → (ids.contains id = false ∨ ∀ sz xs ex, o0 ≠ .row sz xs ex false) → Froze Γ hp I ids b → I b := by
        intro b hb hor hfr
        rcases hfr with hfr | ⟨id', hid', sz, xs, ex, hl', hb'⟩
        · exact hfr
        · have he := h.inj id id' _ _ b hl0 hl' hb hb'
          subst he
          rw [hl0] at hl'
          cases hl'
          rcases hor with hor | hor
          · simp at hor; exact absurd hid' hor
          · exact absurd rfl (hor _ _ _)
      split at hl
      · rename_i hin
        subst hl
        cases o0 with
        | box cs => exact ho.mono (Knows.refl Γ) hkeep fun b hb => ⟨rfl, notI b hb (.inr (by simp))⟩
        | row sz xs ex fz =>
          simp only [freeze1]
          cases fz with
          | true => exact ho.mono (Knows.refl Γ) hkeep fun b hb => ⟨rfl, notI b hb (.inr (by simp))⟩
          | false =>
            obtain ⟨ad, n, c, h1, h2, h3⟩ := ho
            refine ⟨ad, n, c, h1, h2, ?_⟩
            rcases h3 with h3 | ⟨g, cur, e, rfl, hc, hw, h4, h5, h6, h7, h8, hFg, h9⟩
            · exact .inl h3
            · refine .inr ⟨g, cur, e, rfl, hc, hw, h4, h5, h6, h7, ?_, hFg, ?_⟩
              · simp only [if_true]
                exact .inr ⟨id, by simpa using hin, sz, xs, ex, hl0, by rw [h1]; simp [blkOf, Nat.ne_of_gt hc]⟩
              · cases ex
                · exact h9.mono' hkeep rfl
                · simp only [if_true] at h9 ⊢
                  exact h9.mono' ⟨fun b hb => ⟨hkeep.sub b hb.1, hb.2⟩, fun _ _ => rfl⟩ rfl
      · rename_i hin
        subst hl
        exact ho.mono (Knows.refl Γ) hkeep fun b hb => ⟨rfl, notI b hb (.inl (by simpa using hin))⟩
  · intro i j o o' b hi hj hbi hbj
    rw [lkp_freezeAll] at hi hj
    cases hi0 : lkp hp i with
    | none => rw [hi0] at hi; cases hi
    | some oi => cases hj0 : lkp hp j with
      | none => rw [hj0] at hj; cases hj
      | some oj => exact h.inj i j oi oj b hi0 hj0 hbi hbj
  · intro b hb
    rcases hb with hb | ⟨id, hid, sz, xs, ex, hl, hb⟩
    · exact h.bound b hb
    · exact h.blk_lt hl hb

theorem froze_nil (Γ : Gh) (hp : Hp) (I : Nat → Prop) (b : Nat) : Froze Γ hp I [] b ↔ I b := by simp [Froze]

/-- A post behind a freezing is one. -/
theorem Post.of_freeze (h : Sim nt F A I Γ U sl hp a w) (ids : List Nat) {U' : Nat → Prop} {sl' : Sl} {hp' : Hp} {a' : Act} {w' : World}
    (hp : Post nt F A (Froze Γ hp I ids) Γ w U' sl' hp' a' w') : Post nt F A I Γ w U' sl' hp' a' w' := by
  obtain ⟨I', Γ', h1, h2, h3, h4, h5⟩ := hp
  refine ⟨I', Γ', h1, ⟨fun b hb => h2.sub b (.inl hb), fun b hb => h2.blk b (.inl hb)⟩, fun b hb => ?_, h4, h5⟩
  rcases h3 b hb with h6 | h6
  · exact h.froze_F h6
  · exact .inr h6

end
end Go.Abs
