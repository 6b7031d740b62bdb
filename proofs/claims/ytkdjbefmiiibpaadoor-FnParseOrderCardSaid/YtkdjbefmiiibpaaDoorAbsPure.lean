/- The abstract semantics and the model: operations that turn nothing, all together. Own text. -/
import Derived.Test.YtkdjbefmiiibpaaDoorAbsExec2
set_option linter.unusedVariables false
set_option linter.unusedSimpArgs false
namespace Go.Abs
open Go

/-- An operation is carried out: its value, the world behind it. -/
def Gives (P : Program) (o : Oper) (a : Act) (w : World) (u : Value) (w' : World) : Prop :=
  (execOp a.eval o).run P w = .ok (.value u) w' ∨ ((execOp a.eval o).run P w = .ok .skip w' ∧ u = undef)

theorem Gives.wp {P : Program} {o : Oper} {a : Act} {w w' : World} {u : Value} (h : Gives P o a w u w') {K : Act → World → Prop} {Q : Exit → Act → World → Prop} (hk : K (a.put o.dst u) w') : o.wp P a w K Q := by
  unfold Oper.wp
  rcases h with h | ⟨h, rfl⟩
  · rw [h]; exact hk
  · rw [h]; exact hk

section
variable {P : Program} {Γ : Gh} {w : World} {I : Nat → Prop} {F A : Nat → Prop} {hp : Hp} {sl : Sl} {a : Act}

/-- A value alone. -/
def ceV (r : AV) : CallEff := { eff := { val := r }, gone := [] }

/-- What is shown of an operation that turns nothing. -/
def PureOK (P : Program) (Γ : Gh) (I : Nat → Prop) (o : Oper) (a : Act) (w : World) (ce : CallEff) : Prop :=
  ∃ u r, Gives P o a w u w ∧ ce = ceV r ∧ Rep Γ w I r u

theorem only1_some {v : AV} {ce : CallEff} (h : only1 v = some ce) : ce = ceV v := by cases h; rfl

theorem opt1_some {v : Option AV} {ce : CallEff} (h : opt1 v = some ce) : ∃ r, v = some r ∧ ce = ceV r := by
  obtain ⟨r, h1, h2⟩ := bnd_eq_some h
  exact ⟨r, h1, only1_some h2⟩

theorem pure_move {o : Oper} {x : Operand} {y : Opd} (ho : o.op = .move x ∨ o.op = .assign x) (hs : SlOK Γ w I sl a) (hc : cOpd x = some y) {ce : CallEff} (hv : only1 (evO sl y) = some ce) : PureOK P Γ I o a w ce := by
  refine ⟨a.eval x, _, .inl ?_, only1_some hv, hs.ev hc⟩
  rcases ho with ho | ho <;> simp [execOp, ho]

theorem pure_pick {o : Oper} {x y z : Operand} {x' y' z' : Opd} (ho : o.op = .pick x y z) (hs : SlOK Γ w I sl a) (hx : cOpd x = some x') (hy : cOpd y = some y') (hz : cOpd z = some z') {ce : CallEff}
    (hv : pickV (evO sl y') (evO sl z') (evO sl x') = some ce) : PureOK P Γ I o a w ce := by
  have h1 := hs.ev hx
  unfold pickV at hv
  split at hv
  · rename_i t hx'
    rw [hx'] at h1
    have h2 := rep_bool h1
    split at hv
    · rename_i ht
      subst ht
      exact ⟨a.eval y, _, .inl (by simp [execOp, ho, h2, asBool]), only1_some hv, hs.ev hy⟩
    · rename_i ht
      simp at ht
      subst ht
      exact ⟨a.eval z, _, .inl (by simp [execOp, ho, h2, asBool]), only1_some hv, hs.ev hz⟩
  · cases hv

theorem pure_load {o : Oper} {t : TypeId} {x : Operand} {y : Opd} {g : Bool} (ho : o.op = .load t x) (hs : SlOK Γ w I sl a) (hh : HpOK Γ w I F A hp) (hg : aggT P t = some g) (hc : cOpd x = some y) {ce : CallEff}
    (hv : opt1 (loadv hp g (P.cellsOf t) (evO sl y)) = some ce) : PureOK P Γ I o a w ce := by
  obtain ⟨r, h1, h2⟩ := opt1_some hv
  obtain ⟨u, h3, h4⟩ := load_run (P := P) hg hh (hs.ev hc) h1
  exact ⟨u, r, .inl (by simp [execOp, ho, h3]), h2, h4⟩

theorem pure_nilCheck {o : Oper} {x : Operand} {y : Opd} (ho : o.op = .nilCheck x) (hs : SlOK Γ w I sl a) (hc : cOpd x = some y) {ce : CallEff} (hv : notNil (evO sl y) = some ce) : PureOK P Γ I o a w ce := by
  have h1 := hs.ev hc
  unfold notNil at hv
  split at hv
  · rename_i h; rw [h] at h1; obtain ⟨b, h2, h3⟩ := h1
    exact ⟨_, _, .inl (by simp [execOp, ho, h3]), only1_some hv, b, h2, rfl⟩
  · rename_i h; rw [h] at h1; obtain ⟨b, n, c, h2, h3, h4⟩ := h1
    exact ⟨_, _, .inl (by simp [execOp, ho, h4]), only1_some hv, b, n, c, h2, h3, rfl⟩
  · rename_i h; rw [h] at h1; obtain ⟨b, o', vs, h2, h3⟩ := h1
    exact ⟨_, _, .inl (by simp [execOp, ho, h2]), only1_some hv, b, o', vs, rfl, h3⟩
  · rename_i h; rw [h] at h1; obtain ⟨us, h2, h3⟩ := h1
    exact ⟨_, _, .inl (by simp [execOp, ho, h2]), only1_some hv, us, rfl, h3⟩
  · cases hv

theorem eqGuard_run {op : BinOp} {t : TypeId} {x y : Operand} {u v : Value} (hu : ∀ c, u ≠ .agg c) (hn : u ≠ .nilIface) : (eqGuard op t x y u v).run P w = .ok () w := by
  unfold eqGuard
  cases op <;> simp <;> (cases u <;> simp at hu hn ⊢)

theorem eql_bool_run {t : TypeId} (h : P.underlying t = some .bool) (x y : Bool) : (binOp .eql t (.bool x) (.bool y)).run P w = .ok (.bool (x == y)) w := by
  have h1 : binOp .eql t (.bool x) (.bool y) = (do let r ← Op.equalIn (9999 + 1) t (.bool x) (.bool y); pure (.bool r)) := rfl
  rw [h1, Sem.run_bind, run_equalIn_bool' w 9999 t x y h]
  rfl

theorem neq_bool_run {t : TypeId} (h : P.underlying t = some .bool) (x y : Bool) : (binOp .neq t (.bool x) (.bool y)).run P w = .ok (.bool (!(x == y))) w := by
  have h1 : binOp .neq t (.bool x) (.bool y) = (do let r ← Op.equalIn (9999 + 1) t (.bool x) (.bool y); pure (.bool (!r))) := rfl
  rw [h1, Sem.run_bind, run_equalIn_bool' w 9999 t x y h]
  rfl

theorem isBoolT_true {t : TypeId} (h : isBoolT P t = true) : P.underlying t = some .bool := by
  unfold isBoolT at h; split at h
  · assumption
  · cases h

theorem pure_bin {o : Oper} {op : BinOp} {t ty' : TypeId} {x y : Operand} {x' y' : Opd} (ho : o.op = .binOp op t x y ty') (hs : SlOK Γ w I sl a) (hx : cOpd x = some x') (hy : cOpd y = some y') {ce : CallEff}
    (hv : binV op (isBoolT P t) (evO sl x') (evO sl y') = some ce) : PureOK P Γ I o a w ce := by
  have h1 := hs.ev hx
  have h2 := hs.ev hy
  have fin : ∀ {d : D} {u : Value}, (∀ c, a.eval x ≠ .agg c) → a.eval x ≠ .nilIface → (binOp op t (a.eval x) (a.eval y)).run P w = .ok u w → RepD w I d u → ce = ceV (.d d) → PureOK P Γ I o a w ce :=
    fun h3 h4 h5 h6 h7 => ⟨_, _, .inl (by simp [execOp, ho, eqGuard_run h3 h4, h5]), h7, rep_d.2 h6⟩
  unfold binV at hv
  split at hv
  · rename_i p q hp' hq
    rw [hp'] at h1; rw [hq] at h2
    have e1 := rep_bool h1
    have e2 := rep_bool h2
    split at hv
    · rename_i hb
      have hu := isBoolT_true hb
      obtain ⟨r, h3, h4⟩ := opt1_some hv
      unfold bool2 at h3
      split at h3
      · cases h3
        exact fin (by simp [e1]) (by simp [e1]) (by rw [e1, e2]; exact eql_bool_run hu _ _) (repD_bool _) h4
      · cases h3
        exact fin (by simp [e1]) (by simp [e1]) (by rw [e1, e2]; exact neq_bool_run hu _ _) (repD_bool _) h4
      · cases h3
    · cases hv
  · obtain ⟨r, h3, h4⟩ := opt1_some hv
    unfold vbin at h3
    split at h3
    · rename_i k p k' q hp' hq
      rw [hp'] at h1; rw [hq] at h2
      have e1 := rep_int h1
      have e2 := rep_int h2
      unfold int2 at h3
      split at h3
      · obtain ⟨d, h5, h6⟩ := bnd_eq_some h3; cases h6
        obtain ⟨u, h7, h8⟩ := ishift_run (P := P) (w := w) (I := I) (k' := k') h5 t
        exact fin (by simp [e1]) (by simp [e1]) (by rw [e1, e2]; exact h7) h8 h4
      · obtain ⟨d, h5, h6⟩ := bnd_eq_some h3; cases h6
        obtain ⟨u, h7, h8⟩ := ishift_run (P := P) (w := w) (I := I) (k' := k') h5 t
        exact fin (by simp [e1]) (by simp [e1]) (by rw [e1, e2]; exact h7) h8 h4
      · split at h3
        · rename_i hk
          subst hk
          obtain ⟨d, h5, h6⟩ := bnd_eq_some h3; cases h6
          obtain ⟨u, h7, h8⟩ := ibin_run (P := P) (w := w) (I := I) h5 t
          exact fin (by simp [e1]) (by simp [e1]) (by rw [e1, e2]; exact h7) h8 h4
        · cases h3
    · rename_i p q hp' hq
      rw [hp'] at h1; rw [hq] at h2
      obtain ⟨s1, e1, rfl⟩ := rep_str h1
      obtain ⟨s2, e2, rfl⟩ := rep_str h2
      obtain ⟨d, h5, h6⟩ := bnd_eq_some h3; cases h6
      obtain ⟨u, h7, h8⟩ := sbin_run (P := P) (w := w) (I := I) h5 t
      exact fin (by simp [e1]) (by simp [e1]) (by rw [e1, e2]; exact h7) h8 h4
    · cases h3

theorem pure_un {o : Oper} {op : UnOp} {t : TypeId} {x : Operand} {x' : Opd} (ho : o.op = .unOp op t x) (hs : SlOK Γ w I sl a) (hx : cOpd x = some x') {ce : CallEff}
    (hv : opt1 (vun op (evO sl x')) = some ce) : PureOK P Γ I o a w ce := by
  have h1 := hs.ev hx
  obtain ⟨r, h3, h4⟩ := opt1_some hv
  unfold vun at h3
  split at h3
  · rename_i hq
    rw [hq] at h1
    have e1 := rep_int h1
    unfold neg1 at h3
    split at h3
    · cases h3
      exact ⟨_, _, .inl (by simp [execOp, ho, e1, Op.unary, Op.intArith]), h4, rep_int' _ _⟩
    · cases h3
  · rename_i hq
    rw [hq] at h1
    have e1 := rep_bool h1
    unfold not1 at h3
    split at h3
    · cases h3
      exact ⟨_, _, .inl (by simp [execOp, ho, e1, Op.unary]), h4, rep_bool' _⟩
    · cases h3
  · cases h3

theorem pure_conv {o : Oper} {s d : TypeId} {x : Operand} {x' : Opd} {c : COp} (ho : o.op = .convert s d x) (hs : SlOK Γ w I sl a) (hx : cOpd x = some x') (hc : cConv x' (isStrT P s) (isStrT P d) (intT P s) (intT P d) = some c)
    {C : Orc} {M : Modes} {base : Nat} {ce : CallEff} (hv : vop C M sl hp base c = some ce) : PureOK P Γ I o a w ce := by
  have h1 := hs.ev hx
  unfold cConv at hc
  split at hc
  · rename_i k k' hk hk'
    cases hc
    simp only [vop, Abs.convI] at hv
    split at hv
    · rename_i hq
      rw [hq] at h1
      have e1 := rep_int h1
      exact ⟨_, _, .inl (by simp [execOp, ho, e1, convert, run_underlying (intT_some hk), run_underlying (intT_some hk'), Conv.intToInt]), only1_some hv, rep_int' _ _⟩
    · cases hv
  · split at hc
    · rename_i hh
      cases hc
      simp at hh
      simp only [vop, Abs.convS] at hv
      split at hv
      · rename_i hq
        rw [hq] at h1
        obtain ⟨s1, e1, e2⟩ := rep_str h1
        exact ⟨_, _, .inl (by simp [execOp, ho, e1, convert, run_underlying (isStrT_true hh.1), run_underlying (isStrT_true hh.2)]), only1_some hv, rep_str' e2⟩
      · cases hv
    · cases hc

theorem pure_part {o : Oper} {t : TypeId} {f : Nat} {x : Operand} {x' : Opd} {q : Nat × TypeId} {g : Bool} (ho : o.op = .field t x f) (hs : SlOK Γ w I sl a) (hq : fieldT P t f = some q) (hg : aggT P q.2 = some g) (hx : cOpd x = some x')
    {ce : CallEff} (hv : opt1 (partv g (P.cellsOf q.2) q.1 (evO sl x')) = some ce) : PureOK P Γ I o a w ce := by
  obtain ⟨r, h3, h4⟩ := opt1_some hv
  obtain ⟨cs, u, h5, h6, h7⟩ := part_rep (P := P) hg (hs.ev hx) h3
  obtain ⟨fs, y, h8, h9, h10, h11, h12⟩ := fieldT_some hq
  refine ⟨u, r, .inl ?_, h4, h7⟩
  simp [execOp, ho, Instr.field, run_underlying h8, h9, h5, asAgg, h10, h11, h6]

theorem pure_shift {o : Oper} {t : TypeId} {f : Nat} {x : Operand} {x' : Opd} {q : Nat × TypeId} (ho : o.op = .fieldAddr t x f) (hs : SlOK Γ w I sl a) (hq : fieldT P t f = some q) (hx : cOpd x = some x')
    {ce : CallEff} (hv : shiftP q.1 (evO sl x') = some ce) : PureOK P Γ I o a w ce := by
  obtain ⟨u, r, h1, h2, h3⟩ := field_run (P := P) hq (hs.ev hx) hv
  exact ⟨u, r, .inl (by simp [execOp, ho, h1]), h2, h3⟩

theorem pure_nth {o : Oper} {i : Nat} {x : Operand} {x' : Opd} (ho : o.op = .extract x i) (hs : SlOK Γ w I sl a) (hx : cOpd x = some x')
    {ce : CallEff} (hv : nthV i (evO sl x') = some ce) : PureOK P Γ I o a w ce := by
  have h1 := hs.ev hx
  unfold nthV at hv
  split at hv
  · rename_i vs hq
    rw [hq] at h1
    obtain ⟨us, h2, h3⟩ := h1
    obtain ⟨r, h4, h5⟩ := opt1_some hv
    obtain ⟨u, h6, h7⟩ := h3.get i r h4
    have h6' : us[i]? = some u := by simpa using h6
    exact ⟨u, r, .inl (by simp [execOp, ho, Instr.extract, h2, h6']), h5, h7.rep⟩
  · cases hv

theorem minmax_run {x y : AV} {u v : Value} {ce : CallEff} (hx : Rep Γ w I x u) (hy : Rep Γ w I y v) (at_ : Array TypeId) (ty : TypeId) :
    (min2V x y = some ce → ∃ z r, (Builtin.min_ at_ ty #[u, v]).run P w = .ok z w ∧ ce = ceV r ∧ Rep Γ w I r z) ∧
    (max2V x y = some ce → ∃ z r, (Builtin.max_ at_ ty #[u, v]).run P w = .ok z w ∧ ce = ceV r ∧ Rep Γ w I r z) := by
  constructor
  · intro h
    unfold min2V at h
    split at h
    · split at h
      · rename_i hk
        subst hk
        rw [rep_int hx, rep_int hy]
        exact ⟨_, _, by simp [Builtin.min_, Builtin.min2]; rfl, only1_some h, rep_int' _ _⟩
      · cases h
    · cases h
  · intro h
    unfold max2V at h
    split at h
    · split at h
      · rename_i hk
        subst hk
        rw [rep_int hx, rep_int hy]
        exact ⟨_, _, by simp [Builtin.max_, Builtin.max2]; rfl, only1_some h, rep_int' _ _⟩
      · cases h
    · cases h

theorem pure_index {o : Oper} {t : TypeId} {x i : Operand} {x' i' : Opd} {c : COp} (ho : o.op = .index t x i) (hs : SlOK Γ w I sl a) (hx : cOpd x = some x') (hi : cOpd i = some i')
    (hc : cIndex P x' i' (isStrT P t) (arrT P t) = some c) {C : Orc} {M : Modes} {base : Nat} {ce : CallEff} (hv : vop C M sl hp base c = some ce) : PureOK P Γ I o a w ce := by
  have h1 := hs.ev hx
  have h2 := hs.ev hi
  unfold cIndex at hc
  split at hc
  · rename_i hst
    cases hc
    simp only [vop] at hv
    obtain ⟨n, hn, hv⟩ := bnd_eq_some hv
    obtain ⟨k, e2⟩ := rep_idx hn h2
    unfold ixSV at hv
    split at hv
    · rename_i s hq
      rw [hq] at h1
      obtain ⟨s1, e1, rfl⟩ := rep_str h1
      unfold strAt at hv
      split at hv
      · rename_i h0
        obtain ⟨b, hb, hv⟩ := bnd_eq_some hv
        have hb' : s1[n.toNat]? = some b := by
          have : s1.data[n.toNat]? = some b := by simpa using hb
          exact this
        exact ⟨_, _, .inl (by simp [execOp, ho, e1, e2, Instr.index, asIntOf, run_underlying (isStrT_true hst), h0, hb']), only1_some hv, rep_int' _ _⟩
      · cases hv
    · cases hv
  · obtain ⟨q, hq, hc⟩ := bnd_eq_some hc
    obtain ⟨g, hg, hc⟩ := bnd_eq_some hc
    cases hc
    simp only [vop] at hv
    obtain ⟨n, hn, hv⟩ := bnd_eq_some hv
    obtain ⟨k, e2⟩ := rep_idx hn h2
    unfold elAt at hv
    split at hv
    · rename_i hb
      obtain ⟨r, h3, h4⟩ := opt1_some hv
      obtain ⟨cs, u, h5, h6, h7⟩ := part_rep (P := P) hg h1 h3
      obtain ⟨ii, hii⟩ := aggT_info hg
      exact ⟨u, r, .inl (by simp [execOp, ho, h5, e2, Instr.index, asIntOf, run_underlying (arrT_some hq), hb.1, hb.2, sizeOf_run hii, h6]), h4, h7⟩
    · cases hv

end
end Go.Abs
