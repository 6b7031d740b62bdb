/- The abstract semantics and the model: what a call is to do, and arguments. Own text. -/
import Derived.Test.YtbodfpboklcgoaaAbsCall
set_option linter.unusedVariables false
set_option linter.unusedSimpArgs false
namespace Go.Abs
open Go

/-! ## What a call is to do -/

/-- What holds where a function is entered. -/
structure Pre (F A I : Nat → Prop) (Γ : Gh) (h : List AObj) (as : List AV) (args : List Value) (w : World) : Prop where
  args : All2 (Rep Γ w I) as args
  objs : HpOK Γ w I F A (numb 0 h)
  inj : ∀ i j o o' b, lkp (numb 0 h) i = some o → lkp (numb 0 h) j = some o' → blkOf (Γ i) = some b → blkOf (Γ j) = some b → i = j
  bound : ∀ b, I b → b < w.heap.size
  fresh : ∀ b, w.heap.size ≤ b → F b
  own : ∀ b, F b → A b
  names : ∀ id, h.length ≤ id → Γ id = none

/-- What holds where it returns. -/
structure Back (F A I : Nat → Prop) (Γ : Gh) (w : World) (hs : List AObj) (res : AV) (I' : Nat → Prop) (Γ' : Gh) (v : Value) (w' : World) : Prop where
  boxes : ∀ id b, Γ id = some (.box b) → Γ' id = some (.box b)
  keeps : Keeps I I' w w'
  sub : ∀ b, I' b → I b ∨ F b
  fr : Fr F w w'
  res : Rep Γ' w' I' res v
  objs : HpOK Γ' w' I' F A (numb 0 hs)
  inj : ∀ i j o o' b, lkp (numb 0 hs) i = some o → lkp (numb 0 hs) j = some o' → blkOf (Γ' i) = some b → blkOf (Γ' j) = some b → i = j
  bound : ∀ b, I' b → b < w'.heap.size
  names : ∀ id, hs.length ≤ id → Γ' id = none

/-- A function that a call enters. -/
def Enters (P : Program) (f : FuncId) : Prop := ∃ fn, P.funcs[f]? = some fn ∧ (fn.name == "runtime.NumGoroutine") = false ∧ fn.body.isNone = false

def Sound (P : Program) (f : FuncId) (as : List AV) (h : List AObj) (res : AV) (hs : List AObj) : Prop :=
  Enters P f ∧ ∀ (F A I : Nat → Prop) (Γ : Gh) (args : List Value) (w : World), Pre F A I Γ h as args w → Calls P f args.toArray w fun e w' => ∃ v I' Γ', e = .returned v ∧ Back F A I Γ w hs res I' Γ' v w'

def SoundOrc (P : Program) (C : Orc) : Prop := ∀ f as h res hs, C f as h = some (res, hs) → Sound P f as h res hs

section
variable {P : Program} {nt : Nat} {U : Nat → Prop} {F A I : Nat → Prop} {Γ : Gh} {sl : Sl} {hp : Hp} {a : Act} {w : World}

/-- An operation is carried out, in whatever way, and what its effect tells is so. -/
def OpWp (P : Program) (nt : Nat) (F A I : Nat → Prop) (Γ : Gh) (U : Nat → Prop) (sl : Sl) (hp : Hp) (a : Act) (w : World) (o : Oper) (base : Nat) (ce : CallEff) : Prop :=
  ∀ (K : Act → World → Prop) (Q : Exit → Act → World → Prop), (∀ u w', Post nt F A I Γ w (Used U base) (ce.on o.dst sl hp).1 (ce.on o.dst sl hp).2 (a.put o.dst u) w' → K (a.put o.dst u) w') → o.wp P a w K Q

theorem OpOK.opWp {o : Oper} {base : Nat} {ce : CallEff} (h : OpOK P nt F A I Γ U sl hp a w o base ce) : OpWp P nt F A I Γ U sl hp a w o base ce := by
  intro K Q hK
  obtain ⟨u, w', h1, h2⟩ := h
  exact h1.wp (hK u w' h2)

/-! ## Arguments -/

/-- The rows of such names may be told of. -/
def Lent (Γ : Gh) (hp : Hp) (I' : Nat → Prop) (ids : List Nat) : Prop := ∀ id ∈ ids, ∀ sz xs ex fz b, lkp hp id = some (.row sz xs ex fz) → blkOf (Γ id) = some b → I' b

theorem Lent.sub {I' : Nat → Prop} {ids ids' : List Nat} (h : Lent Γ hp I' ids) (hs : ∀ id ∈ ids', id ∈ ids) : Lent Γ hp I' ids' := fun id hid => h id (hs id hid)

theorem lent_froze (h : HpOK Γ w I F A hp) (ids : List Nat) : Lent Γ hp (Froze Γ hp I ids) ids := by
  intro id hid sz xs ex fz b hl hb
  cases fz with
  | false => exact .inr ⟨id, hid, sz, xs, ex, hl, hb⟩
  | true =>
    obtain ⟨ad, n, c, h1, h2, h3⟩ := h id _ hl
    rw [h1] at hb
    obtain ⟨ad', rfl, rfl, hc⟩ := blkOf_row hb
    rcases h3 with h3 | ⟨g, cur, e, hg, h4, h5, h6, h7, h8, h9, h10, h11⟩
    · exact absurd h3.2 hc
    · cases hg; exact .inl (by simpa using h10)

theorem row_data (h : HpOK Γ w I F A hp) {I' : Nat → Prop} (hI : ∀ b, I b → I' b) {id : Nat} (hlent : Lent Γ hp I' [id]) {xs : List D} (he : elemsOf (lkp hp id) = some xs) :
    ∃ ad n c sz, Γ id = some (.row ad n c sz) ∧ n = xs.length ∧ n ≤ c ∧ ((n = 0 ∧ c = 0) ∨ ∃ g, ad = some ⟨g, 0, none⟩ ∧ I' g ∧ 0 < sz ∧ RepE w I' g sz xs 0) := by
  unfold elemsOf at he
  split at he
  · rename_i sz xs' ex fz hl
    cases he
    obtain ⟨ad, n, c, h1, h2, h3⟩ := h id _ hl
    refine ⟨ad, n, c, sz, h1, h2, ?_⟩
    rcases h3 with h3 | ⟨g, cur, e, rfl, hc, hw, h4, h5, h6, h7, h8, hF, h9⟩
    · exact ⟨by omega, .inl h3⟩
    · refine ⟨h4, .inr ⟨g, rfl, hlent id (by simp) sz xs ex fz g hl (by rw [h1]; simp [blkOf, Nat.ne_of_gt hc]), h7, ?_⟩⟩
      cases ex
      · exact h9.mono' (sub_keeps hI) rfl
      · exact h9.mono' ⟨fun b hb => hI b hb.1, fun _ _ => rfl⟩ rfl
  · cases he

theorem toD1_ok (h : HpOK Γ w I F A hp) {I' : Nat → Prop} (hI : ∀ b, I b → I' b) {x : AV} {v : Value} (hx : Rep Γ w I x v) (hlent : Lent Γ hp I' (rows1 x)) {d : D} (hd : toD1 hp x = some d) : RepD w I' d v := by
  unfold toD1 at hd
  split at hd
  · cases hd; exact (rep_d.1 hx).mono (sub_keeps hI)
  · cases hd; obtain ⟨ad, rfl⟩ := hx; exact ⟨ad, 0, rfl, by simp, .inl rfl⟩
  · rename_i id
    obtain ⟨xs, h1, hd⟩ := bnd_eq_some hd
    cases hd
    obtain ⟨ad, n, c, sz, h2, h3, h4, h5⟩ := row_data h hI hlent h1
    obtain ⟨ad', n', c', sz', h6, rfl⟩ := hx
    rw [h2] at h6; cases h6
    refine ⟨ad, c, by rw [h3], by omega, ?_⟩
    rcases h5 with h5 | ⟨g, rfl, h7, h8, h9⟩
    · exact .inl (List.eq_nil_of_length_eq_zero (by omega))
    · exact .inr ⟨g, 0, sz, rfl, h7, h8, h9⟩
  · rename_i id off n
    obtain ⟨xs, h1, hd⟩ := bnd_eq_some hd
    cases hd
    obtain ⟨ad, m, c, sz, h2, h3, h4, h5⟩ := row_data h hI hlent h1
    obtain ⟨a0, m', c', sz', av, h6, h7, h8, rfl, h9, h10⟩ := hx
    rw [h2] at h6; cases h6
    have hlen : n = ((xs.drop off).take n).length := by simp; omega
    refine ⟨av, c - off, by rw [← hlen], by omega, ?_⟩
    by_cases hn : n = 0
    · exact .inl (List.eq_nil_of_length_eq_zero (by omega))
    · rcases h5 with h5 | ⟨g, rfl, h11, h12, h13⟩
      · omega
      · rcases h10 with h10 | h10
        · subst h10
          exact .inr ⟨g, off * sz, sz, by simp [addr_add], h11, h12, by simpa using repE_sub h13 off n⟩
        · omega
  · cases hd

theorem toDL_ok (h : HpOK Γ w I F A hp) {I' : Nat → Prop} (hI : ∀ b, I b → I' b) : ∀ {xs : List AV} {vs : List Value} {ds : List D}, All2 (Rep1 Γ w I) xs vs → Lent Γ hp I' (xs.flatMap rows1) → mapO (toD1 hp) xs = some ds → allB D.one ds = true → RepL w I' ds vs
  | [], [], ds, _, _, hd, _ => by simp only [mapO] at hd; cases hd; simp [RepL]
  | [], _ :: _, _, h, _, _, _ => h.elim
  | _ :: _, [], _, h, _, _, _ => h.elim
  | x :: xs, v :: vs, ds, hr, hl, hd, h1 => by
    simp only [mapO] at hd
    obtain ⟨d, h2, hd⟩ := bnd_eq_some hd
    obtain ⟨ds', h3, hd⟩ := bnd_eq_some hd
    cases hd
    simp only [allB, Bool.and_eq_true] at h1
    refine ⟨v, vs, rfl, h1.1, (RepD.one h1.1).1 (toD1_ok h hI hr.1.rep2.rep (hl.sub fun id hid => by simp only [List.flatMap_cons, List.mem_append]; exact .inl hid) h2), toDL_ok h hI hr.2 (hl.sub fun id hid => by simp only [List.flatMap_cons, List.mem_append]; exact .inr hid) h3 h1.2⟩

theorem toD_ok (h : HpOK Γ w I F A hp) {I' : Nat → Prop} (hI : ∀ b, I b → I' b) {x : AV} {v : Value} (hx : Rep Γ w I x v) (hlent : Lent Γ hp I' (rowsOf x)) {d : D} (hd : toD hp x = some d) : RepD w I' d v := by
  unfold toD at hd
  split at hd
  · rename_i cs
    obtain ⟨ds, h1, hd⟩ := bnd_eq_some hd
    split at hd
    · rename_i h2
      cases hd
      obtain ⟨vs, rfl, h3⟩ := hx
      exact ⟨vs, rfl, toDL_ok h hI h3 hlent h1 h2⟩
    · cases hd
  · rename_i hne
    refine toD1_ok h hI hx ?_ hd
    cases x <;> first | exact hlent | (exact absurd rfl (hne _))

/-- The rows that an argument lends. -/
def lent1 (x y : AV) : List Nat := match y with
  | .d _ => rowsOf x
  | _ => []

theorem argV_ok (h : HpOK Γ w I F A hp) {I' : Nat → Prop} (hI : ∀ b, I b → I' b) {m : Bool} {x y : AV} {v : Value} (hx : Rep Γ w I x v) (ha : argV hp m x = some y) (hlent : Lent Γ hp I' (lent1 x y)) : Rep Γ w I' y v := by
  have keep : Rep Γ w I' x v := hx.mono (Knows.refl Γ) (sub_keeps hI)
  unfold argV at ha
  split at ha
  · cases ha; exact keep
  · cases ha; exact keep
  · cases ha; exact keep
  · cases ha; exact keep
  · cases ha; exact keep
  · rename_i id
    cases m
    · simp only [argRow, asD] at ha
      obtain ⟨d, h1, ha⟩ := bnd_eq_some ha
      cases ha
      exact rep_d.2 (toD1_ok h hI hx hlent h1)
    · simp only [argRow] at ha
      cases ha; exact keep
  · cases m
    · simp only [nilArg] at ha
      cases ha
      exact rep_d.2 (toD_ok h hI hx hlent rfl)
    · simp only [nilArg] at ha
      cases ha; exact keep
  · cases ha; exact keep
  · obtain ⟨d, h1, ha⟩ := bnd_eq_some ha
    cases ha
    exact rep_d.2 (toD_ok h hI hx hlent h1)

theorem lentOf_cons (x y : AV) (xs ys : List AV) : lentOf (x :: xs) (y :: ys) = lent1 x y ++ lentOf xs ys := by
  cases y <;> simp [lentOf, lent1]

theorem args_ok (h : HpOK Γ w I F A hp) {I' : Nat → Prop} (hI : ∀ b, I b → I' b) (m : Nat → Bool) : ∀ {xs ys : List AV} {vs : List Value} (i : Nat), All2 (Rep Γ w I) xs vs → args hp m i xs = some ys → Lent Γ hp I' (lentOf xs ys) → All2 (Rep Γ w I') ys vs
  | [], ys, [], i, _, ha, _ => by simp only [args] at ha; cases ha; exact trivial
  | [], _, _ :: _, _, h, _, _ => h.elim
  | _ :: _, _, [], _, h, _, _ => h.elim
  | x :: xs, ys, v :: vs, i, hr, ha, hl => by
    simp only [args] at ha
    obtain ⟨y, h1, ha⟩ := bnd_eq_some ha
    obtain ⟨ys', h2, ha⟩ := bnd_eq_some ha
    cases ha
    rw [lentOf_cons] at hl
    exact ⟨argV_ok h hI hr.1 h1 (hl.sub fun id hid => by simp [hid]), args_ok h hI m (i + 1) hr.2 h2 (hl.sub fun id hid => by simp [hid])⟩

/-! ## Objects handed over -/

def handed (ids : List Nat) (Γ : Gh) : Gh := fun k => match ids[k]? with
  | some id => Γ id
  | none => none

theorem handed_get {ids : List Nat} {k id : Nat} (h : ids[k]? = some id) : handed ids Γ k = Γ id := by simp [handed, h]

theorem handed_renames {ids l : List Nat} (h : ∀ id ∈ l, id ∈ ids) : Renames Γ (handed ids Γ) (posOf ids) l := by
  intro id hid r hr
  rw [handed_get (posOf_lt (h id hid)).2]
  exact hr

theorem handOver_ok {ids : List Nat} {id k : Nat} (hk : ids[k]? = some id) {o : AObj} (ho : ObjOK Γ w I F A id o) {I' F' A' : Nat → Prop} (hI : ∀ b, I b → I' b) (hF : ∀ b, blkOf (Γ id) = some b → F' b) (hA : ∀ b, I b → A b → A' b)
    (hn : ∀ b, blkOf (Γ id) = some b → I' b → I b) : ObjOK (handed ids Γ) w I' F' A' k (handOver ids o) := by
  cases o with
  | box cs =>
    obtain ⟨b, cur, e, h1, h2, h3, h4, h5⟩ := ho
    have hb : blkOf (Γ id) = some b := by rw [h1]; rfl
    refine ⟨b, cur, e, by rw [handed_get hk, h1], h2, fun hi => h3 (hn b hb hi), hF b hb, ?_⟩
    have h6 : All2 (RepB Γ w I) (cs.map (kill2 ((orefs (.box cs)).filter fun i => !ids.contains i))) cur.toList := h5.map_left fun _ _ h => killB_rep h
    refine renBL_rep (handed_renames fun id' hid => ?_) (sub_keeps hI) h6
    obtain ⟨y, hy, hid⟩ := List.mem_flatMap.1 hid
    obtain ⟨x, hx, rfl⟩ := List.mem_map.1 hy
    obtain ⟨h7, h8⟩ := refs_kill2 _ x id' hid
    have h9 : id' ∈ orefs (.box cs) := List.mem_flatMap.2 ⟨x, hx, h7⟩
    simp only [List.mem_filter, Bool.not_eq_true', List.contains_eq_mem, decide_eq_false_iff_not, not_and, Decidable.not_not] at h8
    exact h8 h9
  | row sz xs ex fz =>
    obtain ⟨ad, n, c, h1, h2, h3⟩ := ho
    refine ⟨ad, n, c, by rw [handed_get hk, h1], h2, ?_⟩
    rcases h3 with h3 | ⟨g, cur, e, rfl, hc, hw, h4, h5, h6, h7, h8, hFg, h9⟩
    · exact .inl h3
    · have hb : blkOf (Γ id) = some g := by rw [h1]; simp [blkOf, Nat.ne_of_gt hc]
      refine .inr ⟨g, cur, e, rfl, hc, hw, h4, h5, h6, h7, ?_, hF g hb, ?_⟩
      · cases fz
        · simp at h8 ⊢; exact fun hi => h8 (hn g hb hi)
        · simp at h8 ⊢; exact hI g h8
      · cases ex
        · exact h9.mono' (sub_keeps hI) rfl
        · simp only [if_true] at h9 ⊢
          exact h9.mono' ⟨fun b hb => ⟨hI b hb.1, hA b hb.1 hb.2⟩, fun _ _ => rfl⟩ rfl

end
end Go.Abs
