/- The abstract semantics and the model: what a call is to do, and arguments. Own text. -/
import Derived.Test.YtkdjbefmiiibpaaDoorAbsCall
set_option linter.unusedVariables false
set_option linter.unusedSimpArgs false
namespace Go.Abs
open Go

/-! ## What a call is to do -/

/-- What holds where a function is entered. -/
structure Pre (F A I : Nat → Prop) (Γ : Gh) (h : List AObj) (as : List AV) (args : List Value) (w : World) : Prop where
  args : All2 (Rep Γ w I) as args
  objs : HpOK Γ w I F A (numb 0 h)
  inj : ∀ i j o o' b, lkp (numb 0 h) i = some o → lkp (numb 0 h) j = some o' → Blk Γ w i o b → Blk Γ w j o' b → i = j
  bound : ∀ b, I b → b < w.heap.size
  fresh : ∀ b, w.heap.size ≤ b → F b
  own : ∀ b, F b → A b
  names : ∀ id, h.length ≤ id → Γ id = none
  glob : GlobOK I w

/-- What holds where it returns. -/
structure Back (F A I : Nat → Prop) (Γ : Gh) (w : World) (hs : List AObj) (res : AV) (I' : Nat → Prop) (Γ' : Gh) (v : Value) (w' : World) : Prop where
  boxes : ∀ id b, Γ id = some (.box b) → Γ' id = some (.box b)
  keeps : Keeps I I' w w'
  sub : ∀ b, I' b → I b ∨ F b
  fr : Fr F w w'
  res : Rep Γ' w' I' res v
  objs : HpOK Γ' w' I' F A (numb 0 hs)
  inj : ∀ i j o o' b, lkp (numb 0 hs) i = some o → lkp (numb 0 hs) j = some o' → Blk Γ' w' i o b → Blk Γ' w' j o' b → i = j
  bound : ∀ b, I' b → b < w'.heap.size
  names : ∀ id, hs.length ≤ id → Γ' id = none

/-- A function that a call enters. -/
def Enters (P : Program) (f : FuncId) : Prop := ∃ fn, P.funcs[f]? = some fn ∧ (fn.name == "runtime.NumGoroutine") = false ∧ fn.body.isNone = false

def Sound (P : Program) (f : FuncId) (as : List AV) (h : List AObj) (res : AV) (hs : List AObj) : Prop :=
  Enters P f ∧ ∀ (F A I : Nat → Prop) (Γ : Gh) (args : List Value) (w : World), Pre F A I Γ h as args w → Calls P f args.toArray w fun e w' => ∃ v I' Γ', e = .returned v ∧ Back F A I Γ w hs res I' Γ' v w'

def SoundOrc (P : Program) (C : Orc) : Prop := ∀ f as h res hs, C f as h = some (res, hs) → Sound P f as h res hs

section
variable {P : Program} {nt : Nat} {U : Nat → Prop} {F A I : Nat → Prop} {Γ : Gh} {sl : Sl} {hp : Hp} {a : Act} {w : World}

/-- An operation is carried out, in whatever way, and what its effect tells is so. -/
def OpWp (P : Program) (nt : Nat) (F A I : Nat → Prop) (Γ : Gh) (U : Nat → Prop) (sl : Sl) (hp : Hp) (a : Act) (w : World) (o : Oper) (base : Nat) (ce : CallEff) : Prop :=
  ∀ (K : Act → World → Prop) (Q : Exit → Act → World → Prop), (∀ u w', Post nt F A I Γ w (Used U base) (ce.on o.dst sl hp).1 (ce.on o.dst sl hp).2 (a.put o.dst u) w' → K (a.put o.dst u) w') → o.wp P a w K Q

theorem OpOK.opWp {o : Oper} {base : Nat} {ce : CallEff} (h : OpOK P nt F A I Γ U sl hp a w o base ce) : OpWp P nt F A I Γ U sl hp a w o base ce := by
  intro K Q hK
  obtain ⟨u, w', h1, h2⟩ := h
  exact h1.wp (hK u w' h2)

/-! ## Arguments -/

/-- The rows of such names may be told of. -/
def Lent (Γ : Gh) (w : World) (hp : Hp) (I' : Nat → Prop) (ids : List Nat) : Prop := ∀ id ∈ ids, ∀ o b, lkp hp id = some o → isRow (some o) = true → Blk Γ w id o b → I' b

theorem Lent.sub {I' : Nat → Prop} {ids ids' : List Nat} (h : Lent Γ w hp I' ids) (hs : ∀ id ∈ ids', id ∈ ids) : Lent Γ w hp I' ids' := fun id hid => h id (hs id hid)

theorem lent_froze (h : HpOK Γ w I F A hp) (ids : List Nat) : Lent Γ w hp (FrozeL Γ w hp I ids) ids := by
  intro id hid o b hl hr hb
  cases o with
  | box cs => cases hr
  | deep sz ns xs lk => exact .inr ⟨id, hid, _, hl, rfl, hb⟩
  | row sz xs ex fz =>
    cases fz with
    | false => exact .inr ⟨id, hid, _, hl, rfl, hb⟩
    | true =>
      have hb := hb.row
      obtain ⟨ad, n, c, h1, h2, h3⟩ := h id _ hl
      rw [h1] at hb
      obtain ⟨ad', rfl, rfl, hc⟩ := blkOf_row hb
      rcases h3 with h3 | ⟨g, cur, e, hg, h4, h5, h6, h7, h8, h9, h10, h11⟩
      · exact absurd h3.2 hc
      · cases hg; exact .inl (by simpa using h10)

theorem row_data (h : HpOK Γ w I F A hp) {I' : Nat → Prop} (hI : ∀ b, I b → I' b) {id : Nat} (hlent : Lent Γ w hp I' [id]) {xs : List D} (he : elemsOf (lkp hp id) = some xs) :
    ∃ ad n c sz, Γ id = some (.row ad n c sz) ∧ n = xs.length ∧ n ≤ c ∧ ((n = 0 ∧ c = 0) ∨ ∃ g, ad = some ⟨g, 0, none⟩ ∧ I' g ∧ 0 < sz ∧ RepE w I' g sz xs 0) := by
  unfold elemsOf at he
  split at he
  · rename_i sz xs' ex fz hl
    cases he
    obtain ⟨ad, n, c, h1, h2, h3⟩ := h id _ hl
    refine ⟨ad, n, c, sz, h1, h2, ?_⟩
    rcases h3 with h3 | ⟨g, cur, e, rfl, hc, hw, h4, h5, h6, h7, h8, hF, h9⟩
    · exact ⟨by omega, .inl h3⟩
    · refine ⟨h4, .inr ⟨g, rfl, hlent id (by simp) _ g hl rfl (.inl (by rw [h1]; simp [blkOf, Nat.ne_of_gt hc])), h7, ?_⟩⟩
      cases ex
      · exact h9.mono' (sub_keeps hI) rfl
      · exact h9.mono' ⟨fun b hb => hI b hb.1, fun _ _ => rfl⟩ rfl
  · rename_i sz ns xs' lk hl
    cases he
    obtain ⟨ad, n, c, h1, hd, _⟩ := h id _ hl
    have hd' := hd
    obtain ⟨h2, h3⟩ := hd
    refine ⟨ad, n, c, sz, h1, h2, ?_⟩
    rcases h3 with h3 | ⟨g, cur, e, rfl, hc, hw, h4, h5, h6, hpos, h8, hFg, hel, hdis, hne⟩
    · exact ⟨by omega, .inl h3⟩
    · have hbg : blkOf (Γ id) = some g := by rw [h1]; simp [blkOf, Nat.ne_of_gt hc]
      exact ⟨h4, .inr ⟨g, rfl, hlent id (by simp) _ g hl rfl (.inl hbg), hpos, deep_rep hd' (fun b hb _ => hI b hb) fun p b hp hn => hlent id (by simp) _ b hl rfl (.inr (.inl ⟨g, p, hbg, hp, hn⟩))⟩⟩
  · cases he

theorem toD1_ok (h : HpOK Γ w I F A hp) {I' : Nat → Prop} (hI : ∀ b, I b → I' b) {x : AV} {v : Value} (hx : Rep Γ w I x v) (hlent : Lent Γ w hp I' (rows1 x)) {d : D} (hd : toD1 hp x = some d) : RepD w I' d v := by
  unfold toD1 at hd
  split at hd
  · cases hd; exact (rep_d.1 hx).mono (sub_keeps hI)
  · cases hd; obtain ⟨ad, rfl⟩ := hx; exact ⟨ad, 0, rfl, by simp, .inl rfl⟩
  · rename_i id
    obtain ⟨xs, h1, hd⟩ := bnd_eq_some hd
    cases hd
    obtain ⟨ad, n, c, sz, h2, h3, h4, h5⟩ := row_data h hI hlent h1
    obtain ⟨ad', n', c', sz', h6, rfl⟩ := hx
    rw [h2] at h6; cases h6
    refine ⟨ad, c, by rw [h3], by omega, ?_⟩
    rcases h5 with h5 | ⟨g, rfl, h7, h8, h9⟩
    · exact .inl (List.eq_nil_of_length_eq_zero (by omega))
    · exact .inr ⟨g, 0, sz, rfl, h7, h8, h9⟩
  · rename_i id off n
    obtain ⟨xs, h1, hd⟩ := bnd_eq_some hd
    cases hd
    obtain ⟨ad, m, c, sz, h2, h3, h4, h5⟩ := row_data h hI hlent h1
    obtain ⟨a0, m', c', sz', av, h6, h7, h8, rfl, h9, h10⟩ := hx
    rw [h2] at h6; cases h6
    have hlen : n = ((xs.drop off).take n).length := by simp; omega
    refine ⟨av, c - off, by rw [← hlen], by omega, ?_⟩
    by_cases hn : n = 0
    · exact .inl (List.eq_nil_of_length_eq_zero (by omega))
    · rcases h5 with h5 | ⟨g, rfl, h11, h12, h13⟩
      · omega
      · rcases h10 with h10 | h10
        · subst h10
          exact .inr ⟨g, off * sz, sz, by simp [addr_add], h11, h12, by simpa using repE_sub h13 off n⟩
        · omega
  · cases hd

theorem toDL_ok (h : HpOK Γ w I F A hp) {I' : Nat → Prop} (hI : ∀ b, I b → I' b) : ∀ {xs : List AV} {vs : List Value} {ds : List D}, All2 (Rep1 Γ w I) xs vs → Lent Γ w hp I' (xs.flatMap rows1) → mapO (toD1 hp) xs = some ds → allB D.one ds = true → RepL w I' ds vs
  | [], [], ds, _, _, hd, _ => by simp only [mapO] at hd; cases hd; simp [RepL]
  | [], _ :: _, _, h, _, _, _ => h.elim
  | _ :: _, [], _, h, _, _, _ => h.elim
  | x :: xs, v :: vs, ds, hr, hl, hd, h1 => by
    simp only [mapO] at hd
    obtain ⟨d, h2, hd⟩ := bnd_eq_some hd
    obtain ⟨ds', h3, hd⟩ := bnd_eq_some hd
    cases hd
    simp only [allB, Bool.and_eq_true] at h1
    refine ⟨v, vs, rfl, h1.1, (RepD.one h1.1).1 (toD1_ok h hI hr.1.rep2.rep (hl.sub fun id hid => by simp only [List.flatMap_cons, List.mem_append]; exact .inl hid) h2), toDL_ok h hI hr.2 (hl.sub fun id hid => by simp only [List.flatMap_cons, List.mem_append]; exact .inr hid) h3 h1.2⟩

theorem toD_ok (h : HpOK Γ w I F A hp) {I' : Nat → Prop} (hI : ∀ b, I b → I' b) {x : AV} {v : Value} (hx : Rep Γ w I x v) (hlent : Lent Γ w hp I' (rowsOf x)) {d : D} (hd : toD hp x = some d) : RepD w I' d v := by
  unfold toD at hd
  split at hd
  · rename_i cs
    obtain ⟨ds, h1, hd⟩ := bnd_eq_some hd
    split at hd
    · rename_i h2
      cases hd
      obtain ⟨vs, rfl, h3⟩ := hx
      exact ⟨vs, rfl, toDL_ok h hI h3 hlent h1 h2⟩
    · cases hd
  · rename_i hne
    refine toD1_ok h hI hx ?_ hd
    cases x <;> first | exact hlent | (exact absurd rfl (hne _))

/-- The rows that an argument lends. -/
def lent1 (x y : AV) : List Nat := match y with
  | .d _ => rowsOf x
  | _ => []

theorem argV_ok (h : HpOK Γ w I F A hp) {I' : Nat → Prop} (hI : ∀ b, I b → I' b) {m : Bool} {x y : AV} {v : Value} (hx : Rep Γ w I x v) (ha : argV hp m x = some y) (hlent : Lent Γ w hp I' (lent1 x y)) : Rep Γ w I' y v := by
  have keep : Rep Γ w I' x v := hx.mono (Knows.refl Γ) (sub_keeps hI)
  unfold argV at ha
  split at ha
  · cases ha; exact keep
  · cases ha; exact keep
  · cases ha; exact keep
  · cases ha; exact keep
  · cases ha; exact keep
  · rename_i id
    cases m
    · simp only [argRow, asD] at ha
      obtain ⟨d, h1, ha⟩ := bnd_eq_some ha
      cases ha
      exact rep_d.2 (toD1_ok h hI hx hlent h1)
    · simp only [argRow] at ha
      cases ha; exact keep
  · cases m
    · simp only [nilArg] at ha
      cases ha
      exact rep_d.2 (toD_ok h hI hx hlent rfl)
    · simp only [nilArg] at ha
      cases ha; exact keep
  · cases ha; exact keep
  · obtain ⟨d, h1, ha⟩ := bnd_eq_some ha
    cases ha
    exact rep_d.2 (toD_ok h hI hx hlent h1)

theorem lentOf_cons (x y : AV) (xs ys : List AV) : lentOf (x :: xs) (y :: ys) = lent1 x y ++ lentOf xs ys := by
  cases y <;> simp [lentOf, lent1]

theorem args_ok (h : HpOK Γ w I F A hp) {I' : Nat → Prop} (hI : ∀ b, I b → I' b) (m : Nat → Bool) : ∀ {xs ys : List AV} {vs : List Value} (i : Nat), All2 (Rep Γ w I) xs vs → args hp m i xs = some ys → Lent Γ w hp I' (lentOf xs ys) → All2 (Rep Γ w I') ys vs
  | [], ys, [], i, _, ha, _ => by simp only [args] at ha; cases ha; exact trivial
  | [], _, _ :: _, _, h, _, _ => h.elim
  | _ :: _, _, [], _, h, _, _ => h.elim
  | x :: xs, ys, v :: vs, i, hr, ha, hl => by
    simp only [args] at ha
    obtain ⟨y, h1, ha⟩ := bnd_eq_some ha
    obtain ⟨ys', h2, ha⟩ := bnd_eq_some ha
    cases ha
    rw [lentOf_cons] at hl
    exact ⟨argV_ok h hI hr.1 h1 (hl.sub fun id hid => by simp [hid]), args_ok h hI m (i + 1) hr.2 h2 (hl.sub fun id hid => by simp [hid])⟩

/-! ## Objects handed over -/

def handed (ids : List Nat) (Γ : Gh) : Gh := fun k => match ids[k]? with
  | some id => Γ id
  | none => none

theorem handed_get {ids : List Nat} {k id : Nat} (h : ids[k]? = some id) : handed ids Γ k = Γ id := by simp [handed, h]

theorem handed_renames {ids l : List Nat} (h : ∀ id ∈ l, id ∈ ids) : Renames Γ (handed ids Γ) (posOf ids) l := by
  intro id hid r hr
  rw [handed_get (posOf_lt (h id hid)).2]
  exact hr

/-- A flat row needs no set of blocks that it tells of. -/
theorem flatRow_any {S S' : Nat → Prop} {b sz : Nat} {ys : List D} (hf : allB D.flat ys = true) {o : Nat} (h : RepE w S b sz ys o) : RepE w S' b sz ys o := by
  rw [repE_iff] at h ⊢
  intro i x hx
  obtain ⟨vs, h1, h2, h3⟩ := h i x hx
  refine ⟨vs, h1, h2, ?_⟩
  have hx' : x.flat = true := by
    clear h h1 h2 h3
    induction ys generalizing i with
    | nil => simp at hx
    | cons y ys ih =>
      simp only [allB, Bool.and_eq_true] at hf
      cases i with
      | zero => simp at hx; subst hx; exact hf.1
      | succ i => simp at hx; exact ih hf.2 i hx
  have one : ∀ {y : D} {v : Value}, y.plain = true → RepC w S y [v] → RepC w S' y [v] := by
    intro y v hy hv
    cases y <;> first | (simpa [RepC] using hv) | (simp [D.plain] at hy)
  have all : ∀ (ds : List D) (us : List Value), allB D.plain ds = true → RepL w S ds us → RepL w S' ds us := by
    intro ds
    induction ds with
    | nil => intro us _ h; simpa [RepL] using h
    | cons d ds ih =>
      intro us hp h
      simp only [allB, Bool.and_eq_true] at hp
      obtain ⟨v, r, h1, h2, h3, h4⟩ := h
      exact ⟨v, r, h1, h2, one hp.1 h3, ih r hp.2 h4⟩
  have := all x.cells vs hx' h3.cells
  exact repC_of_cells (repL_iff.1 this)

theorem RowOK.give {I' F' A' : Nat → Prop} {ad : Option Addr} {n c sz : Nat} {ys : List D} (h : RowOK w I F A ad n c sz ys true false) (hf : allB D.flat ys = true)
    (hb : ∀ b, blkOf (some (.row ad n c sz)) = some b → F b → F' b ∧ (I' b → I b)) : RowOK w I' F' A' ad n c sz ys true false := by
  obtain ⟨h2, h3⟩ := h
  refine ⟨h2, ?_⟩
  rcases h3 with h3 | ⟨g, cur, e, rfl, hc, hw, h4, h5, h6, h7, h8, hFg, h9⟩
  · exact .inl h3
  · obtain ⟨h10, h11⟩ := hb g (by simp [blkOf, Nat.ne_of_gt hc]) hFg
    exact .inr ⟨g, cur, e, rfl, hc, hw, h4, h5, h6, h7, by simp at h8 ⊢; exact fun hi => h8 (h11 hi), h10, flatRow_any hf h9⟩

theorem NestC.give {I' F' A' : Nat → Prop} {ns : Nat} {y : D} {v : Value} (h : NestC w I F A ns y v) (hb : ∀ b, blkV v = some b → F b → F' b ∧ (I' b → I b)) : NestC w I' F' A' ns y v := by
  cases y with
  | sl ys =>
    obtain ⟨a, c, rfl, h2, h3⟩ := h
    refine ⟨a, c, rfl, h2.give h3 fun b hb' => hb b ?_, h3⟩
    cases a with
    | none => simp [blkOf] at hb'
    | some ad => simpa [blkV, blkOf] using hb'
  | int k n => exact ⟨h.1, by simpa [RepC] using h.2⟩
  | bool k => exact ⟨h.1, by simpa [RepC] using h.2⟩
  | str k => exact ⟨h.1, by simpa [RepC] using h.2⟩
  | agg cs => exact absurd h.1 (by simp [D.plain])

theorem DeepOK.give {I' F' A' : Nat → Prop} {ad : Option Addr} {n c sz ns : Nat} {xs : List D} (h : DeepOK w I F A ad n c sz ns xs)
    (hown : ∀ b, blkOf (some (.row ad n c sz)) = some b → F b → F' b ∧ (I' b → I b)) (hin : ∀ g p b, blkOf (some (.row ad n c sz)) = some g → p < xs.length * sz → nestB w g p = some b → F b → F' b ∧ (I' b → I b)) : DeepOK w I' F' A' ad n c sz ns xs := by
  obtain ⟨h2, h3⟩ := h
  refine ⟨h2, ?_⟩
  rcases h3 with h3 | ⟨g, cur, e, rfl, hc, hw, h4, h5, h6, hpos, h8, hFg, hel, hdis, hne⟩
  · exact .inl h3
  · have hbg : blkOf (some (.row (some ⟨g, 0, none⟩) n c sz)) = some g := by simp [blkOf, Nat.ne_of_gt hc]
    obtain ⟨h10, h11⟩ := hown g hbg hFg
    refine .inr ⟨g, cur, e, rfl, hc, hw, h4, h5, h6, hpos, fun hi => h8 (h11 hi), h10, ?_, hdis, hne⟩
    intro i x hx
    obtain ⟨vs, v1, v2, v3⟩ := hel i x hx
    refine ⟨vs, v1, v2, All2.of_get v3.length fun j y v hy hv => ?_⟩
    obtain ⟨v', hv', hn⟩ := v3.get j y hy
    rw [hv] at hv'; cases hv'
    refine hn.give fun b hb => hin g (i * sz + j) b hbg ?_ (nestB_get (v2 j v hv) hb)
    have hi : i < xs.length := (List.getElem?_eq_some_iff.1 hx).1
    have hj : j < sz := by rw [← v1]; exact (List.getElem?_eq_some_iff.1 hv).1
    have := Nat.mul_le_mul_right sz (show i + 1 ≤ xs.length from hi)
    rw [Nat.add_mul] at this
    omega

theorem handOver_ok {ids : List Nat} {id k : Nat} (hk : ids[k]? = some id) {o : AObj} (ho : ObjOK Γ w I F A id o) {I' F' A' : Nat → Prop} (hI : ∀ b, I b → I' b) (hF : ∀ b, Blk Γ w id o b → F' b) (hA : ∀ b, I b → A b → A' b)
    (hn : ∀ b, Blk Γ w id o b → I' b → I b) : ObjOK (handed ids Γ) w I' F' A' k (handOver ids o) := by
  cases o with
  | deep sz ns xs lk =>
    obtain ⟨ad, n, c, h1, h2, _⟩ := ho
    exact ⟨ad, n, c, by rw [handed_get hk, h1], h2.give (fun b hb _ => have := Or.inl (h1 ▸ hb); ⟨hF b this, hn b this⟩) (fun g p b hg hp hb _ => have := Or.inr (Or.inl ⟨g, p, h1 ▸ hg, hp, hb⟩); ⟨hF b this, hn b this⟩), trivial⟩
  | box cs =>
    obtain ⟨b, cur, e, h1, h2, h3, h4, h5, hbf⟩ := ho
    have hb : Blk Γ w id (.box cs) b := .inl (by rw [h1]; rfl)
    refine ⟨b, cur, e, by rw [handed_get hk, h1], h2, fun hi => h3 (hn b hb hi), hF b hb, ?_, ((hbf.mono fun x te l u v g hc hv hg => have hB := Or.inr (Or.inr (buf_mk h1 h2 hc hv hg)); ⟨rfl, hn g hB, fun _ => hF g hB⟩).map (kill2_bbuf _)).map (ren2_bbuf _)⟩
    have h6 : All2 (RepB Γ w I) (cs.map (kill2 ((orefs (.box cs)).filter fun i => !ids.contains i))) cur.toList := h5.map_left fun _ _ h => killB_rep h
    refine renBL_rep (handed_renames fun id' hid => ?_) (sub_keeps hI) h6
    obtain ⟨y, hy, hid⟩ := List.mem_flatMap.1 hid
    obtain ⟨x, hx, rfl⟩ := List.mem_map.1 hy
    obtain ⟨h7, h8⟩ := refs_kill2 _ x id' hid
    have h9 : id' ∈ orefs (.box cs) := List.mem_flatMap.2 ⟨x, hx, h7⟩
    simp only [List.mem_filter, Bool.not_eq_true', List.contains_eq_mem, decide_eq_false_iff_not, not_and, Decidable.not_not] at h8
    exact h8 h9
  | row sz xs ex fz =>
    obtain ⟨ad, n, c, h1, h2, h3⟩ := ho
    refine ⟨ad, n, c, by rw [handed_get hk, h1], h2, ?_⟩
    rcases h3 with h3 | ⟨g, cur, e, rfl, hc, hw, h4, h5, h6, h7, h8, hFg, h9⟩
    · exact .inl h3
    · have hb : Blk Γ w id (.row sz xs ex fz) g := .inl (by rw [h1]; simp [blkOf, Nat.ne_of_gt hc])
      refine .inr ⟨g, cur, e, rfl, hc, hw, h4, h5, h6, h7, ?_, hF g hb, ?_⟩
      · cases fz
        · simp at h8 ⊢; exact fun hi => h8 (hn g hb hi)
        · simp at h8 ⊢; exact hI g h8
      · cases ex
        · exact h9.mono' (sub_keeps hI) rfl
        · simp only [if_true] at h9 ⊢
          exact h9.mono' ⟨fun b hb => ⟨hI b hb.1, hA b hb.1 hb.2⟩, fun _ _ => rfl⟩ rfl

end
end Go.Abs
