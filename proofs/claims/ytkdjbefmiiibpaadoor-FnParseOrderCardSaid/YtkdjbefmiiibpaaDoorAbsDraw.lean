/- The abstract semantics: what an operation looks at. Own text. -/
import Derived.Test.YtkdjbefmiiibpaaDoorAbsSound2
set_option linter.unusedVariables false
set_option linter.unusedSimpArgs false
namespace Go.Abs
open Go

theorem evL_congr {sl sl' : Sl} : ∀ {xs : List Opd}, (∀ x ∈ xs, evO sl x = evO sl' x) → evL sl xs = evL sl' xs
  | [], _ => rfl
  | x :: xs, h => by simp only [evL, h x (by simp), evL_congr (xs := xs) fun y hy => h y (List.mem_cons_of_mem _ hy)]

theorem evP_congr {sl sl' : Sl} : ∀ {xs : List (Nat × Nat × Opd)}, (∀ x ∈ xs.map (fun q => q.2.2), evO sl x = evO sl' x) → evP sl xs = evP sl' xs
  | [], _ => rfl
  | (a, b, x) :: xs, h => by simp only [evP, h x (by simp), evP_congr (xs := xs) fun y hy => h y (by simp only [List.map_cons, List.mem_cons]; exact .inr hy)]

theorem evM_congr {sl sl' : Sl} {x : Option Opd} (h : ∀ y ∈ optL x, evO sl y = evO sl' y) : evM sl x = evM sl' x := by
  cases x with
  | none => rfl
  | some y => simp only [evM, h y (by simp [optL])]

/-- Only the operands' slots matter. -/
theorem vop_congr (C : Orc) (M : Modes) {sl sl' : Sl} (hp : Hp) (base : Nat) : ∀ {c : COp}, (∀ x ∈ opds c, evO sl x = evO sl' x) → vop C M sl hp base c = vop C M sl' hp base c := by
  intro c h
  cases c <;> simp only [opds] at h <;> simp only [vop]
  case move x => rw [h x (by simp)]
  case assign s x => rw [h x (by simp)]
  case pick c a b => rw [h c (by simp), h a (by simp), h b (by simp)]
  case box x => rw [h x (by simp)]
  case build zs ps => rw [evP_congr h]
  case buildSl s xs => rw [evL_congr h]
  case load g s a => rw [h a (by simp)]
  case store slc s a x => rw [h a (by simp), h x (by simp)]
  case nilCheck x => rw [h x (by simp)]
  case bin op eq x y => rw [h x (by simp), h y (by simp)]
  case un op x => rw [h x (by simp)]
  case eqA neg n x y => rw [h x (by simp), h y (by simp)]
  case convI k x => rw [h x (by simp)]
  case convS x => rw [h x (by simp)]
  case fn f cs => rw [evL_congr h]
  case make s b z l c => rw [h l (by simp), h c (by simp)]
  case slice s x lo hi => rw [h x (by simp), evM_congr fun y hy => h y (by simp [hy]), evM_congr (x := hi) fun y hy => h y (by simp [hy])]
  case sliceS x lo hi => rw [h x (by simp), evM_congr fun y hy => h y (by simp [hy]), evM_congr (x := hi) fun y hy => h y (by simp [hy])]
  case slice0 x hi mx => rw [h x (by simp), h hi (by simp), h mx (by simp)]
  case shift off x => rw [h x (by simp)]
  case part g s off x => rw [h x (by simp)]
  case iaS s x i => rw [h x (by simp), h i (by simp)]
  case iaA len s x i => rw [h x (by simp), h i (by simp)]
  case ixS x i => rw [h x (by simp), h i (by simp)]
  case ixA g s len x i => rw [h x (by simp), h i (by simp)]
  case nth i x => rw [h x (by simp)]
  case len x => rw [h x (by simp)]
  case lenS x => rw [h x (by simp)]
  case append s b str flat x y => rw [h x (by simp), h y (by simp)]
  case min x y => rw [h x (by simp), h y (by simp)]
  case max x y => rw [h x (by simp), h y (by simp)]
  case slice3 s x lo hi mx => rw [h x (by simp), h lo (by simp), h hi (by simp), h mx (by simp)]
  case clear s z x => rw [h x (by simp)]
  case buildDp s n xs => rw [evL_congr h]
  case appDp s b f x y => rw [h x (by simp), h y (by simp)]
  case asgDp s n x => rw [h x (by simp)]
  case call f as => rw [h f (by simp), evL_congr (xs := as) fun y hy => h y (List.mem_cons_of_mem _ hy)]

/-! ## Only the objects that are reached matter -/

section
variable {U : Nat → Prop} {hp hp' : Hp}

/-- Two heaps agree on names in use, and only such are named there. -/
structure Agree (U : Nat → Prop) (hp hp' : Hp) : Prop where
  same : ∀ id, U id → lkp hp id = lkp hp' id
  closed : ∀ id o, U id → lkp hp id = some o → ∀ i ∈ orefs o, U i

def InU (U : Nat → Prop) (x : AV) : Prop := ∀ id ∈ refs x, U id

theorem loadv_agree (h : Agree U hp hp') {x : AV} (hx : InU U x) (g : Bool) (s : Nat) : loadv hp g s x = loadv hp' g s x := by
  cases x <;> simp only [loadv]
  case ptr id off => rw [h.same id (hx id (by simp [refs, refs2, refs1]))]
  case prow id sz i off => rw [h.same id (hx id (by simp [refs, refs2, refs1]))]

theorem indexAddrv_agree (h : Agree U hp hp') {x : AV} (hx : InU U x) (sz n : Nat) : indexAddrv hp sz n x = indexAddrv hp' sz n x := by
  cases x <;> simp only [indexAddrv]
  case d x => cases x <;> rfl
  case own id => rw [h.same id (hx id (by simp [refs, refs2, refs1]))]
  case ownv id off m => rw [h.same id (hx id (by simp [refs, refs2, refs1]))]

theorem slicev_agree (h : Agree U hp hp') {x : AV} (hx : InU U x) (s : Nat) (lo hi : Option AV) : slicev hp s lo hi x = slicev hp' s lo hi x := by
  cases x <;> simp only [slicev]
  case d x => cases x <;> rfl
  case own id => rw [h.same id (hx id (by simp [refs, refs2, refs1]))]
  case ownv id off m => rw [h.same id (hx id (by simp [refs, refs2, refs1]))]

theorem vlen_agree (h : Agree U hp hp') {x : AV} (hx : InU U x) : vlen hp x = vlen hp' x := by
  cases x <;> simp only [vlen]
  case d x => cases x <;> rfl
  case own id => rw [h.same id (hx id (by simp [refs, refs2, refs1]))]

theorem clearv_agree (h : Agree U hp hp') {x : AV} (hx : InU U x) (s : Nat) (z : D) : clearv hp s z x = clearv hp' s z x := by
  cases x <;> simp only [clearv]
  case ownv id off m => rw [h.same id (hx id (by simp [refs, refs2, refs1]))]

theorem srcOf_agree (h : Agree U hp hp') {x : AV} (hx : InU U x) (flat : Bool) : srcOf hp flat x = srcOf hp' flat x := by
  cases x <;> simp only [srcOf]
  case d x => cases x <;> rfl
  case own id => rw [h.same id (hx id (by simp [refs, refs2, refs1]))]
  case ownv id off m => rw [h.same id (hx id (by simp [refs, refs2, refs1]))]

theorem appOn_agree (h : Agree U hp hp') {x : AV} (hx : InU U x) (sz b base : Nat) (src : List Nat) (ys : List D) (ex : Bool) : appOn hp sz b base src ys ex x = appOn hp' sz b base src ys ex x := by
  cases x <;> simp only [appOn]
  case own id => rw [h.same id (hx id (by simp [refs, refs2, refs1]))]
  case ownv id off m => rw [h.same id (hx id (by simp [refs, refs2, refs1]))]

theorem deepSrc_agree (h : Agree U hp hp') {x : AV} (hx : InU U x) : deepSrc hp x = deepSrc hp' x := by
  cases x <;> simp only [deepSrc]
  case own id => rw [h.same id (hx id (by simp [refs, refs2, refs1]))]

theorem appDeep_agree (h : Agree U hp hp') {x : AV} (hx : InU U x) (s b base id n : Nat) (ys : List D) : appDeep hp s b base id n ys x = appDeep hp' s b base id n ys x := by
  cases x <;> simp only [appDeep]
  case own k => rw [h.same k (hx k (by simp [refs, refs2, refs1]))]

theorem appendv_agree (h : Agree U hp hp') {x y : AV} (hx : InU U x) (hy : InU U y) (s b : Nat) (str flat : Bool) (base : Nat) : appendv hp s b str flat base x y = appendv hp' s b str flat base x y := by
  unfold appendv
  rw [srcOf_agree h hy]
  congr 1
  funext q
  rw [appOn_agree h hx]

theorem deepId_agree (h : Agree U hp hp') {x : AV} (hx : InU U x) : deepId hp x = deepId hp' x := by
  cases x <;> simp only [deepId]
  case own id => rw [h.same id (hx id (by simp [refs, refs2, refs1]))]

theorem meltIn_agree (h : Agree U hp hp') (ids : List Nat) : Agree U (meltIn hp ids) (meltIn hp' ids) := by
  refine ⟨fun id hid => by rw [lkp_meltIn, lkp_meltIn, h.same id hid], fun id o hid hl => ?_⟩
  rw [lkp_meltIn] at hl
  cases hl0 : lkp hp id with
  | none => rw [hl0] at hl; cases hl
  | some o0 =>
    rw [hl0] at hl
    simp only [Option.map_some, Option.some.injEq] at hl
    subst hl
    have := h.closed id o0 hid hl0
    split
    · cases o0 <;> exact this
    · exact this

theorem appMelt_agree (h : Agree U hp hp') {x y : AV} (hx : InU U x) (hy : InU U y) (s b : Nat) (str flat : Bool) (base : Nat) (ms : List Nat) : appMelt hp s b str flat base x y ms = appMelt hp' s b str flat base x y ms := by
  cases ms with
  | nil => exact appendv_agree h hx hy s b str flat base
  | cons i r => simp only [appMelt]; rw [appendv_agree (meltIn_agree h (i :: r)) hx hy]

theorem appTo_agree (h : Agree U hp hp') {x y : AV} (hx : InU U x) (hy : InU U y) (s b : Nat) (str flat : Bool) (base : Nat) : appTo hp s b str flat base y x = appTo hp' s b str flat base y x := by
  cases x <;> simp only [appTo] <;> first | (rw [deepId_agree h hx, deepId_agree h hy]; exact appMelt_agree h hx hy s b str flat base _) | skip
  rename_i id nm
  rw [srcOf_agree h hy, h.same id (hx id (by simp [refs, refs2, refs1]))]

theorem appD_agree (h : Agree U hp hp') {x y : AV} (hx : InU U x) (hy : InU U y) (s b base : Nat) : appD hp s b base x y = appD hp' s b base x y := by
  unfold appD
  rw [deepSrc_agree h hy]
  congr 2
  funext q
  rw [appDeep_agree h hx]

theorem deep1_agree (h : Agree U hp hp') {n : Nat} {x : AV} (hx : ∀ id ∈ refs1 x, U id) : deep1 hp n x = deep1 hp' n x := by
  cases x <;> simp only [deep1]
  case own id => rw [h.same id (hx id (by simp [refs1]))]

theorem deepL_agree (h : Agree U hp hp') {n : Nat} : ∀ {xs : List AV}, (∀ id ∈ xs.flatMap refs1, U id) → deepL hp n xs = deepL hp' n xs
  | [], _ => rfl
  | x :: xs, hx => by
    simp only [deepL]
    rw [deep1_agree h fun id hid => hx id (by simp only [List.flatMap_cons, List.mem_append]; exact .inl hid), deepL_agree h (xs := xs) fun id hid => hx id (by simp only [List.flatMap_cons, List.mem_append]; exact .inr hid)]

theorem buildDp_agree (h : Agree U hp hp') {base s n : Nat} {xs : List AV} (hx : ∀ x ∈ xs, InU U x) : buildDp hp base s n xs = buildDp hp' base s n xs := by
  cases xs with
  | nil => rfl
  | cons x xs =>
    cases xs with
    | cons y ys => cases x <;> rfl
    | nil =>
      cases x <;> simp only [buildDp]
      rename_i cs
      rw [deepL_agree h (hx (.agg cs) (by simp))]

theorem give1_agree (h : Agree U hp hp') {x : AV} (hx : ∀ id ∈ refs1 x, U id) : give1 hp x = give1 hp' x := by
  cases x <;> simp only [give1]
  case own id => rw [h.same id (hx id (by simp [refs1]))]

theorem giveL_agree (h : Agree U hp hp') : ∀ {xs : List AV}, (∀ id ∈ xs.flatMap refs1, U id) → giveL hp xs = giveL hp' xs
  | [], _ => rfl
  | x :: xs, hx => by
    simp only [giveL]
    rw [give1_agree h fun id hid => hx id (by simp only [List.flatMap_cons, List.mem_append]; exact .inl hid), giveL_agree h (xs := xs) fun id hid => hx id (by simp only [List.flatMap_cons, List.mem_append]; exact .inr hid)]

theorem storev_agree (h : Agree U hp hp') {x : AV} (hx : InU U x) (slc : List (Option Nat)) (s base : Nat) (vs : List AV) (hv : ∀ id ∈ vs.flatMap refs1, U id) : storev hp slc s base vs x = storev hp' slc s base vs x := by
  cases x <;> simp only [storev]
  case ptr id off => rw [h.same id (hx id (by simp [refs, refs2, refs1]))]
  case prow id sz i off =>
    rw [h.same id (hx id (by simp [refs, refs2, refs1]))]
    unfold storeRow
    rw [giveL_agree h hv]

theorem cells_in {x : AV} (hx : InU U x) : ∀ id ∈ x.cells.flatMap refs1, U id := by
  intro id hid
  refine hx id ?_
  cases x <;> simp only [AV.cells] at hid <;> first
    | (simp [refs1] at hid; done)
    | (obtain ⟨c, hc, hci⟩ := List.mem_flatMap.1 hid; obtain ⟨y, _, rfl⟩ := List.mem_map.1 hc; simp [refs1] at hci; done)
    | (simpa [refs, refs2, refs1] using hid)

theorem give_agree (h : Agree U hp hp') {x : AV} (hx : InU U x) : give hp x = give hp' x := by
  cases x with
  | agg cs => simp only [give]; rw [giveL_agree h hx]
  | own id => exact give1_agree h (x := .own id) hx
  | _ => rfl

theorem giveAll_agree (h : Agree U hp hp') : ∀ {xs : List AV}, (∀ x ∈ xs, InU U x) → giveAll hp xs = giveAll hp' xs
  | [], _ => rfl
  | x :: xs, hx => by
    simp only [giveAll]
    rw [give_agree h (hx x (by simp)), giveAll_agree h (xs := xs) fun y hy => hx y (List.mem_cons_of_mem _ hy)]

theorem toD1_agree (h : Agree U hp hp') {x : AV} (hx : ∀ id ∈ refs1 x, U id) : toD1 hp x = toD1 hp' x := by
  cases x <;> simp only [toD1]
  case own id => rw [h.same id (hx id (by simp [refs1]))]
  case ownv id off n => rw [h.same id (hx id (by simp [refs1]))]

theorem toDL_agree (h : Agree U hp hp') : ∀ {xs : List AV}, (∀ id ∈ xs.flatMap refs1, U id) → mapO (toD1 hp) xs = mapO (toD1 hp') xs
  | [], _ => rfl
  | x :: xs, hx => by
    simp only [mapO]
    rw [toD1_agree h fun id hid => hx id (by simp only [List.flatMap_cons, List.mem_append]; exact .inl hid), toDL_agree h (xs := xs) fun id hid => hx id (by simp only [List.flatMap_cons, List.mem_append]; exact .inr hid)]

theorem toD_agree (h : Agree U hp hp') {x : AV} (hx : InU U x) : toD hp x = toD hp' x := by
  cases x with
  | agg cs => simp only [toD]; rw [toDL_agree h hx]
  | own id => exact toD1_agree h (x := .own id) hx
  | ownv id off n => exact toD1_agree h (x := .ownv id off n) hx
  | _ => rfl

theorem argV_agree (h : Agree U hp hp') (m : Bool) {x : AV} (hx : InU U x) : argV hp m x = argV hp' m x := by
  cases x with
  | own id =>
    simp only [argV]
    cases m
    · simp only [argRow]; rw [toD1_agree h (x := .own id) hx]
    · rfl
  | agg cs => simp only [argV]; rw [toD_agree h hx]
  | ownv id off n => simp only [argV]; rw [toD_agree h hx]
  | _ => rfl

theorem args_agree (h : Agree U hp hp') (m : Nat → Bool) : ∀ {xs : List AV} (i : Nat), (∀ x ∈ xs, InU U x) → args hp m i xs = args hp' m i xs
  | [], i, _ => rfl
  | x :: xs, i, hx => by
    simp only [args]
    rw [argV_agree h (m i) (hx x (by simp)), args_agree h m (xs := xs) (i + 1) fun y hy => hx y (List.mem_cons_of_mem _ hy)]

/-- Arguments name only what they named. -/
theorem argV_in {m : Bool} {x y : AV} (hx : InU U x) (h : argV hp m x = some y) : InU U y := by
  unfold argV at h
  split at h
  · cases h; exact hx
  · cases h; exact hx
  · cases h; exact hx
  · cases h; exact hx
  · cases h; exact hx
  · rename_i id
    cases m
    · simp only [argRow, asD] at h
      obtain ⟨d, _, h⟩ := bnd_eq_some h; cases h
      exact fun id hid => by simp [refs, refs2, refs1] at hid
    · simp only [argRow] at h; cases h; exact hx
  · cases m
    · simp only [nilArg] at h; cases h
      exact fun id hid => by simp [refs, refs2, refs1] at hid
    · simp only [nilArg] at h; cases h; exact hx
  · cases h; exact hx
  · obtain ⟨d, _, h⟩ := bnd_eq_some h; cases h
    exact fun id hid => by simp [refs, refs2, refs1] at hid

theorem args_in {m : Nat → Bool} : ∀ {xs ys : List AV} (i : Nat), (∀ x ∈ xs, InU U x) → args hp m i xs = some ys → ∀ y ∈ ys, InU U y
  | [], ys, i, _, h => by simp only [args] at h; cases h; simp
  | x :: xs, ys, i, hx, h => by
    simp only [args] at h
    obtain ⟨y, h1, h⟩ := bnd_eq_some h
    obtain ⟨ys', h2, h⟩ := bnd_eq_some h
    cases h
    intro z hz
    rcases List.mem_cons.1 hz with rfl | hz
    · exact argV_in (hx x (by simp)) h1
    · exact args_in (i + 1) (fun y hy => hx y (by simp [hy])) h2 z hz

theorem reach_agree (h : Agree U hp hp') : ∀ (n : Nat) (todo acc : List Nat), (∀ i ∈ todo, U i) → reach hp n todo acc = reach hp' n todo acc
  | 0, todo, acc, _ => by simp only [reach]
  | n + 1, [], acc, _ => by simp only [reach]
  | n + 1, id :: todo, acc, ht => by
    simp only [reach]
    rw [reach_agree h n todo acc fun i hi => ht i (by simp [hi])]
    rw [← h.same id (ht id (by simp))]
    cases hl : lkp hp id with
    | none => simp only [reachGo]; rw [reach_agree h n todo acc fun i hi => ht i (by simp [hi])]
    | some o =>
      simp only [reachGo]
      rw [reach_agree h n (todo ++ orefs o) (acc ++ [id]) fun i hi => by
        rcases List.mem_append.1 hi with hi | hi
        · exact ht i (by simp [hi])
        · exact h.closed id o (ht id (by simp)) hl i hi]

theorem reach_in (h : Agree U hp hp') : ∀ (n : Nat) (todo acc : List Nat), (∀ i ∈ todo, U i) → (∀ i ∈ acc, U i) → ∀ i ∈ reach hp n todo acc, U i
  | 0, todo, acc, _, ha => by simp only [reach]; exact ha
  | n + 1, [], acc, _, ha => by simp only [reach]; exact ha
  | n + 1, id :: todo, acc, ht, ha => by
    simp only [reach]
    split
    · exact reach_in h n todo acc (fun i hi => ht i (by simp [hi])) ha
    · cases hl : lkp hp id with
      | none => simp only [reachGo]; exact reach_in h n todo acc (fun i hi => ht i (by simp [hi])) ha
      | some o =>
        simp only [reachGo]
        refine reach_in h n (todo ++ orefs o) (acc ++ [id]) (fun i hi => ?_) fun i hi => ?_
        · rcases List.mem_append.1 hi with hi | hi
          · exact ht i (by simp [hi])
          · exact h.closed id o (ht id (by simp)) hl i hi
        · rcases List.mem_append.1 hi with hi | hi
          · exact ha i hi
          · simp at hi; subst hi; exact ht i (by simp)

theorem lkpL_agree (h : Agree U hp hp') : ∀ {ids : List Nat}, (∀ i ∈ ids, U i) → lkpL hp ids = lkpL hp' ids
  | [], _ => rfl
  | i :: ids, hi => by simp only [lkpL, h.same i (hi i (by simp)), lkpL_agree h (ids := ids) fun j hj => hi j (List.mem_cons_of_mem _ hj)]

theorem callBack_agree (h : Agree U hp hp') {base : Nat} {ids lent : List Nat} (hi : ∀ i ∈ ids, U i) (hl : ∀ i ∈ lent, U i) (r : AV) (out : List AObj) : callBack hp base ids lent r out = callBack hp' base ids lent r out := by
  unfold callBack
  have : (ids.filter fun i => isRow (lkp hp i)) = ids.filter fun i => isRow (lkp hp' i) := List.filter_congr fun i hm => by rw [h.same i (hi i hm)]
  have h2 : ∀ {l : List Nat}, (∀ i ∈ l, U i) → (l.any fun i => isDeep (lkp hp i)) = l.any fun i => isDeep (lkp hp' i) := by
    intro l
    induction l with
    | nil => intro _; rfl
    | cons i l ih => intro hl; simp only [List.any_cons]; rw [h.same i (hl i (by simp)), ih fun k hk => hl k (by simp [hk])]
  rw [this, h2 hl]

theorem rows1_in (x : AV) : ∀ i ∈ rows1 x, i ∈ refs1 x := by
  intro i hi
  cases x <;> simp only [rows1, refs1] at hi ⊢ <;> first | exact hi | (simp at hi)

theorem rowsOf_in (x : AV) : ∀ i ∈ rowsOf x, i ∈ refs x := by
  intro i hi
  cases x with
  | agg cs =>
    obtain ⟨c, hc, hi⟩ := List.mem_flatMap.1 hi
    exact List.mem_flatMap.2 ⟨c, hc, rows1_in c i hi⟩
  | own id => exact hi
  | ownv id a b => exact hi
  | _ => simp [rowsOf, rows1] at hi

theorem lentOf_in : ∀ {xs ys : List AV}, (∀ x ∈ xs, InU U x) → ∀ i ∈ lentOf xs ys, U i
  | [], ys, _, i, hi => by cases ys <;> simp [lentOf] at hi
  | x :: xs, [], _, i, hi => by simp [lentOf] at hi
  | x :: xs, y :: ys, hx, i, hi => by
    have ih := lentOf_in (ys := ys) fun z hz => hx z (List.mem_cons_of_mem _ hz)
    cases y <;> simp only [lentOf] at hi <;> first | exact ih i hi | skip
    rcases List.mem_append.1 hi with hi | hi
    · exact hx x (by simp) i (rowsOf_in x i hi)
    · exact ih i hi

theorem flatIds_agree (h : Agree U hp hp') (rs : List Nat) : ∀ {ids : List Nat}, (∀ i ∈ ids, U i) → flatIds hp rs ids = flatIds hp' rs ids
  | [], _ => rfl
  | i :: ids, hi => by
    have ih := flatIds_agree h rs (ids := ids) fun k hk => hi k (by simp [hk])
    simp only [flatIds, List.all_cons] at ih ⊢
    rw [ih, h.1 i (hi i (by simp))]

theorem callv_agree (h : Agree U hp hp') (C : Orc) (m : Nat → Bool) (base f : Nat) {avs : List AV} (hx : ∀ x ∈ avs, InU U x) : callv C m hp base f avs = callv C m hp' base f avs := by
  unfold callv
  rw [← args_agree h m 0 hx]
  cases ha : args hp m 0 avs with
  | none => rfl
  | some as =>
    simp only [bnd]
    have hin := args_in 0 hx ha
    have ht : ∀ i ∈ as.flatMap refs, U i := fun i hi => by
      obtain ⟨y, hy, hi⟩ := List.mem_flatMap.1 hi
      exact hin y hy i hi
    have hf : fuelOf hp = fuelOf hp' := rfl
    rw [hf, ← reach_agree h (fuelOf hp') (as.flatMap refs) [] ht]
    have hids := reach_in h (fuelOf hp') (as.flatMap refs) [] ht (by simp)
    unfold callIds
    rw [lkpL_agree h hids, flatIds_agree h _ hids]
    congr 1
    congr 1
    funext q
    exact callBack_agree h hids (lentOf_in hx) q.1 q.2

theorem clo_in {f : Nat} {caps : List AV} (h : InU U (.clo f caps)) : ∀ x ∈ caps, x.atom = true → InU U x := by
  intro x hx ha id hid
  refine h id (List.mem_flatMap.2 ⟨x, hx, ?_⟩)
  cases x <;> first | exact hid | (simp [AV.atom] at ha)

end
end Go.Abs
