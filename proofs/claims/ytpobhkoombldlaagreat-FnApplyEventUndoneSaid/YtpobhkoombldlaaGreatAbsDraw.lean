/- The abstract semantics: what an operation looks at. Own text. -/
import Derived.Test.YtpobhkoombldlaaGreatAbsSound2
set_option linter.unusedVariables false
set_option linter.unusedSimpArgs false
namespace Go.Abs
open Go
theorem ZfE {sl sl' : Sl} : ∀ {xs : List Opd}, (∀ x ∈ xs, evO sl x = evO sl' x) → evL sl xs = evL sl' xs
 | [], _ => rfl
 | x :: xs, h => by simp only [evL, h x (by simp), ZfE (xs := xs) fun y hy => h y (List.mem_cons_of_mem _ hy)]
theorem Zqo {sl sl' : Sl} : ∀ {xs : List (Nat × Nat × Opd)}, (∀ x ∈ xs.map (fun q => q.2.2), evO sl x = evO sl' x) → evP sl xs = evP sl' xs
 | [], _ => rfl
 | (a, b, x) :: xs, h => by simp only [evP, h x (by simp), Zqo (xs := xs) fun y hy => h y (by simp only [List.map_cons, List.mem_cons]; exact .inr hy)]
theorem Ziv {sl sl' : Sl} {x : Option Opd} (h : ∀ y ∈ ZoL x, evO sl y = evO sl' y) : evM sl x = evM sl' x := by
 cases x with
 | none => rfl
 | some y => simp only [evM, h y (by simp [ZoL])]
theorem XH (C : Orc) (M : Zq) {sl sl' : Sl} (hp : Hp) (base : Nat) : ∀ {c : COp}, (∀ x ∈ ZM c, evO sl x = evO sl' x) → vop C M sl hp base c = vop C M sl' hp base c := by
 intro c h
 cases c <;> simp only [ZM] at h <;> simp only [vop]
 case move x => rw [h x (by simp)]
 case assign s x => rw [h x (by simp)]
 case pick c a b => rw [h c (by simp), h a (by simp), h b (by simp)]
 case box x => rw [h x (by simp)]
 case build zs ps => rw [Zqo h]
 case buildSl s xs => rw [ZfE h]
 case load g s a => rw [h a (by simp)]
 case store slc s a x => rw [h a (by simp), h x (by simp)]
 case nilCheck x => rw [h x (by simp)]
 case bin op eq x y => rw [h x (by simp), h y (by simp)]
 case un op x => rw [h x (by simp)]
 case eqA neg n x y => rw [h x (by simp), h y (by simp)]
 case convI k x => rw [h x (by simp)]
 case convS x => rw [h x (by simp)]
 case fn f cs => rw [ZfE h]
 case make s b z l c => rw [h l (by simp), h c (by simp)]
 case slice s x lo hi => rw [h x (by simp), Ziv fun y hy => h y (by simp [hy]), Ziv (x := hi) fun y hy => h y (by simp [hy])]
 case sliceS x lo hi => rw [h x (by simp), Ziv fun y hy => h y (by simp [hy]), Ziv (x := hi) fun y hy => h y (by simp [hy])]
 case slice0 x hi mx => rw [h x (by simp), h hi (by simp), h mx (by simp)]
 case shift off x => rw [h x (by simp)]
 case part g s off x => rw [h x (by simp)]
 case iaS s x i => rw [h x (by simp), h i (by simp)]
 case iaA len s x i => rw [h x (by simp), h i (by simp)]
 case ixS x i => rw [h x (by simp), h i (by simp)]
 case ixA g s len x i => rw [h x (by simp), h i (by simp)]
 case nth i x => rw [h x (by simp)]
 case len x => rw [h x (by simp)]
 case lenS x => rw [h x (by simp)]
 case append s b str flat x y => rw [h x (by simp), h y (by simp)]
 case min x y => rw [h x (by simp), h y (by simp)]
 case max x y => rw [h x (by simp), h y (by simp)]
 case slice3 s x lo hi mx => rw [h x (by simp), h lo (by simp), h hi (by simp), h mx (by simp)]
 case clear s z x => rw [h x (by simp)]
 case buildDp s n xs => rw [ZfE h]
 case appDp s b f x y => rw [h x (by simp), h y (by simp)]
 case asgDp s n x => rw [h x (by simp)]
 case call f as => rw [h f (by simp), ZfE (xs := as) fun y hy => h y (List.mem_cons_of_mem _ hy)]
section
variable {U : Nat → Prop} {hp hp' : Hp}
structure XJ (U : Nat → Prop) (hp hp' : Hp) : Prop where
 same : ∀ id, U id → lkp hp id = lkp hp' id
 closed : ∀ id o, U id → lkp hp id = some o → ∀ i ∈ ZbO o, U i
def InU (U : Nat → Prop) (x : AV) : Prop := ∀ id ∈ ZF x, U id
theorem Zs1 (h : XJ U hp hp') {x : AV} (hx : InU U x) (g : Bool) (s : Nat) : Jz hp g s x = Jz hp' g s x := by
 cases x <;> simp only [Jz]
 case ptr id off => rw [h.same id (hx id (by simp [ZF, ZG, Zn]))]
 case prow id sz i off => rw [h.same id (hx id (by simp [ZF, ZG, Zn]))]
theorem Zlp (h : XJ U hp hp') {x : AV} (hx : InU U x) (sz n : Nat) : QJ hp sz n x = QJ hp' sz n x := by
 cases x <;> simp only [QJ]
 case d x => cases x <;> rfl
 case own id => rw [h.same id (hx id (by simp [ZF, ZG, Zn]))]
 case ownv id off m => rw [h.same id (hx id (by simp [ZF, ZG, Zn]))]
theorem ZrE (h : XJ U hp hp') {x : AV} (hx : InU U x) (s : Nat) (lo hi : Option AV) : WS hp s lo hi x = WS hp' s lo hi x := by
 cases x <;> simp only [WS]
 case d x => cases x <;> rfl
 case own id => rw [h.same id (hx id (by simp [ZF, ZG, Zn]))]
 case ownv id off m => rw [h.same id (hx id (by simp [ZF, ZG, Zn]))]
theorem Zjy (h : XJ U hp hp') {x : AV} (hx : InU U x) : Zfd hp x = Zfd hp' x := by
 cases x <;> simp only [Zfd]
 case d x => cases x <;> rfl
 case own id => rw [h.same id (hx id (by simp [ZF, ZG, Zn]))]
theorem ZrF (h : XJ U hp hp') {x : AV} (hx : InU U x) (s : Nat) (z : D) : Zfh hp s z x = Zfh hp' s z x := by
 cases x <;> simp only [Zfh]
 case ownv id off m => rw [h.same id (hx id (by simp [ZF, ZG, Zn]))]
theorem Zl3 (h : XJ U hp hp') {x : AV} (hx : InU U x) (flat : Bool) : ZfO hp flat x = ZfO hp' flat x := by
 cases x <;> simp only [ZfO]
 case d x => cases x <;> rfl
 case own id => rw [h.same id (hx id (by simp [ZF, ZG, Zn]))]
 case ownv id off m => rw [h.same id (hx id (by simp [ZF, ZG, Zn]))]
theorem Zs2 (h : XJ U hp hp') {x : AV} (hx : InU U x) (sz b base : Nat) (src : List Nat) (ys : List D) (ex : Bool) : Zh0 hp sz b base src ys ex x = Zh0 hp' sz b base src ys ex x := by
 cases x <;> simp only [Zh0]
 case own id => rw [h.same id (hx id (by simp [ZF, ZG, Zn]))]
 case ownv id off m => rw [h.same id (hx id (by simp [ZF, ZG, Zn]))]
theorem ZpQ (h : XJ U hp hp') {x : AV} (hx : InU U x) : Zeo hp x = Zeo hp' x := by
 cases x <;> simp only [Zeo]
 case own id => rw [h.same id (hx id (by simp [ZF, ZG, Zn]))]
theorem ZpR (h : XJ U hp hp') {x : AV} (hx : InU U x) (s b base id n : Nat) (ys : List D) : ZcN hp s b base id n ys x = ZcN hp' s b base id n ys x := by
 cases x <;> simp only [ZcN]
 case own k => rw [h.same k (hx k (by simp [ZF, ZG, Zn]))]
theorem Zi9 (h : XJ U hp hp') {x y : AV} (hx : InU U x) (hy : InU U y) (s b : Nat) (str flat : Bool) (base : Nat) : UW hp s b str flat base x y = UW hp' s b str flat base x y := by
 unfold UW
 rw [Zl3 h hy]
 congr 1
 funext q
 rw [Zs2 h hx]
theorem Zkp (h : XJ U hp hp') {x : AV} (hx : InU U x) : YW hp x = YW hp' x := by
 cases x <;> simp only [YW]
 case own id => rw [h.same id (hx id (by simp [ZF, ZG, Zn]))]
theorem ZrG (h : XJ U hp hp') (ids : List Nat) : XJ U (meltIn hp ids) (meltIn hp' ids) := by
 refine ⟨fun id hid => by rw [JS, JS, h.same id hid], fun id o hid hl => ?_⟩
 rw [JS] at hl
 cases hl0 : lkp hp id with
 | none => rw [hl0] at hl; cases hl
 | some o0 =>
  rw [hl0] at hl
  simp only [Option.map_some, Option.some.injEq] at hl
  subst hl
  have := h.closed id o0 hid hl0
  split
  ·cases o0 <;> exact this
  ·exact this
theorem ZpS (h : XJ U hp hp') {x y : AV} (hx : InU U x) (hy : InU U y) (s b : Nat) (str flat : Bool) (base : Nat) (ms : List Nat) : Wq hp s b str flat base x y ms = Wq hp' s b str flat base x y ms := by
 cases ms with
 | nil => exact Zi9 h hx hy s b str flat base
 | cons i r => simp only [Wq]; rw [Zi9 (ZrG h (i :: r)) hx hy]
theorem Zs3 (h : XJ U hp hp') {x y : AV} (hx : InU U x) (hy : InU U y) (s b : Nat) (str flat : Bool) (base : Nat) : ZfQ hp s b str flat base y x = ZfQ hp' s b str flat base y x := by
 cases x <;> simp only [ZfQ] <;> first | (rw [Zkp h hx, Zkp h hy]; exact ZpS h hx hy s b str flat base _) | skip
 rename_i id nm
 rw [Zl3 h hy, h.same id (hx id (by simp [ZF, ZG, Zn]))]
theorem Zup (h : XJ U hp hp') {x y : AV} (hx : InU U x) (hy : InU U y) (s b base : Nat) : ZpZ hp s b base x y = ZpZ hp' s b base x y := by
 unfold ZpZ
 rw [ZpQ h hy]
 congr 2
 funext q
 rw [ZpR h hx]
theorem Zs4 (h : XJ U hp hp') {n : Nat} {x : AV} (hx : ∀ id ∈ Zn x, U id) : Zen hp n x = Zen hp' n x := by
 cases x <;> simp only [Zen]
 case own id => rw [h.same id (hx id (by simp [Zn]))]
theorem Zl4 (h : XJ U hp hp') {n : Nat} : ∀ {xs : List AV}, (∀ id ∈ xs.flatMap Zn, U id) → ZfP hp n xs = ZfP hp' n xs
 | [], _ => rfl
 | x :: xs, hx => by
  simp only [ZfP]
  rw [Zs4 h fun id hid => hx id (by simp only [List.flatMap_cons, List.mem_append]; exact .inl hid), Zl4 h (xs := xs) fun id hid => hx id (by simp only [List.flatMap_cons, List.mem_append]; exact .inr hid)]
theorem ZpT (h : XJ U hp hp') {base s n : Nat} {xs : List AV} (hx : ∀ x ∈ xs, InU U x) : buildDp hp base s n xs = buildDp hp' base s n xs := by
 cases xs with
 | nil => rfl
 | cons x xs =>
  cases xs with
  | cons y ys => cases x <;> rfl
  | nil =>
   cases x <;> simp only [buildDp]
   rename_i cs
   rw [Zl4 h (hx (.agg cs) (by simp))]
theorem Zl5 (h : XJ U hp hp') {x : AV} (hx : ∀ id ∈ Zn x, U id) : Zcw hp x = Zcw hp' x := by
 cases x <;> simp only [Zcw]
 case own id => rw [h.same id (hx id (by simp [Zn]))]
theorem ZhR (h : XJ U hp hp') : ∀ {xs : List AV}, (∀ id ∈ xs.flatMap Zn, U id) → WW hp xs = WW hp' xs
 | [], _ => rfl
 | x :: xs, hx => by
  simp only [WW]
  rw [Zl5 h fun id hid => hx id (by simp only [List.flatMap_cons, List.mem_append]; exact .inl hid), ZhR h (xs := xs) fun id hid => hx id (by simp only [List.flatMap_cons, List.mem_append]; exact .inr hid)]
theorem ZrH (h : XJ U hp hp') {x : AV} (hx : InU U x) (slc : List (Option Nat)) (s base : Nat) (vs : List AV) (hv : ∀ id ∈ vs.flatMap Zn, U id) : Zbl hp slc s base vs x = Zbl hp' slc s base vs x := by
 cases x <;> simp only [Zbl]
 case ptr id off => rw [h.same id (hx id (by simp [ZF, ZG, Zn]))]
 case prow id sz i off =>
  rw [h.same id (hx id (by simp [ZF, ZG, Zn]))]
  unfold ZdT
  rw [ZhR h hv]
theorem Zs5 {x : AV} (hx : InU U x) : ∀ id ∈ x.cells.flatMap Zn, U id := by
 intro id hid
 refine hx id ?_
 cases x <;> simp only [AV.cells] at hid <;> first
  | (simp [Zn] at hid; done)
  | (obtain ⟨c, hc, hci⟩ := List.mem_flatMap.1 hid; obtain ⟨y, _, rfl⟩ := List.mem_map.1 hc; simp [Zn] at hci; done)
  | (simpa [ZF, ZG, Zn] using hid)
theorem Zuq (h : XJ U hp hp') {x : AV} (hx : InU U x) : give hp x = give hp' x := by
 cases x with
 | agg cs => simp only [give]; rw [ZhR h hx]
 | own id => exact Zl5 h (x := .own id) hx
 | _ => rfl
theorem Zja (h : XJ U hp hp') : ∀ {xs : List AV}, (∀ x ∈ xs, InU U x) → UU hp xs = UU hp' xs
 | [], _ => rfl
 | x :: xs, hx => by
  simp only [UU]
  rw [Zuq h (hx x (by simp)), Zja h (xs := xs) fun y hy => hx y (List.mem_cons_of_mem _ hy)]
theorem Zgz (h : XJ U hp hp') {x : AV} (hx : ∀ id ∈ Zn x, U id) : ZiR hp x = ZiR hp' x := by
 cases x <;> simp only [ZiR]
 case own id => rw [h.same id (hx id (by simp [Zn]))]
 case ownv id off n => rw [h.same id (hx id (by simp [Zn]))]
theorem Zn0 (h : XJ U hp hp') : ∀ {xs : List AV}, (∀ id ∈ xs.flatMap Zn, U id) → QP (ZiR hp) xs = QP (ZiR hp') xs
 | [], _ => rfl
 | x :: xs, hx => by
  simp only [QP]
  rw [Zgz h fun id hid => hx id (by simp only [List.flatMap_cons, List.mem_append]; exact .inl hid), Zn0 h (xs := xs) fun id hid => hx id (by simp only [List.flatMap_cons, List.mem_append]; exact .inr hid)]
theorem Zqp (h : XJ U hp hp') {x : AV} (hx : InU U x) : toD hp x = toD hp' x := by
 cases x with
 | agg cs => simp only [toD]; rw [Zn0 h hx]
 | own id => exact Zgz h (x := .own id) hx
 | ownv id off n => exact Zgz h (x := .ownv id off n) hx
 | _ => rfl
theorem Zur (h : XJ U hp hp') (m : Bool) {x : AV} (hx : InU U x) : Zfi hp m x = Zfi hp' m x := by
 cases x with
 | own id =>
  simp only [Zfi]
  cases m
  ·simp only [ZgH]; rw [Zgz h (x := .own id) hx]
  ·rfl
 | agg cs => simp only [Zfi]; rw [Zqp h hx]
 | ownv id off n => simp only [Zfi]; rw [Zqp h hx]
 | _ => rfl
theorem Zn1 (h : XJ U hp hp') (m : Nat → Bool) : ∀ {xs : List AV} (i : Nat), (∀ x ∈ xs, InU U x) → args hp m i xs = args hp' m i xs
 | [], i, _ => rfl
 | x :: xs, i, hx => by
  simp only [args]
  rw [Zur h (m i) (hx x (by simp)), Zn1 h m (xs := xs) (i + 1) fun y hy => hx y (List.mem_cons_of_mem _ hy)]
theorem ZAJ {m : Bool} {x y : AV} (hx : InU U x) (h : Zfi hp m x = some y) : InU U y := by
 unfold Zfi at h
 split at h
 ·cases h; exact hx
 ·cases h; exact hx
 ·cases h; exact hx
 ·cases h; exact hx
 ·cases h; exact hx
 ·rename_i id
  cases m
  ·simp only [ZgH, asD] at h
   obtain ⟨d, _, h⟩ := Za h; cases h
   exact fun id hid => by simp [ZF, ZG, Zn] at hid
  ·simp only [ZgH] at h; cases h; exact hx
 ·cases m
  ·simp only [Zh2] at h; cases h
   exact fun id hid => by simp [ZF, ZG, Zn] at hid
  ·simp only [Zh2] at h; cases h; exact hx
 ·cases h; exact hx
 ·obtain ⟨d, _, h⟩ := Za h; cases h
  exact fun id hid => by simp [ZF, ZG, Zn] at hid
theorem Zvn {m : Nat → Bool} : ∀ {xs ys : List AV} (i : Nat), (∀ x ∈ xs, InU U x) → args hp m i xs = some ys → ∀ y ∈ ys, InU U y
 | [], ys, i, _, h => by simp only [args] at h; cases h; simp
 | x :: xs, ys, i, hx, h => by
  simp only [args] at h
  obtain ⟨y, h1, h⟩ := Za h
  obtain ⟨ys', h2, h⟩ := Za h
  cases h
  intro z hz
  rcases List.mem_cons.1 hz with rfl | hz
  ·exact ZAJ (hx x (by simp)) h1
  ·exact Zvn (i + 1) (fun y hy => hx y (by simp [hy])) h2 z hz
theorem Zei (h : XJ U hp hp') : ∀ (n : Nat) (todo acc : List Nat), (∀ i ∈ todo, U i) → QT hp n todo acc = QT hp' n todo acc
 | 0, todo, acc, _ => by simp only [QT]
 | n + 1, [], acc, _ => by simp only [QT]
 | n + 1, id :: todo, acc, ht => by
  simp only [QT]
  rw [Zei h n todo acc fun i hi => ht i (by simp [hi])]
  rw [← h.same id (ht id (by simp))]
  cases hl : lkp hp id with
  | none => simp only [ZaL]; rw [Zei h n todo acc fun i hi => ht i (by simp [hi])]
  | some o =>
   simp only [ZaL]
   rw [Zei h n (todo ++ ZbO o) (acc ++ [id]) fun i hi => by
    rcases List.mem_append.1 hi with hi | hi
    ·exact ht i (by simp [hi])
    ·exact h.closed id o (ht id (by simp)) hl i hi]
theorem Zkq (h : XJ U hp hp') : ∀ (n : Nat) (todo acc : List Nat), (∀ i ∈ todo, U i) → (∀ i ∈ acc, U i) → ∀ i ∈ QT hp n todo acc, U i
 | 0, todo, acc, _, ha => by simp only [QT]; exact ha
 | n + 1, [], acc, _, ha => by simp only [QT]; exact ha
 | n + 1, id :: todo, acc, ht, ha => by
  simp only [QT]
  split
  ·exact Zkq h n todo acc (fun i hi => ht i (by simp [hi])) ha
  ·cases hl : lkp hp id with
   | none => simp only [ZaL]; exact Zkq h n todo acc (fun i hi => ht i (by simp [hi])) ha
   | some o =>
    simp only [ZaL]
    refine Zkq h n (todo ++ ZbO o) (acc ++ [id]) (fun i hi => ?_) fun i hi => ?_
    ·rcases List.mem_append.1 hi with hi | hi
     ·exact ht i (by simp [hi])
     ·exact h.closed id o (ht id (by simp)) hl i hi
    ·rcases List.mem_append.1 hi with hi | hi
     ·exact ha i hi
     ·simp at hi; subst hi; exact ht i (by simp)
theorem Zn2 (h : XJ U hp hp') : ∀ {ids : List Nat}, (∀ i ∈ ids, U i) → ZdW hp ids = ZdW hp' ids
 | [], _ => rfl
 | i :: ids, hi => by simp only [ZdW, h.same i (hi i (by simp)), Zn2 h (ids := ids) fun j hj => hi j (List.mem_cons_of_mem _ hj)]
theorem Zn3 (h : XJ U hp hp') {base : Nat} {ids lent : List Nat} (hi : ∀ i ∈ ids, U i) (hl : ∀ i ∈ lent, U i) (r : AV) (out : List Zr) : ZaN hp base ids lent r out = ZaN hp' base ids lent r out := by
 unfold ZaN
 have : (ids.filter fun i => Vw (lkp hp i)) = ids.filter fun i => Vw (lkp hp' i) := List.filter_congr fun i hm => by rw [h.same i (hi i hm)]
 have h2 : ∀ {l : List Nat}, (∀ i ∈ l, U i) → (l.any fun i => Zco (lkp hp i)) = l.any fun i => Zco (lkp hp' i) := by
  intro l
  induction l with
  | nil => intro _; rfl
  | cons i l ih => intro hl; simp only [List.any_cons]; rw [h.same i (hl i (by simp)), ih fun k hk => hl k (by simp [hk])]
 rw [this, h2 hl]
theorem ZxC (x : AV) : ∀ i ∈ Zcv x, i ∈ Zn x := by
 intro i hi
 cases x <;> simp only [Zcv, Zn] at hi ⊢ <;> first | exact hi | (simp at hi)
theorem Zv6 (x : AV) : ∀ i ∈ Zgu x, i ∈ ZF x := by
 intro i hi
 cases x with
 | agg cs =>
  obtain ⟨c, hc, hi⟩ := List.mem_flatMap.1 hi
  exact List.mem_flatMap.2 ⟨c, hc, ZxC c i hi⟩
 | own id => exact hi
 | ownv id a b => exact hi
 | _ => simp [Zgu, Zcv] at hi
theorem Zqq : ∀ {xs ys : List AV}, (∀ x ∈ xs, InU U x) → ∀ i ∈ Vv xs ys, U i
 | [], ys, _, i, hi => by cases ys <;> simp [Vv] at hi
 | x :: xs, [], _, i, hi => by simp [Vv] at hi
 | x :: xs, y :: ys, hx, i, hi => by
  have ih := Zqq (ys := ys) fun z hz => hx z (List.mem_cons_of_mem _ hz)
  cases y <;> simp only [Vv] at hi <;> first | exact ih i hi | skip
  rcases List.mem_append.1 hi with hi | hi
  ·exact hx x (by simp) i (Zv6 x i hi)
  ·exact ih i hi
theorem Zjb (h : XJ U hp hp') (rs : List Nat) : ∀ {ids : List Nat}, (∀ i ∈ ids, U i) → ZcM hp rs ids = ZcM hp' rs ids
 | [], _ => rfl
 | i :: ids, hi => by
  have ih := Zjb h rs (ids := ids) fun k hk => hi k (by simp [hk])
  simp only [ZcM, List.all_cons] at ih ⊢
  rw [ih, h.1 i (hi i (by simp))]
theorem Zs6 (h : XJ U hp hp') (C : Orc) (m : Nat → Bool) (base f : Nat) {avs : List AV} (hx : ∀ x ∈ avs, InU U x) : Zcy C m hp base f avs = Zcy C m hp' base f avs := by
 unfold Zcy
 rw [← Zn1 h m 0 hx]
 cases ha : args hp m 0 avs with
 | none => rfl
 | some as =>
  simp only [bnd]
  have hin := Zvn 0 hx ha
  have ht : ∀ i ∈ as.flatMap ZF, U i := fun i hi => by
   obtain ⟨y, hy, hi⟩ := List.mem_flatMap.1 hi
   exact hin y hy i hi
  have hf : XE hp = XE hp' := rfl
  rw [hf, ← Zei h (XE hp') (as.flatMap ZF) [] ht]
  have hids := Zkq h (XE hp') (as.flatMap ZF) [] ht (by simp)
  unfold Zel
  rw [Zn2 h hids, Zjb h _ hids]
  congr 1
  congr 1
  funext q
  exact Zn3 h hids (Zqq hx) q.1 q.2
theorem clo_in {f : Nat} {caps : List AV} (h : InU U (.clo f caps)) : ∀ x ∈ caps, x.atom = true → InU U x := by
 intro x hx ha id hid
 refine h id (List.mem_flatMap.2 ⟨x, hx, ?_⟩)
 cases x <;> first | exact hid | (simp [AV.atom] at ha)
end
end Go.Abs
