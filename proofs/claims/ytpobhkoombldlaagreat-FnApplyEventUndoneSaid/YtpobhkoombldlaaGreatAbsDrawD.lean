/- The abstract semantics: calls in regions that draw, done in another order. Own text. -/
import Derived.Test.YtpobhkoombldlaaGreatAbsDrawC
set_option linter.unusedVariables false
set_option linter.unusedSimpArgs false
namespace Go.Abs
open Go
theorem Zwo {hp : Hp} {m : Bool} {x y : AV} (h : Zfi hp m x = some y) : ∀ k ∈ ZbR y, k ∈ ZbR x := by
 intro k hk
 have nod : ∀ {r : Option D}, asD r = some y → False := fun {r} h => by
  obtain ⟨d, _, h⟩ := Za h
  cases h; simp [ZbR] at hk
 cases x <;> simp only [Zfi] at h <;> first | (exact (nod h).elim) | skip
 case d d => cases h; simp [ZbR] at hk
 case nil => cases m <;> simp only [Zh2] at h <;> (cases h; simp [ZbR] at hk)
 case nilp => cases h; exact hk
 case nili => cases h; exact hk
 case ptr a b => cases h; exact hk
 case pim c => cases h; exact hk
 case clo f c => cases h; exact hk
 case own id =>
  cases m <;> simp only [ZgH] at h
  ·exact (nod h).elim
  ·cases h; simp [ZbR] at hk
theorem Zqx {hp : Hp} {m : Nat → Bool} : ∀ {xs ys : List AV} (i : Nat), args hp m i xs = some ys → ∀ y ∈ ys, ∀ k ∈ ZbR y, ∃ x ∈ xs, k ∈ ZbR x
 | [], ys, i, h, y, hy, k, hk => by simp only [args] at h; cases h; simp at hy
 | x :: xs, ys, i, h, y, hy, k, hk => by
  simp only [args] at h
  obtain ⟨a, h1, h⟩ := Za h
  obtain ⟨as, h2, h⟩ := Za h
  cases h
  rcases List.mem_cons.1 hy with rfl | hy
  ·exact ⟨x, by simp, Zwo h1 k hk⟩
  ·obtain ⟨x', h3, h4⟩ := Zqx (i + 1) h2 y hy k hk
   exact ⟨x', by simp [h3], h4⟩
theorem Zoj {x : AV} : ∀ id ∈ Zcv x, id ∈ Zn x := by
 intro id h
 cases x <;> simp [Zcv] at h <;> simp [Zn, h]
theorem Ztj {x : AV} : ∀ id ∈ Zgu x, id ∈ ZF x := by
 intro id h
 cases x <;> simp only [Zgu] at h <;> first | exact Zoj id h | (simp [Zcv] at h; done) | skip
 case agg cs =>
  obtain ⟨c, h1, h2⟩ := List.mem_flatMap.1 h
  exact List.mem_flatMap.2 ⟨c, h1, Zoj id h2⟩
theorem Zmf : ∀ {xs ys : List AV}, ∀ i ∈ Vv xs ys, ∃ x ∈ xs, i ∈ ZF x
 | [], ys, i, h => by cases ys <;> simp [Vv] at h
 | x :: xs, [], i, h => by simp [Vv] at h
 | x :: xs, y :: ys, i, h => by
  have key : i ∈ Vv xs ys → ∃ x' ∈ x :: xs, i ∈ ZF x' := fun h => by
   obtain ⟨x', h1, h2⟩ := Zmf i h
   exact ⟨x', by simp [h1], h2⟩
  rw [Zl0] at h
  rcases List.mem_append.1 h with h | h
  ·cases y <;> simp only [Zvk] at h <;> first | (simp at h; done) | exact ⟨x, by simp, Ztj i h⟩
  ·exact key h
theorem Zwp {C : Orc} {m : Nat → Bool} {hp : Hp} {base f : Nat} {avs : List AV} {ce : Zf} (h : Zcy C m hp base f avs = some ce) :
  ce.eff.dels = [] ∧ (∀ i ∈ ce.eff.frz, ∃ a ∈ avs, i ∈ ZF a) ∧ (∀ i ∈ ce.gone, ∃ o, lkp hp i = some o) ∧ (∀ k o, (k, o) ∈ ce.eff.sets → (∃ o, lkp hp k = some o) ∧ (k ∈ ce.gone ∨ ∃ a ∈ avs, k ∈ ZbR a)) := by
 unfold Zcy at h
 obtain ⟨as, h1, h⟩ := Za h
 unfold Zel at h
 split at h
 ·rename_i hc
  obtain ⟨⟨r, out⟩, h2, h⟩ := Za h
  unfold ZaN at h
  split at h
  ·cases h
  split at h
  ·cases h
  ·cases h
   obtain ⟨_, _, hpres⟩ := ZbP hp (XE hp) (as.flatMap ZF) [] List.nodup_nil
   have hpres' : ∀ id ∈ QT hp (XE hp) (as.flatMap ZF) [], ∃ o, lkp hp id = some o := fun id hid => (hpres id hid).resolve_left (by simp)
   refine ⟨rfl, fun i hi => ?_, fun i hi => ?_, fun k o hk => ?_⟩
   ·simp only at hi
    split at hi
    ·simp at hi
    ·exact Zmf i hi
   ·exact hpres' i (List.mem_filter.1 hi).1
   ·obtain ⟨q, o0, h3, _, _⟩ := Zgy _ _ _ _ _ hk
    have hk' := List.mem_of_getElem? h3
    refine ⟨hpres' k hk', ?_⟩
    have := List.all_eq_true.1 hc.2.2 k hk'
    simp only [Bool.or_eq_true, List.contains_eq_mem, decide_eq_true_eq] at this
    rcases this with h4 | h4
    ·exact .inl (List.mem_filter.2 ⟨hk', h4⟩)
    ·obtain ⟨y, h5, h6⟩ := List.mem_flatMap.1 h4
     exact .inr (Zqx 0 h1 y h5 k h6)
 ·cases h
theorem ZhV : ∀ {l : Hp} {hp : Hp} {k : Nat} {o : Zr}, (∃ o', (k, o') ∈ l) → lkp (Zi hp l) k = some o → (k, o) ∈ l
 | [], hp, k, o, h, _ => by obtain ⟨o', h⟩ := h; simp at h
 | (a, x) :: r, hp, k, o, h, hl => by
  simp only [Zi] at hl
  by_cases h1 : ∃ o', (k, o') ∈ r
  ·exact List.mem_cons_of_mem _ (ZhV h1 hl)
  ·rw [Zz r _ k fun o' ho' => h1 ⟨o', ho'⟩, Qn] at hl
   obtain ⟨o', h2⟩ := h
   rcases List.mem_cons.1 h2 with h2 | h2
   ·cases h2
    rw [if_pos rfl] at hl
    cases hl
    exact List.mem_cons_self ..
   ·exact absurd ⟨o', h2⟩ h1
theorem ZdQ : ∀ {l : Hp} {hp hp' : Hp} {k : Nat}, (∃ o', (k, o') ∈ l) → lkp (Zi hp l) k = lkp (Zi hp' l) k
 | [], hp, hp', k, h => by obtain ⟨o', h⟩ := h; simp at h
 | (a, x) :: r, hp, hp', k, h => by
  simp only [Zi]
  by_cases h1 : ∃ o', (k, o') ∈ r
  ·exact ZdQ h1
  ·rw [Zz r _ k fun o' ho' => h1 ⟨o', ho'⟩, Zz r _ k fun o' ho' => h1 ⟨o', ho'⟩, Qn, Qn]
   obtain ⟨o', h2⟩ := h
   rcases List.mem_cons.1 h2 with h2 | h2
   ·cases h2; simp
   ·exact absurd ⟨o', h2⟩ h1
theorem Zbj : ∀ (l : Hp) {hp hp' : Hp} {k : Nat}, lkp hp k = lkp hp' k → lkp (Zi hp l) k = lkp (Zi hp' l) k
 | [], hp, hp', k, h => h
 | (a, x) :: r, hp, hp', k, h => by
  simp only [Zi]
  exact Zbj r (by rw [Qn, Qn, h])
theorem Zvs {ce : Zf} {dX dY : Option Nat} {v : AV} {ax : Hp} {s : Sl × Hp} (hd : Zbo dX dY = true) (hdel : ce.eff.dels = [])
  (h1 : ∀ k o, (k, o) ∈ ax → (∀ o', (k, o') ∉ ce.eff.sets) ∧ (∀ o', (k, o') ∉ ce.eff.adds) ∧ k ∉ ce.eff.frz) (h2 : ∀ k o, (k, o) ∈ ax → Ye ce.gone o = o) (hv : kill ce.gone v = v) :
  Yf (Zt (ce.on dY s.1 s.2).1 dX v, Zi (ce.on dY s.1 s.2).2 ax) (ce.on dY (Zt s.1 dX v) (Zi s.2 ax)) := by
 refine ⟨fun t => ?_, fun k => ?_⟩
 ·show gs (Zt (Zt (XF ce.gone s.1) dY ce.eff.val) dX v) t = gs (Zt (XF ce.gone (Zt s.1 dX v)) dY ce.eff.val) t
  simp only [QF, QY]
  by_cases hx : dX = some t
  ·have hy : ¬ dY = some t := fun e => by rw [hx, e] at hd; simp [Zbo] at hd
   simp [hx, hy, hv]
  ·simp [hx]
 ·show lkp (Zi (ce.eff.on (Vy ce.gone s.2)) ax) k = lkp (ce.eff.on (Vy ce.gone (Zi s.2 ax))) k
  unfold Eff.on
  rw [hdel]
  simp only [Qx]
  by_cases hk : ∃ o, (k, o) ∈ ax
  ·obtain ⟨o, ho⟩ := hk
   obtain ⟨g1, g2, g3⟩ := h1 k o ho
   rw [Zz _ (Zi (Qk ce.eff.frz (Vy ce.gone (Zi s.2 ax))) ce.eff.sets) k g2, Zz _ (Qk ce.eff.frz (Vy ce.gone (Zi s.2 ax))) k g1]
   rw [Qc, V3]
   rw [ZdQ (hp' := s.2) ⟨o, ho⟩]
   cases hl : lkp (Zi s.2 ax) k with
   | none => rfl
   | some o' =>
    have := h2 k o' (ZhV ⟨o, ho⟩ hl)
    simp [this, g3]
  ·have hk' : ∀ o, (k, o) ∉ ax := fun o ho => hk ⟨o, ho⟩
   rw [Zz ax _ k hk']
   refine Zbj _ (Zbj _ ?_)
   rw [Qc, Qc, V3, V3, Zz ax _ k hk']
structure Zlu (ce : Zf) : Prop where
 gone : ce.gone = []
 sets : ce.eff.sets = []
 dels : ce.eff.dels = []
 frz : ce.eff.frz = []
theorem Ztk {ce : Zf} (h : Zlu ce) (d : Option Nat) (s : Sl × Hp) : ce.on d s.1 s.2 = (Zt s.1 d ce.eff.val, Zi s.2 ce.eff.adds) := by
 unfold Zf.on Eff.on
 rw [h.gone, h.sets, h.dels, h.frz]
 rfl
theorem ZuG {C : Orc} {M : Zq} {nx i : Nat} {o : CO} {s s' : Sl × Hp} (h : ZU C M nx i false o s = some s') :
  (Z7 s.1 o.guard = some false ∧ s' = (Zt s.1 o.dst (.tup []), s.2)) ∨
  (Z7 s.1 o.guard = some true ∧ ∃ ce, Zlu ce ∧ vop C M s.1 s.2 (nx + 64 * i) o.op = some ce ∧ Q4 (nx + 64 * i) (nx + 64 * i + 64) ce.eff.adds = true ∧ s' = (Zt s.1 o.dst ce.eff.val, Zi s.2 ce.eff.adds)) := by
 unfold ZU at h
 obtain ⟨b, hw, h⟩ := Za h
 cases b with
 | true =>
  simp only [if_true] at h
  obtain ⟨ce, h1, h2, rfl⟩ := Xa h
  unfold W4 at h1
  simp only [Bool.false_eq_true, if_false] at h1
  unfold Zd9 at h1
  obtain ⟨c, h3, h1⟩ := Za h1
  unfold ZgR at h1
  split at h1
  ·rename_i e1 e2 e3 e4
   cases h1
   have hq : Zlu ce := ⟨e1, e2, e3, e4⟩
   exact .inr ⟨hw, ce, hq, h3, h2, Ztk hq _ s⟩
  ·cases h1
 | false =>
  simp only [Bool.false_eq_true, if_false] at h
  cases h
  exact .inl ⟨hw, rfl⟩
theorem Ziy {C : Orc} {M : Zq} {nx i : Nat} {o : CO} {s : Sl × Hp} {ce : Zf} (hw : Z7 s.1 o.guard = some true) (hq : Zlu ce) (hv : vop C M s.1 s.2 (nx + 64 * i) o.op = some ce) (hk : Q4 (nx + 64 * i) (nx + 64 * i + 64) ce.eff.adds = true) :
  ZU C M nx i false o s = some (Zt s.1 o.dst ce.eff.val, Zi s.2 ce.eff.adds) := by
 unfold ZU
 rw [hw, Zj]
 simp only [if_true]
 unfold Vj W4
 simp only [Bool.false_eq_true, if_false]
 rw [hv]
 simp only [Zd9, Zj, hq.gone, hq.sets, hq.dels, hq.frz, ZgR]
 rw [if_pos hk, Ztk hq _ s]
theorem Vg {C : Orc} {M : Zq} {nx i : Nat} {t : Bool} {o : CO} {s : Sl × Hp} (hw : Z7 s.1 o.guard = some false) : ZU C M nx i t o s = some (Zt s.1 o.dst (.tup []), s.2) := by
 unfold ZU
 rw [hw, Zj]
 rfl
theorem Ziz {sl sl' : Sl} {g : List Nat} {gd : Option (Nat × Bool)} (h : ∀ q, gd = some q → gs sl' q.1 = kill g (gs sl q.1)) : Z7 sl' gd = Z7 sl gd := by
 cases gd with
 | none => rfl
 | some q =>
  simp only [Z7, h q rfl]
  cases gs sl q.1 with
  | d x => rfl
  | tup vs => cases vs <;> rfl
  | ptr a b => simp only [kill, Z4, Qr]; split <;> rfl
  | prow a b c d => simp only [kill, Z4, Qr]; split <;> rfl
  | own a => simp only [kill, Z4, Qr]; split <;> rfl
  | ownv a b c => simp only [kill, Z4, Qr]; split <;> rfl
  | sub a b => simp only [kill, Z4, Qr]; split <;> rfl
  | _ => rfl
end Go.Abs
