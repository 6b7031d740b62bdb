/- The abstract semantics: operations done in any order come to the same. Own text. -/
import Derived.Test.YtpobhkoombldlaaGreatAbsDraw2
set_option linter.unusedVariables false
set_option linter.unusedSimpArgs false
namespace Go.Abs
open Go
def Yf (s s' : Sl × Hp) : Prop := (∀ t, gs s.1 t = gs s'.1 t) ∧ ∀ id, lkp s.2 id = lkp s'.2 id
theorem Yf.refl (s : Sl × Hp) : Yf s s := ⟨fun _ => rfl, fun _ => rfl⟩
theorem Yf.symm {s s' : Sl × Hp} (h : Yf s s') : Yf s' s := ⟨fun t => (h.1 t).symm, fun id => (h.2 id).symm⟩
theorem Yf.trans {a b c : Sl × Hp} (h : Yf a b) (k : Yf b c) : Yf a c := ⟨fun t => (h.1 t).trans (k.1 t), fun id => (h.2 id).trans (k.2 id)⟩
theorem ZcI : ∀ (l : Hp) {hp hp' : Hp}, (∀ id, lkp hp id = lkp hp' id) → ∀ id, lkp (Zi hp l) id = lkp (Zi hp' l) id
 | [], _, _, h => h
 | (k, o) :: r, hp, hp', h => by
  simp only [Zi]
  exact ZcI r fun id => by rw [Qn, Qn, h id]
theorem Zks : ∀ (l : List Nat) {hp hp' : Hp}, (∀ id, lkp hp id = lkp hp' id) → ∀ id, lkp (Qx hp l) id = lkp (Qx hp' l) id
 | [], _, _, h => h
 | d :: r, hp, hp', h => by
  simp only [Qx]
  exact Zks r fun id => by rw [ZiM, ZiM, h id]
theorem ZxE (ce : Zf) (dst : Option Nat) {s s' : Sl × Hp} (h : Yf s s') : Yf (ce.on dst s.1 s.2) (ce.on dst s'.1 s'.2) := by
 refine ⟨fun t => ?_, fun id => ?_⟩
 ·show gs (Zt (XF ce.gone s.1) dst ce.eff.val) t = gs (Zt (XF ce.gone s'.1) dst ce.eff.val) t
  rw [QF, QF, QY, QY, h.1 t]
 ·exact ZcI _ (ZcI _ (Zks _ fun id => by rw [Qc, Qc, V3, V3, h.2 id])) id
noncomputable def ZU (C : Orc) (M : Zq) (nx i : Nat) (t : Bool) (o : CO) (s : Sl × Hp) : Option (Sl × Hp) :=
 bnd (Z7 s.1 o.guard) fun b => if b then Vj (nx + 64 * i) o.dst s.1 s.2 (W4 C M nx i t o.op s.1 s.2) else some (Zt s.1 o.dst (.tup []), s.2)
noncomputable def ZK (C : Orc) (M : Zq) (os : List CO) (nx i : Nat) (s : Sl × Hp) : Option (Sl × Hp) := bnd os[i]? fun o => ZU C M nx i (Z1 os i) o s
noncomputable def ZgA (C : Orc) (M : Zq) (os : List CO) (nx : Nat) : List Nat → Sl × Hp → Option (Sl × Hp)
 | [], s => some s
 | i :: l, s => bnd (ZK C M os nx i s) (ZgA C M os nx l)
theorem Zjz (C : Orc) (M : Zq) (os : List CO) (nx : Nat) : ∀ (rest : List CO) (i : Nat) (t : Bool) (sl : Sl) (hp : Hp), os.drop i = rest →
  JC C M nx i t rest sl hp = ZgA C M os nx (List.range' i rest.length) (sl, hp)
 | [], i, t, sl, hp, _ => rfl
 | o :: rest, i, t, sl, hp, hd => by
  have h1 : os[i]? = some o := by
   have : (os.drop i)[0]? = some o := by rw [hd]; rfl
   rw [List.getElem?_drop] at this; simpa using this
  have h2 : os.drop (i + 1) = rest := by rw [← List.drop_drop, hd]; rfl
  have h4 : CO.starts o = Z1 os i := by simp only [Z1, h1]
  simp only [JC, List.length_cons, List.range'_succ, ZgA, ZK, h1, Zj, ZU, h4]
  cases hw : Z7 sl o.guard with
  | none => rfl
  | some b =>
   cases b with
   | true =>
    simp only [Zj, if_true]
    cases hs : Vj (nx + 64 * i) o.dst sl hp (W4 C M nx i (Z1 os i) o.op sl hp) with
    | none => rfl
    | some r =>
     simp only [Zj]
     exact Zjz C M os nx rest (i + 1) t r.1 r.2 h2
   | false =>
    simp only [Zj, Bool.false_eq_true, if_false]
    exact Zjz C M os nx rest (i + 1) t _ _ h2
theorem Zus {hp hp' : Hp} (h : ∀ id, lkp hp id = lkp hp' id) : XJ (fun _ => True) hp hp' := ⟨fun id _ => h id, fun _ _ _ _ _ _ => trivial⟩
theorem Zv8 (C : Orc) (M : Zq) {s s' : Sl × Hp} (h : Yf s s') (base : Nat) (c : COp) : vop C M s.1 s.2 base c = vop C M s'.1 s'.2 base c := by
 have h1 : ∀ x : Opd, evO s.1 x = evO s'.1 x := fun x => by cases x <;> simp only [evO]; exact h.1 _
 rw [XH C M s.2 base (sl := s.1) (sl' := s'.1) fun x _ => h1 x]
 exact Zbi (Zus h.2) C M base fun x _ => ⟨fun _ _ => trivial, fun _ _ _ _ _ _ _ => trivial⟩
theorem Zs8 {s s' : Sl × Hp} (h : Yf s s') (g : Option (Nat × Bool)) : Z7 s.1 g = Z7 s'.1 g := by
 cases g with
 | none => rfl
 | some q => simp only [Z7, h.1]
theorem Zs9 {C : Orc} {M : Zq} {os : List CO} {nx i : Nat} {s s' r : Sl × Hp} (h : Yf s s') (hr : ZK C M os nx i s = some r) : ∃ r', ZK C M os nx i s' = some r' ∧ Yf r r' := by
 unfold ZK at hr ⊢
 obtain ⟨o, h1, hr⟩ := Za hr
 rw [h1, Zj]
 unfold ZU at hr ⊢
 obtain ⟨b, h2, hr⟩ := Za hr
 rw [← Zs8 h, h2, Zj]
 cases b with
 | true =>
  simp only [if_true] at hr ⊢
  obtain ⟨ce, h3, h4, rfl⟩ := Xa hr
  have h5 : W4 C M nx i (Z1 os i) o.op s'.1 s'.2 = some ce := by
   rw [← h3]; unfold W4; rw [Zv8 C M h]
  refine ⟨ce.on o.dst s'.1 s'.2, ?_, ZxE ce o.dst h⟩
  unfold Vj
  rw [h5, Zj, if_pos h4]
 | false =>
  simp only [Bool.false_eq_true, if_false] at hr ⊢
  cases hr
  refine ⟨_, rfl, fun t => ?_, h.2⟩
  show gs (Zt s.1 o.dst (.tup [])) t = gs (Zt s'.1 o.dst (.tup [])) t
  rw [QF, QF, h.1 t]
theorem Zn6 {C : Orc} {M : Zq} {os : List CO} {nx : Nat} : ∀ {l : List Nat} {s s' r : Sl × Hp}, Yf s s' → ZgA C M os nx l s = some r → ∃ r', ZgA C M os nx l s' = some r' ∧ Yf r r'
 | [], s, s', r, h, hr => by simp only [ZgA] at hr ⊢; cases hr; exact ⟨s', rfl, h⟩
 | i :: l, s, s', r, h, hr => by
  simp only [ZgA] at hr ⊢
  obtain ⟨s1, h1, hr⟩ := Za hr
  obtain ⟨s1', h2, h3⟩ := Zs9 h h1
  rw [h2, Zj]
  exact Zn6 h3 hr
theorem QI {sl : Sl} {d : Option Nat} {v : AV} {o : CO} (h : QU d (Vx o) = true) : Z7 (Zt sl d v) o.guard = Z7 sl o.guard := by
 cases hg : o.guard with
 | none => rfl
 | some q =>
  simp only [Z7]
  rw [QF, if_neg]
  intro e
  rw [e] at h
  simp [QU, Vx, hg, ZoN] at h
theorem Uq {sl : Sl} {d : Option Nat} {v : AV} {o : CO} (h : QU d (Vx o) = true) : ∀ x ∈ ZM o.op, evO (Zt sl d v) x = evO sl x := by
 intro x hx
 cases x with
 | t n =>
  simp only [evO]
  rw [QF, if_neg]
  intro e
  rw [e] at h
  simp only [QU, Vx, Bool.not_eq_true', List.contains_eq_mem, decide_eq_false_iff_not] at h
  exact h (List.mem_append.2 (.inl (List.mem_flatMap.2 ⟨_, hx, by simp [Zcp]⟩)))
 | _ => rfl
theorem ZjA {C : Orc} {M : Zq} {nx i : Nat} {o : CO} {s s' : Sl × Hp} (h : ZU C M nx i false o s = some s') :
  ∃ v adds, s' = (Zt s.1 o.dst v, Zi s.2 adds) ∧ (∀ k x, (k, x) ∈ adds → nx + 64 * i ≤ k ∧ k < nx + 64 * i + 64) ∧
   ∀ s'' : Sl × Hp, Z7 s''.1 o.guard = Z7 s.1 o.guard → vop C M s''.1 s''.2 (nx + 64 * i) o.op = vop C M s.1 s.2 (nx + 64 * i) o.op → ZU C M nx i false o s'' = some (Zt s''.1 o.dst v, Zi s''.2 adds) := by
 unfold ZU at h
 obtain ⟨b, hw, h⟩ := Za h
 cases b with
 | true =>
  simp only [if_true] at h
  obtain ⟨ce, h1, h2, rfl⟩ := Xa h
  unfold W4 at h1
  simp only [Bool.false_eq_true, if_false] at h1
  have h1' := h1
  unfold Zd9 at h1
  obtain ⟨c, h3, h1⟩ := Za h1
  unfold ZgR at h1
  split at h1
  ·rename_i e1 e2 e3 e4
   cases h1
   have hon : ∀ s : Sl × Hp, ce.on o.dst s.1 s.2 = (Zt s.1 o.dst ce.eff.val, Zi s.2 ce.eff.adds) := by
    intro s
    unfold Zf.on Eff.on
    rw [e1, e2, e3, e4]
    rfl
   refine ⟨ce.eff.val, ce.eff.adds, hon s, UY h2, fun s'' g1 g2 => ?_⟩
   unfold ZU
   rw [g1, hw, Zj]
   simp only [if_true]
   unfold Vj W4
   simp only [Bool.false_eq_true, if_false]
   rw [g2, h1', Zj, if_pos h2, hon]
  ·cases h1
 | false =>
  simp only [Bool.false_eq_true, if_false] at h
  cases h
  refine ⟨.tup [], [], rfl, fun k x hk => by simp at hk, fun s'' g1 g2 => ?_⟩
  unfold ZU
  rw [g1, hw, Zj]
  rfl
theorem ZaJ {U : Nat → Prop} {a : AV} (h : Vz (.v a) = true) : Zkr U a := by
 simp only [Vz, Bool.and_eq_true, List.isEmpty_iff, Bool.not_eq_true'] at h
 refine ⟨fun id hid => by rw [h.1] at hid; simp at hid, fun f caps hx => ?_⟩
 subst hx
 simp [Zqi] at h
section
variable {P : Program} {nt : Nat}
def Zjc (nt : Nat) (s : Sl × Hp) (U : Nat → Prop) : Prop := ∃ F A I Γ a w, Sim nt F A I Γ U s.1 s.2 a w
theorem Ur {U : Nat → Prop} {base : Nat} (hf : XK U base) {adds : Hp} (ha : ∀ k x, (k, x) ∈ adds → base ≤ k ∧ k < base + 64) (hp : Hp) : ∀ id, U id → lkp hp id = lkp (Zi hp adds) id := by
 intro id hu
 rw [Zz]
 intro o ho
 obtain ⟨h1, h2⟩ := ha id o ho
 exact hf id h1 h2 hu
theorem Jw {sl : Sl} {d e : Option Nat} (h : Zbo d e = true) (u v : AV) (t : Nat) : gs (Zt (Zt sl d u) e v) t = gs (Zt (Zt sl e v) d u) t := by
 simp only [QF]
 by_cases h1 : e = some t
 ·by_cases h2 : d = some t
  ·rw [h1, h2] at h; simp [Zbo] at h
  ·simp [h1, h2]
 ·simp [h1]
theorem ZxF {adds adds' : Hp} {b b' : Nat} (ha : ∀ k x, (k, x) ∈ adds → b ≤ k ∧ k < b + 64) (ha' : ∀ k x, (k, x) ∈ adds' → b' ≤ k ∧ k < b' + 64) (hd : b + 64 ≤ b' ∨ b' + 64 ≤ b) (hp : Hp) (id : Nat) :
  lkp (Zi (Zi hp adds) adds') id = lkp (Zi (Zi hp adds') adds) id := by
 have key : ∀ (l : Hp) (hp hp' : Hp), (∀ o, (id, o) ∉ l) → lkp (Zi hp l) id = lkp hp id := fun l hp _ h => Zz l hp id h
 by_cases h1 : ∃ o, (id, o) ∈ adds
 ·have h2 : ∀ o, (id, o) ∉ adds' := fun o ho => by
   obtain ⟨o', ho'⟩ := h1
   have := ha id o' ho'
   have := ha' id o ho
   omega
  rw [Zz adds' _ id h2]
  have key : ∀ (l : Hp) (hp hp' : Hp), lkp hp id = lkp hp' id → lkp (Zi hp l) id = lkp (Zi hp' l) id := by
   intro l
   induction l with
   | nil => intro hp hp' h; exact h
   | cons q r ih =>
    intro hp hp' h
    obtain ⟨k, x⟩ := q
    simp only [Zi]
    exact ih _ _ (by rw [Qn, Qn, h])
  exact key adds _ _ (Zz adds' hp id h2).symm
 ·have h2 : ∀ o, (id, o) ∉ adds := fun o ho => h1 ⟨o, ho⟩
  rw [Zz adds _ id h2]
  have key : ∀ (l : Hp) (hp hp' : Hp), lkp hp id = lkp hp' id → lkp (Zi hp l) id = lkp (Zi hp' l) id := by
   intro l
   induction l with
   | nil => intro hp hp' h; exact h
   | cons q r ih =>
    intro hp hp' h
    obtain ⟨k, x⟩ := q
    simp only [Zi]
    exact ih _ _ (by rw [Qn, Qn, h])
  exact key adds' _ _ (Zz adds hp id h2)
theorem Zn7 {C : Orc} {M : Zq} {os : List CO} {nx i j : Nat} {oi oj : CO} (hoi : os[i]? = some oi) (hoj : os[j]? = some oj) (hqj : Z1 os j = false) (hij : i ≠ j) (hap : X4 oj oi = true)
  (hops : ∀ (k : Nat) (o : CO), os[k]? = some o → ∀ x ∈ ZM o.op, Vz x = true) {s s1 s2 : Sl × Hp} {U : Nat → Prop} (hs : Zjc nt s U) (hfi : XK U (nx + 64 * i)) (hfj : XK U (nx + 64 * j))
  (h1 : ZK C M os nx j s = some s1) (h2 : ZU C M nx i false oi s1 = some s2) : ∃ t1, ZU C M nx i false oi s = some t1 ∧ ∃ t2, ZK C M os nx j t1 = some t2 ∧ Yf t2 s2 := by
 obtain ⟨F, A, I, Γ, a, w, hsim⟩ := hs
 simp only [X4, Bool.and_eq_true] at hap
 obtain ⟨⟨ap1, ap2⟩, ap3⟩ := hap
 have good : ∀ (k : Nat) (o : CO), os[k]? = some o → ∀ x ∈ ZM o.op, Zkr U (evO s.1 x) := by
  intro k o ho x hx
  cases x with
  | t n => exact hsim.good n
  | v y => exact ZaJ (hops k o ho _ hx)
  | f n => exact ⟨fun id hid => by simp [evO, ZF, ZG] at hid, fun f caps h c hc => by cases h; simp at hc⟩
 simp only [ZK, hoj, Zj, hqj] at h1
 obtain ⟨vj, aj, rfl, hj1, hj2⟩ := ZjA h1
 obtain ⟨vi, ai, rfl, hi1, hi2⟩ := ZjA h2
 dsimp only at hi2
 have e1 : ZU C M nx i false oi s = some (Zt s.1 oi.dst vi, Zi s.2 ai) := by
  refine hi2 s (QI ap1).symm ?_
  rw [XH C M (Zi s.2 aj) (nx + 64 * i) (Uq (o := oi) ap1)]
  exact Zbi (hsim.agree (Ur hfj hj1 s.2)) C M _ (good i oi hoi)
 refine ⟨_, e1, ?_⟩
 have e2 : ZU C M nx j false oj (Zt s.1 oi.dst vi, Zi s.2 ai) = some (Zt (Zt s.1 oi.dst vi) oj.dst vj, Zi (Zi s.2 ai) aj) := by
  refine hj2 (Zt s.1 oi.dst vi, Zi s.2 ai) (QI ap3) ?_
  rw [XH C M (Zi s.2 ai) (nx + 64 * j) (Uq (o := oj) ap3)]
  exact (Zbi (hsim.agree (Ur hfi hi1 s.2)) C M _ (good j oj hoj)).symm
 refine ⟨_, by simp only [ZK, hoj, Zj, hqj]; exact e2, fun t => ?_, fun id => ?_⟩
 ·exact (Jw ap2 vj vi t).symm
 ·refine ZxF hi1 hj1 ?_ s.2 id
  rcases Nat.lt_or_gt_of_ne hij with h | h
  ·left; omega
  ·right; omega
theorem Zv9 {C : Orc} {M : Zq} {os : List CO} {nx i j : Nat} {oi oj : CO} (hoi : os[i]? = some oi) (hoj : os[j]? = some oj) (hqi : Z1 os i = false) (hqj : Z1 os j = false) (hij : i ≠ j) (hap : X4 oj oi = true)
  (hops : ∀ (k : Nat) (o : CO), os[k]? = some o → ∀ x ∈ ZM o.op, Vz x = true) {s s1 s2 : Sl × Hp} {U : Nat → Prop} (hs : Zjc nt s U) (hfi : XK U (nx + 64 * i)) (hfj : XK U (nx + 64 * j))
  (h1 : ZK C M os nx j s = some s1) (h2 : ZK C M os nx i s1 = some s2) : ∃ t1, ZK C M os nx i s = some t1 ∧ ∃ t2, ZK C M os nx j t1 = some t2 ∧ Yf t2 s2 := by
 have e : ∀ s : Sl × Hp, ZK C M os nx i s = ZU C M nx i false oi s := fun s => by simp only [ZK, hoi, Zj, hqi]
 rw [e] at h2
 simp only [e]
 exact Zn7 hoi hoj hqj hij hap hops hs hfi hfj h1 h2
end
end Go.Abs
