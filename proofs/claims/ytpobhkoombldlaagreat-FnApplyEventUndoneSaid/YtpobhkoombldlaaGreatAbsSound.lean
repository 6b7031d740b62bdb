/- The abstract semantics and the model: regions, codes. Own text. -/
import Derived.Test.YtpobhkoombldlaaGreatAbsCall4
import Derived.Orders
set_option linter.unusedVariables false
set_option linter.unusedSimpArgs false
namespace Go.Abs
open Go
def XG (hp hp' : Hp) (n : Nat) : Prop := ∀ id cs, id < n → lkp hp id = some (.box cs) → ∃ cs', lkp hp' id = some (.box cs')
theorem XG.refl (hp : Hp) (n : Nat) : XG hp hp n := fun _ cs _ h => ⟨cs, h⟩
theorem XG.trans {a b c : Hp} {n : Nat} (h : XG a b n) (k : XG b c n) : XG a c n := fun id cs hn hl => by
 obtain ⟨cs', h1⟩ := h id cs hn hl
 exact k id cs' hn h1
def VU (C : Orc) : Prop := ∀ f as h r hs, C f as h = some (r, hs) → ∀ (k : Nat) (cs : List AV), h[k]? = some (Zr.box cs) → ∃ cs', hs[k]? = some (Zr.box cs')
theorem Zz : ∀ (l : Hp) (hp : Hp) (id : Nat), (∀ o, (id, o) ∉ l) → lkp (Zi hp l) id = lkp hp id
 | [], hp, id, _ => rfl
 | (k, x) :: r, hp, id, h => by
  simp only [Zi]
  rw [Zz r _ id fun o ho => h o (List.mem_cons_of_mem _ ho), Qn, if_neg]
  intro e
  subst e
  exact h x (List.mem_cons_self ..)
structure Zfn (hp : Hp) (ce : Zf) : Prop where
 dels : ∀ id ∈ ce.eff.dels, ∀ cs, lkp hp id ≠ some (.box cs)
 sets : ∀ id o, (id, o) ∈ ce.eff.sets → (∃ cs, lkp hp id = some (.box cs)) → ∃ cs', o = .box cs'
theorem Zfn.keeps {hp : Hp} {ce : Zf} (h : Zfn hp ce) {base hi : Nat} (hok : Q4 base hi ce.eff.adds = true) (dst : Option Nat) (sl : Sl) : XG hp (ce.on dst sl hp).2 base := by
 intro id cs hn hl
 show ∃ cs', lkp (Zi (Zi (Qx (Qk ce.eff.frz (Vy ce.gone hp)) ce.eff.dels) ce.eff.sets) ce.eff.adds) id = some (.box cs')
 rw [Zz _ _ _ (fun o ho => by have := (UY hok id o ho).1; omega)]
 by_cases hs : ∃ o, (id, o) ∈ ce.eff.sets
 ·obtain ⟨o, ho⟩ := hs
  cases hq : lkp (Zi (Qx (Qk ce.eff.frz (Vy ce.gone hp)) ce.eff.dels) ce.eff.sets) id with
  | none =>
   exfalso
   have key : ∀ (l : Hp) (hp : Hp), (id, o) ∈ l → lkp (Zi hp l) id ≠ none := by
    intro l
    induction l with
    | nil => intro hp h; simp at h
    | cons q r ih =>
     intro hp hm
     obtain ⟨k, x⟩ := q
     simp only [Zi]
     rcases List.mem_cons.1 hm with hm | hm
     ·cases hm
      by_cases hr : ∃ o', (id, o') ∈ r
      ·intro hn
       obtain ⟨o', ho'⟩ := hr
       have : ∀ (l : Hp) (hp : Hp), (∃ v, lkp hp id = some v) → lkp (Zi hp l) id ≠ none := by
        intro l
        induction l with
        | nil => rintro hp ⟨v, hv⟩ hn; simp only [Zi] at hn; rw [hv] at hn; cases hn
        | cons q r ih =>
         rintro hp ⟨v, hv⟩
         obtain ⟨k, x⟩ := q
         simp only [Zi]
         refine ih _ ?_
         rw [Qn]
         split
         ·exact ⟨_, rfl⟩
         ·exact ⟨v, hv⟩
       exact this r _ ⟨o, by rw [Qn, if_pos rfl]⟩ hn
      ·rw [Zz r _ id fun o' ho' => hr ⟨o', ho'⟩, Qn, if_pos rfl]
       simp
     ·exact ih _ hm
   exact key _ _ ho hq
  | some o' =>
   rcases ZhQ _ _ _ _ hq with hm | ⟨hm, _⟩
   ·obtain ⟨cs', h1⟩ := h.sets id o' hm ⟨cs, hl⟩
    exact ⟨cs', by rw [h1]⟩
   ·exact absurd ho (hm o)
 ·rw [Zz _ _ _ (fun o ho => hs ⟨o, ho⟩), WN _ _ _ (fun hd => h.dels id hd cs hl), Qc, V3, hl]
  simp only [Option.map_some, Ye, Wo]
  split
  ·exact ⟨_, rfl⟩
  ·exact ⟨_, rfl⟩
theorem Yy {hp : Hp} {ce : Zf} (h1 : ce.eff.dels = []) (h2 : ce.eff.sets = []) : Zfn hp ce :=
 ⟨fun id hid => by rw [h1] at hid; simp at hid, fun id o ho => by rw [h2] at ho; simp at ho⟩
theorem Qt {hp : Hp} {v : AV} {ce : Zf} (h : QB v = some ce) : Zfn hp ce := by cases h; exact Yy rfl rfl
theorem XV {hp : Hp} {v : Option AV} {ce : Zf} (h : WT v = some ce) : Zfn hp ce := by
 obtain ⟨r, _, h⟩ := Za h
 exact Qt h
theorem ZtK {C : Orc} (hC : VU C) {hp : Hp} {m : Nat → Bool} {base f : Nat} {avs : List AV} {ce : Zf} (h : Zcy C m hp base f avs = some ce) : Zfn hp ce := by
 unfold Zcy at h
 obtain ⟨as, _, h⟩ := Za h
 unfold Zel at h
 split at h
 ·obtain ⟨⟨r, out⟩, h1, h⟩ := Za h
  unfold ZaN at h
  split at h
  ·cases h
  split at h
  ·cases h
  ·cases h
   refine ⟨fun id hid => by simp at hid, fun id o ho hb => ?_⟩
   obtain ⟨k, o0, h2, h3, rfl⟩ := Zgy _ _ _ _ _ ho
   obtain ⟨cs, hcs⟩ := hb
   have h4 : ((ZdW hp (QT hp (XE hp) (as.flatMap ZF) [])).map (ZaM (QT hp (XE hp) (as.flatMap ZF) [])))[k]? = some (ZaM (QT hp (XE hp) (as.flatMap ZF) []) (.box cs)) := by
    rw [List.getElem?_map, ZdM, h2]
    simp [hcs, ZkC]
   obtain ⟨cs', h5⟩ := hC _ _ _ _ _ h1 k _ h4
   rw [h3] at h5
   cases h5
   exact ⟨_, rfl⟩
 ·cases h
theorem Zji {hp : Hp} {s b base : Nat} {str flat : Bool} {x y : AV} {ef : Eff} (h1 : UW hp s b str flat base x y = some ef) : Zfn hp { eff := ef, gone := [] } := by
 unfold UW at h1
 obtain ⟨q, _, h1⟩ := Za h1
 split at h1
 ·unfold Zh0 at h1
  split at h1
  ·split at h1
   ·cases h1; exact Yy rfl rfl
   ·cases h1
  ·split at h1
   ·cases h1
   ·unfold Zlz at h1
    split at h1
    ·rename_i hl
     split at h1
     ·cases h1
      refine ⟨fun id hid cs hcs => ?_, fun id o ho => by simp [ZhZ] at ho⟩
      simp [ZhZ] at hid
      rw [hid, hl] at hcs
      cases hcs
     ·cases h1
    ·cases h1
  ·split at h1
   ·cases h1
   ·split at h1
    ·unfold ZiD at h1
     split at h1
     ·rename_i hl
      split at h1
      ·cases h1
       refine ⟨fun id hid cs hcs => ?_, fun id o ho => by simp at ho⟩
       simp at hid
       rw [hid, hl] at hcs
       cases hcs
      ·cases h1
     ·cases h1
    ·unfold ZiC at h1
     split at h1
     ·rename_i hl
      split at h1
      ·cases h1
       refine ⟨fun id hid cs hcs => ?_, fun id o ho => by simp [ZhZ] at ho⟩
       simp [ZhZ] at hid
       rw [hid, hl] at hcs
       cases hcs
      ·cases h1
     ·cases h1
  ·cases h1
 ·cases h1
theorem ZoU {hp : Hp} {ns : Nat} : ∀ {cs : List AV} {q : List D × List Nat}, ZfP hp ns cs = some q → ∀ id ∈ q.2, ∀ ds, lkp hp id ≠ some (.box ds)
 | [], q, h, id, hid => by simp only [ZfP] at h; cases h; simp at hid
 | c :: cs, q, h, id, hid => by
  simp only [ZfP] at h
  obtain ⟨q1, h1, h⟩ := Za h
  obtain ⟨q2, h2, h⟩ := Za h
  split at h
  ·cases h
   simp only [List.mem_append] at hid
   rcases hid with hid | hid
   ·unfold Zen at h1
    split at h1
    ·split at h1
     ·cases h1; simp at hid
     ·cases h1
    ·cases h1; simp at hid
    ·unfold Zen.deepRow at h1
     split at h1
     ·rename_i hl
      split at h1
      ·cases h1
       simp at hid
       subst hid
       intro ds hds
       rw [hl] at hds; cases hds
      ·cases h1
     ·cases h1
    ·cases h1
   ·exact ZoU h2 id hid
  ·cases h
theorem ZjP {hp : Hp} {id : Nat} {q : Nat × Nat × List D} (h : ZjG (lkp hp id) = some q) : ∀ ds, lkp hp id ≠ some (.box ds) := by
 intro ds hds
 rw [hds] at h; cases h
theorem ZtL {hp : Hp} {s b base : Nat} {str flat : Bool} {x y : AV} {ef : Eff} (h1 : ZfQ hp s b str flat base y x = some ef) : Zfn hp { eff := ef, gone := [] } := by
 unfold ZfQ at h1
 split at h1
 ·split at h1
  ·cases h1
  ·obtain ⟨q, _, h2⟩ := Za h1
   split at h2
   ·cases h2
   ·unfold ZjH at h2
    split at h2
    ·rename_i hl
     obtain ⟨fl, _, h3⟩ := Za h2
     split at h3
     ·cases h3
      refine ⟨fun id hid => by simp at hid, fun id o ho hb => ?_⟩
      simp at ho
      obtain ⟨cs, hcs⟩ := hb
      rw [ho.1, hl] at hcs
      cases hcs
     ·cases h3
    ·cases h2
 ·generalize hm : YW hp x ++ YW hp y = ms at h1
  have hrow : ∀ k ∈ ms, ∀ ds, lkp hp k ≠ some (.box ds) := by
   intro k hk ds hds
   rw [← hm] at hk
   have key : ∀ z, k ∈ YW hp z → False := by
    intro z hz
    unfold YW at hz
    split at hz
    ·split at hz
     ·rename_i hdp
      simp at hz; subst hz
      rw [hds] at hdp; cases hdp
     ·simp at hz
    ·simp at hz
   rcases List.mem_append.1 hk with hk | hk <;> exact key _ hk
  cases ms with
  | nil => exact Zji h1
  | cons i r =>
   simp only [Wq] at h1
   split at h1
   ·cases h1
   ·obtain ⟨e0, h2, h1⟩ := Za h1
    cases h1
    have hbe := Zji h2
    have hbox : ∀ k ds, lkp hp k = some (.box ds) → lkp (meltIn hp (i :: r)) k = some (.box ds) := by
     intro k ds hk
     rw [JS, hk]
     simp only [Option.map_some, Zd0, ite_self]
    refine ⟨fun k hk ds hds => ?_, fun k o ho ⟨ds, hds⟩ => hbe.sets k o ho ⟨ds, hbox k ds hds⟩⟩
    rcases List.mem_append.1 hk with hk | hk
    ·exact hbe.dels k hk ds (hbox k ds hds)
    ·exact hrow k hk ds hds
theorem ZtM {hp : Hp} {s b base : Nat} {x y : AV} {ce : Zf} (h : ZpZ hp s b base x y = some ce) : Zfn hp ce := by
 unfold ZpZ at h
 obtain ⟨ef, h1, h⟩ := Za h
 cases h
 obtain ⟨q, hq, h1⟩ := Za h1
 split at h1
 ·unfold Zeo at hq
  split at hq
  ·obtain ⟨q2, h2, hq⟩ := Za hq
   cases hq
   unfold ZcN at h1
   split at h1
   ·split at h1
    ·cases h1
     refine ⟨fun id hid => ?_, fun id o ho => by simp at ho⟩
     simp at hid; subst hid
     exact ZjP h2
    ·cases h1
   ·obtain ⟨q1, h3, h4⟩ := Za h1
    split at h4
    ·cases h4
     refine ⟨fun id hid => ?_, fun id o ho => by simp at ho⟩
     simp at hid
     rcases hid with rfl | rfl
     ·exact ZjP h3
     ·exact ZjP h2
    ·cases h4
   ·cases h1
  ·cases hq
 ·cases h1
theorem ZgU {C : Orc} {M : Zq} (hC : VU C) {sl : Sl} {hp : Hp} {base : Nat} {c : COp} {ce : Zf} (h : vop C M sl hp base c = some ce) : Zfn hp ce := by
 cases c with
 | move x => exact Qt h
 | assign s x =>
  simp only [vop] at h
  unfold Zem at h
  split at h
  ·obtain ⟨s, _, h⟩ := Za h; cases h; exact Yy rfl rfl
  ·exact Qt h
 | pick c x y =>
  simp only [vop] at h
  unfold Zg7 at h
  split at h
  ·split at h <;> exact Qt h
  ·cases h
 | alloc slc cs =>
  simp only [vop] at h
  unfold ZgI at h
  split at h <;> (cases h; exact Yy rfl rfl)
 | box x =>
  simp only [vop] at h
  unfold ZuO at h
  split at h
  ·cases h; exact Yy rfl rfl
  ·cases h
 | build zs ps =>
  simp only [vop] at h
  obtain ⟨cs, _, h⟩ := Za h
  exact Qt h
 | buildSl s xs =>
  simp only [vop] at h
  cases hx : evL sl xs with
  | nil => rw [hx] at h; exact Qt h
  | cons v vs =>
   rw [hx] at h
   obtain ⟨q, _, h⟩ := Za h
   unfold ZuP at h
   split at h
   ·cases h; exact Yy rfl rfl
   ·cases h
 | load g s x => exact XV h
 | store slc s x y =>
  simp only [vop] at h
  obtain ⟨ef, h1, h⟩ := Za h
  cases h
  unfold Zbl at h1
  split at h1
  ·unfold ZfM at h1
   split at h1
   ·rename_i hl
    split at h1
    ·split at h1
     ·cases h1
      exact ⟨fun id hid => by simp at hid, fun id o ho _ => by simp at ho; exact ⟨_, ho.2⟩⟩
     ·cases h1
      exact ⟨fun id hid => by simp at hid, fun id o ho _ => by simp at ho; exact ⟨_, ho.2⟩⟩
    ·cases h1
   ·cases h1
  ·unfold ZdT at h1
   split at h1
   ·rename_i hl
    split at h1
    ·obtain ⟨x, _, h1⟩ := Za h1
     obtain ⟨ds, _, h1⟩ := Za h1
     unfold ZfN at h1
     split at h1
     ·cases h1
      refine ⟨fun id hid => by simp at hid, fun id o ho hb => ?_⟩
      simp at ho
      obtain ⟨cs, hcs⟩ := hb
      rw [ho.1, hl] at hcs
      cases hcs
     ·cases h1
    ·cases h1
   ·cases h1
  ·cases h1
 | nilCheck x =>
  simp only [vop] at h
  unfold ZaO at h
  split at h <;> first | exact Qt h | cases h
 | bin op eq x y =>
  simp only [vop] at h
  unfold Zhf at h
  split at h
  ·split at h
   ·exact XV h
   ·cases h
  ·exact XV h
 | un op x => exact XV h
 | eqA neg ks x y =>
  simp only [vop] at h
  unfold ZpY at h
  split at h
  ·obtain ⟨r, _, h⟩ := Za h; exact Qt h
  ·cases h
 | convI k x =>
  simp only [vop] at h
  unfold Abs.convI at h
  split at h <;> first | exact Qt h | cases h
 | convS x =>
  simp only [vop] at h
  unfold Abs.convS at h
  split at h <;> first | exact Qt h | cases h
 | fn f cs => exact XV h
 | make s b z l c =>
  simp only [vop] at h
  obtain ⟨n, _, h⟩ := Za h
  obtain ⟨m, _, h⟩ := Za h
  unfold Zow at h
  split at h
  ·cases h; exact Yy rfl rfl
  ·cases h
 | slice s x lo hi => exact XV h
 | sliceS x lo hi => exact XV h
 | slice0 x hi mx => exact XV h
 | slice3 s x lo hi mx => exact XV h
 | stuck => cases h
 | appDp s b f x y => exact ZtM h
 | asgDp s n x =>
  simp only [vop] at h
  unfold Abs.asgDp at h
  split at h
  ·cases h; exact Yy rfl rfl
  ·cases h
 | buildDp s n xs =>
  simp only [vop] at h
  unfold buildDp at h
  split at h
  ·obtain ⟨q, h1, h⟩ := Za h
   split at h
   ·cases h
    exact ⟨fun id hid => ZoU h1 id hid, fun id o ho => by simp at ho⟩
   ·cases h
  ·cases h
 | clear s z x =>
  simp only [vop] at h
  obtain ⟨ef, h1, h⟩ := Za h
  cases h
  unfold Zfh at h1
  split at h1
  ·unfold Zh1 at h1
   split at h1
   ·rename_i hl
    split at h1
    ·cases h1
     refine ⟨fun id hid => by simp at hid, fun id o ho hb => ?_⟩
     simp at ho
     obtain ⟨cs, hcs⟩ := hb
     rw [ho.1, hl] at hcs
     cases hcs
    ·cases h1
   ·cases h1
  ·cases h1
 | shift off x =>
  simp only [vop] at h
  unfold Wp at h
  split at h <;> first | exact Qt h | cases h
 | part g s off x => exact XV h
 | iaS s x i =>
  simp only [vop] at h
  obtain ⟨n, _, h⟩ := Za h
  unfold Zh3 at h
  split at h
  ·exact XV h
  ·cases h
 | iaA len s x i =>
  simp only [vop] at h
  obtain ⟨n, _, h⟩ := Za h
  unfold Zmj at h
  split at h
  ·unfold Wp at h
   split at h <;> first | exact Qt h | cases h
  ·cases h
 | ixS x i =>
  simp only [vop] at h
  obtain ⟨n, _, h⟩ := Za h
  unfold Zty at h
  split at h
  ·unfold ZqK at h
   split at h
   ·obtain ⟨b, _, h⟩ := Za h; exact Qt h
   ·cases h
  ·cases h
 | ixA g s len x i =>
  simp only [vop] at h
  obtain ⟨n, _, h⟩ := Za h
  unfold ZuQ at h
  split at h
  ·exact XV h
  ·cases h
 | nth i x =>
  simp only [vop] at h
  unfold ZrW at h
  split at h
  ·exact XV h
  ·cases h
 | len x =>
  simp only [vop] at h
  obtain ⟨n, _, h⟩ := Za h
  exact Qt h
 | lenS x =>
  simp only [vop] at h
  obtain ⟨n, _, h⟩ := Za h
  exact Qt h
 | append s b str flat x y =>
  simp only [vop] at h
  unfold ZrX at h
  obtain ⟨ef, h1, h⟩ := Za h
  cases h
  exact ZtL h1
 | min x y =>
  simp only [vop] at h
  unfold ZkE at h
  split at h
  ·split at h
   ·exact Qt h
   ·cases h
  ·cases h
 | max x y =>
  simp only [vop] at h
  unfold ZkF at h
  split at h
  ·split at h
   ·exact Qt h
   ·cases h
  ·cases h
 | call f as =>
  simp only [vop] at h
  unfold Zd1 at h
  split at h
  ·exact ZtK hC h
  ·cases h
end Go.Abs
