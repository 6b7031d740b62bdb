/- The abstract semantics and the model: programs. Own text. -/
import Derived.Test.YtkdjbefmiiibpaaDoorAbsSound3
set_option linter.unusedVariables false
set_option linter.unusedSimpArgs false
namespace Go.Abs
open Go

section
variable {P : Program} {nt : Nat} {F A : Nat → Prop} {Γ0 : Gh}

theorem gs_numbV : ∀ (l : List AV) (k t : Nat), gs (numbV k l) t = if k ≤ t then orJunk l[t - k]? else .junk
  | [], k, t => by simp [numbV, gs, lkp, orJunk]
  | v :: r, k, t => by
    have ih := gs_numbV r (k + 1) t
    have key : gs (numbV k (v :: r)) t = if k = t then orJunk (orIf (some v) (lkp (numbV (k + 1) r) t)) else gs (numbV (k + 1) r) t := by
      simp only [numbV, gs, lkp_snoc]
      by_cases h : k = t
      · simp [h]
      · simp only [h, if_false]; cases lkp (numbV (k + 1) r) t <;> rfl
    rw [key]
    by_cases h1 : k = t
    · subst h1
      have h2 : lkp (numbV (k + 1) r) k = none := by
        have : ∀ (l : List AV) (j : Nat), k < j → lkp (numbV j l) k = none := by
          intro l
          induction l with
          | nil => intro j _; rfl
          | cons a l ihl =>
            intro j hj
            simp only [numbV, lkp_snoc, ihl (j + 1) (by omega)]
            rw [if_neg (by omega)]; rfl
        exact this r (k + 1) (by omega)
      rw [h2]; simp [orIf, orJunk]
    · rw [if_neg h1, ih]
      by_cases h2 : k ≤ t
      · rw [if_pos (by omega), if_pos h2]
        have : t - k = (t - (k + 1)) + 1 := by omega
        rw [this]; simp
      · rw [if_neg (by omega), if_neg h2]

/-! ## Results -/

theorem sureAddr_asAddr {v : Value} {u : Value} {t : TypeId} {w : World} (h : (Instr.loadAt t v).run P w = .ok u w) : (do loadVar t (← asAddr v) : Sem Value).run P w = .ok u w := by
  cases v with
  | pointer a =>
    cases a with
    | none => simp [Instr.loadAt, Instr.sureAddr] at h
    | some a => simpa [Instr.loadAt, Instr.sureAddr, asAddr] using h
  | _ => simp [Instr.loadAt, Instr.sureAddr] at h

theorem results_run {I : Nat → Prop} {Γ : Gh} {st : St} {a : Act} {w : World} (h : Sim nt F A I Γ (Upto st.nx) st.sl st.hp a w) : ∀ {rvs : List ResultVar} {rs : List CRes} {vs : List AV}, mapO (cRes P) rvs = some rs → mapO (resv st) rs = some vs →
    ∃ us : List Value, (rvs.mapM (m := Sem) fun
      | .tmp t => pure (a.tmps.getD t undef)
      | .cell c t => do loadVar t (← asAddr (a.tmps.getD c undef))).run P w = .ok us w ∧ All2 (Rep Γ w I) vs us
  | [], rs, vs, hr, hv => by
    simp only [mapO] at hr; cases hr
    simp only [mapO] at hv; cases hv
    exact ⟨[], by simp, trivial⟩
  | rv :: rvs, rs, vs, hr, hv => by
    simp only [mapO] at hr
    obtain ⟨r, h1, hr⟩ := bnd_eq_some hr
    obtain ⟨rs', h2, hr⟩ := bnd_eq_some hr
    cases hr
    simp only [mapO] at hv
    obtain ⟨v, h3, hv⟩ := bnd_eq_some hv
    obtain ⟨vs', h4, hv⟩ := bnd_eq_some hv
    cases hv
    obtain ⟨us, h5, h6⟩ := results_run h h2 h4
    cases rv with
    | tmp t =>
      simp only [cRes] at h1; cases h1
      simp only [resv] at h3; cases h3
      refine ⟨a.tmps.getD t undef :: us, ?_, h.slots t, h6⟩
      simp only [List.mapM_cons, Sem.run_bind, Sem.run_pure, Result.andThen_ok, h5]
    | cell c t =>
      simp only [cRes] at h1
      obtain ⟨g, h7, h1⟩ := bnd_eq_some h1
      cases h1
      simp only [resv] at h3
      obtain ⟨u, h8, h9⟩ := load_run (P := P) h7 h.hpOK (h.slots c) h3
      have h10 := sureAddr_asAddr h8
      refine ⟨u :: us, ?_, h9, h6⟩
      simp only [List.mapM_cons]
      rw [Sem.run_bind, h10]
      simp only [Result.andThen_ok, Sem.run_bind, h5, Sem.run_pure]

theorem noTup_rep {Γ : Gh} {w : World} {I : Nat → Prop} : ∀ {vs : List AV} {us : List Value}, anyTup vs = false → All2 (Rep Γ w I) vs us → All2 (Rep2 Γ w I) vs us
  | [], [], _, _ => trivial
  | [], _ :: _, _, h => h.elim
  | _ :: _, [], _, h => h.elim
  | v :: vs, u :: us, hn, h => by
    simp only [anyTup, Bool.or_eq_false_iff] at hn
    refine ⟨?_, noTup_rep hn.2 h.2⟩
    cases v <;> first | exact h.1 | (simp [isTup] at hn)

theorem one_rep {Γ : Gh} {w : World} {I : Nat → Prop} {vs : List AV} {us : List Value} (h : All2 (Rep Γ w I) vs us) : Rep Γ w I (oneOf vs) (if h : us.toArray.size = 1 then us.toArray[0] else .tuple us.toArray) := by
  match vs, us, h with
  | [], [], h => exact ⟨#[], rfl, trivial⟩
  | [v], [u], h => exact h.1
  | v :: v' :: vs, u :: u' :: us, h =>
    simp only [oneOf]
    cases hn : anyTup (v :: v' :: vs)
    · simp only [Bool.false_eq_true, if_false]
      rw [dif_neg (by simp)]
      exact ⟨_, rfl, by simpa using noTup_rep hn h⟩
    · exact trivial

/-! ## A function -/

theorem text_sound {C : Orc} {M : Modes} (hC : SoundOrc P C) (hB : BoxOrc C) {f : FuncId} {fn : Func} {cf : CFun} (hf : P.funcs[f]? = some fn) (hname : (fn.name == "runtime.NumGoroutine") = false) (hcf : cFun P fn = some (stripF cf)) (hD : DrawSound P C M fn.ntmps)
    {N : Nat} {as : List AV} {h : List AObj} {res : AV} {hs : List AObj} (hv : vbody C M N cf as h = some (res, hs)) : Sound P f as h res hs := by
  unfold cFun at hcf
  obtain ⟨c, hb, hcf⟩ := bnd_eq_some hcf
  obtain ⟨cc, hcc, hcf⟩ := bnd_eq_some hcf
  obtain ⟨rs, hrs, hcf⟩ := bnd_eq_some hcf
  obtain ⟨cnt, cres, cc0⟩ := cf
  simp only [stripF, Option.some.injEq, CFun.mk.injEq] at hcf
  obtain ⟨rfl, rfl, rfl⟩ := hcf
  refine ⟨⟨fn, hf, hname, by rw [hb]; rfl⟩, fun F A I Γ args w hpre => ?_⟩
  unfold vbody at hv
  split at hv
  · rename_i hle
    simp only at hle hv
    cases hr : vrun C M N cc0 { sl := numbV 0 as, hp := numb 0 h, nx := h.length, m := h.length } with
    | none => rw [hr] at hv; simp [resK] at hv
    | some q =>
      obtain ⟨ex, st'⟩ := q
      rw [hr] at hv
      have hlen : as.length = args.length := hpre.args.length
      refine calls_of_wp hf hb ?_
      have hS : Sim fn.ntmps F A I Γ (Upto h.length) (numbV 0 as) (numb 0 h) { tmps := args.toArray ++ Array.replicate (fn.ntmps - args.toArray.size) undef, defers := [] } w := by
        refine { nt := by simp; omega, dfr := rfl, slots := fun t => ?_, objs := hpre.objs, inj := hpre.inj, bound := hpre.bound, fresh := hpre.fresh, own := hpre.own, names := fun id hid => hpre.names id (by simpa [Upto] using hid), glob := hpre.glob }
        rw [gs_numbV]
        simp only [Nat.zero_le, if_true, Nat.sub_zero]
        cases ht : as[t]? with
        | none => exact trivial
        | some x =>
          obtain ⟨v, h1, h2⟩ := hpre.args.get t x ht
          have h3 : (args.toArray ++ Array.replicate (fn.ntmps - args.toArray.size) undef).getD t undef = v := by
            have hlt := (List.getElem?_eq_some_iff.1 h1).1
            have h4 := List.getElem?_eq_getElem hlt
            rw [h1] at h4
            simp [Array.getElem?_append, hlt]
            exact (Option.some.inj h4).symm
          rw [h3]; exact h2
      have hc : CPre Γ Γ (numb 0 h) := by
        intro k b hk
        refine ⟨hk, ?_⟩
        have hkm : k < h.length := by
          rcases Nat.lt_or_ge k h.length with h1 | h1
          · exact h1
          · rw [hpre.names k h1] at hk; cases hk
        have hl : lkp (numb 0 h) k = some h[k] := by rw [lkp_numb]; simp [hkm]
        have ho := hpre.objs k _ hl
        cases hq : h[k] with
        | box cs => exact ⟨cs, by rw [hl, hq]⟩
        | row sz xs e z =>
          rw [hq] at ho
          obtain ⟨ad, n, c, h1, _⟩ := ho
          rw [hk] at h1; cases h1
        | deep sz ns xs lk =>
          rw [hq] at ho
          obtain ⟨ad, n, c, h1, _⟩ := ho
          rw [hk] at h1; cases h1
      refine code_sound (F := F) (A := A) (Γ0 := Γ) hC hB hD cc0 c hcc hr hS hc hpre.names fun a' w' hp => ?_
      have fin : (bnd (mapO (resv st') rs) fun vs => some (handBack h.length st'.hp (oneOf vs))) = some (res, hs) → a'.defers = [] ∧ ∃ v, (results fn a'.tmps).run P w' = .ok v w' ∧ ∃ v2 I' Γ', Ending.returned v = .returned v2 ∧ Back F A I Γ w hs res I' Γ' v2 w' := by
        intro hres
        obtain ⟨I', Γ', b1, b2, b3, b4, b5⟩ := hp
        obtain ⟨vs, hvs, hres⟩ := bnd_eq_some hres
        obtain ⟨us, hus, hrep⟩ := results_run b5 hrs hvs
        refine ⟨b5.dfr, (if h : us.toArray.size = 1 then us.toArray[0] else .tuple us.toArray), ?_, _, I', livG st'.hp (reach st'.hp (fuelOf st'.hp) (refs (oneOf vs) ++ orefsOf st'.hp (List.range h.length)) (List.range h.length)) Γ', rfl, ?_⟩
        · unfold results
          rw [Sem.run_bind, Array.mapM_eq_mapM_toList, Sem.run_map]
          exact congrArg (fun r : Result (List Value) => (r.andThen fun a w' => Result.ok a.toArray w').andThen fun a w' => Sem.run P (pure (if h : a.size = 1 then a[0] else Value.tuple a)) w') hus
        · have hnd := (reach_ok st'.hp (fuelOf st'.hp) (refs (oneOf vs) ++ orefsOf st'.hp (List.range h.length)) (List.range h.length) List.nodup_range).1
          obtain ⟨t1, t2, t3⟩ := tidied b5 hnd
          simp only [handBack, Option.some.injEq, Prod.mk.injEq] at hres
          obtain ⟨rfl, rfl⟩ := hres
          have hcp := tidy_cpre (n := fuelOf st'.hp) (todo := refs (oneOf vs) ++ orefsOf st'.hp (List.range h.length)) (m := h.length) b1 hpre.names
          exact { boxes := fun id b hg => (hcp id b hg).1, keeps := b2, sub := b3, fr := b4, res := tidy_rep _ (one_rep hrep), objs := t1, inj := t2, bound := b5.bound,
                  names := fun id hid => t3 id (by simpa [lkpL_length] using hid) }
      cases ex with
      | normal => exact fin (by simpa [resK] using hv)
      | ret => exact fin (by simpa [resK] using hv)
      | exit id => simp [resK] at hv
  · cases hv

end
end Go.Abs
set_option linter.unusedVariables false
set_option linter.unusedSimpArgs false
namespace Go.Abs
open Go

theorem vops_box {C : Orc} {M : Modes} (hB : BoxOrc C) {nx : Nat} : ∀ (os : List CO) (i : Nat) {sl : Sl} {hp : Hp} {r : Sl × Hp}, vops C M nx i os sl hp = some r → BoxKept hp r.2 nx
  | [], i, sl, hp, r, h => by simp only [vops] at h; cases h; exact BoxKept.refl hp nx
  | o :: os, i, sl, hp, r, h => by
    simp only [vops] at h
    obtain ⟨b, _, h⟩ := bnd_eq_some h
    split at h
    · obtain ⟨q, hq, h⟩ := bnd_eq_some h
      obtain ⟨ce, hce, hok, rfl⟩ := stepE_some hq
      have h1 := (boxEff_all hB hce).keeps hok o.dst sl
      exact BoxKept.trans (fun id cs hid hl => h1 id cs (by omega) hl) (vops_box hB os (i + 1) h)
    · exact vops_box hB os (i + 1) h

theorem vopD_vop {C : Orc} {M : Modes} {nx i : Nat} {t : Bool} {o : COp} {sl : Sl} {hp : Hp} {ce : CallEff} (h : vopD C M nx i t o sl hp = some ce) : vop C M sl hp (nx + 64 * i) o = some ce := by
  unfold vopD at h
  split at h
  · exact h
  · unfold quietE at h
    obtain ⟨c, h1, h⟩ := bnd_eq_some h
    unfold quietC at h
    split at h
    · cases h; exact h1
    · cases h

theorem vopsD_box {C : Orc} {M : Modes} (hB : BoxOrc C) {nx : Nat} : ∀ (os : List CO) (i : Nat) (t : Bool) {sl : Sl} {hp : Hp} {r : Sl × Hp}, vopsD C M nx i t os sl hp = some r → BoxKept hp r.2 nx
  | [], i, t, sl, hp, r, h => by simp only [vopsD] at h; cases h; exact BoxKept.refl hp nx
  | o :: os, i, t, sl, hp, r, h => by
    simp only [vopsD] at h
    obtain ⟨b, _, h⟩ := bnd_eq_some h
    split at h
    · obtain ⟨q, hq, h⟩ := bnd_eq_some h
      obtain ⟨ce, hce, hok, rfl⟩ := stepE_some hq
      have h1 := (boxEff_all hB (vopD_vop hce)).keeps hok o.dst sl
      exact BoxKept.trans (fun id cs hid hl => h1 id cs (by omega) hl) (vopsD_box hB os (i + 1) _ h)
    · exact vopsD_box hB os (i + 1) _ h

theorem canon_box (K : List Nat) (st : St) : BoxKept st.hp (canon K st).hp st.m ∧ st.m ≤ (canon K st).nx := by
  refine ⟨fun k cs hk hl => ?_, ?_⟩
  · show ∃ cs', lkp (numb 0 _) k = _
    rw [lkp_numb]
    simp only [Nat.zero_le, if_true, Nat.sub_zero, List.getElem?_map, lkpL_get, reach_range hk, Option.map_some, hl, objOr]
    exact ⟨_, rfl⟩
  · show st.m ≤ (reach _ _ _ _).length
    obtain ⟨t, ht⟩ := reach_prefix st.hp (fuelOf st.hp) (refsS (only K st.sl) ++ orefsOf st.hp (List.range st.m)) (List.range st.m)
    rw [ht]
    simp

theorem vrun_box {C : Orc} {M : Modes} (hB : BoxOrc C) {N : Nat} : ∀ (c : CCode) (st st' : St) (e : Ex), vrun C M N c st = some (e, st') → st.m ≤ st.nx → BoxKept st.hp st'.hp st.m ∧ st'.m = st.m ∧ st.m ≤ st'.nx := by
  intro c
  induction c with
  | skip => intro st st' e h hm; simp only [vrun] at h; cases h; exact ⟨BoxKept.refl _ _, rfl, hm⟩
  | region n d ops =>
    intro st st' e h hm
    cases d
    · simp only [vrun, regK] at h
      obtain ⟨r, h1, h⟩ := bnd_eq_some h
      cases h
      have h2 := vops_box hB _ _ h1
      exact ⟨fun id cs hid hl => h2 id cs (by omega) hl, rfl, by show st.m ≤ st.nx + 64 * n; omega⟩
    · simp only [vrun, regK] at h
      obtain ⟨r, h1, h⟩ := bnd_eq_some h
      cases h
      unfold seenR at h1
      obtain ⟨r', h3, h1⟩ := bnd_eq_some h1
      split at h1
      · cases h1
        have h2 := vopsD_box hB _ _ _ h3
        exact ⟨fun id cs hid hl => h2 id cs (by omega) hl, rfl, by show st.m ≤ st.nx + 64 * n; omega⟩
      · cases h1
  | seq x y ihx ihy =>
    intro st st' e h hm
    simp only [vrun] at h
    cases hx : vrun C M N x st with
    | none => rw [hx] at h; cases h
    | some q =>
      obtain ⟨e1, st1⟩ := q
      rw [hx] at h
      obtain ⟨h1, h2, h3⟩ := ihx _ _ _ hx hm
      cases e1 <;> simp only [andThen] at h
      · obtain ⟨h4, h5, h6⟩ := ihy _ _ _ h (by omega)
        rw [h2] at h4 h5 h6
        exact ⟨h1.trans h4, h5, h6⟩
      · cases h; exact ⟨h1, h2, h3⟩
      · cases h; exact ⟨h1, h2, h3⟩
  | cond c x y ihx ihy =>
    intro st st' e h hm
    simp only [vrun] at h
    unfold condV at h
    split at h
    · split at h
      · exact ihx _ _ _ h hm
      · exact ihy _ _ _ h hm
    · cases h
  | block id c ih =>
    intro st st' e h hm
    simp only [vrun] at h
    cases hx : vrun C M N c st with
    | none => rw [hx] at h; cases h
    | some q =>
      obtain ⟨e1, st1⟩ := q
      rw [hx] at h
      have h1 := ih _ _ _ hx hm
      unfold inBlk at h
      split at h
      · rename_i j st2 hq
        cases hq
        split at h <;> (cases h; exact h1)
      · cases h; exact h1
  | loop c ih =>
    intro st st' e h hm
    simp only [vrun] at h
    have key : ∀ (K : List Nat) (n : Nat) (st : St), vloop (vrun C M N c) K n st = some (e, st') → st.m ≤ st.nx → BoxKept st.hp st'.hp st.m ∧ st'.m = st.m ∧ st.m ≤ st'.nx := by
      intro K n
      induction n with
      | zero => intro st h; simp only [vloop] at h; cases h
      | succ n ihn =>
        intro st h hm
        simp only [vloop] at h
        obtain ⟨c1, c2⟩ := canon_box K st
        cases hx : vrun C M N c (canon K st) with
        | none => rw [hx] at h; cases h
        | some q =>
          obtain ⟨e1, st1⟩ := q
          rw [hx] at h
          obtain ⟨h1, h2, h3⟩ := ih _ _ _ hx c2
          have hcm : (canon K st).m = st.m := rfl
          rw [hcm] at h1 h2 h3
          cases e1 with
          | normal =>
            simp only at h
            obtain ⟨h4, h5, h6⟩ := ihn _ h (by omega)
            rw [h2] at h4 h5 h6
            exact ⟨(c1.trans h1).trans h4, h5, h6⟩
          | exit id => simp only at h; cases h; exact ⟨c1.trans h1, h2, h3⟩
          | ret => simp only at h; cases h; exact ⟨c1.trans h1, h2, h3⟩
    exact key _ N st h hm
  | exit id => intro st st' e h hm; simp only [vrun] at h; cases h; exact ⟨BoxKept.refl _ _, rfl, hm⟩
  | ret => intro st st' e h hm; simp only [vrun] at h; cases h; exact ⟨BoxKept.refl _ _, rfl, hm⟩
  | stuck => intro st st' e h hm; simp only [vrun] at h; cases h
  | link id i j c ih =>
    intro st st' e h hm
    simp only [vrun] at h
    obtain ⟨st1, h1, h⟩ := bnd_eq_some h
    unfold linkSt at h1
    obtain ⟨n, _, h1⟩ := bnd_eq_some h1
    split at h1
    · obtain ⟨o, ho, h1⟩ := bnd_eq_some h1
      cases h1
      obtain ⟨h2, h3, h4⟩ := ih _ _ _ h (by show st.m ≤ st.nx + 64; omega)
      refine ⟨BoxKept.trans (fun k cs hk hl => ⟨cs, ?_⟩) h2, h3, h4⟩
      show lkp (ins st.hp id o) k = _
      rw [lkp_ins, if_neg (fun e => by subst e; rw [hl] at ho; cases ho)]
      exact hl
    · cases h1
  | melt c ih =>
    intro st st' e h hm
    simp only [vrun] at h
    obtain ⟨h2, h3, h4⟩ := ih _ _ _ h hm
    refine ⟨BoxKept.trans (fun k cs hk hl => ⟨cs, ?_⟩) h2, h3, h4⟩
    show lkp (mapV meltO st.hp) k = _
    rw [lkp_mapV, hl]; rfl
  | keep K c ih =>
    intro st st' e h hm
    simp only [vrun] at h
    cases hx : vrun C M N c st with
    | none => rw [hx] at h; cases h
    | some q =>
      obtain ⟨e1, st1⟩ := q
      rw [hx] at h
      simp only [keepR] at h
      cases h
      have h1 := ih _ _ _ hx hm
      exact ⟨h1.1, h1.2.1, h1.2.2⟩

theorem vbody_box {C : Orc} {M : Modes} (hB : BoxOrc C) {N : Nat} {cf : CFun} {as : List AV} {h : List AObj} {r : AV} {hs : List AObj} (hv : vbody C M N cf as h = some (r, hs)) (k : Nat) (cs : List AV) (hk : h[k]? = some (AObj.box cs)) : ∃ cs', hs[k]? = some (AObj.box cs') := by
  unfold vbody at hv
  split at hv
  · cases hr : vrun C M N cf.body { sl := numbV 0 as, hp := numb 0 h, nx := h.length, m := h.length } with
    | none => rw [hr] at hv; simp [resK] at hv
    | some q =>
      obtain ⟨ex, st'⟩ := q
      rw [hr] at hv
      obtain ⟨h1, h2, h3⟩ := vrun_box hB _ _ _ _ hr (Nat.le_refl _)
      have hkl : k < h.length := (List.getElem?_eq_some_iff.1 hk).1
      obtain ⟨cs', h4⟩ := h1 k cs hkl (by show lkp (numb 0 h) k = _; rw [lkp_numb]; simpa using hk)
      have fin : (bnd (mapO (resv st') cf.res) fun vs => some (handBack h.length st'.hp (oneOf vs))) = some (r, hs) → ∃ cs', hs[k]? = some (AObj.box cs') := by
        intro hres
        obtain ⟨vs, _, hres⟩ := bnd_eq_some hres
        simp only [handBack, Option.some.injEq, Prod.mk.injEq] at hres
        obtain ⟨_, rfl⟩ := hres
        rw [List.getElem?_map, lkpL_get, reach_range hkl]
        simp only [Option.map_some, h4, objOr]
        exact ⟨_, rfl⟩
      cases ex with
      | normal => exact fin (by simpa [resK] using hv)
      | ret => exact fin (by simpa [resK] using hv)
      | exit id => simp [resK] at hv
  · cases hv

/-- A table of functions is true to a program: texts are compiled; other functions do what they are said to do. -/
structure TableOK (P : Program) (X : Fns) (M : Modes) : Prop where
  text : ∀ f cf, X f = some (.text cf) → ∃ fn, P.funcs[f]? = some fn ∧ (fn.name == "runtime.NumGoroutine") = false ∧ cFun P fn = some (stripF cf)
  prim : ∀ f p, X f = some (.prim p) → ∀ as h r hs, p as h = some (r, hs) → Sound P f as h r hs ∧ ∀ (k : Nat) (cs : List AV), h[k]? = some (AObj.box cs) → ∃ cs', hs[k]? = some (AObj.box cs')

theorem vcallN_box {P : Program} {X : Fns} {M : Modes} (hX : TableOK P X M) : ∀ n, BoxOrc (vcallN X M n)
  | 0 => fun f as h r hs hv => by simp only [vcallN] at hv; cases hv
  | n + 1 => fun f as h r hs hv k cs hk => by
    simp only [vcallN] at hv
    cases hf : X f with
    | none => rw [hf] at hv; simp only [callFn] at hv; cases hv
    | some g =>
      rw [hf] at hv
      cases g with
      | text cf => simp only [callFn] at hv; exact vbody_box (vcallN_box hX n) hv k cs hk
      | prim p => simp only [callFn] at hv; exact (hX.prim f p hf as h r hs hv).2 k cs hk

theorem vcallN_sound {P : Program} {X : Fns} {M : Modes} (hX : TableOK P X M) (hD : ∀ C nt, SoundOrc P C → BoxOrc C → DrawSound P C M nt) : ∀ n, SoundOrc P (vcallN X M n)
  | 0 => fun f as h r hs hv => by simp only [vcallN] at hv; cases hv
  | n + 1 => fun f as h r hs hv => by
    simp only [vcallN] at hv
    have hC := vcallN_sound hX hD n
    have hB := vcallN_box hX n
    cases hf : X f with
    | none => rw [hf] at hv; simp only [callFn] at hv; cases hv
    | some g =>
      rw [hf] at hv
      cases g with
      | text cf =>
        simp only [callFn] at hv
        obtain ⟨fn, h1, h2, h3⟩ := hX.text f cf hf
        exact text_sound hC hB h1 h2 h3 (hD _ _ hC hB) hv
      | prim p => simp only [callFn] at hv; exact (hX.prim f p hf as h r hs hv).1

/-- What a call comes to, so the model says. -/
theorem vcall_sound {P : Program} {X : Fns} {M : Modes} (hX : TableOK P X M) (hD : ∀ C nt, SoundOrc P C → BoxOrc C → DrawSound P C M nt) : SoundOrc P (vcall X M) := fun f as h r hs hv => by
  obtain ⟨n, hn⟩ := lim_some hv
  exact vcallN_sound hX hD n f as h r hs hn

end Go.Abs
