/- The abstract semantics and the model: functions, programs. Own text. -/
import Derived.Test.YtbodfpboklcgoaaAbsSound3
set_option linter.unusedVariables false
set_option linter.unusedSimpArgs false
namespace Go.Abs
open Go

section
variable {P : Program} {nt : Nat} {F A : Nat → Prop} {Γ0 : Gh}

theorem gs_numbV : ∀ (l : List AV) (k t : Nat), gs (numbV k l) t = if k ≤ t then orJunk l[t - k]? else .junk
  | [], k, t => by simp [numbV, gs, lkp, orJunk]
  | v :: r, k, t => by
    have ih := gs_numbV r (k + 1) t
    have key : gs (numbV k (v :: r)) t = if k = t then orJunk (orIf (some v) (lkp (numbV (k + 1) r) t)) else gs (numbV (k + 1) r) t := by
      simp only [numbV, gs, lkp_snoc]
      by_cases h : k = t
      · simp [h]
      · simp only [h, if_false]; cases lkp (numbV (k + 1) r) t <;> rfl
    rw [key]
    by_cases h1 : k = t
    · subst h1
      have h2 : lkp (numbV (k + 1) r) k = none := by
        have : ∀ (l : List AV) (j : Nat), k < j → lkp (numbV j l) k = none := by
          intro l
          induction l with
          | nil => intro j _; rfl
          | cons a l ihl =>
            intro j hj
            simp only [numbV, lkp_snoc, ihl (j + 1) (by omega)]
            rw [if_neg (by omega)]; rfl
        exact this r (k + 1) (by omega)
      rw [h2]; simp [orIf, orJunk]
    · rw [if_neg h1, ih]
      by_cases h2 : k ≤ t
      · rw [if_pos (by omega), if_pos h2]
        have : t - k = (t - (k + 1)) + 1 := by omega
        rw [this]; simp
      · rw [if_neg (by omega), if_neg h2]

/-! ## Results -/

theorem sureAddr_asAddr {v : Value} {u : Value} {t : TypeId} {w : World} (h : (Instr.loadAt t v).run P w = .ok u w) : (do loadVar t (← asAddr v) : Sem Value).run P w = .ok u w := by
  cases v with
  | pointer a =>
    cases a with
    | none => simp [Instr.loadAt, Instr.sureAddr] at h
    | some a => simpa [Instr.loadAt, Instr.sureAddr, asAddr] using h
  | _ => simp [Instr.loadAt, Instr.sureAddr] at h

theorem results_run {I : Nat → Prop} {Γ : Gh} {st : St} {a : Act} {w : World} (h : Sim nt F A I Γ (Upto st.nx) st.sl st.hp a w) : ∀ {rvs : List ResultVar} {rs : List CRes} {vs : List AV}, mapO (cRes P) rvs = some rs → mapO (resv st) rs = some vs →
    ∃ us : List Value, (rvs.mapM (m := Sem) fun
      | .tmp t => pure (a.tmps.getD t undef)
      | .cell c t => do loadVar t (← asAddr (a.tmps.getD c undef))).run P w = .ok us w ∧ All2 (Rep Γ w I) vs us
  | [], rs, vs, hr, hv => by
    simp only [mapO] at hr; cases hr
    simp only [mapO] at hv; cases hv
    exact ⟨[], by simp, trivial⟩
  | rv :: rvs, rs, vs, hr, hv => by
    simp only [mapO] at hr
    obtain ⟨r, h1, hr⟩ := bnd_eq_some hr
    obtain ⟨rs', h2, hr⟩ := bnd_eq_some hr
    cases hr
    simp only [mapO] at hv
    obtain ⟨v, h3, hv⟩ := bnd_eq_some hv
    obtain ⟨vs', h4, hv⟩ := bnd_eq_some hv
    cases hv
    obtain ⟨us, h5, h6⟩ := results_run h h2 h4
    cases rv with
    | tmp t =>
      simp only [cRes] at h1; cases h1
      simp only [resv] at h3; cases h3
      refine ⟨a.tmps.getD t undef :: us, ?_, h.slots t, h6⟩
      simp only [List.mapM_cons, Sem.run_bind, Sem.run_pure, Result.andThen_ok, h5]
    | cell c t =>
      simp only [cRes] at h1
      obtain ⟨g, h7, h1⟩ := bnd_eq_some h1
      cases h1
      simp only [resv] at h3
      obtain ⟨u, h8, h9⟩ := load_run (P := P) h7 h.hpOK (h.slots c) h3
      have h10 := sureAddr_asAddr h8
      refine ⟨u :: us, ?_, h9, h6⟩
      simp only [List.mapM_cons]
      rw [Sem.run_bind, h10]
      simp only [Result.andThen_ok, Sem.run_bind, h5, Sem.run_pure]

theorem noTup_rep {Γ : Gh} {w : World} {I : Nat → Prop} : ∀ {vs : List AV} {us : List Value}, anyTup vs = false → All2 (Rep Γ w I) vs us → All2 (Rep2 Γ w I) vs us
  | [], [], _, _ => trivial
  | [], _ :: _, _, h => h.elim
  | _ :: _, [], _, h => h.elim
  | v :: vs, u :: us, hn, h => by
    simp only [anyTup, Bool.or_eq_false_iff] at hn
    refine ⟨?_, noTup_rep hn.2 h.2⟩
    cases v <;> first | exact h.1 | (simp [isTup] at hn)

theorem one_rep {Γ : Gh} {w : World} {I : Nat → Prop} {vs : List AV} {us : List Value} (h : All2 (Rep Γ w I) vs us) : Rep Γ w I (oneOf vs) (if h : us.toArray.size = 1 then us.toArray[0] else .tuple us.toArray) := by
  match vs, us, h with
  | [], [], h => exact ⟨#[], rfl, trivial⟩
  | [v], [u], h => exact h.1
  | v :: v' :: vs, u :: u' :: us, h =>
    simp only [oneOf]
    cases hn : anyTup (v :: v' :: vs)
    · simp only [Bool.false_eq_true, if_false]
      rw [dif_neg (by simp)]
      exact ⟨_, rfl, by simpa using noTup_rep hn h⟩
    · exact trivial

/-! ## A function -/

theorem text_sound {C : Orc} {M : Modes} (hC : SoundOrc P C) (hB : BoxOrc C) {f : FuncId} {fn : Func} {cf : CFun} (hf : P.funcs[f]? = some fn) (hname : (fn.name == "runtime.NumGoroutine") = false) (hcf : cFun P fn = some (stripF cf)) (hD : DrawSound P C M fn.ntmps)
    {N : Nat} {as : List AV} {h : List AObj} {res : AV} {hs : List AObj} (hv : vbody C M N cf as h = some (res, hs)) : Sound P f as h res hs := by
  unfold cFun at hcf
  obtain ⟨c, hb, hcf⟩ := bnd_eq_some hcf
  obtain ⟨cc, hcc, hcf⟩ := bnd_eq_some hcf
  obtain ⟨rs, hrs, hcf⟩ := bnd_eq_some hcf
  obtain ⟨cnt, cres, cc0⟩ := cf
  simp only [stripF, Option.some.injEq, CFun.mk.injEq] at hcf
  obtain ⟨rfl, rfl, rfl⟩ := hcf
  refine ⟨⟨fn, hf, hname, by rw [hb]; rfl⟩, fun F A I Γ args w hpre => ?_⟩
  unfold vbody at hv
  split at hv
  · rename_i hle
    simp only at hle hv
    cases hr : vrun C M N cc0 { sl := numbV 0 as, hp := numb 0 h, nx := h.length, m := h.length } with
    | none => rw [hr] at hv; simp [resK] at hv
    | some q =>
      obtain ⟨ex, st'⟩ := q
      rw [hr] at hv
      have hlen : as.length = args.length := hpre.args.length
      refine calls_of_wp hf hb ?_
      have hS : Sim fn.ntmps F A I Γ (Upto h.length) (numbV 0 as) (numb 0 h) { tmps := args.toArray ++ Array.replicate (fn.ntmps - args.toArray.size) undef, defers := [] } w := by
        refine { nt := by simp; omega, dfr := rfl, slots := fun t => ?_, objs := hpre.objs, inj := hpre.inj, bound := hpre.bound, fresh := hpre.fresh, own := hpre.own, names := fun id hid => hpre.names id (by simpa [Upto] using hid) }
        rw [gs_numbV]
        simp only [Nat.zero_le, if_true, Nat.sub_zero]
        cases ht : as[t]? with
        | none => exact trivial
        | some x =>
          obtain ⟨v, h1, h2⟩ := hpre.args.get t x ht
          have h3 : (args.toArray ++ Array.replicate (fn.ntmps - args.toArray.size) undef).getD t undef = v := by
            have hlt := (List.getElem?_eq_some_iff.1 h1).1
            have h4 := List.getElem?_eq_getElem hlt
            rw [h1] at h4
            simp [Array.getElem?_append, hlt]
            exact (Option.some.inj h4).symm
          rw [h3]; exact h2
      have hc : CPre Γ Γ (numb 0 h) := by
        intro k b hk
        refine ⟨hk, ?_⟩
        have hkm : k < h.length := by
          rcases Nat.lt_or_ge k h.length with h1 | h1
          · exact h1
          · rw [hpre.names k h1] at hk; cases hk
        have hl : lkp (numb 0 h) k = some h[k] := by rw [lkp_numb]; simp [hkm]
        have ho := hpre.objs k _ hl
        cases hq : h[k] with
        | box cs => exact ⟨cs, by rw [hl, hq]⟩
        | row sz xs e z =>
          rw [hq] at ho
          obtain ⟨ad, n, c, h1, _⟩ := ho
          rw [hk] at h1; cases h1
      refine code_sound (F := F) (A := A) (Γ0 := Γ) hC hB hD cc0 c hcc hr hS hc hpre.names fun a' w' hp => ?_
      have fin : (bnd (mapO (resv st') rs) fun vs => some (handBack h.length st'.hp (oneOf vs))) = some (res, hs) → a'.defers = [] ∧ ∃ v, (results fn a'.tmps).run P w' = .ok v w' ∧ ∃ v2 I' Γ', Ending.returned v = .returned v2 ∧ Back F A I Γ w hs res I' Γ' v2 w' := by
        intro hres
        obtain ⟨I', Γ', b1, b2, b3, b4, b5⟩ := hp
        obtain ⟨vs, hvs, hres⟩ := bnd_eq_some hres
        obtain ⟨us, hus, hrep⟩ := results_run b5 hrs hvs
        refine ⟨b5.dfr, (if h : us.toArray.size = 1 then us.toArray[0] else .tuple us.toArray), ?_, _, I', livG st'.hp (reach st'.hp (fuelOf st'.hp) (refs (oneOf vs) ++ orefsOf st'.hp (List.range h.length)) (List.range h.length)) Γ', rfl, ?_⟩
        · unfold results
          rw [Sem.run_bind, Array.mapM_eq_mapM_toList, Sem.run_map]
          exact congrArg (fun r : Result (List Value) => (r.andThen fun a w' => Result.ok a.toArray w').andThen fun a w' => Sem.run P (pure (if h : a.size = 1 then a[0] else Value.tuple a)) w') hus
        · have hnd := (reach_ok st'.hp (fuelOf st'.hp) (refs (oneOf vs) ++ orefsOf st'.hp (List.range h.length)) (List.range h.length) List.nodup_range).1
          obtain ⟨t1, t2, t3⟩ := tidied b5 hnd
          simp only [handBack, Option.some.injEq, Prod.mk.injEq] at hres
          obtain ⟨rfl, rfl⟩ := hres
          have hcp := tidy_cpre (n := fuelOf st'.hp) (todo := refs (oneOf vs) ++ orefsOf st'.hp (List.range h.length)) (m := h.length) b1 hpre.names
          exact { boxes := fun id b hg => (hcp id b hg).1, keeps := b2, sub := b3, fr := b4, res := tidy_rep _ (one_rep hrep), objs := t1, inj := t2, bound := b5.bound,
                  names := fun id hid => t3 id (by simpa [lkpL_length] using hid) }
      cases ex with
      | normal => exact fin (by simpa [resK] using hv)
      | ret => exact fin (by simpa [resK] using hv)
      | exit id => simp [resK] at hv
  · cases hv

end
end Go.Abs
