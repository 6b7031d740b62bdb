/- Contracts of the functions, by the abstract semantics. -/
import Derived.Test.YtkdjbefmiiibpaaDoorBCode
import Derived.Test.YtkdjbefmiiibpaaDoorAbsParts
import Derived.Test.YtkdjbefmiiibpaaDoorBC4
namespace Go.Proofs.YtkdjbefmiiibpaaDoor
open Go Go.Abs Go.Abs.E Go.Abs.L
open Nat (reduceMul reduceSub reduceLeDiff reduceEqDiff)
open Int (reduceLE reduceEq reduceToNat reduceNeg)
set_option linter.unusedSimpArgs false
set_option linter.unusedVariables false
set_option maxRecDepth 20000
set_option maxHeartbeats 4000000
theorem prsP_some {s : List UInt8} {b : BT} : prsP s = some b ↔ s.length ≤ 1600 ∧ s = shw b ∧ b.cnt ≤ 255 ∧ cntb b = true := by
  unfold prsP
  by_cases h : s.length ≤ 1600
  · rw [if_pos h, parseB_some]
    exact ⟨fun h' => ⟨h, h'⟩, fun h' => h'.2⟩
  · rw [if_neg h]
    constructor
    · intro h'; cases h'
    · intro h'; exact absurd h'.1 h
theorem s_parsePlan_ev (s : List UInt8) (hs : s.length ≤ 1000000) : PrR (vcall Xs Ms n_s_parsePlan [.d (.str s)] []) (prsP s) := by
  by_cases hl : s.length ≤ 1600
  · have hl' : ¬ (1600 : Int) < (s.length : Int) := by omega
    obtain ⟨o, a, q, t, ks, k', bad, e1, g1, g2, g3⟩ := s_plan_ev s hs (s.length + 1) 0 (by omega) (by omega) (by omega)
    rw [show ((0 : Nat) : Int) = 0 from rfl] at e1
    have hm : ∀ b', prsP s = some b' → Plan.mk o a q t ks = b'.plan ∧ k' = s.length ∧ bad = false ∧ s = shw b' ∧ b'.cnt ≤ 255 ∧ cntb b' = true := by
      intro b' h
      obtain ⟨_, h1, h2, h3⟩ := prsP_some.1 h
      obtain ⟨p1, p2, p3⟩ := g3 b' [] (fun c t e => by cases e) (sixd_of_cntb b' h3) (by rw [List.drop_zero, List.append_nil]; exact h1)
      rw [← h1] at p2
      exact ⟨p1, by omega, p3, h1, h2, h3⟩
    have none_of : (∀ b', prsP s = some b' → False) → prsP s = none := by
      intro h
      cases hp : prsP s with
      | none => rfl
      | some b' => exact absurd (h b' hp) id
    cases bad with
    | true =>
      rw [none_of fun b' h => by cases (hm b' h).2.2.1]
      refine PrR_no ?_
      refine callE Xs Ms f_s_parsePlan x_s_parsePlan (by show 1 ≤ _; decide) ?_
      simp +contextual -implicitDefEqProofs (maxSteps := 10^7) only [go_sem, seval, ↓gZ, f_s_parsePlan, hl', e1]
    | false =>
      by_cases hk : k' = s.length
      · subst hk
        have e2 := s_planSize_ev (Plan.mk o a q t ks)
        cases hT : toBT (Plan.mk o a q t ks) with
        | none =>
          rw [hT, Plan.enc_mk] at e2
          have hz : sizeIn 255 none < 0 := by rw [show sizeIn 255 none = -1 from rfl]; omega
          rw [none_of fun b' h => by have := (hm b' h).1; rw [this, toBT_plan] at hT; cases hT]
          refine PrR_no ?_
          refine callE Xs Ms f_s_parsePlan x_s_parsePlan (by show 1 ≤ _; decide) ?_
          simp +contextual -implicitDefEqProofs (maxSteps := 10^7) only [go_sem, seval, ↓gZ, f_s_parsePlan, hl', e1, e2, hz]
        | some b =>
          have hpb := toBT_some hT
          have hb' : ∀ b', prsP s = some b' → b' = b := by
            intro b' h
            have := (hm b' h).1
            rw [this, toBT_plan] at hT
            exact Option.some.inj hT
          rw [hT, Plan.enc_mk] at e2
          rcases sizeIn_some 255 b with ⟨hc, hz⟩ | ⟨hc, hz⟩
          · rw [hz] at e2
            have h0 : ¬ (b.cnt : Int) < 0 := by omega
            have e3 := s_countable_ev b
            rw [← hpb, Plan.enc_mk] at e3
            cases hcb : cntb b with
            | false =>
              rw [hcb] at e3
              rw [none_of fun b' h => by have h2 := (hm b' h).2.2.2.2.2; rw [hb' b' h, hcb] at h2; cases h2]
              refine PrR_no ?_
              refine callE Xs Ms f_s_parsePlan x_s_parsePlan (by show 1 ≤ _; decide) ?_
              simp +contextual -implicitDefEqProofs (maxSteps := 10^7) only [go_sem, seval, ↓gZ, f_s_parsePlan, hl', e1, e2, e3, h0]
            | true =>
              rw [hcb] at e3
              have e4 := s_showPlan_ev b hcb (by omega)
              rw [← hpb, Plan.enc_mk] at e4
              by_cases hw : shw b = s
              · rw [hw] at e4
                have hne : (s != s) = false := by simp
                rw [prsP_some.2 ⟨hl, hw.symm, by omega, hcb⟩]
                refine ⟨o, a, q, t, ks, ?_, hpb⟩
                refine callE Xs Ms f_s_parsePlan x_s_parsePlan (by show 1 ≤ _; decide) ?_
                simp +contextual -implicitDefEqProofs (maxSteps := 10^7) only [go_sem, seval, ↓gZ, f_s_parsePlan, hl', e1, e2, e3, e4, h0, hne]
                all_goals rfl
              · have hne : (shw b == s) = false := by simp [hw]
                rw [none_of fun b' h => hw (by have := (hm b' h).2.2.2.1; rw [hb' b' h] at this; exact this.symm)]
                refine PrR_no ?_
                refine callE Xs Ms f_s_parsePlan x_s_parsePlan (by show 1 ≤ _; decide) ?_
                simp +contextual -implicitDefEqProofs (maxSteps := 10^7) only [go_sem, seval, ↓gZ, f_s_parsePlan, hl', e1, e2, e3, e4, h0, hne]
          · rw [hz] at e2
            rw [none_of fun b' h => by have h2 := (hm b' h).2.2.2.2.1; rw [hb' b' h] at h2; omega]
            refine PrR_no ?_
            refine callE Xs Ms f_s_parsePlan x_s_parsePlan (by show 1 ≤ _; decide) ?_
            simp +contextual -implicitDefEqProofs (maxSteps := 10^7) only [go_sem, seval, ↓gZ, f_s_parsePlan, hl', e1, e2]
      · rw [none_of fun b' h => hk (hm b' h).2.1]
        have hk' : ¬ (k' : Int) = (s.length : Int) := by omega
        refine PrR_no ?_
        refine callE Xs Ms f_s_parsePlan x_s_parsePlan (by show 1 ≤ _; decide) ?_
        simp +contextual -implicitDefEqProofs (maxSteps := 10^7) only [go_sem, seval, ↓gZ, f_s_parsePlan, hl', e1, hk']
  · have hm : prsP s = none := by unfold prsP; rw [if_neg hl]
    rw [hm]
    have hl' : (1600 : Int) < (s.length : Int) := by omega
    refine PrR_no ?_
    refine callE Xs Ms f_s_parsePlan x_s_parsePlan (by show 1 ≤ _; decide) ?_
    simp +contextual -implicitDefEqProofs (maxSteps := 10^7) only [go_sem, seval, ↓gZ, f_s_parsePlan, hl']
theorem s_ParsePlan_ev (s : List UInt8) (hs : s.length ≤ 1000000) : PrR (vcall Xs Ms n_s_ParsePlan [.d (.str s)] []) (prsP s) := by
  obtain ⟨o, a, q, t, ks, e1, h1⟩ := s_parsePlan_ev s hs
  refine ⟨o, a, q, t, ks, ?_, h1⟩
  refine callE Xs Ms f_s_ParsePlan x_s_ParsePlan (by show 1 ≤ _; decide) ?_
  simp +contextual -implicitDefEqProofs (maxSteps := 10^7) only [go_sem, seval, ↓gZ, f_s_ParsePlan, e1]

theorem s_of_ev (bs : List UInt8) (hb : bs.length ≤ 2000) (p : Nat) (hp : p < 1099511627776) (ss : List (List UInt8)) (h1 : 1 ≤ ss.length) : ∃ x, x ∈ ss ∧
    vcall Xs Ms n_s_reader_of [.ptr 0 0, .d (.sl (ss.map .str))] [.box [.d (.sl (bs.map encU)), (.d (J p))]] = some (.d (.str x), [.box [.d (.sl (bs.map encU)), (.d (J ((p + 1 : Nat))))]]) := by
  have e1 := s_pick_ev bs p (ss.length : Int) hb hp
  have h0 := s_pick_nonneg bs p ss.length
  have h2 := s_pick_lt bs p ss.length (by omega)
  obtain ⟨v, hv⟩ : ∃ v : Nat, s_pick bs p ss.length = v := ⟨(s_pick bs p ss.length).toNat, by omega⟩
  rw [hv] at e1
  obtain ⟨x, hx⟩ : ∃ x, ss[v]? = some x := ⟨_, List.getElem?_eq_getElem (by omega)⟩
  have hv1 : (v : Int) < (ss.length : Int) := by omega
  refine ⟨x, List.mem_of_getElem? hx, ?_⟩
  refine callE Xs Ms f_s_reader_of x_s_reader_of (by show 2 ≤ _; decide) ?_
  simp +contextual -implicitDefEqProofs (maxSteps := 10^7) only [go_sem, seval, ↓gZ, f_s_reader_of, e1, hv1, hx]
theorem s_mutate_ev (bs : List UInt8) (hb : bs.length ≤ 2000) (p : Nat) (hp : p < 999999999) (s : List UInt8) (hs : s.length ≤ 1000000) : ∃ (s' : List UInt8) (p' : Nat), s'.length ≤ s.length + 1 ∧ p ≤ p' ∧ p' ≤ p + 3 ∧
    vcall Xs Ms n_s_mutate [.ptr 0 0, .d (.str s)] [.box [.d (.sl (bs.map encU)), (.d (J p))]] = some (.d (.str s'), [.box [.d (.sl (bs.map encU)), (.d (J (p')))]]) := by
  have w : IntKind.i64.wrap ((s.length : Int) + 1) = ((s.length + 1 : Nat) : Int) := wrap_succ (k := s.length) (by omega)
  have e1 := s_pick_ev bs p ((s.length + 1 : Nat) : Int) hb (by omega)
  have h0 := s_pick_nonneg bs p ((s.length + 1 : Nat) : Int)
  have h2 := s_pick_lt bs p ((s.length + 1 : Nat) : Int) (by omega)
  obtain ⟨v, hv⟩ : ∃ v : Nat, s_pick bs p ((s.length + 1 : Nat) : Int) = v := ⟨(s_pick bs p ((s.length + 1 : Nat) : Int)).toNat, by omega⟩
  rw [hv] at e1 h2
  have hv1 : (v : Int) ≤ (s.length : Int) := by omega
  have e2 := s_pick_ev bs (p + 1) 5 hb (by omega)
  obtain ⟨c, hc⟩ : ∃ c, s_pick bs (p + 1) 5 = c := ⟨_, rfl⟩
  rw [hc] at e2
  have w2 := wrap_succ (k := v) (by omega)
  by_cases c1 : c = 0 ∨ c = 1
  · by_cases hlt : (v : Int) < (s.length : Int)
    · obtain ⟨x, hx, e3⟩ := s_of_ev bs hb (p + 1 + 1) (by omega) [[48], [49], [32], [119], [112], [44], [40], [10]] (by decide)
      have hx1 : x.length = 1 := by
        simp only [List.mem_cons, List.not_mem_nil, or_false] at hx
        rcases hx with h | h | h | h | h | h | h | h <;> rw [h] <;> rfl
      simp only [List.map_cons, List.map_nil] at e3
      have hv2 : ((v + 1 : Nat) : Int) ≤ (s.length : Int) := by omega
      have b1 : (List.take v s).length + x.length ≤ 1152921504606846976 := by simp; omega
      have b2 : (List.take v s).length + x.length + (List.drop (v + 1) s).length ≤ 1152921504606846976 := by simp; omega
      have ht : List.take s.length s = s := List.take_length
      refine ⟨s.take v ++ x ++ s.drop (v + 1), p + 3, by simp [hx1]; omega, by omega, by omega, ?_⟩
      rcases c1 with c1 | c1
      · refine callE Xs Ms f_s_mutate x_s_mutate (by show 2 ≤ _; decide) ?_
        simp +contextual -implicitDefEqProofs (maxSteps := 10^7) only [go_sem, seval, ↓gZ, f_s_mutate, w, e1, e2, c1, hlt, hv1, hv2, e3, w2, b1, b2, ht, optL, List.nil_append, List.append_nil]
      · refine callE Xs Ms f_s_mutate x_s_mutate (by show 2 ≤ _; decide) ?_
        simp +contextual -implicitDefEqProofs (maxSteps := 10^7) only [go_sem, seval, ↓gZ, f_s_mutate, w, e1, e2, c1, hlt, hv1, hv2, e3, w2, b1, b2, ht, optL, List.nil_append, List.append_nil]
    · refine ⟨s, p + 2, by omega, by omega, by omega, ?_⟩
      rcases c1 with c1 | c1
      · refine callE Xs Ms f_s_mutate x_s_mutate (by show 2 ≤ _; decide) ?_
        simp +contextual -implicitDefEqProofs (maxSteps := 10^7) only [go_sem, seval, ↓gZ, f_s_mutate, w, e1, e2, c1, hlt]
      · refine callE Xs Ms f_s_mutate x_s_mutate (by show 2 ≤ _; decide) ?_
        simp +contextual -implicitDefEqProofs (maxSteps := 10^7) only [go_sem, seval, ↓gZ, f_s_mutate, w, e1, e2, c1, hlt]
  have n0 : ¬ c = 0 := fun h => c1 (.inl h)
  have n1 : ¬ c = 1 := fun h => c1 (.inr h)
  by_cases c2 : c = 2
  · refine ⟨s.take v, p + 2, by simp; omega, by omega, by omega, ?_⟩
    refine callE Xs Ms f_s_mutate x_s_mutate (by show 2 ≤ _; decide) ?_
    simp +contextual -implicitDefEqProofs (maxSteps := 10^7) only [go_sem, seval, ↓gZ, f_s_mutate, w, e1, e2, n0, n1, c2, hv1]
  by_cases c3 : c = 3
  · obtain ⟨x, hx, e3⟩ := s_of_ev bs hb (p + 1 + 1) (by omega) [[48], [32], [10], [120], [119]] (by decide)
    have hx1 : x.length = 1 := by
      simp only [List.mem_cons, List.not_mem_nil, or_false] at hx
      rcases hx with h | h | h | h | h <;> rw [h] <;> rfl
    simp only [List.map_cons, List.map_nil] at e3
    have b1 : s.length + x.length ≤ 1152921504606846976 := by omega
    refine ⟨s ++ x, p + 3, by simp [hx1], by omega, by omega, ?_⟩
    refine callE Xs Ms f_s_mutate x_s_mutate (by show 2 ≤ _; decide) ?_
    simp +contextual -implicitDefEqProofs (maxSteps := 10^7) only [go_sem, seval, ↓gZ, f_s_mutate, w, e1, e2, n0, n1, c2, c3, e3, b1]
  · refine ⟨s, p + 2, by omega, by omega, by omega, ?_⟩
    refine callE Xs Ms f_s_mutate x_s_mutate (by show 2 ≤ _; decide) ?_
    simp +contextual -implicitDefEqProofs (maxSteps := 10^7) only [go_sem, seval, ↓gZ, f_s_mutate, w, e1, e2, n0, n1, c2, c3]
theorem cntb_of_fits (ps : List Pane) (hl : ps.length ≤ 24) : ∀ (b : BT) (W H : Int), W ≤ 200 → H ≤ 200 → fits ps b W H = true → cntb b = true := by
  intro b
  induction b with
  | waste => intros; rfl
  | pane i t =>
    intro W H _ _ h
    simp only [fits, paneFits, Bool.and_eq_true, decide_eq_true_eq] at h
    obtain ⟨h0, h1⟩ := h
    have : i.toNat < ps.length := by
      rcases Nat.lt_or_ge i.toNat ps.length with h' | h'
      · exact h'
      · rw [List.getElem?_eq_none h'] at h1; cases h1
    simp only [cntb, decide_eq_true_eq]
    omega
  | cut d a l r ihl ihr =>
    intro W H hW hH h
    simp only [cntb, Bool.and_eq_true, decide_eq_true_eq]
    cases d with
    | true =>
      simp only [fits, if_true, Bool.and_eq_true, decide_eq_true_eq] at h
      exact ⟨⟨by omega, ihl _ _ (by omega) hH h.1.2⟩, ihr _ _ (by omega) hH h.2⟩
    | false =>
      simp only [fits, Bool.false_eq_true, if_false, Bool.and_eq_true, decide_eq_true_eq] at h
      exact ⟨⟨by omega, ihl _ _ hW (by omega) h.1.2⟩, ihr _ _ hW (by omega) h.2⟩
theorem s_DrawParsePlan_ev (code : List UInt8) : ∃ s : List UInt8, s.length ≤ 1000000 ∧ vcall Xs Ms n_s_DrawParsePlan [.d (.sl (code.map encU))] [] = some (.d (.str s), []) := by
  have e1 := s_newReader_ev code
  have hb : (code.take 2000).length ≤ 2000 := by simp; omega
  obtain ⟨W, H, b, p', ps, o, a, q, t, ks, hbp, h1, h2, h3, h4, h5, h6, h7, h8, h9, e2⟩ := s_workPlan_ev (code.take 2000) hb 0 (by decide)
  rw [show ((0 : Nat) : Int) = 0 from rfl] at e2
  have hcb := cntb_of_fits ps h7 b W H (by omega) (by omega) h8
  have e3 := s_showPlan_ev b hcb (by omega)
  rw [hbp, Plan.enc_mk] at e3
  have hlen := shw_len_le b hcb
  have e4 := s_pick_ev (code.take 2000) p' 3 hb (by omega)
  obtain ⟨c, hc⟩ : ∃ c, s_pick (code.take 2000) p' 3 = c := ⟨_, rfl⟩
  rw [hc] at e4
  by_cases c0 : c = 0
  · obtain ⟨s', p2, g1, g2, g3, e5⟩ := s_mutate_ev (code.take 2000) hb (p' + 1) (by omega) (shw b) (by omega)
    refine ⟨s', by omega, ?_⟩
    refine callE Xs Ms f_s_DrawParsePlan x_s_DrawParsePlan (by show 1 ≤ _; decide) ?_
    simp +contextual -implicitDefEqProofs (maxSteps := 10^7) only [go_sem, seval, ↓gZ, f_s_DrawParsePlan, e1, e2, e3, e4, c0, e5]
  · refine ⟨shw b, by omega, ?_⟩
    refine callE Xs Ms f_s_DrawParsePlan x_s_DrawParsePlan (by show 1 ≤ _; decide) ?_
    simp +contextual -implicitDefEqProofs (maxSteps := 10^7) only [go_sem, seval, ↓gZ, f_s_DrawParsePlan, e1, e2, e3, e4, c0]
theorem binV_neqB (a b : Bool) : binV .neq true (AV.d (.bool a)) (.d (.bool b)) = opt1 (some (AV.d (.bool (a != b)))) := by cases a <;> cases b <;> rfl
theorem binV_eqB (a b : Bool) : binV .eql true (AV.d (.bool a)) (.d (.bool b)) = opt1 (some (AV.d (.bool (a == b)))) := by cases a <;> cases b <;> rfl
theorem l_FnParsePlan_ev (code : List UInt8) : vcall Xs Ms n_l_FnParsePlan [.d (.sl (code.map encU))] [] = some ((.d (.bool true)), []) := by
  by_cases hc : code.length ≤ 1048576
  · have hc' : ¬ (1048576 : Int) < (code.length : Int) := by omega
    obtain ⟨s, hs, e1⟩ := s_DrawParsePlan_ev code
    obtain ⟨o, a, q, t, ks, e2, h2⟩ := i_ParsePlan_ev s hs
    obtain ⟨o', a', q', t', ks', e3, h3⟩ := s_ParsePlan_ev s hs
    rw [← h2] at h3
    simp only [Plan.mk.injEq] at h3
    obtain ⟨rfl, rfl, rfl, rfl, rfl⟩ := h3
    have e4 := l_equalPlan_same ((prsP s).getD .waste)
    rw [← h2, Plan.enc_mk] at e4
    cases hm : prsP s with
    | none =>
      rw [hm] at e2 e3
      simp only [Option.isSome_none] at e2 e3
      refine callE Xs Ms f_l_FnParsePlan x_l_FnParsePlan (by show 1 ≤ _; decide) ?_
      simp +contextual -implicitDefEqProofs (maxSteps := 10^7) only [go_sem, seval, ↓gZ, f_l_FnParsePlan, hc', e1, e2, e3, e4, binV_neqB, binV_eqB, bne_self_eq_false, beq_self_eq_true]
    | some b =>
      obtain ⟨_, k1, k2, k3⟩ := prsP_some.1 hm
      rw [hm] at e2 e3 h2
      simp only [Option.isSome_some] at e2 e3
      have e5 := i_FormatPlan_ev b.plan
      have e6 := i_PlanSize_ev b.plan
      rw [fmtP_some (toBT_plan b), if_pos ⟨k2, k3⟩, ← k1] at e5
      rw [toBT_plan] at e6
      have h2' : Plan.mk o' a' q' t' ks' = b.plan := h2
      rw [← h2', Plan.enc_mk] at e5 e6
      have hself : (s == s) = true := by simp
      have hpos : 0 < sizeIn 255 (some b) := by
        rcases sizeIn_some 255 b with ⟨_, h⟩ | ⟨h, _⟩
        · rw [h]; have := b.cnt_pos; omega
        · omega
      refine callE Xs Ms f_l_FnParsePlan x_l_FnParsePlan (by show 1 ≤ _; decide) ?_
      simp +contextual -implicitDefEqProofs (maxSteps := 10^7) only [go_sem, seval, ↓gZ, f_l_FnParsePlan, hc', e1, e2, e3, e4, e5, e6, hself, hpos, binV_neqB, binV_eqB, bne_self_eq_false, beq_self_eq_true]
  · have hc' : (1048576 : Int) < (code.length : Int) := by omega
    refine callE Xs Ms f_l_FnParsePlan x_l_FnParsePlan (by show 1 ≤ _; decide) ?_
    simp +contextual -implicitDefEqProofs (maxSteps := 10^7) only [go_sem, seval, ↓gZ, f_l_FnParsePlan, hc']

end Go.Proofs.YtkdjbefmiiibpaaDoor
