/- Contracts of the functions, by the abstract semantics. -/
import Derived.Test.YtkdjbefmiiibpaaDoorCCode
import Derived.Test.YtkdjbefmiiibpaaDoorAbsParts
import Derived.Test.YtkdjbefmiiibpaaDoorCC4
namespace Go.Proofs.YtkdjbefmiiibpaaDoor
open Go Go.Abs Go.Abs.E Go.Abs.L
open Nat (reduceMul reduceSub reduceLeDiff reduceEqDiff)
open Int (reduceLE reduceEq reduceToNat reduceNeg)
set_option linter.unusedSimpArgs false
set_option linter.unusedVariables false
set_option maxRecDepth 20000
set_option maxHeartbeats 4000000
theorem wordsOf_len (l : Line) (h : sixL l) : (joinL 32 (wordsOf l)).length ≤ 40 := by
  obtain ⟨⟨w, h', t, k⟩, c⟩ := l
  obtain ⟨h1, h2, h3, h4⟩ := h
  simp only [six] at h1 h2 h3 h4
  have l1 := num_len 5 c.toNat (by omega)
  have l2 := num_len 5 w.toNat (by omega)
  have l3 := num_len 5 h'.toNat (by omega)
  have l4 := num_len 5 k.toNat (by omega)
  have l5 : (turnW t).length = 5 := by cases t <;> rfl
  simp only [wordsOf, joinL, List.length_append, List.length_cons]
  omega
theorem i_lineText_ev (lW lH : Int) (lT : Bool) (lK lC : Int) (h : sixL (Line.mk (Pane.mk lW lH lT lK) lC)) : vcall Xs Ms n_i_lineText [(.d (.agg [J lW, J lH, .bool lT, J lK, J lC]))] [] = some (.d (.str (showLn (Line.mk (Pane.mk lW lH lT lK) lC))), []) := by
  have hw := wordsOf_len (Line.mk (Pane.mk lW lH lT lK) lC) h
  obtain ⟨h1, h2, h3, h4⟩ := h
  simp only [six] at h1 h2 h3 h4
  have e1 := strconv_Itoa_ev lC h1.1 (by omega)
  have e2 := strconv_Itoa_ev lW h2.1 (by omega)
  have e3 := strconv_Itoa_ev lH h3.1 (by omega)
  have e4 := strconv_Itoa_ev lK h4.1 (by omega)
  have e5 := strings_Join_ev (wordsOf (Line.mk (Pane.mk lW lH lT lK) lC)) 32 (by simp [wordsOf]) (by simp [wordsOf]) (by omega)
  simp only [wordsOf, List.map_cons, List.map_nil] at e5
  unfold showLn
  simp only [wordsOf]
  refine callE Xs Ms f_i_lineText x_i_lineText (by show 1 ≤ _; decide) ?_
  cases lT with
  | true =>
    simp only [turnW, turnsW, if_true] at e5 ⊢
    simp +contextual -implicitDefEqProofs (maxSteps := 10^7) only [go_sem, seval, ↓gZ, f_i_lineText, e1, e2, e3, e4, e5]
  | false =>
    simp only [turnW, fixedW, Bool.false_eq_true, if_false] at e5 ⊢
    simp +contextual -implicitDefEqProofs (maxSteps := 10^7) only [go_sem, seval, ↓gZ, f_i_lineText, e1, e2, e3, e4, e5]
theorem sixL_of_VOrd {l : List Line} (h : VOrd l) : ∀ x ∈ l, sixL x := by
  intro x hx
  obtain ⟨⟨h1, h2, h3, h4, h5, h6⟩, h7, h8⟩ := VOrd_all h x hx
  simp only [sixL, six]
  omega
def fmtO (l : List Line) : List UInt8 := if VOrd l then showOrd l else []
theorem showOrd_len : ∀ {l : List Line}, (∀ x ∈ l, sixL x) → (showOrd l).length ≤ 41 * l.length
  | [], _ => by simp [showOrd, linesT]
  | x :: r, h => by
    have ih := showOrd_len (l := r) (fun y hy => h y (by simp [hy]))
    have := wordsOf_len x (h x (by simp))
    rw [showOrd, linesT_cons, ← showOrd]
    simp only [List.length_append, List.length_cons, showLn]
    omega
theorem showLn_pos (l : Line) : 0 < (showLn l).length := by
  have := num_pos l.Count.toNat
  simp only [showLn, wordsOf, joinL, List.length_append]
  omega
theorem showOrd_take {l : List Line} {k : Nat} {x : Line} (hx : l[k]? = some x) : showOrd (l.take (k + 1)) = showOrd (l.take k) ++ (showLn x ++ [10]) := by
  rw [List.take_add_one, hx]
  simp only [Option.toList_some, showOrd]
  rw [linesT_snoc]
theorem i_FormatOrder_ev (l : List Line) : vcall Xs Ms n_i_FormatOrder [(.d (.sl (l.map Line.enc)))] [] = some (.d (.str (fmtO l)), []) := by
  have ev := i_ValidOrder_ev l
  unfold fmtO
  by_cases hv : VOrd l
  · rw [if_pos hv]
    rw [decide_eq_true hv] at ev
    have hsx := sixL_of_VOrd hv
    have hl8 := hv.1
    refine callE Xs Ms f_i_FormatOrder x_i_FormatOrder (by show 1 ≤ _; decide) ?_
    simp +contextual -implicitDefEqProofs (maxSteps := 10^7) only [go_sem, seval, ↓gZ, f_i_FormatOrder, ev]
    refine LW_over Xs Ms (st0 := ?st0) (α := Nat) (fun k => [(11, .d (J (k : Int)))]) (fun k => [(0, .box [.bnil 0 TB, .bbuf 5 (showOrd (l.take k))])]) (fun k => k ≤ l.length) (fun k => l.length - k) 0 ?hc (by omega) ?h0 ?step
    case hc => simp +contextual -implicitDefEqProofs (maxSteps := 10^7) only [go_sem, seval, ↓gZ] <;> exact rfl
    case h0 => rfl
    case step =>
      intro k hk ih
      have hb := showOrd_len (l := l.take k) (fun x hx => hsx x (List.mem_of_mem_take hx))
      have hb2 : (l.take k).length ≤ 8 := by simp; omega
      by_cases hlt : k < l.length
      · obtain ⟨x, hx⟩ := get_lt hlt
        have hlt' : (k : Int) < (l.length : Int) := by omega
        have w := wrap_succ (k := k) (by omega)
        have hs := hsx x (List.mem_of_getElem? hx)
        have ht := showOrd_take hx
        have hwl := wordsOf_len x hs
        have hpos := showLn_pos x
        obtain ⟨⟨W, H, T, K⟩, C⟩ := x
        have e1 := i_lineText_ev W H T K C hs
        generalize hsh : showLn ⟨⟨W, H, T, K⟩, C⟩ = t at e1 ht hpos
        have htl : t.length ≤ 40 := by rw [← hsh]; exact hwl
        have e2 := strings_WriteString_ev (showOrd (l.take k)) t hpos (by omega)
        have e3 := strings_WriteByte_ev (showOrd (l.take k) ++ t) 10 10 rfl (by simp; omega)
        simp +contextual -implicitDefEqProofs (maxSteps := 10^7) only [go_sem, seval, ↓gZ, hlt', hlt, hx, w, e1, e2, e3]
        refine ih (k + 1) _ (by omega) (by omega) ?_
        simp +contextual -implicitDefEqProofs (maxSteps := 10^7) only [go_sem, seval, ↓gZ, ht, List.append_assoc]
      · have : k = l.length := by omega
        subst this
        have e4 := strings_String_ev (showOrd l)
        simp +contextual -implicitDefEqProofs (maxSteps := 10^7) only [go_sem, seval, ↓gZ, List.take_length, e4]
  · rw [if_neg hv]
    rw [decide_eq_false hv] at ev
    refine callE Xs Ms f_i_FormatOrder x_i_FormatOrder (by show 1 ≤ _; decide) ?_
    simp +contextual -implicitDefEqProofs (maxSteps := 10^7) only [go_sem, seval, ↓gZ, f_i_FormatOrder, ev]
theorem s_showLine_ev (lW lH : Int) (lT : Bool) (lK lC : Int) (h : sixL (Line.mk (Pane.mk lW lH lT lK) lC)) : vcall Xs Ms n_s_showLine [(.d (.agg [J lW, J lH, .bool lT, J lK, J lC]))] [] = some (.d (.str (showLn (Line.mk (Pane.mk lW lH lT lK) lC))), []) := by
  have hw := wordsOf_len (Line.mk (Pane.mk lW lH lT lK) lC) h
  obtain ⟨h1, h2, h3, h4⟩ := h
  simp only [six] at h1 h2 h3 h4
  have e1 := s_number_ev lC.toNat (by omega)
  have e2 := s_number_ev lW.toNat (by omega)
  have e3 := s_number_ev lH.toNat (by omega)
  have e4 := s_number_ev lK.toNat (by omega)
  rw [Int.toNat_of_nonneg (by omega)] at e1 e2 e3 e4
  have l1 := num_len 5 lC.toNat (by omega)
  have l2 := num_len 5 lW.toNat (by omega)
  have l3 := num_len 5 lH.toNat (by omega)
  have l4 := num_len 5 lK.toNat (by omega)
  unfold showLn
  simp only [wordsOf, joinL]
  generalize num lC.toNat = a at *
  generalize num lW.toNat = b at *
  generalize num lH.toNat = c at *
  generalize num lK.toNat = d at *
  have b1 : a.length + 1 ≤ 1152921504606846976 := by omega
  have b2 : a.length + 1 + b.length ≤ 1152921504606846976 := by omega
  have b3 : a.length + 1 + b.length + 1 ≤ 1152921504606846976 := by omega
  have b4 : a.length + 1 + b.length + 1 + c.length ≤ 1152921504606846976 := by omega
  have b5 : a.length + 1 + b.length + 1 + c.length + 1 ≤ 1152921504606846976 := by omega
  have b6 : a.length + 1 + b.length + 1 + c.length + 1 + 5 ≤ 1152921504606846976 := by omega
  have b7 : a.length + 1 + b.length + 1 + c.length + 1 + 5 + 1 ≤ 1152921504606846976 := by omega
  have b8 : a.length + 1 + b.length + 1 + c.length + 1 + 5 + 1 + d.length ≤ 1152921504606846976 := by omega
  refine callE Xs Ms f_s_showLine x_s_showLine (by show 1 ≤ _; decide) ?_
  cases lT with
  | true =>
    simp only [turnW, turnsW, if_true]
    simp +contextual -implicitDefEqProofs (maxSteps := 10^7) only [go_sem, seval, ↓gZ, f_s_showLine, e1, e2, e3, e4, b1, b2, b3, b4, b5, b6, b7, b8]
    simp only [List.append_assoc, List.cons_append, List.nil_append]
  | false =>
    simp only [turnW, fixedW, Bool.false_eq_true, if_false]
    simp +contextual -implicitDefEqProofs (maxSteps := 10^7) only [go_sem, seval, ↓gZ, f_s_showLine, e1, e2, e3, e4, b1, b2, b3, b4, b5, b6, b7, b8]
    simp only [List.append_assoc, List.cons_append, List.nil_append]
theorem s_showOrder_ev (l : List Line) (hl : l.length ≤ 1000) (hsx : ∀ x ∈ l, sixL x) : vcall Xs Ms n_s_showOrder [(.d (.sl (l.map Line.enc)))] [] = some (.d (.str (showOrd l)), []) := by
  refine callE Xs Ms f_s_showOrder x_s_showOrder (by show 1 ≤ _; decide) ?_
  simp +contextual -implicitDefEqProofs (maxSteps := 10^7) only [go_sem, seval, ↓gZ, f_s_showOrder]
  refine LW_over Xs Ms (st0 := ?st0) (α := Nat) (fun k => [(4, .d (J (k : Int))), (3, .d (.str (showOrd (l.take k))))]) (fun _ => []) (fun k => k ≤ l.length) (fun k => l.length - k) 0 ?hc (by omega) ?h0 ?step
  case hc => simp +contextual -implicitDefEqProofs (maxSteps := 10^7) only [go_sem, seval, ↓gZ] <;> exact rfl
  case h0 => rfl
  case step =>
    intro k hk ih
    have hb := showOrd_len (l := l.take k) (fun x hx => hsx x (List.mem_of_mem_take hx))
    have hb2 : (l.take k).length ≤ 1000 := by simp; omega
    by_cases hlt : k < l.length
    · obtain ⟨x, hx⟩ := get_lt hlt
      have hlt' : (k : Int) < (l.length : Int) := by omega
      have w := wrap_succ (k := k) (by omega)
      have hs := hsx x (List.mem_of_getElem? hx)
      have ht := showOrd_take hx
      have hwl := wordsOf_len x hs
      obtain ⟨⟨W, H, T, K⟩, C⟩ := x
      have e1 := s_showLine_ev W H T K C hs
      generalize hsh : showLn ⟨⟨W, H, T, K⟩, C⟩ = t at e1 ht
      have htl : t.length ≤ 40 := by rw [← hsh]; exact hwl
      have b1 : (showOrd (l.take k)).length + t.length ≤ 1152921504606846976 := by omega
      have b2 : (showOrd (l.take k)).length + t.length + 1 ≤ 1152921504606846976 := by omega
      simp +contextual -implicitDefEqProofs (maxSteps := 10^7) only [go_sem, seval, ↓gZ, hlt', hlt, hx, w, e1, b1, b2]
      refine ih (k + 1) _ (by omega) (by omega) ?_
      simp +contextual -implicitDefEqProofs (maxSteps := 10^7) only [go_sem, seval, ↓gZ, ht, List.append_assoc]
    · have : k = l.length := by omega
      subst this
      simp +contextual -implicitDefEqProofs (maxSteps := 10^7) only [go_sem, seval, ↓gZ, List.take_length]
theorem s_FormatOrder_ev (l : List Line) (hl : l.length ≤ 1000000) : vcall Xs Ms n_s_FormatOrder [(.d (.sl (l.map Line.enc)))] [] = some (.d (.str (fmtO l)), []) := by
  have ev := s_validOrder_ev l hl
  unfold fmtO
  by_cases hv : VOrd l
  · rw [if_pos hv]
    rw [decide_eq_true hv] at ev
    have e1 := s_showOrder_ev l (by have := hv.1; omega) (sixL_of_VOrd hv)
    refine callE Xs Ms f_s_FormatOrder x_s_FormatOrder (by show 1 ≤ _; decide) ?_
    simp +contextual -implicitDefEqProofs (maxSteps := 10^7) only [go_sem, seval, ↓gZ, f_s_FormatOrder, ev, e1]
  · rw [if_neg hv]
    rw [decide_eq_false hv] at ev
    refine callE Xs Ms f_s_FormatOrder x_s_FormatOrder (by show 1 ≤ _; decide) ?_
    simp +contextual -implicitDefEqProofs (maxSteps := 10^7) only [go_sem, seval, ↓gZ, f_s_FormatOrder, ev]

theorem s_anyPane_ev (bs : List UInt8) (hb : bs.length ≤ 2000) (p : Nat) (hp : p < 800000000) : ∃ (W H : Int) (T : Bool) (K : Int) (p' : Nat), p ≤ p' ∧ p' ≤ p + 6 ∧ vcall Xs Ms n_s_anyPane [.ptr 0 0] [.box [.d (.sl (bs.map encU)), (.d (J p))]] = some (.d (.agg [J W, J H, .bool T, J K]), [.box [.d (.sl (bs.map encU)), (.d (J (p')))]]) := by
  obtain ⟨W, H, T, K, e1⟩ := s_somePane_ev bs hb p (by omega)
  have e2 := s_pick_ev bs (p + 4) 16 hb (by omega)
  obtain ⟨c, hc⟩ : ∃ c, s_pick bs (p + 4) 16 = c := ⟨_, rfl⟩
  rw [hc] at e2
  by_cases c0 : c = 0
  · obtain ⟨v, _, e3⟩ := s_one_ev bs (p + 4 + 1) [0, 201, 200] hb (by omega) (by simp)
    simp only [List.map_cons, List.map_nil, encI] at e3
    refine ⟨v, H, T, K, p + 6, by omega, by omega, ?_⟩
    refine callE Xs Ms f_s_anyPane x_s_anyPane (by show 1 ≤ _; decide) ?_
    simp +contextual -implicitDefEqProofs (maxSteps := 10^7) only [go_sem, seval, ↓gZ, f_s_anyPane, e1, e2, c0, e3]
  by_cases c1 : c = 1
  · obtain ⟨v, _, e3⟩ := s_one_ev bs (p + 4 + 1) [-1, 10, 9] hb (by omega) (by simp)
    simp only [List.map_cons, List.map_nil, encI] at e3
    refine ⟨W, H, T, v, p + 6, by omega, by omega, ?_⟩
    refine callE Xs Ms f_s_anyPane x_s_anyPane (by show 1 ≤ _; decide) ?_
    simp +contextual -implicitDefEqProofs (maxSteps := 10^7) only [go_sem, seval, ↓gZ, f_s_anyPane, e1, e2, c0, c1, e3]
  · refine ⟨W, H, T, K, p + 5, by omega, by omega, ?_⟩
    refine callE Xs Ms f_s_anyPane x_s_anyPane (by show 1 ≤ _; decide) ?_
    simp +contextual -implicitDefEqProofs (maxSteps := 10^7) only [go_sem, seval, ↓gZ, f_s_anyPane, e1, e2, c0, c1]
def POrd (bs : List UInt8) (p m : Nat) (r : AV × List AObj) : Prop := ∃ (l : List Line) (p' : Nat), l.length ≤ m ∧ p ≤ p' ∧ p' ≤ p + 100 ∧ r = (.own 1, [.box [.d (.sl (bs.map encU)), (.d (J (p')))], .row 5 (l.map Line.enc) true false])
theorem s_someOrder_ev (bs : List UInt8) (hb : bs.length ≤ 2000) (p : Nat) (hp : p < 800000000) : ∃ r, vcall Xs Ms n_s_someOrder [.ptr 0 0] [.box [.d (.sl (bs.map encU)), (.d (J p))]] = some r ∧ POrd bs p 4 r := by
  obtain ⟨n, hn, eN⟩ := s_one_ev bs p [2, 3, 1, 4, 0] hb (by omega) (by decide)
  have hn' : 0 ≤ n ∧ n ≤ 4 := by simp only [List.mem_cons, List.not_mem_nil, or_false] at hn; omega
  simp only [List.map_cons, List.map_nil, encI] at eN
  refine callW Xs Ms f_s_someOrder x_s_someOrder (by show 1 ≤ _; decide) ?_
  simp +contextual -implicitDefEqProofs (maxSteps := 10^7) only [go_sem, seval, ↓gZ, f_s_someOrder, eN]
  refine LW_over Xs Ms (st0 := ?st0) (α := Int × List Line × Nat) (fun s => [(4, .d (J s.1))]) (fun s => [(0, .box [.d (.sl (bs.map encU)), (.d (J (s.2.2)))]), (1, .row 5 (s.2.1.map Line.enc) true false)]) (fun s => 0 ≤ s.1 ∧ s.1 ≤ 4 ∧ s.2.1.length + s.1 ≤ 4 ∧ (∀ x ∈ s.2.1, 0 ≤ x.Count ∧ x.Count ≤ 4 * (4 - s.1)) ∧ p + 1 ≤ s.2.2 ∧ s.2.2 + 5 * s.1 ≤ p + 21) (fun s => s.1.toNat) (n, [], p + 1) ?hc ⟨hn'.1, hn'.2, by simp only [List.length_nil]; omega, by simp, by simp only; omega, by simp only; omega⟩ ?h0 ?step
  case hc => simp +contextual -implicitDefEqProofs (maxSteps := 10^7) only [go_sem, seval, ↓gZ] <;> exact rfl
  case h0 => rfl
  case step =>
    intro ⟨m, l, pp⟩ ⟨i1, i2, i3, i4, i5, i6⟩ ih
    simp only at i1 i2 i3 i4 i5 i6
    by_cases hm : 0 < m
    · obtain ⟨W, H, T, K, e1⟩ := s_somePane_ev bs hb pp (by omega)
      have e2 := s_pick_ev bs (pp + 4) 4 hb (by omega)
      have u1 := s_pick_nonneg bs (pp + 4) 4
      have u2 := s_pick_lt bs (pp + 4) 4 (by omega)
      generalize s_pick bs (pp + 4) 4 = c at e2 u1 u2
      have w1 := wi (1 + c) (by omega) (by omega)
      have w2 := wi (m - 1) (by omega) (by omega)
      have e3 := s_addPanes_ev l W H T K (1 + c) (by omega) (fun x hx => by have := i4 x hx; unfold R64; omega)
      have hcnt := addL_cnt (p := ⟨W, H, T, K⟩) (c := 1 + c) (hi := 4 * (4 - m)) (by omega) (by omega) i4
      have hlen := addL_len ⟨W, H, T, K⟩ (1 + c) l
      simp +contextual -implicitDefEqProofs (maxSteps := 10^7) only [go_sem, seval, ↓gZ, hm, e1, e2, w1, w2, e3]
      refine ih (m - 1, addL ⟨W, H, T, K⟩ (1 + c) l, pp + 5) _ ⟨by simp only; omega, by simp only; omega, by simp only; omega, fun x hx => by have := hcnt x hx; simp only; omega, by simp only; omega, by simp only; omega⟩ (by simp only; omega) ?_
      simp +contextual -implicitDefEqProofs (maxSteps := 10^7) only [go_sem, seval, ↓gZ]
    · simp +contextual -implicitDefEqProofs (maxSteps := 10^7) only [go_sem, seval, ↓gZ, hm]
      exact ⟨l, pp, by omega, by omega, by omega, rfl⟩
theorem s_anyOrder_ev (bs : List UInt8) (hb : bs.length ≤ 2000) (p : Nat) (hp : p < 700000000) : ∃ r, vcall Xs Ms n_s_anyOrder [.ptr 0 0] [.box [.d (.sl (bs.map encU)), (.d (J p))]] = some r ∧ ∃ (l : List Line) (p' : Nat), l.length ≤ 5 ∧ p ≤ p' ∧ p' ≤ p + 200 ∧ r = (.own 1, [.box [.d (.sl (bs.map encU)), (.d (J (p')))], .row 5 (l.map Line.enc) true false]) := by
  obtain ⟨r, e1, l, p', h1, h2, h3, rfl⟩ := s_someOrder_ev bs hb p (by omega)
  by_cases h0 : l.length = 0
  · have h0' : ¬ (0 : Int) < (l.length : Int) := by omega
    refine callW Xs Ms f_s_anyOrder x_s_anyOrder (by show 1 ≤ _; decide) ?_
    simp +contextual -implicitDefEqProofs (maxSteps := 10^7) only [go_sem, seval, ↓gZ, f_s_anyOrder, e1, h0']
    exact ⟨l, p', by omega, by omega, by omega, rfl⟩
  have h0' : (0 : Int) < (l.length : Int) := by omega
  have e2 := s_pick_ev bs p' (l.length : Int) hb (by omega)
  have u1 := s_pick_nonneg bs p' l.length
  have u2 := s_pick_lt bs p' l.length (by omega)
  obtain ⟨i, hi⟩ : ∃ i : Nat, s_pick bs p' l.length = i := ⟨(s_pick bs p' l.length).toNat, by omega⟩
  rw [hi] at e2 u2
  have hlt : i < l.length := by omega
  have hlt' : (i : Int) < (l.length : Int) := by omega
  obtain ⟨x, hx⟩ := get_lt hlt
  have e3 := s_pick_ev bs (p' + 1) 20 hb (by omega)
  obtain ⟨c, hc⟩ : ∃ c, s_pick bs (p' + 1) 20 = c := ⟨_, rfl⟩
  rw [hc] at e3
  obtain ⟨⟨W, H, T, K⟩, C⟩ := x
  by_cases c0 : c = 0
  · obtain ⟨v, _, e4⟩ := s_one_ev bs (p' + 1 + 1) [0, 25, 24] hb (by omega) (by decide)
    simp only [List.map_cons, List.map_nil, encI] at e4
    refine callW Xs Ms f_s_anyOrder x_s_anyOrder (by show 1 ≤ _; decide) ?_
    simp +contextual -implicitDefEqProofs (maxSteps := 10^7) only [go_sem, seval, ↓gZ, f_s_anyOrder, e1, h0', e2, e3, c0, e4, hlt, hlt', hx, set_line]
    exact ⟨l.set i ⟨⟨W, H, T, K⟩, v⟩, p' + 3, by simp; omega, by omega, by omega, rfl⟩
  by_cases c1 : c = 1
  · have hroom : (l.length + 1) * 40 ≤ 140737488355328 ∧ l.length + 1 ≤ 140737488355328 := by omega
    refine callW Xs Ms f_s_anyOrder x_s_anyOrder (by show 1 ≤ _; decide) ?_
    simp +contextual -implicitDefEqProofs (maxSteps := 10^7) only [go_sem, seval, ↓gZ, f_s_anyOrder, e1, h0', e2, e3, c0, c1, hlt, hlt', hx, hroom]
    exact ⟨l ++ [⟨⟨W, H, T, K⟩, C⟩], p' + 2, by simp; omega, by omega, by omega, by rw [List.map_append]; rfl⟩
  by_cases c2 : c = 2
  · obtain ⟨W', H', T', K', p2, g1, g2, e4⟩ := s_anyPane_ev bs hb (p' + 1 + 1) (by omega)
    refine callW Xs Ms f_s_anyOrder x_s_anyOrder (by show 1 ≤ _; decide) ?_
    simp +contextual -implicitDefEqProofs (maxSteps := 10^7) only [go_sem, seval, ↓gZ, f_s_anyOrder, e1, h0', e2, e3, c0, c1, c2, e4, hlt, hlt', hx, set_line]
    exact ⟨l.set i ⟨⟨W', H', T', K'⟩, C⟩, p2, by simp; omega, by omega, by omega, rfl⟩
  · refine callW Xs Ms f_s_anyOrder x_s_anyOrder (by show 1 ≤ _; decide) ?_
    simp +contextual -implicitDefEqProofs (maxSteps := 10^7) only [go_sem, seval, ↓gZ, f_s_anyOrder, e1, h0', e2, e3, c0, c1, c2]
    exact ⟨l, p' + 2, by omega, by omega, by omega, rfl⟩
theorem s_DrawFormatOrder_ev (code : List UInt8) : ∃ l : List Line, l.length ≤ 5 ∧ vcall Xs Ms n_s_DrawFormatOrder [.d (.sl (code.map encU))] [] = some (.own 0, [.row 5 (l.map Line.enc) true false]) := by
  have e1 := s_newReader_ev code
  obtain ⟨r, e2, l, p', h1, h2, h3, rfl⟩ := s_anyOrder_ev (code.take 2000) (by simp; omega) 0 (by decide)
  rw [show ((0 : Nat) : Int) = 0 from rfl] at e2
  refine ⟨l, h1, ?_⟩
  refine callE Xs Ms f_s_DrawFormatOrder x_s_DrawFormatOrder (by show 1 ≤ _; decide) ?_
  simp +contextual -implicitDefEqProofs (maxSteps := 10^7) only [go_sem, seval, ↓gZ, f_s_DrawFormatOrder, e1, e2]
theorem newl_take {s : List UInt8} {k : Nat} {c : UInt8} (hc : s[k]? = some c) : newl (s.take (k + 1)) = newl (s.take k) + (if c = 10 then 1 else 0) := by
  rw [List.take_add_one, hc]
  unfold newl
  rw [List.countP_append]
  simp only [Option.toList_some, List.countP_cons, List.countP_nil, Nat.zero_add, beq_iff_eq]
theorem l_newlines_ev (s : List UInt8) (hs : s.length ≤ 1000000) : vcall Xs Ms n_l_newlines [.d (.str s)] [] = some ((.d (J (newl s))), []) := by
  refine callE Xs Ms f_l_newlines x_l_newlines (by show 1 ≤ _; decide) ?_
  simp +contextual -implicitDefEqProofs (maxSteps := 10^7) only [go_sem, seval, ↓gZ, f_l_newlines]
  refine LW_over Xs Ms (st0 := ?st0) (α := Nat) (fun k => [(4, .d (J (k : Int))), (3, .d (J (newl (s.take k) : Nat)))]) (fun _ => []) (fun k => k ≤ s.length) (fun k => s.length - k) 0 ?hc (by omega) ?h0 ?step
  case hc => simp +contextual -implicitDefEqProofs (maxSteps := 10^7) only [go_sem, seval, ↓gZ] <;> exact rfl
  case h0 => rfl
  case step =>
    intro k hk ih
    by_cases hlt : k < s.length
    · obtain ⟨c, hc⟩ : ∃ c, s[k]? = some c := ⟨_, List.getElem?_eq_getElem hlt⟩
      have hlt' : (k : Int) < (s.length : Int) := by omega
      have w := wrap_succ (k := k) (by omega)
      have ht := newl_take hc
      have hle : newl (s.take k) ≤ 1000000 := Nat.le_trans List.countP_le_length (by simp; omega)
      have w2 := wrap_succ (k := newl (s.take k)) (by omega)
      by_cases h10 : c = 10
      · rw [if_pos h10] at ht
        have hn : (c.toNat : Int) = 10 := (u8eq c 10 rfl).2 h10
        simp +contextual -implicitDefEqProofs (maxSteps := 10^7) only [go_sem, seval, ↓gZ, hlt', hlt, hc, w, w2, hn]
        refine ih (k + 1) _ (by omega) (by omega) ?_
        simp +contextual -implicitDefEqProofs (maxSteps := 10^7) only [go_sem, seval, ↓gZ, ht]
      · rw [if_neg h10] at ht
        have hn : ¬ (c.toNat : Int) = 10 := fun h => h10 ((u8eq c 10 rfl).1 h)
        simp +contextual -implicitDefEqProofs (maxSteps := 10^7) only [go_sem, seval, ↓gZ, hlt', hlt, hc, w, hn]
        refine ih (k + 1) _ (by omega) (by omega) ?_
        simp +contextual -implicitDefEqProofs (maxSteps := 10^7) only [go_sem, seval, ↓gZ, ht, Nat.add_zero]
    · have : k = s.length := by omega
      subst this
      simp +contextual -implicitDefEqProofs (maxSteps := 10^7) only [go_sem, seval, ↓gZ, List.take_length]
theorem prsO_show {l : List Line} (hv : VOrd l) : prsO (showOrd l) = some l := by
  have h1 : l.length ≤ (showOrd l).length := by
    have : ∀ r : List Line, r.length ≤ (showOrd r).length := by
      intro r
      induction r with
      | nil => simp
      | cons x r ih =>
        rw [showOrd, linesT_cons, ← showOrd]
        simp only [List.length_append, List.length_cons]
        omega
    exact this l
  have := ordFrom_show (V := VOrd) (fun l h => h.1) (n := (showOrd l).length + 1) (acc := []) (r := l) (by omega) (by simpa using hv) (sixL_of_VOrd hv)
  simpa [prsO] using this
theorem l_FnFormatOrder_ev (code : List UInt8) : vcall Xs Ms n_l_FnFormatOrder [.d (.sl (code.map encU))] [] = some ((.d (.bool true)), []) := by
  by_cases hc : code.length ≤ 1048576
  · have hc' : ¬ (1048576 : Int) < (code.length : Int) := by omega
    obtain ⟨l, hl, e1⟩ := s_DrawFormatOrder_ev code
    have e2 := i_FormatOrder_ev l
    have e3 := s_FormatOrder_ev l (by omega)
    have e4 := i_ValidOrder_ev l
    have hself : (fmtO l == fmtO l) = true := by simp
    by_cases hv : VOrd l
    · have hf : fmtO l = showOrd l := if_pos hv
      have hlen : (showOrd l).length ≤ 1000000 := by
        have := showOrd_len (sixL_of_VOrd hv)
        omega
      rw [hf] at e2 e3 hself
      rw [decide_eq_true hv] at e4
      have e5 := i_ParseOrder_ev (showOrd l) hlen
      rw [prsO_show hv] at e5
      simp only [poV] at e5
      have e6 := l_equalOrder_same l (by omega)
      have e7 := l_newlines_ev (showOrd l) hlen
      rw [showOrd, newl_lines (fun x _ => showLn_no10 x), ← showOrd] at e7
      refine callE Xs Ms f_l_FnFormatOrder x_l_FnFormatOrder (by show 1 ≤ _; decide) ?_
      simp +contextual -implicitDefEqProofs (maxSteps := 10^7) only [go_sem, seval, ↓gZ, f_l_FnFormatOrder, hc', e1, e2, e3, e4, e5, e6, e7, hself]
    · rw [decide_eq_false hv] at e4
      refine callE Xs Ms f_l_FnFormatOrder x_l_FnFormatOrder (by show 1 ≤ _; decide) ?_
      simp +contextual -implicitDefEqProofs (maxSteps := 10^7) only [go_sem, seval, ↓gZ, f_l_FnFormatOrder, hc', e1, e2, e3, e4, hself]
  · have hc' : (1048576 : Int) < (code.length : Int) := by omega
    refine callE Xs Ms f_l_FnFormatOrder x_l_FnFormatOrder (by show 1 ≤ _; decide) ?_
    simp +contextual -implicitDefEqProofs (maxSteps := 10^7) only [go_sem, seval, ↓gZ, f_l_FnFormatOrder, hc']

end Go.Proofs.YtkdjbefmiiibpaaDoor
