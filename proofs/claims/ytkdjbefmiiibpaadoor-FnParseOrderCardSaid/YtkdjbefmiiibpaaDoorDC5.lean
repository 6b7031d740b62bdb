/- Contracts of the functions, by the abstract semantics. -/
import Derived.Test.YtkdjbefmiiibpaaDoorDCode
import Derived.Test.YtkdjbefmiiibpaaDoorAbsParts
import Derived.Test.YtkdjbefmiiibpaaDoorDC4
namespace Go.Proofs.YtkdjbefmiiibpaaDoor
open Go Go.Abs Go.Abs.E Go.Abs.L
open Nat (reduceMul reduceSub reduceLeDiff reduceEqDiff)
open Int (reduceLE reduceEq reduceToNat reduceNeg)
set_option linter.unusedSimpArgs false
set_option linter.unusedVariables false
set_option maxRecDepth 20000
set_option maxHeartbeats 4000000
theorem wordsOf_len (l : Line) (h : sixL l) : (joinL 32 (wordsOf l)).length ≤ 40 := by
  obtain ⟨⟨w, h', t, k⟩, c⟩ := l
  obtain ⟨h1, h2, h3, h4⟩ := h
  simp only [six] at h1 h2 h3 h4
  have l1 := num_len 5 c.toNat (by omega)
  have l2 := num_len 5 w.toNat (by omega)
  have l3 := num_len 5 h'.toNat (by omega)
  have l4 := num_len 5 k.toNat (by omega)
  have l5 : (turnW t).length = 5 := by cases t <;> rfl
  simp only [wordsOf, joinL, List.length_append, List.length_cons]
  omega
theorem i_lineText_ev (lW lH : Int) (lT : Bool) (lK lC : Int) (h : sixL (Line.mk (Pane.mk lW lH lT lK) lC)) : vcall Xs Ms n_i_lineText [(.d (.agg [J lW, J lH, .bool lT, J lK, J lC]))] [] = some (.d (.str (showLn (Line.mk (Pane.mk lW lH lT lK) lC))), []) := by
  have hw := wordsOf_len (Line.mk (Pane.mk lW lH lT lK) lC) h
  obtain ⟨h1, h2, h3, h4⟩ := h
  simp only [six] at h1 h2 h3 h4
  have e1 := strconv_Itoa_ev lC h1.1 (by omega)
  have e2 := strconv_Itoa_ev lW h2.1 (by omega)
  have e3 := strconv_Itoa_ev lH h3.1 (by omega)
  have e4 := strconv_Itoa_ev lK h4.1 (by omega)
  have e5 := strings_Join_ev (wordsOf (Line.mk (Pane.mk lW lH lT lK) lC)) 32 (by simp [wordsOf]) (by simp [wordsOf]) (by omega)
  simp only [wordsOf, List.map_cons, List.map_nil] at e5
  unfold showLn
  simp only [wordsOf]
  refine callE Xs Ms f_i_lineText x_i_lineText (by show 1 ≤ _; decide) ?_
  cases lT with
  | true =>
    simp only [turnW, turnsW, if_true] at e5 ⊢
    simp +contextual -implicitDefEqProofs (maxSteps := 10^7) only [go_sem, seval, ↓gZ, f_i_lineText, e1, e2, e3, e4, e5]
  | false =>
    simp only [turnW, fixedW, Bool.false_eq_true, if_false] at e5 ⊢
    simp +contextual -implicitDefEqProofs (maxSteps := 10^7) only [go_sem, seval, ↓gZ, f_i_lineText, e1, e2, e3, e4, e5]
theorem sixL_of_VOrd {l : List Line} (h : VOrd l) : ∀ x ∈ l, sixL x := by
  intro x hx
  obtain ⟨⟨h1, h2, h3, h4, h5, h6⟩, h7, h8⟩ := VOrd_all h x hx
  simp only [sixL, six]
  omega
def fmtO (l : List Line) : List UInt8 := if VOrd l then showOrd l else []
theorem showOrd_len : ∀ {l : List Line}, (∀ x ∈ l, sixL x) → (showOrd l).length ≤ 41 * l.length
  | [], _ => by simp [showOrd, linesT]
  | x :: r, h => by
    have ih := showOrd_len (l := r) (fun y hy => h y (by simp [hy]))
    have := wordsOf_len x (h x (by simp))
    rw [showOrd, linesT_cons, ← showOrd]
    simp only [List.length_append, List.length_cons, showLn]
    omega
theorem showLn_pos (l : Line) : 0 < (showLn l).length := by
  have := num_pos l.Count.toNat
  simp only [showLn, wordsOf, joinL, List.length_append]
  omega
theorem showOrd_take {l : List Line} {k : Nat} {x : Line} (hx : l[k]? = some x) : showOrd (l.take (k + 1)) = showOrd (l.take k) ++ (showLn x ++ [10]) := by
  rw [List.take_add_one, hx]
  simp only [Option.toList_some, showOrd]
  rw [linesT_snoc]
theorem i_FormatOrder_ev (l : List Line) : vcall Xs Ms n_i_FormatOrder [(.d (.sl (l.map Line.enc)))] [] = some (.d (.str (fmtO l)), []) := by
  have ev := i_ValidOrder_ev l
  unfold fmtO
  by_cases hv : VOrd l
  · rw [if_pos hv]
    rw [decide_eq_true hv] at ev
    have hsx := sixL_of_VOrd hv
    have hl8 := hv.1
    refine callE Xs Ms f_i_FormatOrder x_i_FormatOrder (by show 1 ≤ _; decide) ?_
    simp +contextual -implicitDefEqProofs (maxSteps := 10^7) only [go_sem, seval, ↓gZ, f_i_FormatOrder, ev]
    refine LW_over Xs Ms (st0 := ?st0) (α := Nat) (fun k => [(11, .d (J (k : Int)))]) (fun k => [(0, .box [.bnil 0 TB, .bbuf 5 (showOrd (l.take k))])]) (fun k => k ≤ l.length) (fun k => l.length - k) 0 ?hc (by omega) ?h0 ?step
    case hc => simp +contextual -implicitDefEqProofs (maxSteps := 10^7) only [go_sem, seval, ↓gZ] <;> exact rfl
    case h0 => rfl
    case step =>
      intro k hk ih
      have hb := showOrd_len (l := l.take k) (fun x hx => hsx x (List.mem_of_mem_take hx))
      have hb2 : (l.take k).length ≤ 8 := by simp; omega
      by_cases hlt : k < l.length
      · obtain ⟨x, hx⟩ := get_lt hlt
        have hlt' : (k : Int) < (l.length : Int) := by omega
        have w := wrap_succ (k := k) (by omega)
        have hs := hsx x (List.mem_of_getElem? hx)
        have ht := showOrd_take hx
        have hwl := wordsOf_len x hs
        have hpos := showLn_pos x
        obtain ⟨⟨W, H, T, K⟩, C⟩ := x
        have e1 := i_lineText_ev W H T K C hs
        generalize hsh : showLn ⟨⟨W, H, T, K⟩, C⟩ = t at e1 ht hpos
        have htl : t.length ≤ 40 := by rw [← hsh]; exact hwl
        have e2 := strings_WriteString_ev (showOrd (l.take k)) t hpos (by omega)
        have e3 := strings_WriteByte_ev (showOrd (l.take k) ++ t) 10 10 rfl (by simp; omega)
        simp +contextual -implicitDefEqProofs (maxSteps := 10^7) only [go_sem, seval, ↓gZ, hlt', hlt, hx, w, e1, e2, e3]
        refine ih (k + 1) _ (by omega) (by omega) ?_
        simp +contextual -implicitDefEqProofs (maxSteps := 10^7) only [go_sem, seval, ↓gZ, ht, List.append_assoc]
      · have : k = l.length := by omega
        subst this
        have e4 := strings_String_ev (showOrd l)
        simp +contextual -implicitDefEqProofs (maxSteps := 10^7) only [go_sem, seval, ↓gZ, List.take_length, e4]
  · rw [if_neg hv]
    rw [decide_eq_false hv] at ev
    refine callE Xs Ms f_i_FormatOrder x_i_FormatOrder (by show 1 ≤ _; decide) ?_
    simp +contextual -implicitDefEqProofs (maxSteps := 10^7) only [go_sem, seval, ↓gZ, f_i_FormatOrder, ev]
theorem s_showLine_ev (lW lH : Int) (lT : Bool) (lK lC : Int) (h : sixL (Line.mk (Pane.mk lW lH lT lK) lC)) : vcall Xs Ms n_s_showLine [(.d (.agg [J lW, J lH, .bool lT, J lK, J lC]))] [] = some (.d (.str (showLn (Line.mk (Pane.mk lW lH lT lK) lC))), []) := by
  have hw := wordsOf_len (Line.mk (Pane.mk lW lH lT lK) lC) h
  obtain ⟨h1, h2, h3, h4⟩ := h
  simp only [six] at h1 h2 h3 h4
  have e1 := s_number_ev lC.toNat (by omega)
  have e2 := s_number_ev lW.toNat (by omega)
  have e3 := s_number_ev lH.toNat (by omega)
  have e4 := s_number_ev lK.toNat (by omega)
  rw [Int.toNat_of_nonneg (by omega)] at e1 e2 e3 e4
  have l1 := num_len 5 lC.toNat (by omega)
  have l2 := num_len 5 lW.toNat (by omega)
  have l3 := num_len 5 lH.toNat (by omega)
  have l4 := num_len 5 lK.toNat (by omega)
  unfold showLn
  simp only [wordsOf, joinL]
  generalize num lC.toNat = a at *
  generalize num lW.toNat = b at *
  generalize num lH.toNat = c at *
  generalize num lK.toNat = d at *
  have b1 : a.length + 1 ≤ 1152921504606846976 := by omega
  have b2 : a.length + 1 + b.length ≤ 1152921504606846976 := by omega
  have b3 : a.length + 1 + b.length + 1 ≤ 1152921504606846976 := by omega
  have b4 : a.length + 1 + b.length + 1 + c.length ≤ 1152921504606846976 := by omega
  have b5 : a.length + 1 + b.length + 1 + c.length + 1 ≤ 1152921504606846976 := by omega
  have b6 : a.length + 1 + b.length + 1 + c.length + 1 + 5 ≤ 1152921504606846976 := by omega
  have b7 : a.length + 1 + b.length + 1 + c.length + 1 + 5 + 1 ≤ 1152921504606846976 := by omega
  have b8 : a.length + 1 + b.length + 1 + c.length + 1 + 5 + 1 + d.length ≤ 1152921504606846976 := by omega
  refine callE Xs Ms f_s_showLine x_s_showLine (by show 1 ≤ _; decide) ?_
  cases lT with
  | true =>
    simp only [turnW, turnsW, if_true]
    simp +contextual -implicitDefEqProofs (maxSteps := 10^7) only [go_sem, seval, ↓gZ, f_s_showLine, e1, e2, e3, e4, b1, b2, b3, b4, b5, b6, b7, b8]
    simp only [List.append_assoc, List.cons_append, List.nil_append]
  | false =>
    simp only [turnW, fixedW, Bool.false_eq_true, if_false]
    simp +contextual -implicitDefEqProofs (maxSteps := 10^7) only [go_sem, seval, ↓gZ, f_s_showLine, e1, e2, e3, e4, b1, b2, b3, b4, b5, b6, b7, b8]
    simp only [List.append_assoc, List.cons_append, List.nil_append]
theorem s_showOrder_ev (l : List Line) (hl : l.length ≤ 1000) (hsx : ∀ x ∈ l, sixL x) : vcall Xs Ms n_s_showOrder [(.d (.sl (l.map Line.enc)))] [] = some (.d (.str (showOrd l)), []) := by
  refine callE Xs Ms f_s_showOrder x_s_showOrder (by show 1 ≤ _; decide) ?_
  simp +contextual -implicitDefEqProofs (maxSteps := 10^7) only [go_sem, seval, ↓gZ, f_s_showOrder]
  refine LW_over Xs Ms (st0 := ?st0) (α := Nat) (fun k => [(4, .d (J (k : Int))), (3, .d (.str (showOrd (l.take k))))]) (fun _ => []) (fun k => k ≤ l.length) (fun k => l.length - k) 0 ?hc (by omega) ?h0 ?step
  case hc => simp +contextual -implicitDefEqProofs (maxSteps := 10^7) only [go_sem, seval, ↓gZ] <;> exact rfl
  case h0 => rfl
  case step =>
    intro k hk ih
    have hb := showOrd_len (l := l.take k) (fun x hx => hsx x (List.mem_of_mem_take hx))
    have hb2 : (l.take k).length ≤ 1000 := by simp; omega
    by_cases hlt : k < l.length
    · obtain ⟨x, hx⟩ := get_lt hlt
      have hlt' : (k : Int) < (l.length : Int) := by omega
      have w := wrap_succ (k := k) (by omega)
      have hs := hsx x (List.mem_of_getElem? hx)
      have ht := showOrd_take hx
      have hwl := wordsOf_len x hs
      obtain ⟨⟨W, H, T, K⟩, C⟩ := x
      have e1 := s_showLine_ev W H T K C hs
      generalize hsh : showLn ⟨⟨W, H, T, K⟩, C⟩ = t at e1 ht
      have htl : t.length ≤ 40 := by rw [← hsh]; exact hwl
      have b1 : (showOrd (l.take k)).length + t.length ≤ 1152921504606846976 := by omega
      have b2 : (showOrd (l.take k)).length + t.length + 1 ≤ 1152921504606846976 := by omega
      simp +contextual -implicitDefEqProofs (maxSteps := 10^7) only [go_sem, seval, ↓gZ, hlt', hlt, hx, w, e1, b1, b2]
      refine ih (k + 1) _ (by omega) (by omega) ?_
      simp +contextual -implicitDefEqProofs (maxSteps := 10^7) only [go_sem, seval, ↓gZ, ht, List.append_assoc]
    · have : k = l.length := by omega
      subst this
      simp +contextual -implicitDefEqProofs (maxSteps := 10^7) only [go_sem, seval, ↓gZ, List.take_length]
theorem s_FormatOrder_ev (l : List Line) (hl : l.length ≤ 1000000) : vcall Xs Ms n_s_FormatOrder [(.d (.sl (l.map Line.enc)))] [] = some (.d (.str (fmtO l)), []) := by
  have ev := s_validOrder_ev l hl
  unfold fmtO
  by_cases hv : VOrd l
  · rw [if_pos hv]
    rw [decide_eq_true hv] at ev
    have e1 := s_showOrder_ev l (by have := hv.1; omega) (sixL_of_VOrd hv)
    refine callE Xs Ms f_s_FormatOrder x_s_FormatOrder (by show 1 ≤ _; decide) ?_
    simp +contextual -implicitDefEqProofs (maxSteps := 10^7) only [go_sem, seval, ↓gZ, f_s_FormatOrder, ev, e1]
  · rw [if_neg hv]
    rw [decide_eq_false hv] at ev
    refine callE Xs Ms f_s_FormatOrder x_s_FormatOrder (by show 1 ≤ _; decide) ?_
    simp +contextual -implicitDefEqProofs (maxSteps := 10^7) only [go_sem, seval, ↓gZ, f_s_FormatOrder, ev]

theorem s_anyPane_ev (bs : List UInt8) (hb : bs.length ≤ 2000) (p : Nat) (hp : p < 800000000) : ∃ (W H : Int) (T : Bool) (K : Int) (p' : Nat), p ≤ p' ∧ p' ≤ p + 6 ∧ vcall Xs Ms n_s_anyPane [.ptr 0 0] [.box [.d (.sl (bs.map encU)), (.d (J p))]] = some (.d (.agg [J W, J H, .bool T, J K]), [.box [.d (.sl (bs.map encU)), (.d (J (p')))]]) := by
  obtain ⟨W, H, T, K, e1⟩ := s_somePane_ev bs hb p (by omega)
  have e2 := s_pick_ev bs (p + 4) 16 hb (by omega)
  obtain ⟨c, hc⟩ : ∃ c, s_pick bs (p + 4) 16 = c := ⟨_, rfl⟩
  rw [hc] at e2
  by_cases c0 : c = 0
  · obtain ⟨v, _, e3⟩ := s_one_ev bs (p + 4 + 1) [0, 201, 200] hb (by omega) (by simp)
    simp only [List.map_cons, List.map_nil, encI] at e3
    refine ⟨v, H, T, K, p + 6, by omega, by omega, ?_⟩
    refine callE Xs Ms f_s_anyPane x_s_anyPane (by show 1 ≤ _; decide) ?_
    simp +contextual -implicitDefEqProofs (maxSteps := 10^7) only [go_sem, seval, ↓gZ, f_s_anyPane, e1, e2, c0, e3]
  by_cases c1 : c = 1
  · obtain ⟨v, _, e3⟩ := s_one_ev bs (p + 4 + 1) [-1, 10, 9] hb (by omega) (by simp)
    simp only [List.map_cons, List.map_nil, encI] at e3
    refine ⟨W, H, T, v, p + 6, by omega, by omega, ?_⟩
    refine callE Xs Ms f_s_anyPane x_s_anyPane (by show 1 ≤ _; decide) ?_
    simp +contextual -implicitDefEqProofs (maxSteps := 10^7) only [go_sem, seval, ↓gZ, f_s_anyPane, e1, e2, c0, c1, e3]
  · refine ⟨W, H, T, K, p + 5, by omega, by omega, ?_⟩
    refine callE Xs Ms f_s_anyPane x_s_anyPane (by show 1 ≤ _; decide) ?_
    simp +contextual -implicitDefEqProofs (maxSteps := 10^7) only [go_sem, seval, ↓gZ, f_s_anyPane, e1, e2, c0, c1]
def POrd (bs : List UInt8) (p m : Nat) (r : AV × List AObj) : Prop := ∃ (l : List Line) (p' : Nat), l.length ≤ m ∧ p ≤ p' ∧ p' ≤ p + 100 ∧ r = (.own 1, [.box [.d (.sl (bs.map encU)), (.d (J (p')))], .row 5 (l.map Line.enc) true false])
theorem s_someOrder_ev (bs : List UInt8) (hb : bs.length ≤ 2000) (p : Nat) (hp : p < 800000000) : ∃ r, vcall Xs Ms n_s_someOrder [.ptr 0 0] [.box [.d (.sl (bs.map encU)), (.d (J p))]] = some r ∧ POrd bs p 4 r := by
  obtain ⟨n, hn, eN⟩ := s_one_ev bs p [2, 3, 1, 4, 0] hb (by omega) (by decide)
  have hn' : 0 ≤ n ∧ n ≤ 4 := by simp only [List.mem_cons, List.not_mem_nil, or_false] at hn; omega
  simp only [List.map_cons, List.map_nil, encI] at eN
  refine callW Xs Ms f_s_someOrder x_s_someOrder (by show 1 ≤ _; decide) ?_
  simp +contextual -implicitDefEqProofs (maxSteps := 10^7) only [go_sem, seval, ↓gZ, f_s_someOrder, eN]
  refine LW_over Xs Ms (st0 := ?st0) (α := Int × List Line × Nat) (fun s => [(4, .d (J s.1))]) (fun s => [(0, .box [.d (.sl (bs.map encU)), (.d (J (s.2.2)))]), (1, .row 5 (s.2.1.map Line.enc) true false)]) (fun s => 0 ≤ s.1 ∧ s.1 ≤ 4 ∧ s.2.1.length + s.1 ≤ 4 ∧ (∀ x ∈ s.2.1, 0 ≤ x.Count ∧ x.Count ≤ 4 * (4 - s.1)) ∧ p + 1 ≤ s.2.2 ∧ s.2.2 + 5 * s.1 ≤ p + 21) (fun s => s.1.toNat) (n, [], p + 1) ?hc ⟨hn'.1, hn'.2, by simp only [List.length_nil]; omega, by simp, by simp only; omega, by simp only; omega⟩ ?h0 ?step
  case hc => simp +contextual -implicitDefEqProofs (maxSteps := 10^7) only [go_sem, seval, ↓gZ] <;> exact rfl
  case h0 => rfl
  case step =>
    intro ⟨m, l, pp⟩ ⟨i1, i2, i3, i4, i5, i6⟩ ih
    simp only at i1 i2 i3 i4 i5 i6
    by_cases hm : 0 < m
    · obtain ⟨W, H, T, K, e1⟩ := s_somePane_ev bs hb pp (by omega)
      have e2 := s_pick_ev bs (pp + 4) 4 hb (by omega)
      have u1 := s_pick_nonneg bs (pp + 4) 4
      have u2 := s_pick_lt bs (pp + 4) 4 (by omega)
      generalize s_pick bs (pp + 4) 4 = c at e2 u1 u2
      have w1 := wi (1 + c) (by omega) (by omega)
      have w2 := wi (m - 1) (by omega) (by omega)
      have e3 := s_addPanes_ev l W H T K (1 + c) (by omega) (fun x hx => by have := i4 x hx; unfold R64; omega)
      have hcnt := addL_cnt (p := ⟨W, H, T, K⟩) (c := 1 + c) (hi := 4 * (4 - m)) (by omega) (by omega) i4
      have hlen := addL_len ⟨W, H, T, K⟩ (1 + c) l
      simp +contextual -implicitDefEqProofs (maxSteps := 10^7) only [go_sem, seval, ↓gZ, hm, e1, e2, w1, w2, e3]
      refine ih (m - 1, addL ⟨W, H, T, K⟩ (1 + c) l, pp + 5) _ ⟨by simp only; omega, by simp only; omega, by simp only; omega, fun x hx => by have := hcnt x hx; simp only; omega, by simp only; omega, by simp only; omega⟩ (by simp only; omega) ?_
      simp +contextual -implicitDefEqProofs (maxSteps := 10^7) only [go_sem, seval, ↓gZ]
    · simp +contextual -implicitDefEqProofs (maxSteps := 10^7) only [go_sem, seval, ↓gZ, hm]
      exact ⟨l, pp, by omega, by omega, by omega, rfl⟩
theorem s_anyOrder_ev (bs : List UInt8) (hb : bs.length ≤ 2000) (p : Nat) (hp : p < 700000000) : ∃ r, vcall Xs Ms n_s_anyOrder [.ptr 0 0] [.box [.d (.sl (bs.map encU)), (.d (J p))]] = some r ∧ ∃ (l : List Line) (p' : Nat), l.length ≤ 5 ∧ p ≤ p' ∧ p' ≤ p + 200 ∧ r = (.own 1, [.box [.d (.sl (bs.map encU)), (.d (J (p')))], .row 5 (l.map Line.enc) true false]) := by
  obtain ⟨r, e1, l, p', h1, h2, h3, rfl⟩ := s_someOrder_ev bs hb p (by omega)
  by_cases h0 : l.length = 0
  · have h0' : ¬ (0 : Int) < (l.length : Int) := by omega
    refine callW Xs Ms f_s_anyOrder x_s_anyOrder (by show 1 ≤ _; decide) ?_
    simp +contextual -implicitDefEqProofs (maxSteps := 10^7) only [go_sem, seval, ↓gZ, f_s_anyOrder, e1, h0']
    exact ⟨l, p', by omega, by omega, by omega, rfl⟩
  have h0' : (0 : Int) < (l.length : Int) := by omega
  have e2 := s_pick_ev bs p' (l.length : Int) hb (by omega)
  have u1 := s_pick_nonneg bs p' l.length
  have u2 := s_pick_lt bs p' l.length (by omega)
  obtain ⟨i, hi⟩ : ∃ i : Nat, s_pick bs p' l.length = i := ⟨(s_pick bs p' l.length).toNat, by omega⟩
  rw [hi] at e2 u2
  have hlt : i < l.length := by omega
  have hlt' : (i : Int) < (l.length : Int) := by omega
  obtain ⟨x, hx⟩ := get_lt hlt
  have e3 := s_pick_ev bs (p' + 1) 20 hb (by omega)
  obtain ⟨c, hc⟩ : ∃ c, s_pick bs (p' + 1) 20 = c := ⟨_, rfl⟩
  rw [hc] at e3
  obtain ⟨⟨W, H, T, K⟩, C⟩ := x
  by_cases c0 : c = 0
  · obtain ⟨v, _, e4⟩ := s_one_ev bs (p' + 1 + 1) [0, 25, 24] hb (by omega) (by decide)
    simp only [List.map_cons, List.map_nil, encI] at e4
    refine callW Xs Ms f_s_anyOrder x_s_anyOrder (by show 1 ≤ _; decide) ?_
    simp +contextual -implicitDefEqProofs (maxSteps := 10^7) only [go_sem, seval, ↓gZ, f_s_anyOrder, e1, h0', e2, e3, c0, e4, hlt, hlt', hx, set_line]
    exact ⟨l.set i ⟨⟨W, H, T, K⟩, v⟩, p' + 3, by simp; omega, by omega, by omega, rfl⟩
  by_cases c1 : c = 1
  · have hroom : (l.length + 1) * 40 ≤ 140737488355328 ∧ l.length + 1 ≤ 140737488355328 := by omega
    refine callW Xs Ms f_s_anyOrder x_s_anyOrder (by show 1 ≤ _; decide) ?_
    simp +contextual -implicitDefEqProofs (maxSteps := 10^7) only [go_sem, seval, ↓gZ, f_s_anyOrder, e1, h0', e2, e3, c0, c1, hlt, hlt', hx, hroom]
    exact ⟨l ++ [⟨⟨W, H, T, K⟩, C⟩], p' + 2, by simp; omega, by omega, by omega, by rw [List.map_append]; rfl⟩
  by_cases c2 : c = 2
  · obtain ⟨W', H', T', K', p2, g1, g2, e4⟩ := s_anyPane_ev bs hb (p' + 1 + 1) (by omega)
    refine callW Xs Ms f_s_anyOrder x_s_anyOrder (by show 1 ≤ _; decide) ?_
    simp +contextual -implicitDefEqProofs (maxSteps := 10^7) only [go_sem, seval, ↓gZ, f_s_anyOrder, e1, h0', e2, e3, c0, c1, c2, e4, hlt, hlt', hx, set_line]
    exact ⟨l.set i ⟨⟨W', H', T', K'⟩, C⟩, p2, by simp; omega, by omega, by omega, rfl⟩
  · refine callW Xs Ms f_s_anyOrder x_s_anyOrder (by show 1 ≤ _; decide) ?_
    simp +contextual -implicitDefEqProofs (maxSteps := 10^7) only [go_sem, seval, ↓gZ, f_s_anyOrder, e1, h0', e2, e3, c0, c1, c2]
    exact ⟨l, p' + 2, by omega, by omega, by omega, rfl⟩
theorem prsO_show {l : List Line} (hv : VOrd l) : prsO (showOrd l) = some l := by
  have h1 : l.length ≤ (showOrd l).length := by
    have : ∀ r : List Line, r.length ≤ (showOrd r).length := by
      intro r
      induction r with
      | nil => simp
      | cons x r ih =>
        rw [showOrd, linesT_cons, ← showOrd]
        simp only [List.length_append, List.length_cons]
        omega
    exact this l
  have := ordFrom_show (V := VOrd) (fun l h => h.1) (n := (showOrd l).length + 1) (acc := []) (r := l) (by omega) (by simpa using hv) (sixL_of_VOrd hv)
  simpa [prsO] using this
theorem s_of_ev (bs : List UInt8) (hb : bs.length ≤ 2000) (p : Nat) (hp : p < 1099511627776) (ss : List (List UInt8)) (h1 : 1 ≤ ss.length) : ∃ x, x ∈ ss ∧
    vcall Xs Ms n_s_reader_of [.ptr 0 0, .d (.sl (ss.map .str))] [.box [.d (.sl (bs.map encU)), (.d (J p))]] = some (.d (.str x), [.box [.d (.sl (bs.map encU)), (.d (J ((p + 1 : Nat))))]]) := by
  have e1 := s_pick_ev bs p (ss.length : Int) hb hp
  have h0 := s_pick_nonneg bs p ss.length
  have h2 := s_pick_lt bs p ss.length (by omega)
  obtain ⟨v, hv⟩ : ∃ v : Nat, s_pick bs p ss.length = v := ⟨(s_pick bs p ss.length).toNat, by omega⟩
  rw [hv] at e1
  obtain ⟨x, hx⟩ : ∃ x, ss[v]? = some x := ⟨_, List.getElem?_eq_getElem (by omega)⟩
  have hv1 : (v : Int) < (ss.length : Int) := by omega
  refine ⟨x, List.mem_of_getElem? hx, ?_⟩
  refine callE Xs Ms f_s_reader_of x_s_reader_of (by show 2 ≤ _; decide) ?_
  simp +contextual -implicitDefEqProofs (maxSteps := 10^7) only [go_sem, seval, ↓gZ, f_s_reader_of, e1, hv1, hx]
theorem s_mutate_ev (bs : List UInt8) (hb : bs.length ≤ 2000) (p : Nat) (hp : p < 999999999) (s : List UInt8) (hs : s.length ≤ 1000000) : ∃ (s' : List UInt8) (p' : Nat), s'.length ≤ s.length + 1 ∧ p ≤ p' ∧ p' ≤ p + 3 ∧
    vcall Xs Ms n_s_mutate [.ptr 0 0, .d (.str s)] [.box [.d (.sl (bs.map encU)), (.d (J p))]] = some (.d (.str s'), [.box [.d (.sl (bs.map encU)), (.d (J (p')))]]) := by
  have w : IntKind.i64.wrap ((s.length : Int) + 1) = ((s.length + 1 : Nat) : Int) := wrap_succ (k := s.length) (by omega)
  have e1 := s_pick_ev bs p ((s.length + 1 : Nat) : Int) hb (by omega)
  have h0 := s_pick_nonneg bs p ((s.length + 1 : Nat) : Int)
  have h2 := s_pick_lt bs p ((s.length + 1 : Nat) : Int) (by omega)
  obtain ⟨v, hv⟩ : ∃ v : Nat, s_pick bs p ((s.length + 1 : Nat) : Int) = v := ⟨(s_pick bs p ((s.length + 1 : Nat) : Int)).toNat, by omega⟩
  rw [hv] at e1 h2
  have hv1 : (v : Int) ≤ (s.length : Int) := by omega
  have e2 := s_pick_ev bs (p + 1) 5 hb (by omega)
  obtain ⟨c, hc⟩ : ∃ c, s_pick bs (p + 1) 5 = c := ⟨_, rfl⟩
  rw [hc] at e2
  have w2 := wrap_succ (k := v) (by omega)
  by_cases c1 : c = 0 ∨ c = 1
  · by_cases hlt : (v : Int) < (s.length : Int)
    · obtain ⟨x, hx, e3⟩ := s_of_ev bs hb (p + 1 + 1) (by omega) [[48], [49], [32], [119], [112], [44], [40], [10]] (by decide)
      have hx1 : x.length = 1 := by
        simp only [List.mem_cons, List.not_mem_nil, or_false] at hx
        rcases hx with h | h | h | h | h | h | h | h <;> rw [h] <;> rfl
      simp only [List.map_cons, List.map_nil] at e3
      have hv2 : ((v + 1 : Nat) : Int) ≤ (s.length : Int) := by omega
      have b1 : (List.take v s).length + x.length ≤ 1152921504606846976 := by simp; omega
      have b2 : (List.take v s).length + x.length + (List.drop (v + 1) s).length ≤ 1152921504606846976 := by simp; omega
      have ht : List.take s.length s = s := List.take_length
      refine ⟨s.take v ++ x ++ s.drop (v + 1), p + 3, by simp [hx1]; omega, by omega, by omega, ?_⟩
      rcases c1 with c1 | c1
      · refine callE Xs Ms f_s_mutate x_s_mutate (by show 2 ≤ _; decide) ?_
        simp +contextual -implicitDefEqProofs (maxSteps := 10^7) only [go_sem, seval, ↓gZ, f_s_mutate, w, e1, e2, c1, hlt, hv1, hv2, e3, w2, b1, b2, ht, optL, List.nil_append, List.append_nil]
      · refine callE Xs Ms f_s_mutate x_s_mutate (by show 2 ≤ _; decide) ?_
        simp +contextual -implicitDefEqProofs (maxSteps := 10^7) only [go_sem, seval, ↓gZ, f_s_mutate, w, e1, e2, c1, hlt, hv1, hv2, e3, w2, b1, b2, ht, optL, List.nil_append, List.append_nil]
    · refine ⟨s, p + 2, by omega, by omega, by omega, ?_⟩
      rcases c1 with c1 | c1
      · refine callE Xs Ms f_s_mutate x_s_mutate (by show 2 ≤ _; decide) ?_
        simp +contextual -implicitDefEqProofs (maxSteps := 10^7) only [go_sem, seval, ↓gZ, f_s_mutate, w, e1, e2, c1, hlt]
      · refine callE Xs Ms f_s_mutate x_s_mutate (by show 2 ≤ _; decide) ?_
        simp +contextual -implicitDefEqProofs (maxSteps := 10^7) only [go_sem, seval, ↓gZ, f_s_mutate, w, e1, e2, c1, hlt]
  have n0 : ¬ c = 0 := fun h => c1 (.inl h)
  have n1 : ¬ c = 1 := fun h => c1 (.inr h)
  by_cases c2 : c = 2
  · refine ⟨s.take v, p + 2, by simp; omega, by omega, by omega, ?_⟩
    refine callE Xs Ms f_s_mutate x_s_mutate (by show 2 ≤ _; decide) ?_
    simp +contextual -implicitDefEqProofs (maxSteps := 10^7) only [go_sem, seval, ↓gZ, f_s_mutate, w, e1, e2, n0, n1, c2, hv1]
  by_cases c3 : c = 3
  · obtain ⟨x, hx, e3⟩ := s_of_ev bs hb (p + 1 + 1) (by omega) [[48], [32], [10], [120], [119]] (by decide)
    have hx1 : x.length = 1 := by
      simp only [List.mem_cons, List.not_mem_nil, or_false] at hx
      rcases hx with h | h | h | h | h <;> rw [h] <;> rfl
    simp only [List.map_cons, List.map_nil] at e3
    have b1 : s.length + x.length ≤ 1152921504606846976 := by omega
    refine ⟨s ++ x, p + 3, by simp [hx1], by omega, by omega, ?_⟩
    refine callE Xs Ms f_s_mutate x_s_mutate (by show 2 ≤ _; decide) ?_
    simp +contextual -implicitDefEqProofs (maxSteps := 10^7) only [go_sem, seval, ↓gZ, f_s_mutate, w, e1, e2, n0, n1, c2, c3, e3, b1]
  · refine ⟨s, p + 2, by omega, by omega, by omega, ?_⟩
    refine callE Xs Ms f_s_mutate x_s_mutate (by show 2 ≤ _; decide) ?_
    simp +contextual -implicitDefEqProofs (maxSteps := 10^7) only [go_sem, seval, ↓gZ, f_s_mutate, w, e1, e2, n0, n1, c2, c3]
theorem binV_neqB (a b : Bool) : binV .neq true (AV.d (.bool a)) (.d (.bool b)) = opt1 (some (AV.d (.bool (a != b)))) := by cases a <;> cases b <;> rfl
theorem binV_eqB (a b : Bool) : binV .eql true (AV.d (.bool a)) (.d (.bool b)) = opt1 (some (AV.d (.bool (a == b)))) := by cases a <;> cases b <;> rfl
theorem split_from {c : UInt8} {s : List UInt8} {f k : Nat} (hf : f ≤ k) (hk : k ≤ s.length) (hno : c ∉ (s.take k).drop f) : 
    (∀ x, s[k]? = some x → x = c → splitL c (s.drop f) = (s.take k).drop f :: splitL c (s.drop (k + 1))) ∧ (k = s.length → splitL c (s.drop f) = [(s.take k).drop f]) := by
  constructor
  · intro x hx hc
    obtain ⟨h1, h2⟩ := List.getElem?_eq_some_iff.1 hx
    have e : s.drop f = (s.take k).drop f ++ c :: s.drop (k + 1) := by
      have : s = s.take k ++ x :: s.drop (k + 1) := by
        rw [← h2, ← List.drop_eq_getElem_cons h1, List.take_append_drop]
      conv => lhs; rw [this]
      rw [List.drop_append_of_le_length (by simp; omega), hc]
    rw [e, split_cut hno]
  · intro hks
    subst hks
    rw [List.take_length] at hno ⊢
    exact split_none hno
theorem drop_take_snoc {s : List UInt8} {f k : Nat} {x : UInt8} (hf : f ≤ k) (hx : s[k]? = some x) : (s.take (k + 1)).drop f = (s.take k).drop f ++ [x] := by
  obtain ⟨h1, h2⟩ := List.getElem?_eq_some_iff.1 hx
  rw [List.take_add_one, hx, Option.toList_some, List.drop_append_of_le_length (by simp; omega)]
theorem s_splitAt_ev (s : List UInt8) (c : UInt8) (n : Int) (hn : (c.toNat : Int) = n) (hs : s.length ≤ 1000000) : vcall Xs Ms n_s_splitAt [.d (.str s), .d (.int .u8 n)] [] = some (.own 0, [.row 1 ((splitL c s).map .str) true false]) := by
  refine callE Xs Ms f_s_splitAt x_s_splitAt (by show 2 ≤ _; decide) ?_
  simp +contextual -implicitDefEqProofs (maxSteps := 10^7) only [go_sem, seval, ↓gZ, f_s_splitAt]
  refine LW_over Xs Ms (st0 := ?st0) (α := Nat × Nat × List (List UInt8)) (fun a => [(7, .d (J (a.1 : Int))), (6, .d (J (a.2.1 : Int)))]) (fun a => [(0, .row 1 (a.2.2.map .str) true false)]) (fun a => a.2.1 ≤ a.1 ∧ a.1 ≤ s.length ∧ a.2.2.length ≤ a.1 ∧ c ∉ (s.take a.1).drop a.2.1 ∧ splitL c s = a.2.2 ++ splitL c (s.drop a.2.1)) (fun a => s.length - a.1) (0, 0, []) ?hc ⟨by simp, by simp, by simp, by simp, by simp⟩ ?h0 ?step
  case hc => simp +contextual -implicitDefEqProofs (maxSteps := 10^7) only [go_sem, seval, ↓gZ] <;> exact rfl
  case h0 => rfl
  case step =>
    intro ⟨k, f, out⟩ ⟨hf, hk, ho, hno, hp⟩ ih
    simp only at hf hk ho hno hp ih ⊢
    have hroom : (out.length + 1) * 16 ≤ 140737488355328 ∧ out.length + 1 ≤ 140737488355328 := by omega
    obtain ⟨s1, s2⟩ := split_from hf hk hno
    have b1 : (f : Int) ≤ (k : Int) := by omega
    have b2 : (k : Int) ≤ (s.length : Int) := by omega
    have b3 : (f : Int) ≤ (s.length : Int) := by omega
    by_cases hlt : k < s.length
    · obtain ⟨x, hx⟩ : ∃ x, s[k]? = some x := ⟨_, List.getElem?_eq_getElem hlt⟩
      have hlt' : (k : Int) < (s.length : Int) := by omega
      have w := wrap_succ (k := k) (by omega)
      by_cases he : x = c
      · have hxn : (x.toNat : Int) = n := by rw [he, hn]
        have s1 := s1 x hx he
        simp +contextual -implicitDefEqProofs (maxSteps := 10^7) only [go_sem, seval, ↓gZ, hlt', hlt, hx, w, hxn, b1, b2, hroom]
        refine ih (k + 1, k + 1, out ++ [(s.take k).drop f]) _ ⟨by simp, by simp only; omega, by simp; omega, by simp, ?_⟩ (by simp only; omega) ?_
        · simp only [List.append_assoc, List.singleton_append]
          rw [hp, s1]
        · simp +contextual -implicitDefEqProofs (maxSteps := 10^7) only [go_sem, seval, ↓gZ, List.map_append, List.map_cons, List.map_nil]
      · have hxn : ¬ (x.toNat : Int) = n := by
          intro h
          rw [← hn] at h
          exact he (UInt8.toNat_inj.1 (by omega))
        simp +contextual -implicitDefEqProofs (maxSteps := 10^7) only [go_sem, seval, ↓gZ, hlt', hlt, hx, w, hxn]
        refine ih (k + 1, f, out) _ ⟨by simp only; omega, by simp only; omega, by simp only; omega, ?_, hp⟩ (by simp only; omega) ?_
        · simp only
          rw [drop_take_snoc hf hx]
          simp only [List.mem_append, List.mem_singleton, not_or]
          exact ⟨hno, fun e => he e.symm⟩
        · simp +contextual -implicitDefEqProofs (maxSteps := 10^7) only [go_sem, seval, ↓gZ]
    · have hks : k = s.length := by omega
      have s2 := s2 hks
      subst hks
      rw [List.take_length] at s2
      rw [s2] at hp
      rw [hp]
      simp +contextual -implicitDefEqProofs (maxSteps := 10^7) only [go_sem, seval, ↓gZ, b3, hroom, List.take_length, List.map_append, List.map_cons, List.map_nil]
def lnS (ws : List (List UInt8)) : Option Line := match ws with
  | [a, b, c, t, k] => if t = turnsW ∨ t = fixedW then some ⟨⟨numS b, numS c, decide (t = turnsW), numS k⟩, numS a⟩ else none
  | _ => none
theorem s_readLine_ev (ws : List (List UInt8)) (hw : ∀ w ∈ ws, w.length ≤ 1000000) : vcall Xs Ms n_s_readLine [.d (.sl (ws.map .str))] [] = some (rlV (lnS ws), []) := by
  by_cases h5 : ws.length = 5
  · obtain ⟨a, b, c, t, k, rfl⟩ : ∃ a b c t k, ws = [a, b, c, t, k] := by
      match ws, h5 with
      | [a, b, c, t, k], _ => exact ⟨a, b, c, t, k, rfl⟩
    have ea := s_readNumber_ev a (hw a (by simp))
    have eb := s_readNumber_ev b (hw b (by simp))
    have ec := s_readNumber_ev c (hw c (by simp))
    have ek := s_readNumber_ev k (hw k (by simp))
    simp only [List.map_cons, List.map_nil]
    have key : ∀ tb : Bool, t = turnW tb → vcall Xs Ms n_s_readLine [.d (.sl [.str a, .str b, .str c, .str t, .str k])] [] = some (rlV (lnS [a, b, c, t, k]), []) := by
      intro tb ht
      have hor := turnW_or tb
      rw [← ht] at hor
      have hdec := turnW_dec tb
      rw [← ht] at hdec
      have q1 : (t == [116, 117, 114, 110, 115]) = tb := by
        rw [ht]; cases tb <;> rfl
      have q2 : (t == [102, 105, 120, 101, 100]) = !tb := by
        rw [ht]; cases tb <;> rfl
      simp only [lnS, if_pos hor, hdec]
      refine callE Xs Ms f_s_readLine x_s_readLine (by show 1 ≤ _; decide) ?_
      cases tb with
      | true => simp +contextual -implicitDefEqProofs (maxSteps := 10^7) only [go_sem, seval, ↓gZ, f_s_readLine, ea, eb, ec, ek, q1, q2, rlV, Bool.not_true, Line.enc]
      | false => simp +contextual -implicitDefEqProofs (maxSteps := 10^7) only [go_sem, seval, ↓gZ, f_s_readLine, ea, eb, ec, ek, q1, q2, rlV, Bool.not_false, Line.enc]
    by_cases t1 : t = turnsW
    · exact key true t1
    by_cases t2 : t = fixedW
    · exact key false t2
    · have hno : lnS [a, b, c, t, k] = none := by
        simp only [lnS]; rw [if_neg (fun h => h.elim t1 t2)]
      rw [hno]
      have q1 : (t == [116, 117, 114, 110, 115]) = false := by simpa [turnsW] using t1
      have q2 : (t == [102, 105, 120, 101, 100]) = false := by simpa [fixedW] using t2
      refine callE Xs Ms f_s_readLine x_s_readLine (by show 1 ≤ _; decide) ?_
      simp +contextual -implicitDefEqProofs (maxSteps := 10^7) only [go_sem, seval, ↓gZ, f_s_readLine, q1, q2, rlV]
  · have hno : lnS ws = none := by
      unfold lnS
      split
      · exact absurd rfl h5
      · rfl
    rw [hno]
    have h5' : ¬ (ws.length : Int) = 5 := by omega
    refine callE Xs Ms f_s_readLine x_s_readLine (by show 1 ≤ _; decide) ?_
    simp +contextual -implicitDefEqProofs (maxSteps := 10^7) only [go_sem, seval, ↓gZ, f_s_readLine, h5', rlV]

def lnAll : List (List UInt8) → Option (List Line)
  | [] => some []
  | w :: r => (lnS (splitL 32 w)).bind fun v => (lnAll r).bind fun vs => some (v :: vs)
theorem lnAll_at {ws : List (List UInt8)} {k : Nat} {x : List UInt8} (hx : ws[k]? = some x) : lnAll (ws.drop k) = (lnS (splitL 32 x)).bind fun v => (lnAll (ws.drop (k + 1))).bind fun vs => some (v :: vs) := by
  obtain ⟨h1, h2⟩ := List.getElem?_eq_some_iff.1 hx
  rw [List.drop_eq_getElem_cons h1, h2, lnAll]
theorem split_word (c : UInt8) : ∀ s : List UInt8, ∀ w ∈ splitL c s, w.length ≤ s.length
  | [], w, h => by simp only [splitL, List.mem_singleton] at h; rw [h]; simp
  | x :: r, w, h => by
    have ih := split_word c r
    simp only [splitL] at h
    by_cases hx : x = c
    · rw [if_pos hx] at h
      rcases List.mem_cons.1 h with rfl | h
      · simp
      · have := ih w h; simp; omega
    · rw [if_neg hx] at h
      cases hs : splitL c r with
      | nil => exact absurd hs (splitL_ne c r)
      | cons p q =>
        rw [hs] at h ih
        simp only at h
        rcases List.mem_cons.1 h with rfl | h
        · have := ih p (by simp); simp; omega
        · have := ih w (by simp [h]); simp; omega
theorem numS_ok {w : List UInt8} (h : 0 ≤ numS w) : rd w = some (numS w).toNat := by
  cases hr : rd w with
  | none => rw [numS_no hr] at h; omega
  | some v => rw [numS_yes hr]; simp
theorem lnS_rd {ws : List (List UInt8)} {x : Line} (h : lnS ws = some x) (h1 : 0 ≤ x.Count) (h2 : 0 ≤ x.Pane.W) (h3 : 0 ≤ x.Pane.H) (h4 : 0 ≤ x.Pane.Kind) : rdLn ws = some x := by
  unfold lnS at h
  split at h
  · rename_i a b c t k
    split at h
    · rename_i ht
      cases h
      simp only at h1 h2 h3 h4
      simp only [rdLn, if_pos ht, numS_ok h1, numS_ok h2, numS_ok h3, numS_ok h4, Option.bind_some, Int.toNat_of_nonneg h1, Int.toNat_of_nonneg h2, Int.toNat_of_nonneg h3, Int.toNat_of_nonneg h4]
    · cases h
  · cases h
theorem rdLn_lnS {ws : List (List UInt8)} {x : Line} (h : rdLn ws = some x) : lnS ws = some x := by
  unfold rdLn at h
  split at h
  · rename_i a b c t k
    split at h
    · rename_i ht
      simp only [Option.bind_eq_some_iff] at h
      obtain ⟨n1, h1, n2, h2, n3, h3, n4, h4, h⟩ := h
      cases h
      simp only [lnS, if_pos ht, numS_yes h1, numS_yes h2, numS_yes h3, numS_yes h4]
    · cases h
  · cases h
theorem lnAll_show : ∀ l : List Line, (∀ x ∈ l, sixL x) → lnAll (l.map showLn) = some l
  | [], _ => rfl
  | x :: r, h => by
    simp only [List.map_cons, lnAll, rdLn_lnS (rdLn_show (h x (by simp))), lnAll_show r (fun y hy => h y (by simp [hy])), Option.bind_some]
theorem lnAll_some : ∀ {ws : List (List UInt8)} {l : List Line}, lnAll ws = some l → (∀ x ∈ l, 0 ≤ x.Count ∧ 0 ≤ x.Pane.W ∧ 0 ≤ x.Pane.H ∧ 0 ≤ x.Pane.Kind) → ws = l.map showLn
  | [], l, h, _ => by cases h; rfl
  | w :: r, l, h, hp => by
    simp only [lnAll, Option.bind_eq_some_iff] at h
    obtain ⟨v, h1, vs, h2, h3⟩ := h
    cases h3
    obtain ⟨p1, p2, p3, p4⟩ := hp v (by simp)
    obtain ⟨e, _⟩ := rdLn_split (lnS_rd h1 p1 p2 p3 p4)
    rw [List.map_cons, ← e, ← lnAll_some h2 fun y hy => hp y (by simp [hy])]
theorem join_lines : ∀ l : List Line, joinL 10 (l.map showLn ++ [[]]) = showOrd l
  | [] => rfl
  | [x] => by simp [joinL, showOrd, linesT]
  | x :: y :: r => by
    have ih := join_lines (y :: r)
    rw [showOrd, linesT_cons, ← showOrd, ← ih]
    simp only [List.map_cons, List.cons_append, joinL]
theorem prsO_iff {s : List UInt8} {l : List Line} : prsO s = some l ↔ s = showOrd l ∧ VOrd l := by
  constructor
  · intro h
    obtain ⟨r, h1, h2, h3, _⟩ := ordFrom_some h
    simp only [List.nil_append] at h1
    subst h1
    exact ⟨h2, h3⟩
  · rintro ⟨rfl, h⟩
    exact prsO_show h
/-- What the reference makes of the lines. -/
def refO (is : List (List UInt8)) (lst : List UInt8) : Option (List Line) := match lnAll is with
  | none => none
  | some out => if lst = [] ∧ VOrd out then some out else none
theorem refO_eq {s : List UInt8} {is : List (List UInt8)} {lst : List UInt8} (h : splitL 10 s = is ++ [lst]) : refO is lst = prsO s := by
  have to : ∀ l, refO is lst = some l → prsO s = some l := by
    intro l hl
    unfold refO at hl
    cases hr : lnAll is with
    | none => rw [hr] at hl; cases hl
    | some out =>
      rw [hr] at hl
      simp only at hl
      split at hl
      · rename_i hc
        cases hl
        obtain ⟨rfl, hv⟩ := hc
        have e := lnAll_some hr fun x hx => by
          obtain ⟨⟨a1, a2, a3, a4, a5, a6⟩, a7, a8⟩ := VOrd_all hv x hx
          exact ⟨by omega, by omega, by omega, by omega⟩
        refine prsO_iff.2 ⟨?_, hv⟩
        rw [← join_split 10 s, h, e, join_lines]
      · cases hl
  have of : ∀ l, prsO s = some l → refO is lst = some l := by
    intro l hl
    obtain ⟨h1, h2⟩ := prsO_iff.1 hl
    have e : splitL 10 s = l.map showLn ++ [[]] := by
      have := split_lines (f := showLn) (l := l) (s := []) (fun x _ => showLn_no10 x)
      rw [List.append_nil] at this
      rw [h1, showOrd, this]; rfl
    rw [e] at h
    have h' := List.append_inj' h rfl
    obtain ⟨rfl, h4⟩ := h'
    simp only [List.cons.injEq, and_true] at h4
    unfold refO
    rw [lnAll_show l (sixL_of_VOrd h2)]
    simp only
    rw [if_pos ⟨h4.symm, h2⟩]
  cases hr : refO is lst with
  | some l => exact (to l hr).symm
  | none =>
    cases hp : prsO s with
    | none => rfl
    | some l => rw [of l hp] at hr; cases hr
theorem s_ParseOrder_ev (s : List UInt8) (hs : s.length ≤ 1000000) : vcall Xs Ms n_s_ParseOrder [.d (.str s)] [] = some (poV (prsO s)) := by
  have e1 := s_splitAt_ev s 10 10 rfl hs
  have hwl := split_word 10 s
  have hsl := split_len 10 s
  have hcl : s.count 10 ≤ s.length := List.count_le_length
  obtain ⟨is, lst, hil⟩ : ∃ is lst, splitL 10 s = is ++ [lst] := by
    rcases snoc_cases (splitL 10 s) with h | ⟨t, c, h⟩
    · exact absurd h (splitL_ne 10 s)
    · exact ⟨t, c, h⟩
  rw [← refO_eq hil]
  rw [hil] at e1 hwl hsl
  simp only [List.length_append, List.length_cons, List.length_nil] at hsl
  refine callE Xs Ms f_s_ParseOrder x_s_ParseOrder (by show 1 ≤ _; decide) ?_
  simp +contextual -implicitDefEqProofs (maxSteps := 10^7) only [go_sem, seval, ↓gZ, f_s_ParseOrder, e1]
  refine LW_over Xs Ms (st0 := ?st0) (α := Nat × List Line) (fun a => [(6, .d (J (a.1 : Int)))]) (fun a => [(1, .row 5 (a.2.map Line.enc) true false)]) (fun a => a.1 ≤ is.length ∧ a.2.length ≤ a.1 ∧ lnAll is = (lnAll (is.drop a.1)).map fun r => a.2 ++ r) (fun a => is.length - a.1) (0, []) ?hc ⟨by simp, by simp, by simp⟩ ?h0 ?step
  case hc => simp +contextual -implicitDefEqProofs (maxSteps := 10^7) only [go_sem, seval, ↓gZ] <;> exact rfl
  case h0 => rfl
  case step =>
    intro ⟨k, out⟩ ⟨hk, ho, hp⟩ ih
    simp only at hk ho hp ih ⊢
    have w := wrap_succ (k := k) (by omega)
    by_cases hlt : k < is.length
    · obtain ⟨x, hx⟩ := get_lt hlt
      have hx' : (is ++ [lst])[k]? = some x := by rw [List.getElem?_append_left hlt]; exact hx
      have hlt' : ((k + 1 : Nat) : Int) < ((is.length + 1 : Nat) : Int) := by omega
      have hlt2 : k < is.length + 1 := by omega
      have hxl := hwl x (List.mem_append_left _ (List.mem_of_getElem? hx))
      have e2 := s_splitAt_ev x 32 32 rfl (by omega)
      have e3 := s_readLine_ev (splitL 32 x) (fun w hw => by have := split_word 32 x w hw; omega)
      rw [lnAll_at hx] at hp
      have hroom : (out.length + 1) * 40 ≤ 140737488355328 ∧ out.length + 1 ≤ 140737488355328 := by omega
      cases hl : lnS (splitL 32 x) with
      | none =>
        rw [hl] at e3 hp
        simp only [rlV] at e3
        simp only [Option.bind_none, Option.map_none] at hp
        have hres : refO is lst = none := by unfold refO; rw [hp]
        rw [hres]
        simp +contextual -implicitDefEqProofs (maxSteps := 10^7) only [go_sem, seval, ↓gZ, hlt', hlt2, hx', w, e2, e3, poV]
      | some l =>
        rw [hl] at e3 hp
        simp only [rlV, Line.enc] at e3
        simp +contextual -implicitDefEqProofs (maxSteps := 10^7) only [go_sem, seval, ↓gZ, hlt', hlt2, hx', w, e2, e3, hroom]
        refine ih (k + 1, out ++ [l]) _ ⟨by simp only; omega, by simp; omega, ?_⟩ (by simp only; omega) ?_
        · simp only
          rw [hp]
          cases lnAll (is.drop (k + 1)) <;> simp
        · simp +contextual -implicitDefEqProofs (maxSteps := 10^7) only [go_sem, seval, ↓gZ, List.map_append, List.map_cons, List.map_nil, Line.enc]
    · have : k = is.length := by omega
      subst this
      simp only [List.drop_length, lnAll, Option.map_some, List.append_nil] at hp
      have hge : ¬ ((is.length + 1 : Nat) : Int) < ((is.length + 1 : Nat) : Int) := by omega
      have w2 : IntKind.i64.wrap (((is.length + 1 : Nat) : Int) - 1) = (is.length : Int) := by rw [show ((is.length + 1 : Nat) : Int) - 1 = is.length by omega]; exact wi _ (by omega) (by omega)
      have hgl : (is ++ [lst])[is.length]? = some lst := by simp
      have hlt2 : is.length < is.length + 1 := by omega
      have e4 := s_validOrder_ev out (by omega)
      unfold refO
      rw [hp]
      simp only
      by_cases h0 : lst = []
      · have h0' : (lst == []) = true := by rw [h0]; rfl
        by_cases hv : VOrd out
        · rw [decide_eq_true hv] at e4
          rw [if_pos ⟨h0, hv⟩]
          simp +contextual -implicitDefEqProofs (maxSteps := 10^7) only [go_sem, seval, ↓gZ, w, w2, hge, hgl, hlt2, h0', e4, poV]
        · rw [decide_eq_false hv] at e4
          rw [if_neg (fun h => hv h.2)]
          simp +contextual -implicitDefEqProofs (maxSteps := 10^7) only [go_sem, seval, ↓gZ, w, w2, hge, hgl, hlt2, h0', e4, poV]
      · have h0' : (lst == []) = false := by simpa using h0
        rw [if_neg (fun h => h0 h.1)]
        simp +contextual -implicitDefEqProofs (maxSteps := 10^7) only [go_sem, seval, ↓gZ, w, w2, hge, hgl, hlt2, h0', poV]
theorem fmtO_len (l : List Line) : (fmtO l).length ≤ 400 := by
  unfold fmtO
  split
  · rename_i h
    have := showOrd_len (sixL_of_VOrd h)
    have := h.1
    omega
  · simp
theorem s_DrawParseOrder_ev (code : List UInt8) : ∃ s : List UInt8, s.length ≤ 1000000 ∧ vcall Xs Ms n_s_DrawParseOrder [.d (.sl (code.map encU))] [] = some (.d (.str s), []) := by
  have e1 := s_newReader_ev code
  have hb : (code.take 2000).length ≤ 2000 := by simp; omega
  obtain ⟨r, e2, l, p', h1, h2, h3, rfl⟩ := s_anyOrder_ev (code.take 2000) hb 0 (by decide)
  rw [show ((0 : Nat) : Int) = 0 from rfl] at e2
  have e3 := s_FormatOrder_ev l (by omega)
  have hlen := fmtO_len l
  generalize fmtO l = t at e3 hlen
  have e4 := s_pick_ev (code.take 2000) p' 3 hb (by omega)
  obtain ⟨c, hc⟩ : ∃ c, s_pick (code.take 2000) p' 3 = c := ⟨_, rfl⟩
  rw [hc] at e4
  by_cases c0 : c = 0
  · obtain ⟨s', p2, g1, g2, g3, e5⟩ := s_mutate_ev (code.take 2000) hb (p' + 1) (by omega) t (by omega)
    refine ⟨s', by omega, ?_⟩
    refine callE Xs Ms f_s_DrawParseOrder x_s_DrawParseOrder (by show 1 ≤ _; decide) ?_
    simp +contextual -implicitDefEqProofs (maxSteps := 10^7) only [go_sem, seval, ↓gZ, f_s_DrawParseOrder, e1, e2, e3, e4, c0, e5]
  · refine ⟨t, by omega, ?_⟩
    refine callE Xs Ms f_s_DrawParseOrder x_s_DrawParseOrder (by show 1 ≤ _; decide) ?_
    simp +contextual -implicitDefEqProofs (maxSteps := 10^7) only [go_sem, seval, ↓gZ, f_s_DrawParseOrder, e1, e2, e3, e4, c0]
theorem l_FnParseOrder_ev (code : List UInt8) : vcall Xs Ms n_l_FnParseOrder [.d (.sl (code.map encU))] [] = some ((.d (.bool true)), []) := by
  by_cases hc : code.length ≤ 1048576
  · have hc' : ¬ (1048576 : Int) < (code.length : Int) := by omega
    obtain ⟨s, hs, e1⟩ := s_DrawParseOrder_ev code
    have e2 := i_ParseOrder_ev s hs
    have e3 := s_ParseOrder_ev s hs
    cases hm : prsO s with
    | none =>
      rw [hm] at e2 e3
      simp only [poV] at e2 e3
      have e4 := l_equalOrder_same [] (by simp)
      simp only [List.map_nil] at e4
      refine callE Xs Ms f_l_FnParseOrder x_l_FnParseOrder (by show 1 ≤ _; decide) ?_
      simp +contextual -implicitDefEqProofs (maxSteps := 10^7) only [go_sem, seval, ↓gZ, f_l_FnParseOrder, hc', e1, e2, e3, e4, binV_neqB, binV_eqB, bne_self_eq_false, beq_self_eq_true]
    | some l =>
      obtain ⟨k1, k2⟩ := prsO_iff.1 hm
      rw [hm] at e2 e3
      simp only [poV] at e2 e3
      have e4 := l_equalOrder_same l (by have := k2.1; omega)
      have e5 := i_FormatOrder_ev l
      have e6 := i_ValidOrder_ev l
      rw [decide_eq_true k2] at e6
      rw [show fmtO l = s from (if_pos k2).trans k1.symm] at e5
      have hself : (s == s) = true := by simp
      refine callE Xs Ms f_l_FnParseOrder x_l_FnParseOrder (by show 1 ≤ _; decide) ?_
      simp +contextual -implicitDefEqProofs (maxSteps := 10^7) only [go_sem, seval, ↓gZ, f_l_FnParseOrder, hc', e1, e2, e3, e4, e5, e6, hself, binV_neqB, binV_eqB, bne_self_eq_false, beq_self_eq_true]
  · have hc' : (1048576 : Int) < (code.length : Int) := by omega
    refine callE Xs Ms f_l_FnParseOrder x_l_FnParseOrder (by show 1 ≤ _; decide) ?_
    simp +contextual -implicitDefEqProofs (maxSteps := 10^7) only [go_sem, seval, ↓gZ, f_l_FnParseOrder, hc']

end Go.Proofs.YtkdjbefmiiibpaaDoor
