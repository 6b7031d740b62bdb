/- Contracts of the functions, by the abstract semantics. -/
import Derived.Test.YtpobhkoombldlaaGreatACode
import Derived.Test.YtpobhkoombldlaaGreatAbsParts
namespace Go.Proofs.YtpobhkoombldlaaGreat
open Go Go.Abs Go.Abs.E Go.Abs.L
open Nat (reduceMul reduceSub reduceLeDiff reduceEqDiff)
open Int (reduceLE reduceEq reduceToNat reduceNeg)
set_option linter.unusedSimpArgs false
set_option linter.unusedVariables false
set_option maxRecDepth 20000
set_option maxHeartbeats 4000000
theorem ZP (n lo hi : Int) : Zh Xs Ms ZO [(.d (J n)), (.d (J lo)), (.d (J hi))] [] = some ((.d (.bool ((decide (lo ≤ n ∧ n ≤ hi))))), []) := by
 refine Ze Xs Ms ZbJ ZsK (by show 3 ≤ _; decide) ?_
 simp +contextual -implicitDefEqProofs (maxSteps := 10^7) only [go_sem, seval, ↓gZ, ZbJ]
theorem ZiU (bX bY bW bH : Int) : Zh Xs Ms UO [(.d (.agg [J bX, J bY, J bW, J bH]))] [] = some ((.d (.bool ((decide (VB (Box.mk bX bY bW bH)))))), []) := by
 refine Ze Xs Ms Zaz Zrv (by show 1 ≤ _; decide) ?_
 simp +contextual -implicitDefEqProofs (maxSteps := 10^7) only [go_sem, seval, ↓gZ, Zaz, ZP]
 have h1 := wi (200 - bW); have h2 := wi (200 - bH)
 exact ZdS (by simp only [VB]; omega)
theorem Wz (bX bY bW bH : Int) : Zh Xs Ms Y6 [(.d (.agg [J bX, J bY, J bW, J bH]))] [] = some ((.d (.bool ((decide (VB (Box.mk bX bY bW bH)))))), []) := by
 refine Ze Xs Ms Zat Zro (by show 1 ≤ _; decide) ?_
 simp +contextual -implicitDefEqProofs (maxSteps := 10^7) only [go_sem, seval, ↓gZ, Zat]
 have h1 := wi (200 - bW); have h2 := wi (200 - bH)
 exact ⟨fun h => ZhX (by simp only [VB]; omega), fun h => ZdS (by simp only [VB]; omega)⟩
theorem Zpa (aX aY aW aH : Int) (bX bY bW bH : Int) (ha : VB (Box.mk aX aY aW aH)) (h1 : R64 bX) (h2 : R64 bY) (h3 : R64 (bX + bW)) (h4 : R64 (bY + bH)) : Zh Xs Ms UP [(.d (.agg [J aX, J aY, J aW, J aH])), (.d (.agg [J bX, J bY, J bW, J bH]))] [] = some ((.d (.bool ((decide (WR (Box.mk aX aY aW aH) (Box.mk bX bY bW bH)))))), []) := by
 refine Ze Xs Ms ZaA Zrw (by show 2 ≤ _; decide) ?_
 simp only [VB] at ha
 have e1 := wi (aX + aW) (by omega) (by omega); have e2 := wi (aY + aH) (by omega) (by omega); have e3 := wi (bX + bW) h3.1 h3.2; have e4 := wi (bY + bH) h4.1 h4.2
 simp +contextual -implicitDefEqProofs (maxSteps := 10^7) only [go_sem, seval, ↓gZ, ZaA, e1, e2, e3, e4]
 exact ZdS (by simp only [WR]; omega)
theorem ZjW (aX aY aW aH : Int) (bX bY bW bH : Int) (ha : VB (Box.mk aX aY aW aH)) (hb : VB (Box.mk bX bY bW bH)) (hm : U2 (Box.mk aX aY aW aH) (Box.mk bX bY bW bH)) : Zh Xs Ms Uc [(.d (.agg [J aX, J aY, J aW, J aH])), (.d (.agg [J bX, J bY, J bW, J bH]))] [] = some (.tup [.d (ZhY (Box.mk aX aY aW aH) (Box.mk bX bY bW bH)).enc, (.d (.bool true))], []) := by
 refine Ze Xs Ms JP ZnQ (by show 2 ≤ _; decide) ?_
 simp only [VB, U2] at ha hb hm
 have e1 := wi (aX + aW) (by omega) (by omega); have e2 := wi (aY + aH) (by omega) (by omega); have e3 := wi (bX + bW) (by omega) (by omega); have e4 := wi (bY + bH) (by omega) (by omega)
 have e5 := wi (min (aX + aW) (bX + bW) - max aX bX) (by omega) (by omega)
 have e6 := wi (min (aY + aH) (bY + bH) - max aY bY) (by omega) (by omega)
 have n1 : ¬ (min (aX + aW) (bX + bW) - max aX bX ≤ 0) := by omega
 have n2 : ¬ (min (aY + aH) (bY + bH) - max aY bY ≤ 0) := by omega
 simp +contextual -implicitDefEqProofs (maxSteps := 10^7) only [go_sem, seval, ↓gZ, JP, e1, e2, e3, e4, e5, e6, n1, n2, ZhY]
theorem ZlT (aX aY aW aH : Int) (bX bY bW bH : Int) (ha : VB (Box.mk aX aY aW aH)) (hb : VB (Box.mk bX bY bW bH)) (hm : ¬ U2 (Box.mk aX aY aW aH) (Box.mk bX bY bW bH)) : Zh Xs Ms Uc [(.d (.agg [J aX, J aY, J aW, J aH])), (.d (.agg [J bX, J bY, J bW, J bH]))] [] = some (.tup [.d (Box.enc ⟨0, 0, 0, 0⟩), (.d (.bool false))], []) := by
 refine Ze Xs Ms JP ZnQ (by show 2 ≤ _; decide) ?_
 simp only [VB, U2] at ha hb hm
 have e1 := wi (aX + aW) (by omega) (by omega); have e2 := wi (aY + aH) (by omega) (by omega); have e3 := wi (bX + bW) (by omega) (by omega); have e4 := wi (bY + bH) (by omega) (by omega)
 have e5 := wi (min (aX + aW) (bX + bW) - max aX bX) (by omega) (by omega)
 have e6 := wi (min (aY + aH) (bY + bH) - max aY bY) (by omega) (by omega)
 have n1 : min (aX + aW) (bX + bW) - max aX bX ≤ 0 ∨ min (aY + aH) (bY + bH) - max aY bY ≤ 0 := by omega
 simp +contextual -implicitDefEqProofs (maxSteps := 10^7) only [go_sem, seval, ↓gZ, JP, e1, e2, e3, e4, e5, e6]
 omega
theorem Zf2 (aX aY aW aH : Int) (bX bY bW bH : Int) (ha : VB (Box.mk aX aY aW aH)) (hb : VB (Box.mk bX bY bW bH)) (hm : U2 (Box.mk aX aY aW aH) (Box.mk bX bY bW bH)) : Zh Xs Ms Wc [(.d (.agg [J aX, J aY, J aW, J aH])), (.d (.agg [J bX, J bY, J bW, J bH]))] [] = some (.tup [.d (ZhY (Box.mk aX aY aW aH) (Box.mk bX bY bW bH)).enc, (.d (.bool true))], []) := by
 refine Ze Xs Ms Wk ZnL (by show 2 ≤ _; decide) ?_
 have ha' := ha; have hb' := hb
 simp only [VB, U2] at ha' hb' hm
 have e1 := wi (aX + aW) (by omega) (by omega); have e2 := wi (aY + aH) (by omega) (by omega); have e3 := wi (bX + bW) (by omega) (by omega); have e4 := wi (bY + bH) (by omega) (by omega)
 have e5 := wi (min (aX + aW) (bX + bW) - max aX bX) (by omega) (by omega)
 have e6 := wi (min (aY + aH) (bY + bH) - max aY bY) (by omega) (by omega)
 have n1 : ¬ (min (aX + aW) (bX + bW) ≤ max aX bX) := by omega
 have n2 : ¬ (min (aY + aH) (bY + bH) ≤ max aY bY) := by omega
 simp +contextual -implicitDefEqProofs (maxSteps := 10^7) only [go_sem, seval, ↓gZ, Wk, Wz, ha, hb, e1, e2, e3, e4, e5, e6, n1, n2, ZhY]
theorem Zhg (aX aY aW aH : Int) (bX bY bW bH : Int) (hm : ¬ (VB (Box.mk aX aY aW aH) ∧ VB (Box.mk bX bY bW bH) ∧ U2 (Box.mk aX aY aW aH) (Box.mk bX bY bW bH))) : Zh Xs Ms Wc [(.d (.agg [J aX, J aY, J aW, J aH])), (.d (.agg [J bX, J bY, J bW, J bH]))] [] = some (.tup [.d (Box.enc ⟨0, 0, 0, 0⟩), (.d (.bool false))], []) := by
 refine Ze Xs Ms Wk ZnL (by show 2 ≤ _; decide) ?_
 by_cases ha : VB (Box.mk aX aY aW aH)
 ·by_cases hb : VB (Box.mk bX bY bW bH)
  ·have ha' := ha; have hb' := hb
   simp only [ha, hb, true_and] at hm
   simp only [VB, U2] at ha' hb' hm
   have e1 := wi (aX + aW) (by omega) (by omega); have e2 := wi (aY + aH) (by omega) (by omega); have e3 := wi (bX + bW) (by omega) (by omega); have e4 := wi (bY + bH) (by omega) (by omega)
   simp +contextual -implicitDefEqProofs (maxSteps := 10^7) only [go_sem, seval, ↓gZ, Wk, Wz, ha, hb, e1, e2, e3, e4]
   omega
  ·simp +contextual -implicitDefEqProofs (maxSteps := 10^7) only [go_sem, seval, ↓gZ, Wk, Wz, ha, hb]
 ·simp +contextual -implicitDefEqProofs (maxSteps := 10^7) only [go_sem, seval, ↓gZ, Wk, Wz, ha]
theorem ZiV (aX aY aW aH : Int) (bX bY bW bH : Int) : Zh Xs Ms Wa [(.d (.agg [J aX, J aY, J aW, J aH])), (.d (.agg [J bX, J bY, J bW, J bH]))] [] = some ((.d (.bool ((decide (VB (Box.mk aX aY aW aH) ∧ VB (Box.mk bX bY bW bH) ∧ WR (Box.mk aX aY aW aH) (Box.mk bX bY bW bH)))))), []) := by
 refine Ze Xs Ms UT Zrh (by show 2 ≤ _; decide) ?_
 by_cases hm : VB (Box.mk aX aY aW aH) ∧ VB (Box.mk bX bY bW bH) ∧ U2 (Box.mk aX aY aW aH) (Box.mk bX bY bW bH)
 ·obtain ⟨ha, hb, hm⟩ := hm
  simp +contextual -implicitDefEqProofs (maxSteps := 10^7) only [go_sem, seval, ↓gZ, UT, Zf2 _ _ _ _ _ _ _ _ ha hb hm, ZhY]
  simp only [VB] at ha hb; simp only [U2] at hm
  exact ZdS (by simp only [VB, WR]; omega)
 ·simp +contextual -implicitDefEqProofs (maxSteps := 10^7) only [go_sem, seval, ↓gZ, UT, Zhg _ _ _ _ _ _ _ _ hm]
  have : ¬ (VB (Box.mk aX aY aW aH) ∧ VB (Box.mk bX bY bW bH) ∧ WR (Box.mk aX aY aW aH) (Box.mk bX bY bW bH)) := by
   intro ⟨h1, h2, h3⟩
   refine hm ⟨h1, h2, ?_⟩
   simp only [VB, WR] at h1 h2 h3
   simp only [U2]
   omega
  exact ZhX this
theorem VA (pW pH : Int) (pT : Bool) (pK : Int) : Zh Xs Ms X0 [(.d (.agg [J pW, J pH, .bool pT, J pK]))] [] = some ((.d (.bool ((decide (VP (Pane.mk pW pH pT pK)))))), []) := by
 refine Ze Xs Ms Jn ZpI (by show 1 ≤ _; decide) ?_
 simp +contextual -implicitDefEqProofs (maxSteps := 10^7) only [go_sem, seval, ↓gZ, Jn, ZP]
 first | exact ZdS (by simp only [VP]; omega) | skip
theorem Zc1 (pW pH : Int) (pT : Bool) (pK : Int) : Zh Xs Ms Yw [(.d (.agg [J pW, J pH, .bool pT, J pK]))] [] = some ((.d (.bool ((decide (VP (Pane.mk pW pH pT pK)))))), []) := by
 refine Ze Xs Ms Jk ZpE (by show 1 ≤ _; decide) ?_
 simp +contextual -implicitDefEqProofs (maxSteps := 10^7) only [go_sem, seval, ↓gZ, Jk]
 first | exact ZdS (by simp only [VP]; omega) | skip
def WA : Nat → List Int → Int → Int
 | _, [], _ => -1
 | k, x :: l, n => if x = n then (k : Int) else WA (k + 1) l n
theorem Zm7 {l : List Int} {k : Nat} {x n : Int} (hx : l[k]? = some x) : WA k (l.drop k) n = if x = n then (k : Int) else WA (k + 1) (l.drop (k + 1)) n := by
 have h := (List.getElem?_eq_some_iff.1 hx)
 obtain ⟨h1, h2⟩ := h
 rw [List.drop_eq_getElem_cons h1, h2, WA]
theorem Zq3 (l : List Int) (n : Int) (hl : l.length < 4611686018427387904) : Zh Xs Ms J3 [.d (.sl (l.map ZaZ)), (.d (J n))] [] = some ((.d (J (WA 0 l n))), []) := by
 refine Ze Xs Ms ZbN ZsP (by show 2 ≤ _; decide) ?_
 simp +contextual -implicitDefEqProofs (maxSteps := 10^7) only [go_sem, seval, ↓gZ, ZbN]
 refine ZE Xs Ms (st0 := ?st0) (α := Nat) (fun k => [(5, .d (J (k : Int)))]) (fun _ => []) (fun k => k ≤ l.length ∧ WA k (l.drop k) n = WA 0 l n) (fun k => l.length - k) 0 ?hc ⟨by omega, rfl⟩ ?h0 ?step
 case hc => simp +contextual -implicitDefEqProofs (maxSteps := 10^7) only [go_sem, seval, ↓gZ]; exact rfl
 case h0 => rfl
 case step =>
  intro k ⟨hk, hp⟩ ih
  by_cases hlt : k < l.length
  ·obtain ⟨x, hx⟩ := Zw hlt
   rw [Zm7 hx] at hp
   have hw := Zm (k := k) (by omega)
   simp +contextual -implicitDefEqProofs (maxSteps := 10^7) only [go_sem, seval, ↓gZ, hx, hlt, hw]
   refine ⟨fun h => ?_, fun h => ih (k + 1) _ ⟨by omega, ?_⟩ (by omega) ?_⟩
   ·rw [if_pos h] at hp; rw [← hp]
   ·rw [if_neg h] at hp; exact hp
   ·simp +contextual -implicitDefEqProofs (maxSteps := 10^7) only [go_sem, seval, ↓gZ]
  ·have : k = l.length := by omega
   subst this
   simp +contextual -implicitDefEqProofs (maxSteps := 10^7) only [go_sem, seval, ↓gZ]
   rw [← hp]
   simp [WA]
theorem Zm8 (bs : List UInt8) : Zh Xs Ms WD [.d (.sl (bs.map JU))] [] = some (.ptr 0 0, [.box [.d (.sl ((bs.take 2000).map JU)), (.d (J 0))]]) := by
 refine Ze Xs Ms WL Zpx (by show 1 ≤ _; decide) ?_
 by_cases h : 2000 < bs.length
 ·have h1 : (2000 : Int) < bs.length := by omega
  have h2 : (2000 : Int) ≤ bs.length := by omega
  simp +contextual -implicitDefEqProofs (maxSteps := 10^7) only [go_sem, seval, ↓gZ, WL, h1, h2]
 ·have h1 : ¬ (2000 : Int) < bs.length := by omega
  have h2 : bs.take 2000 = bs := List.take_of_length_le (by omega)
  simp +contextual -implicitDefEqProofs (maxSteps := 10^7) only [go_sem, seval, ↓gZ, WL, h1, h2]
theorem Zil (bs : List UInt8) (p : Nat) (n : Int) (hb : bs.length ≤ 2000) (hp : p < 1099511627776) :
  ∃ v : Int, Zh Xs Ms Zx [.ptr 0 0, (.d (J n))] [.box [.d (.sl (bs.map JU)), (.d (J p))]] = some ((.d (J v)), [.box [.d (.sl (bs.map JU)), (.d (J ((p + 1 : Nat))))]]) ∧ 0 ≤ v ∧ (1 ≤ n → v < n) := by
 have hw := Zm (k := p) (by omega)
 by_cases hn : n < 1
 ·refine ⟨0, ?_, by omega, by omega⟩
  refine Ze Xs Ms QA JI (by show 2 ≤ _; decide) ?_
  simp +contextual -implicitDefEqProofs (maxSteps := 10^7) only [go_sem, seval, ↓gZ, QA, hw, hn]
 ·by_cases hl : bs.length = 0
  ·refine ⟨0, ?_, by omega, by omega⟩
   refine Ze Xs Ms QA JI (by show 2 ≤ _; decide) ?_
   simp +contextual -implicitDefEqProofs (maxSteps := 10^7) only [go_sem, seval, ↓gZ, QA, hw, hn, hl]
  ·have hl' : ¬ (bs.length : Int) = 0 := by omega
   have hs : IntKind.i64.wrap (((p + 1 : Nat) : Int) - 1) = (p : Int) := by rw [U9 (by omega) (by omega)]; omega
   have hn0 : ¬ n = 0 := by omega
   by_cases hlt : p < bs.length
   ·obtain ⟨x, hx⟩ := Zw hlt
    have hx2 : (x.toNat : Int) < 256 := by have := x.toNat_lt; omega
    have hwx : IntKind.i64.wrap (x.toNat : Int) = (x.toNat : Int) := U9 (by omega) (by omega)
    refine ⟨(x.toNat : Int).tmod n, ?_, Int.tmod_nonneg _ (by omega), fun _ => Int.tmod_lt_of_pos _ (by omega)⟩
    refine Ze Xs Ms QA JI (by show 2 ≤ _; decide) ?_
    simp +contextual -implicitDefEqProofs (maxSteps := 10^7) only [go_sem, seval, ↓gZ, QA, hw, hn, hl', hs, hlt, hx, JU, hwx, hn0]
   ·have hlen : 0 < bs.length := by omega
    obtain ⟨x, hx⟩ := Zw (l := bs) (k := p % bs.length) (Nat.mod_lt _ hlen)
    obtain ⟨y, hy⟩ := Zw (l := bs) (k := (p * 7 + 3) % bs.length) (Nat.mod_lt _ hlen)
    have hx2 : (x.toNat : Int) < 256 := by have := x.toNat_lt; omega
    have hy2 : (y.toNat : Int) < 256 := by have := y.toNat_lt; omega
    have e1 : ((p : Int)).tmod (bs.length : Int) = ((p % bs.length : Nat) : Int) := (Int.ofNat_tmod p bs.length).symm
    have e2 : IntKind.i64.wrap ((p : Int) * 7) = ((p * 7 : Nat) : Int) := by rw [U9 (by omega) (by omega)]; omega
    have e3 : IntKind.i64.wrap (((p * 7 : Nat) : Int) + 3) = ((p * 7 + 3 : Nat) : Int) := by rw [U9 (by omega) (by omega)]; omega
    have e4 : ((p * 7 + 3 : Nat) : Int).tmod (bs.length : Int) = (((p * 7 + 3) % bs.length : Nat) : Int) := (Int.ofNat_tmod _ _).symm
    obtain ⟨q, hqe, hq⟩ : ∃ q : Nat, q = p / bs.length ∧ q ≤ p := ⟨_, rfl, Nat.div_le_self _ _⟩
    have e5 : ((p : Int)).tdiv (bs.length : Int) = (q : Int) := by rw [hqe]; exact (Int.ofNat_tdiv p bs.length).symm
    clear hqe
    have w1 : IntKind.i64.wrap (x.toNat : Int) = (x.toNat : Int) := U9 (by omega) (by omega)
    have w2 : IntKind.i64.wrap (y.toNat : Int) = (y.toNat : Int) := U9 (by omega) (by omega)
    have w3 := wi ((x.toNat : Int) * 131) (by omega) (by omega)
    have w4 := wi ((y.toNat : Int) * 1117) (by omega) (by omega)
    have w5 := wi ((x.toNat : Int) * 131 + (y.toNat : Int) * 1117) (by omega) (by omega)
    have w6 := wi ((p : Int) * 29) (by omega) (by omega)
    have w7 := wi ((x.toNat : Int) * 131 + (y.toNat : Int) * 1117 + (p : Int) * 29) (by omega) (by omega)
    have w8 := wi ((q : Int)) (by omega) (by omega)
    have w9 := wi ((q : Int) * 53) (by omega) (by omega)
    have w10 := wi ((x.toNat : Int) * 131 + (y.toNat : Int) * 1117 + (p : Int) * 29 + (q : Int) * 53) (by omega) (by omega)
    obtain ⟨t, ht⟩ : ∃ t : Int, t = (x.toNat : Int) * 131 + (y.toNat : Int) * 1117 + (p : Int) * 29 + (q : Int) * 53 := ⟨_, rfl⟩
    have ht0 : 0 ≤ t := by omega
    have ht1 : t < 4611686018427387904 := by omega
    have hd0 : 0 ≤ t.tdiv 64 := Int.tdiv_nonneg ht0 (by omega)
    have hd1 : t.tdiv 64 < 4611686018427387904 := by
     rw [Int.tdiv_eq_ediv_of_nonneg ht0]; omega
    have w11 := wi (t.tdiv 64) (by omega) (by omega)
    obtain ⟨z, hz0, hz1, hz⟩ := Zwx ht0 ht1 hd0 hd1
    rw [← ht] at w10
    refine ⟨z.tmod n, ?_, Int.tmod_nonneg _ hz0, fun _ => Int.tmod_lt_of_pos _ (by omega)⟩
    have hxb : ZaI .xor .i64 .i64 t (t.tdiv 64) = some (.d (J z)) := by simp only [ZaI, Ju, asD, Zj, if_true, hz]
    refine Ze Xs Ms QA JI (by show 2 ≤ _; decide) ?_
    simp +contextual -implicitDefEqProofs (maxSteps := 10^7) only [go_sem, seval, ↓gZ, QA, hw, hn, hl', hs, hlt, JU, hn0, e1, e2, e3, e4, e5, hx, hy, w1, w2, w3, w4, w5, w6, w7, w8, w9, w10, ← ht, w11, hxb]
open Classical in
noncomputable def Q0 (bs : List UInt8) (p : Nat) (n : Int) : Int := if h : bs.length ≤ 2000 ∧ p < 1099511627776 then (Zil bs p n h.1 h.2).choose else 0
theorem Qu (bs : List UInt8) (p : Nat) (n : Int) (hb : bs.length ≤ 2000) (hp : p < 1099511627776) :
  Zh Xs Ms Zx [.ptr 0 0, (.d (J n))] [.box [.d (.sl (bs.map JU)), (.d (J p))]] = some ((.d (J (Q0 bs p n))), [.box [.d (.sl (bs.map JU)), (.d (J ((p + 1 : Nat))))]]) := by
 have h : bs.length ≤ 2000 ∧ p < 1099511627776 := ⟨hb, hp⟩
 unfold Q0
 rw [dif_pos h]
 exact (Zil bs p n hb hp).choose_spec.1
theorem Zbv (bs : List UInt8) (p : Nat) (n : Int) : 0 ≤ Q0 bs p n := by
 unfold Q0
 split
 ·rename_i h; exact (Zil bs p n h.1 h.2).choose_spec.2.1
 ·omega
theorem Zim (bs : List UInt8) (p : Nat) (n : Int) (hn : 1 ≤ n) : Q0 bs p n < n := by
 unfold Q0
 split
 ·rename_i h; exact (Zil bs p n h.1 h.2).choose_spec.2.2 hn
 ·omega
theorem Ja (bs : List UInt8) (p : Nat) (l : List Int) (hb : bs.length ≤ 2000) (hp : p < 1099511627776) (hl : 1 ≤ l.length) :
  ∃ v : Int, v ∈ l ∧ Zh Xs Ms Qh [.ptr 0 0, .d (.sl (l.map ZaZ))] [.box [.d (.sl (bs.map JU)), (.d (J p))]] = some ((.d (J v)), [.box [.d (.sl (bs.map JU)), (.d (J ((p + 1 : Nat))))]]) := by
 have h0 := Zbv bs p l.length
 have h1 := Zim bs p l.length (by omega)
 obtain ⟨i, hi⟩ : ∃ i : Nat, Q0 bs p (l.length : Int) = (i : Int) := ⟨(Q0 bs p (l.length : Int)).toNat, by omega⟩
 obtain ⟨v, hv⟩ := Zw (l := l) (k := i) (by omega)
 refine ⟨v, List.mem_of_getElem? hv, ?_⟩
 refine Ze Xs Ms Ud ZnD (by show 2 ≤ _; decide) ?_
 simp +contextual -implicitDefEqProofs (maxSteps := 10^7) only [go_sem, seval, ↓gZ, Ud, Qu bs p _ hb hp, hi, hv]
theorem Xm (pO pA pP : Int) (pT : Bool) (pK : List D) : Zh Xs Ms Zbc [.d (.agg [J pO, J pA, J pP, .bool pT, .sl pK])] [] = some ((.d (.bool (decide (pO = 2 ∨ pO = 3)))), []) := by
 refine Ze Xs Ms ZfA ZvX (by show 1 ≤ _; decide) ?_
 simp +contextual -implicitDefEqProofs (maxSteps := 10^7) only [go_sem, seval, ↓gZ, ZfA]
theorem W5 (pO pA pP : Int) (pT : Bool) (pK : List D) : Zh Xs Ms ZcW [.d (.agg [J pO, J pA, J pP, .bool pT, .sl pK])] [] = some ((.d (.bool (decide (pO = 2 ∨ pO = 3)))), []) := by
 refine Ze Xs Ms Zfz ZvW (by show 1 ≤ _; decide) ?_
 simp +contextual -implicitDefEqProofs (maxSteps := 10^7) only [go_sem, seval, ↓gZ, Zfz]
theorem Zc2 : ∀ (n : Nat) (p : Zg), p.nodes ≤ n → Zh Xs Ms Va [.d p.enc] [] = some ((.d (J (ZB 255 (YR p)))), [])
 | 0, .mk o a p t ks, hn => by simp [Zg.nodes] at hn
 | n + 1, .mk o a p t ks, hn => by
  by_cases ho : o = 2 ∨ o = 3
  ·by_cases hk : ks.length = 2
   ·obtain ⟨x, hx⟩ := Zw (l := ks) (k := 0) (by omega)
    obtain ⟨y, hy⟩ := Zw (l := ks) (k := 1) (by omega)
    have ihx := Zc2 n x (ZiI hn hx)
    have ihy := Zc2 n y (ZiI hn hy)
    rw [ZqM ho hk hx hy]
    obtain ⟨lx, hlx⟩ : ∃ l, l = YR x := ⟨_, rfl⟩
    obtain ⟨ly, hly⟩ : ∃ l, l = YR y := ⟨_, rfl⟩
    rw [← hlx] at ihx ⊢
    rw [← hly] at ihy ⊢
    have rx := ZcP 255 (by omega) lx
    have ry := ZcP 255 (by omega) ly
    have hk2 : (ks.length : Int) = 2 := by omega
    by_cases hp : p = 0
    ·cases t with
     | true =>
      have hb := ZgM 255 o a p true lx ly (by simp)
      rw [hb]
      refine Ze Xs Ms ZL Xo (by show 1 ≤ _; decide) ?_
      simp +contextual -implicitDefEqProofs (maxSteps := 10^7) only [go_sem, seval, ↓gZ, ZL, Xm, ho, hp]
     | false =>
      subst hp
      rw [ZuU]
      obtain ⟨sx, hsx⟩ : ∃ s, s = ZB 255 lx := ⟨_, rfl⟩
      obtain ⟨sy, hsy⟩ : ∃ s, s = ZB 255 ly := ⟨_, rfl⟩
      rw [← hsx] at ihx rx ⊢
      rw [← hsy] at ihy ry ⊢
      have w1 := wi (1 + sx) (by omega) (by omega)
      have w2 := wi (1 + sx + sy) (by omega) (by omega)
      refine Ze Xs Ms ZL Xo (by show 1 ≤ _; decide) ?_
      simp +contextual -implicitDefEqProofs (maxSteps := 10^7) only [go_sem, seval, ↓gZ, ZL, Xm, ho, hk2]
      refine Qd Xs Ms ?_
      simp +contextual -implicitDefEqProofs (maxSteps := 10^7) only [go_sem, seval, ↓gZ, hk2, hx, hy, ihx, ihy, w1, w2]
      intro h
      refine Qd Xs Ms ?_
      simp +contextual -implicitDefEqProofs (maxSteps := 10^7) only [go_sem, seval, ↓gZ, hk2, hx, hy, ihx, ihy, w1, w2, h]
      intro h'
      refine Qd Xs Ms ?_
      simp +contextual -implicitDefEqProofs (maxSteps := 10^7) only [go_sem, seval, ↓gZ, hk2, hx, hy, ihx, ihy, w1, w2, h, h']
    ·have hb := ZgM 255 o a p t lx ly (by simp [hp])
     rw [hb]
     refine Ze Xs Ms ZL Xo (by show 1 ≤ _; decide) ?_
     simp +contextual -implicitDefEqProofs (maxSteps := 10^7) only [go_sem, seval, ↓gZ, ZL, Xm, ho, hp]
   ·rw [ZlD _ _ _ _ _ ho hk]
    refine Ze Xs Ms ZL Xo (by show 1 ≤ _; decide) ?_
    have hk' : ¬ (ks.length : Int) = 2 := by omega
    simp +contextual -implicitDefEqProofs (maxSteps := 10^7) only [go_sem, seval, ↓gZ, ZL, Xm, ho, hk', ZB]
  ·rw [ZoG ho]
   by_cases h1 : ks.length = 0 ∧ a = 0 ∧ o = 1
   ·rw [if_pos h1]
    obtain ⟨h1, rfl, rfl⟩ := h1
    refine Ze Xs Ms ZL Xo (by show 1 ≤ _; decide) ?_
    simp +contextual -implicitDefEqProofs (maxSteps := 10^7) only [go_sem, seval, ↓gZ, ZL, Xm, ho, h1, ZB, BT.cnt]
    refine Qd Xs Ms ?_
    simp +contextual -implicitDefEqProofs (maxSteps := 10^7) only [go_sem, seval, ↓gZ, h1]
   ·rw [if_neg h1]
    by_cases h2 : ks.length = 0 ∧ a = 0 ∧ o = 0 ∧ p = 0 ∧ t = false
    ·rw [if_pos h2]
     obtain ⟨h2, rfl, rfl, rfl, rfl⟩ := h2
     refine Ze Xs Ms ZL Xo (by show 1 ≤ _; decide) ?_
     simp +contextual -implicitDefEqProofs (maxSteps := 10^7) only [go_sem, seval, ↓gZ, ZL, Xm, ho, h2, ZB, BT.cnt]
     refine Qd Xs Ms ?_
     simp +contextual -implicitDefEqProofs (maxSteps := 10^7) only [go_sem, seval, ↓gZ, h2]
    ·rw [if_neg h2]
     by_cases c1 : ks.length = 0
     ·by_cases c2 : a = 0
      ·by_cases c3 : o = 1
       ·exact absurd ⟨c1, c2, c3⟩ h1
       ·by_cases c4 : o = 0
        ·by_cases c5 : p = 0
         ·cases t with
          | false => exact absurd ⟨c1, c2, c4, c5, rfl⟩ h2
          | true =>
           refine Ze Xs Ms ZL Xo (by show 1 ≤ _; decide) ?_
           simp +contextual -implicitDefEqProofs (maxSteps := 10^7) only [go_sem, seval, ↓gZ, ZL, Xm, ho, c1, c2, c3, c4, c5, ZB]
         ·refine Ze Xs Ms ZL Xo (by show 1 ≤ _; decide) ?_
          simp +contextual -implicitDefEqProofs (maxSteps := 10^7) only [go_sem, seval, ↓gZ, ZL, Xm, ho, c1, c2, c3, c4, c5, ZB]
        ·refine Ze Xs Ms ZL Xo (by show 1 ≤ _; decide) ?_
         simp +contextual -implicitDefEqProofs (maxSteps := 10^7) only [go_sem, seval, ↓gZ, ZL, Xm, ho, c1, c2, c3, c4, ZB]
      ·refine Ze Xs Ms ZL Xo (by show 1 ≤ _; decide) ?_
       simp +contextual -implicitDefEqProofs (maxSteps := 10^7) only [go_sem, seval, ↓gZ, ZL, Xm, ho, c1, c2, ZB]
     ·have c1' : ¬ (ks.length : Int) = 0 := by omega
      refine Ze Xs Ms ZL Xo (by show 1 ≤ _; decide) ?_
      simp +contextual -implicitDefEqProofs (maxSteps := 10^7) only [go_sem, seval, ↓gZ, ZL, Xm, ho, c1', ZB]
theorem Zpb (p : Zg) : Zh Xs Ms Va [.d p.enc] [] = some ((.d (J (ZB 255 (YR p)))), []) := Zc2 _ p (Nat.le_refl _)
theorem Zmt (ps : List Pane) (hl : ps.length < 4611686018427387904) : Zh Xs Ms VJ [(.d (.sl (ps.map Pane.enc)))] [] = some ((.d (.bool (decide (ps.length ≤ 24 ∧ VPs ps)))), []) := by
 refine Ze Xs Ms Up ZnS (by show 1 ≤ _; decide) ?_
 simp +contextual -implicitDefEqProofs (maxSteps := 10^7) only [go_sem, seval, ↓gZ, Up]
 refine ZE Xs Ms (st0 := ?st0) (α := Nat) (fun k => [(3, .d (J (k : Int)))]) (fun _ => []) (fun k => k ≤ ps.length ∧ (VPs ps ↔ VPs (ps.drop k))) (fun k => ps.length - k) 0 ?hc ⟨by omega, by simp⟩ ?h0 ?step
 case hc => simp +contextual -implicitDefEqProofs (maxSteps := 10^7) only [go_sem, seval, ↓gZ]; exact rfl
 case h0 => rfl
 case step =>
  intro k ⟨hk, hp⟩ ih
  by_cases hlt : k < ps.length
  ·obtain ⟨x, hx⟩ := Zw hlt
   rw [ZtE hx] at hp
   have hw := Zm (k := k) (by omega)
   simp +contextual -implicitDefEqProofs (maxSteps := 10^7) only [go_sem, seval, ↓gZ, hx, hlt, hw, VA]
   refine ⟨fun h => ZhX (fun hh => h (hp.1 hh.2).1), fun h => ih (k + 1) _ ⟨by omega, ?_⟩ (by omega) ?_⟩
   ·rw [hp]; exact ⟨fun hh => hh.2, fun hh => ⟨h, hh⟩⟩
   ·simp +contextual -implicitDefEqProofs (maxSteps := 10^7) only [go_sem, seval, ↓gZ]
  ·have : k = ps.length := by omega
   subst this
   simp +contextual -implicitDefEqProofs (maxSteps := 10^7) only [go_sem, seval, ↓gZ]
   have hv : VPs ps := hp.2 (by simp [VPs])
   exact ZdS ⟨fun h => ⟨by omega, hv⟩, fun h => by omega⟩
theorem J8 (kW kH : Int) (kP : List Pane) (hl : kP.length < 4611686018427387904) : Zh Xs Ms WK [(.d (.agg [J kW, J kH, .sl (kP.map Pane.enc)]))] [] = some ((.d (.bool (decide (VW (ZJ.mk kW kH kP))))), []) := by
 refine Ze Xs Ms Jt ZpO (by show 1 ≤ _; decide) ?_
 simp +contextual -implicitDefEqProofs (maxSteps := 10^7) only [go_sem, seval, ↓gZ, Jt, ZP, Zmt kP hl]
 exact ZdS (by simp only [VW, and_assoc])
theorem J9 (kW kH : Int) (kP : List Pane) : Zh Xs Ms WG [(.d (.agg [J kW, J kH, .sl (kP.map Pane.enc)]))] [] = some ((.d (.bool (decide (VW (ZJ.mk kW kH kP))))), []) := by
 refine Ze Xs Ms WM ZpH (by show 1 ≤ _; decide) ?_
 by_cases h0 : ((((kW < 1 ∨ 200 < kW) ∨ kH < 1) ∨ 200 < kH) ∨ (24 : Int) < kP.length)
 ·simp +contextual -implicitDefEqProofs (maxSteps := 10^7) only [go_sem, seval, ↓gZ, WM, h0]
  exact ZhX (by simp only [VW]; omega)
 ·simp +contextual -implicitDefEqProofs (maxSteps := 10^7) only [go_sem, seval, ↓gZ, WM, h0]
  refine ZE Xs Ms (st0 := ?st0) (α := Nat) (fun k => [(32, .d (J (k : Int)))]) (fun _ => []) (fun k => k ≤ kP.length ∧ (VPs kP ↔ VPs (kP.drop k))) (fun k => kP.length - k) 0 ?hc ⟨by omega, by simp⟩ ?h0 ?step
  case hc => simp +contextual -implicitDefEqProofs (maxSteps := 10^7) only [go_sem, seval, ↓gZ]; exact rfl
  case h0 => rfl
  case step =>
   intro k ⟨hk, hp⟩ ih
   by_cases hlt : k < kP.length
   ·obtain ⟨x, hx⟩ := Zw hlt
    rw [ZtE hx] at hp
    have hw := Zm (k := k) (by omega)
    simp +contextual -implicitDefEqProofs (maxSteps := 10^7) only [go_sem, seval, ↓gZ, hx, hlt, hw, Zc1]
    refine ⟨fun h => ZhX (fun hh => h (hp.1 hh.2.2.2.2.2).1), fun h => ih (k + 1) _ ⟨by omega, ?_⟩ (by omega) ?_⟩
    ·rw [hp]; exact ⟨fun hh => hh.2, fun hh => ⟨h, hh⟩⟩
    ·simp +contextual -implicitDefEqProofs (maxSteps := 10^7) only [go_sem, seval, ↓gZ, h0]
   ·have : k = kP.length := by omega
    subst this
    simp +contextual -implicitDefEqProofs (maxSteps := 10^7) only [go_sem, seval, ↓gZ]
    have hv : VPs kP := hp.2 (by simp [VPs])
    exact Zvy (by simp only [VW]; exact ⟨by omega, by omega, by omega, by omega, by omega, hv⟩)
theorem Za4 : ∀ (n : Nat) (p : Zg), p.nodes ≤ n → ∀ m : Int, -10 ≤ m → m ≤ 255 → Zh Xs Ms X9 [.d p.enc, (.d (J m))] [] = some ((.d (J (ZB m (YR p)))), [])
 | 0, .mk o a p t ks, hn, m, _, _ => by simp [Zg.nodes] at hn
 | n + 1, .mk o a p t ks, hn, m, hm1, hm2 => by
  by_cases hm : m < 1
  ·rw [ZuV hm]
   refine Ze Xs Ms Zo Qz (by show 2 ≤ _; decide) ?_
   simp +contextual -implicitDefEqProofs (maxSteps := 10^7) only [go_sem, seval, ↓gZ, Zo, hm]
  by_cases ho : o = 2 ∨ o = 3
  ·have ho0 : ¬ o = 0 := by omega
   have ho1 : ¬ o = 1 := by omega
   by_cases hk : ks.length = 2
   ·obtain ⟨x, hx⟩ := Zw (l := ks) (k := 0) (by omega)
    obtain ⟨y, hy⟩ := Zw (l := ks) (k := 1) (by omega)
    rw [ZqM ho hk hx hy]
    have hk2 : (ks.length : Int) = 2 := by omega
    by_cases hp : p = 0
    ·cases t with
     | true =>
      have hb := ZgM m o a p true (YR x) (YR y) (by simp)
      rw [hb]
      refine Ze Xs Ms Zo Qz (by show 2 ≤ _; decide) ?_
      rcases ho with ho | ho <;> simp +contextual -implicitDefEqProofs (maxSteps := 10^7) only [go_sem, seval, ↓gZ, Zo, ho, hp, hm, hk2]
     | false =>
      subst hp
      rw [ZtD]
      have ihx := Za4 n x (ZiI hn hx) (m - 1) (by omega) (by omega)
      have rx := ZcP (m - 1) (by omega) (YR x)
      have ihy := Za4 n y (ZiI hn hy) (m - 1 - ZB (m - 1) (YR x)) (by omega) (by omega)
      have ry := ZcP (m - 1 - ZB (m - 1) (YR x)) (by omega) (YR y)
      obtain ⟨sy, hsy⟩ : ∃ s, s = ZB (m - 1 - ZB (m - 1) (YR x)) (YR y) := ⟨_, rfl⟩
      rw [← hsy] at ihy ry ⊢
      obtain ⟨sx, hsx⟩ : ∃ s, s = ZB (m - 1) (YR x) := ⟨_, rfl⟩
      rw [← hsx] at ihx ihy rx ry ⊢
      clear hsx hsy
      have w0 := wi (m - 1) (by omega) (by omega)
      have w1 := wi (m - 1 - sx) (by omega) (by omega)
      have w2 := wi (1 + sx) (by omega) (by omega)
      have w3 := wi (1 + sx + sy) (by omega) (by omega)
      refine Ze Xs Ms Zo Qz (by show 2 ≤ _; decide) ?_
      rcases ho with ho | ho <;> simp +contextual -implicitDefEqProofs (maxSteps := 10^7) only [go_sem, seval, ↓gZ, Zo, ho, hm, hk2, hx, hy, ihx, ihy, w0, w1, w2, w3]
    ·have hb := ZgM m o a p t (YR x) (YR y) (by simp [hp])
     rw [hb]
     refine Ze Xs Ms Zo Qz (by show 2 ≤ _; decide) ?_
     rcases ho with ho | ho <;> simp +contextual -implicitDefEqProofs (maxSteps := 10^7) only [go_sem, seval, ↓gZ, Zo, ho, hp, hm, hk2]
   ·rw [ZlD _ _ _ _ _ ho hk]
    have hk' : ¬ (ks.length : Int) = 2 := by omega
    refine Ze Xs Ms Zo Qz (by show 2 ≤ _; decide) ?_
    rcases ho with ho | ho <;> simp +contextual -implicitDefEqProofs (maxSteps := 10^7) only [go_sem, seval, ↓gZ, Zo, ho, hk', hm, ZB]
  ·rw [ZoG ho]
   have h2' : ¬ o = 2 := by omega
   have h3' : ¬ o = 3 := by omega
   have hm' : (1 : Int) ≤ m := by omega
   by_cases h1 : ks.length = 0 ∧ a = 0 ∧ o = 1
   ·rw [if_pos h1]
    obtain ⟨h1, rfl, rfl⟩ := h1
    refine Ze Xs Ms Zo Qz (by show 2 ≤ _; decide) ?_
    simp +contextual -implicitDefEqProofs (maxSteps := 10^7) only [go_sem, seval, ↓gZ, Zo, h1, hm, ZB, BT.cnt, hm']
   ·rw [if_neg h1]
    by_cases h2 : ks.length = 0 ∧ a = 0 ∧ o = 0 ∧ p = 0 ∧ t = false
    ·rw [if_pos h2]
     obtain ⟨h2, rfl, rfl, rfl, rfl⟩ := h2
     refine Ze Xs Ms Zo Qz (by show 2 ≤ _; decide) ?_
     simp +contextual -implicitDefEqProofs (maxSteps := 10^7) only [go_sem, seval, ↓gZ, Zo, h2, hm, ZB, BT.cnt, hm']
    ·rw [if_neg h2]
     by_cases c1 : ks.length = 0
     ·by_cases c2 : a = 0
      ·by_cases c3 : o = 1
       ·exact absurd ⟨c1, c2, c3⟩ h1
       ·by_cases c4 : o = 0
        ·by_cases c5 : p = 0
         ·cases t with
          | false => exact absurd ⟨c1, c2, c4, c5, rfl⟩ h2
          | true =>
           refine Ze Xs Ms Zo Qz (by show 2 ≤ _; decide) ?_
           simp +contextual -implicitDefEqProofs (maxSteps := 10^7) only [go_sem, seval, ↓gZ, Zo, hm, c1, c2, c3, c4, c5, ZB]
         ·refine Ze Xs Ms Zo Qz (by show 2 ≤ _; decide) ?_
          simp +contextual -implicitDefEqProofs (maxSteps := 10^7) only [go_sem, seval, ↓gZ, Zo, hm, c1, c2, c3, c4, c5, ZB]
        ·refine Ze Xs Ms Zo Qz (by show 2 ≤ _; decide) ?_
         simp +contextual -implicitDefEqProofs (maxSteps := 10^7) only [go_sem, seval, ↓gZ, Zo, hm, c1, c2, c3, c4, h2', h3', ZB]
      ·refine Ze Xs Ms Zo Qz (by show 2 ≤ _; decide) ?_
       by_cases c3 : o = 1
       ·simp +contextual -implicitDefEqProofs (maxSteps := 10^7) only [go_sem, seval, ↓gZ, Zo, hm, c1, c2, c3, ZB]
       ·by_cases c4 : o = 0
        ·simp +contextual -implicitDefEqProofs (maxSteps := 10^7) only [go_sem, seval, ↓gZ, Zo, hm, c1, c2, c3, c4, ZB]
        ·simp +contextual -implicitDefEqProofs (maxSteps := 10^7) only [go_sem, seval, ↓gZ, Zo, hm, c1, c2, c3, c4, h2', h3', ZB]
     ·have c1' : ¬ (ks.length : Int) = 0 := by omega
      refine Ze Xs Ms Zo Qz (by show 2 ≤ _; decide) ?_
      by_cases c3 : o = 1
      ·simp +contextual -implicitDefEqProofs (maxSteps := 10^7) only [go_sem, seval, ↓gZ, Zo, hm, c1', c3, ZB]
      ·by_cases c4 : o = 0
       ·simp +contextual -implicitDefEqProofs (maxSteps := 10^7) only [go_sem, seval, ↓gZ, Zo, hm, c1', c3, c4, ZB]
       ·simp +contextual -implicitDefEqProofs (maxSteps := 10^7) only [go_sem, seval, ↓gZ, Zo, hm, c1', c3, c4, h2', h3', ZB]
theorem Zpc (p : Zg) : Zh Xs Ms UH [.d p.enc] [] = some ((.d (J (ZB 255 (YR p)))), []) := by
 have h := Za4 _ p (Nat.le_refl _) 255 (by omega) (by omega)
 obtain ⟨o, a, q, t, ks⟩ := p
 rw [Zg.enc_mk] at h ⊢
 refine Ze Xs Ms Zau Zrp (by show 1 ≤ _; decide) ?_
 simp +contextual -implicitDefEqProofs (maxSteps := 10^7) only [go_sem, seval, ↓gZ, Zau, h]
theorem ZjX (kW kH : Int) (kP : List Pane) : Zh Xs Ms W8 [(.d (.agg [J kW, J kH, .sl (kP.map Pane.enc)]))] [] = some (.d (.agg [J 0, J 0, J kW, J kH]), []) := by
 refine Ze Xs Ms ZbI ZsJ (by show 1 ≤ _; decide) ?_
 simp +contextual -implicitDefEqProofs (maxSteps := 10^7) only [go_sem, seval, ↓gZ, ZbI]
theorem ZiW {ps : List Pane} {i : Int} {t : Bool} {w h : Int} {k : Nat} {q : Pane} (hi : i = (k : Int)) (hq : ps[k]? = some q) : ZaQ ps i t w h = if t then q.Turns && decide (¬ q.W = q.H) && decide (q.H = w) && decide (q.W = h) else decide (q.W = w ∧ q.H = h) := by
 subst hi
 simp [ZaQ, hq]
theorem Zf3 {ps : List Pane} {i : Int} {t : Bool} {w h : Int} (hi : i < 0 ∨ (ps.length : Int) ≤ i) : ZaQ ps i t w h = false := by
 unfold ZaQ
 rcases hi with hi | hi
 ·have : ¬ 0 ≤ i := by omega
  simp [this]
 ·have : ps[i.toNat]? = none := List.getElem?_eq_none (by omega)
  simp [this]
theorem Zm9 (kW kH : Int) (kP : List Pane) (i : Int) (t : Bool) (w h : Int) : Zh Xs Ms WH [(.d (.agg [J kW, J kH, .sl (kP.map Pane.enc)])), (.d (J i)), (.d (.bool t)), (.d (J w)), (.d (J h))] [] = some ((.d (.bool (ZaQ kP i t w h))), []) := by
 by_cases h0 : i < 0
 ·rw [Zf3 (.inl h0)]
  refine Ze Xs Ms Xl ZeA (by show 5 ≤ _; decide) ?_
  simp +contextual -implicitDefEqProofs (maxSteps := 10^7) only [go_sem, seval, ↓gZ, Xl, h0]
 ·by_cases h1 : (kP.length : Int) ≤ i
  ·rw [Zf3 (.inr h1)]
   refine Ze Xs Ms Xl ZeA (by show 5 ≤ _; decide) ?_
   simp +contextual -implicitDefEqProofs (maxSteps := 10^7) only [go_sem, seval, ↓gZ, Xl, h0, h1]
  ·obtain ⟨n, rfl⟩ : ∃ n : Nat, i = (n : Int) := ⟨i.toNat, by omega⟩
   obtain ⟨q, hq⟩ := Zw (l := kP) (k := n) (by omega)
   have hn : ¬ kP.length ≤ n := by omega
   have hn' : n < kP.length := by omega
   have hn0 : ¬ (n : Int) < 0 := by omega
   rw [ZiW rfl hq]
   refine Ze Xs Ms Xl ZeA (by show 5 ≤ _; decide) ?_
   cases t
   ·simp +contextual -implicitDefEqProofs (maxSteps := 10^7) only [go_sem, seval, ↓gZ, Xl, hn0, hn, hq, hn']
   ·simp +contextual -implicitDefEqProofs (maxSteps := 10^7) only [go_sem, seval, ↓gZ, Xl, hn0, hn, hq, hn']
theorem ZbU (o a p : Int) (t : Bool) (ks : List D) (gX gY gW gH : Int) (ho : o = 2) (h1 : R64 (gX + a)) (h2 : R64 (gW - a)) : Zh Xs Ms Y9 [.d (.agg [J o, J a, J p, .bool t, .sl ks]), (.d (.agg [J gX, J gY, J gW, J gH]))] [] =
  some (.tup [.d (.agg [J gX, J gY, J a, J gH]), .d (.agg [J (gX + a), J gY, J (gW - a), J gH])], []) := by
 have w1 := wi (gX + a) h1.1 h1.2
 have w2 := wi (gW - a) h2.1 h2.2
 refine Ze Xs Ms Wl Zkg (by show 2 ≤ _; decide) ?_
 simp +contextual -implicitDefEqProofs (maxSteps := 10^7) only [go_sem, seval, ↓gZ, Wl, ho, w1, w2]
theorem Zaa (o a p : Int) (t : Bool) (ks : List D) (gX gY gW gH : Int) (ho : ¬ o = 2) (h1 : R64 (gY + a)) (h2 : R64 (gH - a)) : Zh Xs Ms Y9 [.d (.agg [J o, J a, J p, .bool t, .sl ks]), (.d (.agg [J gX, J gY, J gW, J gH]))] [] =
  some (.tup [.d (.agg [J gX, J gY, J gW, J a]), .d (.agg [J gX, J (gY + a), J gW, J (gH - a)])], []) := by
 have w1 := wi (gY + a) h1.1 h1.2
 have w2 := wi (gH - a) h2.1 h2.2
 refine Ze Xs Ms Wl Zkg (by show 2 ≤ _; decide) ?_
 simp +contextual -implicitDefEqProofs (maxSteps := 10^7) only [go_sem, seval, ↓gZ, Wl, ho, w1, w2]
def inB (g : Box) : Prop := 0 ≤ g.X ∧ 0 ≤ g.Y ∧ 0 ≤ g.W ∧ 0 ≤ g.H ∧ g.X + g.W ≤ 1000 ∧ g.Y + g.H ≤ 1000
theorem Jb (kW kH : Int) (kP : List Pane) : ∀ (b : BT) (gX gY gW gH : Int), inB (Box.mk gX gY gW gH) → Zh Xs Ms Y7 [(.d (.agg [J kW, J kH, .sl (kP.map Pane.enc)])), .d b.plan.enc, (.d (.agg [J gX, J gY, J gW, J gH]))] [] = some ((.d (.bool (Yn kP b gW gH))), [])
 | .waste, gX, gY, gW, gH, hg => by
  simp only [BT.plan, Zg.enc_mk]
  refine Ze Xs Ms Z0 Y2 (by show 3 ≤ _; decide) ?_
  simp +contextual -implicitDefEqProofs (maxSteps := 10^7) only [go_sem, seval, ↓gZ, Z0, Yn]
 | .pane i t, gX, gY, gW, gH, hg => by
  simp only [BT.plan, Zg.enc_mk]
  refine Ze Xs Ms Z0 Y2 (by show 3 ≤ _; decide) ?_
  simp +contextual -implicitDefEqProofs (maxSteps := 10^7) only [go_sem, seval, ↓gZ, Z0, Zm9, Yn]
 | .cut d a l r, gX, gY, gW, gH, hg => by
  simp only [inB] at hg
  simp only [BT.plan, Zg.enc_mk]
  cases d with
  | true =>
   by_cases h1 : a < 1
   ·have h2 : ¬ (1 ≤ a ∧ a ≤ gW - 1) := by omega
    refine Ze Xs Ms Z0 Y2 (by show 3 ≤ _; decide) ?_
    simp +contextual -implicitDefEqProofs (maxSteps := 10^7) only [go_sem, seval, ↓gZ, Z0, Yn, J7, h1, h2]
   ·by_cases h2 : gW ≤ a
    ·have h3 : ¬ (1 ≤ a ∧ a ≤ gW - 1) := by omega
     refine Ze Xs Ms Z0 Y2 (by show 3 ≤ _; decide) ?_
     simp +contextual -implicitDefEqProofs (maxSteps := 10^7) only [go_sem, seval, ↓gZ, Z0, Yn, J7, h1, h2, h3]
    ·have h3 : 1 ≤ a ∧ a ≤ gW - 1 := by omega
     have e0 := ZbU 2 a 0 false [l.plan.enc, r.plan.enc] gX gY gW gH rfl ⟨by omega, by omega⟩ ⟨by omega, by omega⟩
     have e1 := Jb kW kH kP l gX gY a gH (by simp only [inB]; omega)
     have e2 := Jb kW kH kP r (gX + a) gY (gW - a) gH (by simp only [inB]; omega)
     refine Ze Xs Ms Z0 Y2 (by show 3 ≤ _; decide) ?_
     simp +contextual -implicitDefEqProofs (maxSteps := 10^7) only [go_sem, seval, ↓gZ, Z0, Yn, J7, h1, h2, h3, e0, e1, e2]
  | false =>
   by_cases h1 : a < 1
   ·have h2 : ¬ (1 ≤ a ∧ a ≤ gH - 1) := by omega
    refine Ze Xs Ms Z0 Y2 (by show 3 ≤ _; decide) ?_
    simp +contextual -implicitDefEqProofs (maxSteps := 10^7) only [go_sem, seval, ↓gZ, Z0, Yn, J7, h1, h2]
   ·by_cases h2 : gH ≤ a
    ·have h3 : ¬ (1 ≤ a ∧ a ≤ gH - 1) := by omega
     refine Ze Xs Ms Z0 Y2 (by show 3 ≤ _; decide) ?_
     simp +contextual -implicitDefEqProofs (maxSteps := 10^7) only [go_sem, seval, ↓gZ, Z0, Yn, J7, h1, h2, h3]
    ·have h3 : 1 ≤ a ∧ a ≤ gH - 1 := by omega
     have e0 := Zaa 3 a 0 false [l.plan.enc, r.plan.enc] gX gY gW gH (by decide) ⟨by omega, by omega⟩ ⟨by omega, by omega⟩
     have e1 := Jb kW kH kP l gX gY gW a (by simp only [inB]; omega)
     have e2 := Jb kW kH kP r gX (gY + a) gW (gH - a) (by simp only [inB]; omega)
     refine Ze Xs Ms Z0 Y2 (by show 3 ≤ _; decide) ?_
     simp +contextual -implicitDefEqProofs (maxSteps := 10^7) only [go_sem, seval, ↓gZ, Z0, Yn, J7, h1, h2, h3, e0, e1, e2]
theorem Zmu (kW kH : Int) (kP : List Pane) (i : Int) (t : Bool) (w h : Int) (hl : kP.length < 4611686018427387904) : Zh Xs Ms Xw [(.d (.agg [J kW, J kH, .sl (kP.map Pane.enc)])), .d (BT.pane i t).plan.enc, (.d (J w)), (.d (J h))] [] = some ((.d (.bool (ZaQ kP i t w h))), []) := by
 have hw := wi ((kP.length : Int) - 1) (by omega) (by omega)
 simp only [BT.plan, Zg.enc_mk]
 by_cases h0 : 0 ≤ i ∧ i ≤ (kP.length : Int) - 1
 ·obtain ⟨n, rfl⟩ : ∃ n : Nat, i = (n : Int) := ⟨i.toNat, by omega⟩
  obtain ⟨q, hq⟩ := Zw (l := kP) (k := n) (by omega)
  rw [ZiW rfl hq]
  refine Ze Xs Ms Z8 V8 (by show 4 ≤ _; decide) ?_
  cases t
  ·simp +contextual -implicitDefEqProofs (maxSteps := 10^7) only [go_sem, seval, ↓gZ, Z8, ZP, h0, hw, hq]
  ·simp +contextual -implicitDefEqProofs (maxSteps := 10^7) only [go_sem, seval, ↓gZ, Z8, ZP, h0, hw, hq]
 ·rw [Zf3 (by omega)]
  refine Ze Xs Ms Z8 V8 (by show 4 ≤ _; decide) ?_
  simp +contextual -implicitDefEqProofs (maxSteps := 10^7) only [go_sem, seval, ↓gZ, Z8, ZP, h0, hw]
theorem Jc (kW kH : Int) (kP : List Pane) (hl : kP.length < 4611686018427387904) : ∀ (b : BT) (w h : Int), 0 ≤ w → w ≤ 1000 → 0 ≤ h → h ≤ 1000 → Zh Xs Ms Xw [(.d (.agg [J kW, J kH, .sl (kP.map Pane.enc)])), .d b.plan.enc, (.d (J w)), (.d (J h))] [] = some ((.d (.bool (Yn kP b w h))), [])
 | .waste, w, h, hw0, hw1, hh0, hh1 => by
  simp only [BT.plan, Zg.enc_mk]
  refine Ze Xs Ms Z8 V8 (by show 4 ≤ _; decide) ?_
  simp +contextual -implicitDefEqProofs (maxSteps := 10^7) only [go_sem, seval, ↓gZ, Z8, Yn]
 | .pane i t, w, h, hw0, hw1, hh0, hh1 => Zmu kW kH kP i t w h hl
 | .cut d a l r, w, h, hw0, hw1, hh0, hh1 => by
  have w1 := wi (w - 1) (by omega) (by omega)
  have w2 := wi (h - 1) (by omega) (by omega)
  simp only [BT.plan, Zg.enc_mk]
  cases d with
  | true =>
   by_cases h3 : 1 ≤ a ∧ a ≤ w - 1
   ·have w3 := wi (w - a) (by omega) (by omega)
    have e1 := Jc kW kH kP hl l a h (by omega) (by omega) hh0 hh1
    have e2 := Jc kW kH kP hl r (w - a) h (by omega) (by omega) hh0 hh1
    refine Ze Xs Ms Z8 V8 (by show 4 ≤ _; decide) ?_
    simp +contextual -implicitDefEqProofs (maxSteps := 10^7) only [go_sem, seval, ↓gZ, Z8, Yn, J7, h3, ZP, w1, w2, w3, e1, e2]
   ·refine Ze Xs Ms Z8 V8 (by show 4 ≤ _; decide) ?_
    simp +contextual -implicitDefEqProofs (maxSteps := 10^7) only [go_sem, seval, ↓gZ, Z8, Yn, J7, h3, ZP, w1, w2]
  | false =>
   by_cases h3 : 1 ≤ a ∧ a ≤ h - 1
   ·have w3 := wi (h - a) (by omega) (by omega)
    have e1 := Jc kW kH kP hl l w a hw0 hw1 (by omega) (by omega)
    have e2 := Jc kW kH kP hl r w (h - a) hw0 hw1 (by omega) (by omega)
    refine Ze Xs Ms Z8 V8 (by show 4 ≤ _; decide) ?_
    simp +contextual -implicitDefEqProofs (maxSteps := 10^7) only [go_sem, seval, ↓gZ, Z8, Yn, J7, h3, ZP, w1, w2, w3, e1, e2]
   ·refine Ze Xs Ms Z8 V8 (by show 4 ≤ _; decide) ?_
    simp +contextual -implicitDefEqProofs (maxSteps := 10^7) only [go_sem, seval, ↓gZ, Z8, Yn, J7, h3, ZP, w1, w2]
theorem Zab (kW kH : Int) (kP : List Pane) (p : Zg) : Zh Xs Ms XZ [(.d (.agg [J kW, J kH, .sl (kP.map Pane.enc)])), .d p.enc] [] = some ((.d (.bool (V5 (ZJ.mk kW kH kP) p))), []) := by
 have hs := Zpc p
 unfold V5
 cases hb : YR p with
 | none =>
  obtain ⟨o, a, q, t, ks⟩ := p
  rw [hb] at hs
  rw [Zg.enc_mk] at hs ⊢
  refine Ze Xs Ms Q1 Zbz (by show 2 ≤ _; decide) ?_
  simp +contextual -implicitDefEqProofs (maxSteps := 10^7) only [go_sem, seval, ↓gZ, Q1, J9, hs, ZB]
 | some b =>
  have hp := ZiH hb
  rw [hb] at hs
  have hc := b.cnt_pos
  have hz := Vi 255 b
  by_cases hv : VW (ZJ.mk kW kH kP)
  ·have hv' := hv
   simp only [VW] at hv'
   have hf := Jb kW kH kP b 0 0 kW kH (by simp only [inB]; omega)
   rw [← hp] at hf
   obtain ⟨o, a, q, t, ks⟩ := p
   rw [Zg.enc_mk] at hs hf ⊢
   by_cases h2 : b.cnt ≤ 255
   ·have h3 : ZB 255 (some b) = b.cnt := by omega
    have h4 : (0 : Int) < b.cnt := by omega
    rw [h3] at hs
    refine Ze Xs Ms Q1 Zbz (by show 2 ≤ _; decide) ?_
    simp +contextual -implicitDefEqProofs (maxSteps := 10^7) only [go_sem, seval, ↓gZ, Q1, J9, ZjX, hs, hf, hv, h2, h4]
   ·have h3 : ZB 255 (some b) = -1 := by omega
    rw [h3] at hs
    refine Ze Xs Ms Q1 Zbz (by show 2 ≤ _; decide) ?_
    simp +contextual -implicitDefEqProofs (maxSteps := 10^7) only [go_sem, seval, ↓gZ, Q1, J9, hs, hv, h2]
  ·obtain ⟨o, a, q, t, ks⟩ := p
   rw [Zg.enc_mk] at hs ⊢
   refine Ze Xs Ms Q1 Zbz (by show 2 ≤ _; decide) ?_
   simp +contextual -implicitDefEqProofs (maxSteps := 10^7) only [go_sem, seval, ↓gZ, Q1, J9, hs, hv]
theorem Zhh (kW kH : Int) (kP : List Pane) (p : Zg) (hl : kP.length < 4611686018427387904) : Zh Xs Ms Vr [(.d (.agg [J kW, J kH, .sl (kP.map Pane.enc)])), .d p.enc] [] = some ((.d (.bool (V5 (ZJ.mk kW kH kP) p))), []) := by
 have hs := Zpb p
 unfold V5
 cases hb : YR p with
 | none =>
  obtain ⟨o, a, q, t, ks⟩ := p
  rw [hb] at hs
  rw [Zg.enc_mk] at hs ⊢
  refine Ze Xs Ms Q3 ZbA (by show 2 ≤ _; decide) ?_
  simp +contextual -implicitDefEqProofs (maxSteps := 10^7) only [go_sem, seval, ↓gZ, Q3, J8 kW kH kP hl, hs, ZB]
 | some b =>
  have hp := ZiH hb
  rw [hb] at hs
  have hc := b.cnt_pos
  have hz := Vi 255 b
  by_cases hv : VW (ZJ.mk kW kH kP)
  ·have hv' := hv
   simp only [VW] at hv'
   have hf := Jc kW kH kP hl b kW kH (by omega) (by omega) (by omega) (by omega)
   rw [← hp] at hf
   obtain ⟨o, a, q, t, ks⟩ := p
   rw [Zg.enc_mk] at hs hf ⊢
   by_cases h2 : b.cnt ≤ 255
   ·have h3 : ZB 255 (some b) = b.cnt := by omega
    have h4 : (0 : Int) < b.cnt := by omega
    rw [h3] at hs
    refine Ze Xs Ms Q3 ZbA (by show 2 ≤ _; decide) ?_
    simp +contextual -implicitDefEqProofs (maxSteps := 10^7) only [go_sem, seval, ↓gZ, Q3, J8 kW kH kP hl, hs, hf, hv, h2, h4]
   ·have h3 : ZB 255 (some b) = -1 := by omega
    rw [h3] at hs
    refine Ze Xs Ms Q3 ZbA (by show 2 ≤ _; decide) ?_
    simp +contextual -implicitDefEqProofs (maxSteps := 10^7) only [go_sem, seval, ↓gZ, Q3, J8 kW kH kP hl, hs, hv, h2]
  ·obtain ⟨o, a, q, t, ks⟩ := p
   rw [Zg.enc_mk] at hs ⊢
   refine Ze Xs Ms Q3 ZbA (by show 2 ≤ _; decide) ?_
   simp +contextual -implicitDefEqProofs (maxSteps := 10^7) only [go_sem, seval, ↓gZ, Q3, J8 kW kH kP hl, hs, hv]
end Go.Proofs.YtpobhkoombldlaaGreat
