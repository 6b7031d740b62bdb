/- Contracts of the functions, by the abstract semantics. -/
import Derived.Test.YtpobhkoombldlaaGreatACode
import Derived.Test.YtpobhkoombldlaaGreatAbsParts
import Derived.Test.YtpobhkoombldlaaGreatAC6
namespace Go.Proofs.YtpobhkoombldlaaGreat
open Go Go.Abs Go.Abs.E Go.Abs.L
open Nat (reduceMul reduceSub reduceLeDiff reduceEqDiff)
open Int (reduceLE reduceEq reduceToNat reduceNeg)
set_option linter.unusedSimpArgs false
set_option linter.unusedVariables false
set_option maxRecDepth 20000
set_option maxHeartbeats 4000000
theorem ZsE (kW kH : Int) (kP : List Pane) (p : Zg) (hv : V5 (ZJ.mk kW kH kP) p = true) : Zh Xs Ms Za9 [(.d (.agg [J kW, J kH, .sl (kP.map Pane.enc)])), .d p.enc] [] = some (.own 0, [.row 1 ((Zed (ZJ.mk kW kH kP) p).map ZaZ) true false]) := by
 have ev := Zab kW kH kP p
 rw [hv] at ev
 have e := Zev kW kH kP p
 obtain ⟨b, hb, hpb, hvw, hcnt, hfit, hpt⟩ := XT hv
 simp only at hfit hpt
 have hpn := Zc8 (x := 0) (y := 0) hfit
 have hkl : kP.length ≤ 24 := hvw.2.2.2.2.1
 have hln : (plc b 0 0 kW kH).length ≤ 255 := by
  have := List.length_filterMap_le X3 (QR (ZJ.mk kW kH kP) p)
  rw [hpt, ZaP, WO] at this
  omega
 unfold Zed
 rw [hpt, WO] at e ⊢
 generalize plc b 0 0 kW kH = L at e hpn hln ⊢
 have hmk : (kP.length : Int) * ((8 : Nat) : Int) ≤ ((140737488355328 : Nat) : Int) ∧ kP.length ≤ 140737488355328 := by omega
 have hmk2 : (kP.length : Int) * 8 ≤ 140737488355328 ∧ (kP.length : Int) ≤ 140737488355328 := by omega
 clear hv hb hpb hvw hpt hfit
 obtain ⟨o, a, q, t, ks⟩ := p
 rw [Zg.enc_mk] at e ev ⊢
 refine Ze Xs Ms Zde Zt5 (by show 2 ≤ _; decide) ?_
 simp +contextual -implicitDefEqProofs (maxSteps := 10^7) only [go_sem, seval, ↓gZ, Zde, ev, e, rep_int, hmk, hmk2]
 refine ZE Xs Ms (st0 := ?st0) (α := Nat × List Int) (fun s => [(20, .d (J (s.1 : Int)))]) (fun s => [(1, .row 1 (s.2.map ZaZ) true false)]) (fun s => s.1 ≤ L.length ∧ s.2.length = kP.length ∧ (∀ v ∈ s.2, 0 ≤ v ∧ v ≤ s.1) ∧ Za2 s.2 (L.drop s.1) = Za2 (List.replicate kP.length 0) L) (fun s => L.length - s.1) (0, List.replicate kP.length 0) ?hc ⟨by simp, by simp, fun w hw => by rw [List.eq_of_mem_replicate hw]; omega, by simp⟩ ?h0 ?step
 case hc => simp +contextual -implicitDefEqProofs (maxSteps := 10^7) only [go_sem, seval, ↓gZ] <;> exact rfl
 case h0 => rfl
 case step =>
  intro ⟨i, u⟩ ⟨hi, hul, huv, hp⟩ ih
  simp only at hi hul huv hp
  by_cases hlt : i < L.length
  ·obtain ⟨x, hx⟩ := Zw hlt
   have hw := Zm (k := i) (by omega)
   obtain ⟨n, hn, hnl⟩ := hpn x (List.mem_of_getElem? hx)
   rw [Zno hx, hn] at hp
   obtain ⟨q', t', ⟨X, Y, W, H⟩⟩ := x
   simp only at hn
   subst hn
   have hnu : n < u.length := by omega
   obtain ⟨z, hz⟩ := Zw hnu
   have hzb := huv z (List.mem_of_getElem? hz)
   have u1 := wi (z + 1) (by omega) (by omega)
   rw [Int.toNat_natCast, hz] at hp
   simp +contextual -implicitDefEqProofs (maxSteps := 10^7) only [go_sem, seval, ↓gZ, hx, hlt, hw, hnl, hnu, hz, u1, ZmX, hul]
   refine ih (i + 1, u.set n (z + 1)) _ ⟨by simp only; omega, by simpa using hul, fun v hv => ?_, hp⟩ (by simp only; omega) ?_
   ·simp only
    rcases List.mem_or_eq_of_mem_set hv with h1 | rfl
    ·have := huv v h1; omega
    ·omega
   ·simp +contextual -implicitDefEqProofs (maxSteps := 10^7) only [go_sem, seval, ↓gZ, List.headD_cons, ZmX]
  ·have : i = L.length := by omega
   subst this
   rw [Zp8] at hp
   simp +contextual -implicitDefEqProofs (maxSteps := 10^7) only [go_sem, seval, ↓gZ, hp]
theorem Zft : ∀ (b : BT) (x y w h : Int), Zjn b = false ↔ plc b x y w h = []
 | .waste, x, y, w, h => by simp [Zjn, plc]
 | .pane i t, x, y, w, h => by simp [Zjn, plc]
 | .cut d a l r, x, y, w, h => by
  cases d
  ·simp only [Zjn, plc, Bool.or_eq_false_iff, Bool.false_eq_true, if_false, List.append_eq_nil_iff, Zft l x y w a, Zft r x (y + a) w (h - a)]
  ·simp only [Zjn, plc, Bool.or_eq_false_iff, if_true, List.append_eq_nil_iff, Zft l x y a h, Zft r (x + a) y (w - a) h]
theorem Zny : ∀ (l : List L.Place) (u : List Int) (i : Nat) (v : Int), u[i]? = some v → ∃ z, (Za2 u l)[i]? = some z ∧ v ≤ z
 | [], u, i, v, h => ⟨v, h, Int.le_refl _⟩
 | x :: l, u, i, v, h => by
  rw [Za2]
  by_cases hi : x.Pane.toNat = i
  ·obtain ⟨z, h1, h2⟩ := Zny l (u.set x.Pane.toNat (u[x.Pane.toNat]?.getD 0 + 1)) i (v + 1) (by
    rw [hi, h, List.getElem?_set]
    have := (List.getElem?_eq_some_iff.1 h).1
    simp [this])
   exact ⟨z, h1, by omega⟩
  ·obtain ⟨z, h1, h2⟩ := Zny l (u.set x.Pane.toNat (u[x.Pane.toNat]?.getD 0 + 1)) i v (by
    rw [List.getElem?_set_ne hi, h])
   exact ⟨z, h1, h2⟩
theorem ZvP {l : List L.Place} {u : List Int} (hl : l ≠ []) (hu : ∀ v ∈ u, 0 ≤ v) (hn : ∀ c ∈ l, ∃ n : Nat, c.Pane = (n : Int) ∧ n < u.length) : ∃ v ∈ Za2 u l, v ≠ 0 := by
 cases l with
 | nil => exact absurd rfl hl
 | cons x l =>
  obtain ⟨n, h1, h2⟩ := hn x (by simp)
  obtain ⟨v, hv⟩ := Zw h2
  have h0 := hu v (List.mem_of_getElem? hv)
  rw [Za2, h1, Int.toNat_natCast, hv]
  obtain ⟨z, h3, h4⟩ := Zny l (u.set n (v + 1)) n (v + 1) (by rw [List.getElem?_set]; simp [h2])
  refine ⟨z, List.mem_of_getElem? (by simpa using h3), by omega⟩
theorem Zqg {k : ZJ} {p : Zg} (hv : V5 k p = true) (hp : Zpm p = true) : ∃ v ∈ Zed k p, v ≠ 0 := by
 obtain ⟨b, hb, hpb, hvw, hcnt, hfit, hpt⟩ := XT hv
 unfold Zpm at hp
 rw [hb] at hp
 simp only at hp
 unfold Zed
 rw [hpt, WO]
 refine ZvP (fun h => ?_) (fun v hv => by rw [List.eq_of_mem_replicate hv]; omega) (fun c hc => ?_)
 ·rw [(Zft b _ _ _ _).2 h] at hp; cases hp
 ·obtain ⟨n, h1, h2⟩ := Zc8 hfit c hc
  exact ⟨n, h1, by simpa using h2⟩
theorem Zt3 {k : ZJ} {p : Zg} (hv : V5 k p = true) : (((QR k p).filterMap X3).length = 0) ↔ Zpm p = false := by
 obtain ⟨b, hb, hpb, hvw, hcnt, hfit, hpt⟩ := XT hv
 unfold Zpm
 rw [hb, hpt, WO, List.length_eq_zero_iff]
 exact (Zft b _ _ _ _).symm
def cpV (S : List Zc) (O D : List Zd) (L C : Int) : Option Zp → AV × List Zr
 | some t => ((.d (.bool true)), [.box [.own 4, .own 5, .own 6, (.d (J (t.Lost))), (.d (J (t.Came)))], .deep 4 4 (S.map Zc.enc) none, .row 5 (O.map Zd.enc) true false, .row 5 (D.map Zd.enc) true false, .row 4 (t.Stock.map Zc.enc) true false, .row 5 (t.Opn.map Zd.enc) true false, .row 5 (t.Done.map Zd.enc) true false])
 | none => ((.d (.bool false)), [.box [.own 1, .own 2, .own 3, (.d (J L)), (.d (J C))], .deep 4 4 (S.map Zc.enc) none, .row 5 (O.map Zd.enc) true false, .row 5 (D.map Zd.enc) true false])
theorem Zps (sS : List Zc) (sO sD : List Zd) (sL sC : Int) (eK eL eX eY eW eH epW epH : Int) (epT : Bool) (epK eC eo ea ep : Int) (et : Bool) (ek : List Zg) (hv : ZN (Zp.mk sS sO sD sL sC)) : Zh Xs Ms UE [.ptr 0 0, (.d (.agg [J eK, J eL, J eX, J eY, J eW, J eH, J epW, J epH, .bool epT, J epK, J eC, J eo, J ea, J ep, .bool et, .sl (ek.map Zg.enc)]))] [.box [.own 1, .own 2, .own 3, (.d (J sL)), (.d (J sC))], .deep 4 4 (sS.map Zc.enc) none, .row 5 (sO.map Zd.enc) true false, .row 5 (sD.map Zd.enc) true false] = some (cpV sS sO sD sL sC (Zfq (Zp.mk sS sO sD sL sC) (ZS.mk eK eL (Box.mk eX eY eW eH) (Zd.mk (Pane.mk epW epH epT epK) eC) (Zg.mk eo ea ep et ek)))) := by
 obtain ⟨⟨h1, h2, h3, h4⟩, h5, h6, h7, h8, h9⟩ := Zk7 hv
 simp only at h1 h2 h3 h4 h5 h6 h7 h8 h9
 have hO := hv.2.1
 have hD := hv.2.2.1
 simp only at hO hD
 have hO8 := hO.1
 have hD8 := hD.1
 have e1 := Zrc sS sO sD sL sC eL
 unfold ZwZ at e1
 rw [if_pos hv] at e1
 by_cases hf : QC 0 sS eL < 0
 ·have ec : Zfq (Zp.mk sS sO sD sL sC) (ZS.mk eK eL (Box.mk eX eY eW eH) (Zd.mk (Pane.mk epW epH epT epK) eC) (Zg.mk eo ea ep et ek)) = none := by
   unfold Zfq
   simp only
   split
   ·rfl
   ·rw [Zqc hf]
  rw [ec]
  simp only [Zfr hf] at e1
  unfold wkV at e1
  simp only at e1
  unfold cpV
  refine Ze Xs Ms Xz ZcE (by show 2 ≤ _; decide) ?_
  simp +contextual -implicitDefEqProofs (maxSteps := 10^7) only [go_sem, seval, ↓gZ, Xz, e1]
 ·obtain ⟨a, x, ha, hx⟩ := ZbG (by omega : 0 ≤ QC 0 sS eL)
  simp only [ZcU ha hx] at e1
  unfold wkV at e1
  simp only at e1
  have e3 := Zpg sS eL x.W x.H (sO.map Zd.Pane) (.mk eo ea ep et ek) 5
  have ecs : Zfq (Zp.mk sS sO sD sL sC) (ZS.mk eK eL (Box.mk eX eY eW eH) (Zd.mk (Pane.mk epW epH epT epK) eC) (Zg.mk eo ea ep et ek)) = match Zc5 sS eL ⟨x.W, x.H, sO.map Zd.Pane⟩ (.mk eo ea ep et ek) 5 with
   | none => none
   | some R => if Zpm (.mk eo ea ep et ek) = true then
     match WV (sO.map Zd.Pane) (Zed ⟨x.W, x.H, sO.map Zd.Pane⟩ (.mk eo ea ep et ek)) sO sD with
     | none => none
     | some (o, d) => some ⟨R, o, d, sL + Ym (Zer ⟨x.W, x.H, sO.map Zd.Pane⟩ (.mk eo ea ep et ek) 5), sC⟩
    else none := by
   unfold Zfq
   simp only [ha, Int.toNat_natCast, hx]
   try rfl
  rw [ecs]
  clear ecs
  obtain ⟨xL, xW, xH, xF⟩ := x
  simp only at e1 e3 ⊢
  cases hcs : Zc5 sS eL ⟨xW, xH, sO.map Zd.Pane⟩ (.mk eo ea ep et ek) 5 with
  | none =>
   rw [hcs] at e3
   unfold Zg9 at e3
   simp only
   unfold cpV
   rw [Zg.enc_mk] at e3
   refine Ze Xs Ms Xz ZcE (by show 2 ≤ _; decide) ?_
   simp +contextual -implicitDefEqProofs (maxSteps := 10^7) only [go_sem, seval, ↓gZ, Xz, e1, e3]
  | some R =>
   obtain ⟨hvp, hvR, _⟩ := Zj9 hcs
   rw [hcs] at e3
   unfold Zg9 at e3
   simp only
   have e4 := Zev xW xH (sO.map Zd.Pane) (.mk eo ea ep et ek)
   have hnil := Zt3 hvp
   have e5 := Zpe xW xH (sO.map Zd.Pane) (.mk eo ea ep et ek) 5 hvp (by omega) (by omega)
   have e6 := ZsE xW xH (sO.map Zd.Pane) (.mk eo ea ep et ek) hvp
   have hu := Zhr hvp
   obtain ⟨b, hb, hpb, hvw, hcnt, hfit, hpt⟩ := XT hvp
   have hla := ZfV (l := Zer ⟨xW, xH, sO.map Zd.Pane⟩ (.mk eo ea ep et ek) 5) (fun c hc => by
    obtain ⟨z, hz, hzc⟩ := List.mem_filterMap.1 hc
    unfold JB at hzc
    split at hzc
    ·cases hzc; exact Zc0 hvp c hz
    ·cases hzc)
   have hll : (Zer ⟨xW, xH, sO.map Zd.Pane⟩ (.mk eo ea ep et ek) 5).length ≤ 255 := by
    refine Nat.le_trans (List.length_filterMap_le _ _) (Nat.le_trans (List.length_filterMap_le _ _) ?_)
    rw [hpt, ZaP]; exact hcnt
   have hup := Zqg hvp
   generalize Ym (Zer ⟨xW, xH, sO.map Zd.Pane⟩ (.mk eo ea ep et ek) 5) = A at e5 hla ⊢
   generalize Zed ⟨xW, xH, sO.map Zd.Pane⟩ (.mk eo ea ep et ek) = us at e6 hu hup ⊢
   generalize (QR ⟨xW, xH, sO.map Zd.Pane⟩ (.mk eo ea ep et ek)).filterMap X3 = pl at e4 hnil
   rw [Zg.enc_mk] at e3 e4 e5 e6
   simp only [List.length_map] at hu
   have u1 := wi (sL + A) (by omega) (by omega)
   cases hhb : Zpm (.mk eo ea ep et ek) with
   | false =>
    have hpl : ((pl.length : Int) = 0) := by have := hnil.2 hhb; omega
    rw [if_neg (by simp)]
    unfold cpV
    refine Ze Xs Ms Xz ZcE (by show 2 ≤ _; decide) ?_
    simp +contextual -implicitDefEqProofs (maxSteps := 10^7) only [go_sem, seval, ↓gZ, Xz, e1, e3, e4, hpl]
   | true =>
    have hpl : ¬ ((pl.length : Int) = 0) := fun h => by
     have h1 : pl.length = 0 := by omega
     rw [hnil.1 h1] at hhb; cases hhb
    obtain ⟨vz, hvz, hvz0⟩ := hup hhb
    rw [if_pos rfl]
    refine Ze Xs Ms Xz ZcE (by show 2 ≤ _; decide) ?_
    simp +contextual -implicitDefEqProofs (maxSteps := 10^7) only [go_sem, seval, ↓gZ, Xz, e1, e3, e4, e6, hpl]
    refine ZE Xs Ms (st0 := ?st0) (α := Nat) (fun s => [(65, .d (J (s : Int)))]) (fun _ => []) (fun i => i ≤ us.length ∧ WV ((sO.map Zd.Pane).drop i) (us.drop i) sO sD = WV (sO.map Zd.Pane) us sO sD ∧ ∀ v ∈ us.take i, v = 0) (fun i => us.length - i) 0 ?hc ⟨by omega, rfl, by simp⟩ ?h0 ?step
    case hc => simp +contextual -implicitDefEqProofs (maxSteps := 10^7) only [go_sem, seval, ↓gZ] <;> exact rfl
    case h0 => rfl
    case step =>
     intro i ⟨hi, hp, hz0⟩ ih
     by_cases hil : i < us.length
     ·obtain ⟨c, hc⟩ := Zw hil
      have hiO : i < sO.length := by omega
      obtain ⟨y, hy⟩ := Zw hiO
      have hw := Zm (k := i) (by omega)
      have hcb := hu.2 c (List.mem_of_getElem? hc)
      have hpy : (sO.map Zd.Pane)[i]? = some y.Pane := by rw [List.getElem?_map, hy]; rfl
      rw [Zjo hpy hc] at hp
      obtain ⟨⟨W, H, T, K⟩, C⟩ := y
      simp only at hp hpy
      by_cases hc0 : c = 0
      ·rw [if_pos hc0] at hp
       simp +contextual -implicitDefEqProofs (maxSteps := 10^7) only [go_sem, seval, ↓gZ, hil, hiO, hy, hc, hc0, hw]
       refine ih (i + 1) _ ⟨by omega, hp, fun v hv => ?_⟩ (by omega) ?_
       ·rw [List.take_add_one, hc, List.mem_append] at hv
        rcases hv with hv | hv
        ·exact hz0 v hv
        ·simp at hv; omega
       ·simp +contextual -implicitDefEqProofs (maxSteps := 10^7) only [go_sem, seval, ↓gZ]
      ·rw [if_neg hc0] at hp
       have et := Zby sO W H T K c (by omega) (Zf9 hO) (fun x hx => by have := (QS hO x hx).2; unfold R64; omega)
       have ea := ZcC sD W H T K c (by omega) (fun x hx => by have := (QS hD x hx).2; unfold R64; omega)
       unfold tkV at et
       by_cases hto : Xn ⟨W, H, T, K⟩ c false sO = true
       ·rw [if_pos hto] at hp et
        simp +contextual -implicitDefEqProofs (maxSteps := 10^7) only [go_sem, seval, ↓gZ, hil, hiO, hy, hc, hc0, hw, et, ea]
        refine ZE Xs Ms (st0 := ?st1) (α := Nat × List Zd × List Zd) (fun s => [(65, .d (J (s.1 : Int)))]) (fun s => [(4, .row 5 (s.2.2.map Zd.enc) true false), (5, .row 5 (s.2.1.map Zd.enc) true false)]) (fun s => s.1 ≤ us.length ∧ WV ((sO.map Zd.Pane).drop s.1) (us.drop s.1) s.2.1 s.2.2 = WV (sO.map Zd.Pane) us sO sD ∧ s.2.1.length ≤ 8 ∧ s.2.2.length ≤ 8 + s.1 ∧ UL s.2.1 ∧ UL s.2.2 ∧ (∀ x ∈ s.2.1, 0 ≤ x.Count ∧ x.Count ≤ 24) ∧ (∀ x ∈ s.2.2, 0 ≤ x.Count ∧ x.Count ≤ 24 + 255 * s.1)) (fun s => us.length - s.1) (i + 1, X6 sO ⟨W, H, T, K⟩ c, YB ⟨W, H, T, K⟩ c sD) ?hc2 ⟨by simp only; omega, hp, Nat.le_trans (List.length_filterMap_le _ _) hO8, Nat.le_trans (Zc7 _ _ _) (by simp only; omega), Znt (Zf9 hO), Zvi (Zf9 hD) (by omega), Zk8 hcb.1 (fun x hx => (QS hO x hx).2.2), fun x hx => by
         have := Zj8 (hi := 24) hcb.1 (by omega) (fun x hx => by have := (QS hD x hx).2; omega) x hx
         simp only
         omega⟩ ?h02 ?step2
        case hc2 => simp +contextual -implicitDefEqProofs (maxSteps := 10^7) only [go_sem, seval, ↓gZ] <;> exact rfl
        case h02 => rfl
        case step2 =>
         intro ⟨j, o, d⟩ ⟨hj, hp, ho8, hd8, uo, ud, hoc, hdc⟩ ih
         simp only at hj hp ho8 hd8 uo ud hoc hdc
         by_cases hjl : j < us.length
         ·obtain ⟨c, hc⟩ := Zw hjl
          have hjO : j < sO.length := by omega
          obtain ⟨y, hy⟩ := Zw hjO
          have hw := Zm (k := j) (by omega)
          have hcb := hu.2 c (List.mem_of_getElem? hc)
          have hpy : (sO.map Zd.Pane)[j]? = some y.Pane := by rw [List.getElem?_map, hy]; rfl
          rw [Zjo hpy hc] at hp
          obtain ⟨⟨W, H, T, K⟩, C⟩ := y
          simp only at hp hpy
          by_cases hc0 : c = 0
          ·rw [if_pos hc0] at hp
           simp +contextual -implicitDefEqProofs (maxSteps := 10^7) only [go_sem, seval, ↓gZ, hjl, hjO, hy, hc, hc0, hw]
           refine ih (j + 1, o, d) _ ⟨by simp only; omega, hp, ho8, by simp only; omega, uo, ud, hoc, fun x hx => by have := hdc x hx; simp only; omega⟩ (by simp only; omega) ?_
           simp +contextual -implicitDefEqProofs (maxSteps := 10^7) only [go_sem, seval, ↓gZ]
          ·rw [if_neg hc0] at hp
           have et := Zby o W H T K c (by omega) uo (fun x hx => by have := hoc x hx; unfold R64; omega)
           have ea := ZcC d W H T K c (by omega) (fun x hx => by have := hdc x hx; unfold R64; omega)
           unfold tkV at et
           by_cases hto : Xn ⟨W, H, T, K⟩ c false o = true
           ·rw [if_pos hto] at hp et
            simp +contextual -implicitDefEqProofs (maxSteps := 10^7) only [go_sem, seval, ↓gZ, hjl, hjO, hy, hc, hc0, hw, et, ea]
            refine ih (j + 1, X6 o ⟨W, H, T, K⟩ c, YB ⟨W, H, T, K⟩ c d) _ ⟨by simp only; omega, hp, Nat.le_trans (List.length_filterMap_le _ _) ho8, Nat.le_trans (Zc7 _ _ _) (by simp only; omega), Znt uo, Zvi ud (by omega), Zk8 hcb.1 (fun x hx => (hoc x hx).2), fun x hx => ?_⟩ (by simp only; omega) ?_
            ·have := Zj8 hcb.1 (by omega) hdc x hx
             simp only
             omega
            ·simp +contextual -implicitDefEqProofs (maxSteps := 10^7) only [go_sem, seval, ↓gZ]
           ·rw [if_neg hto] at hp et
            simp +contextual -implicitDefEqProofs (maxSteps := 10^7) only [go_sem, seval, ↓gZ, hjl, hjO, hy, hc, hc0, hw, et]
            rw [← hp]
            rfl
         ·have : j = sO.length := by omega
          subst this
          have hce := @Zqb (sO.map Zd.Pane) (us.drop sO.length) o d
          rw [List.length_map] at hce
          rw [hce] at hp
          rw [← hp]
          unfold cpV
          simp +contextual -implicitDefEqProofs (maxSteps := 10^7) only [go_sem, seval, ↓gZ, e5, u1]
       ·rw [if_neg hto] at hp et
        simp +contextual -implicitDefEqProofs (maxSteps := 10^7) only [go_sem, seval, ↓gZ, hil, hiO, hy, hc, hc0, hw, et]
        rw [← hp]
        rfl
     ·have : us.take i = us := List.take_of_length_le (by omega)
      rw [this] at hz0
      exact absurd (hz0 vz hvz) hvz0
theorem Zqh {q x : Zc} : ∀ {l : List Zc} {b : Int} {a : Nat}, XM b l → l[a]? = some x → q.Label = x.Label → Qf q (l.eraseIdx a) = l.set a q
 | [], b, a, _, h, _ => by simp at h
 | y :: l, b, 0, hs, h, e => by
  simp only [List.getElem?_cons_zero, Option.some.injEq] at h
  subst h
  simp only [List.eraseIdx_cons_zero, List.set_cons_zero]
  cases l with
  | nil => rfl
  | cons z l =>
   have := hs.2.2.2.1
   unfold Qf
   rw [if_pos (by omega)]
 | y :: l, b, a + 1, hs, h, e => by
  simp only [List.getElem?_cons_succ] at h
  have ih := Zqh hs.2.2 h e
  have := Ziq hs.2.2 x (List.mem_of_getElem? h)
  simp only [List.eraseIdx_cons_succ, List.set_cons_succ]
  unfold Qf
  rw [if_neg (by omega), ih]
theorem ZvQ {s : Zp} {e : ZS} {a : Nat} {q : Zc} (hv : ZN s) (hk : e.kind = 1) (ha : QC 0 s.Stock e.label = (a : Int)) (hx : s.Stock[a]? = some q) :
  QM s e = Y0 (some { s with Stock := s.Stock.set a { q with Flaws := q.Flaws ++ [e.box] } }) := by
 have h1 := Zqh (q := { q with Flaws := q.Flaws ++ [e.box] }) hv.1.2 hx rfl
 have h2 : XM 0 (s.Stock.eraseIdx a) := Zhk a hv.1.2
 unfold QM evS
 rw [if_neg (by omega), if_pos hk]
 simp only [ZcU ha hx]
 by_cases hr : WP { q with Flaws := q.Flaws ++ [e.box] } (s.Stock.eraseIdx a)
 ·rw [if_pos hr, h1]
 ·rw [if_neg hr]
  unfold Y0
  simp only
  rw [if_neg]
  intro hs
  refine hr ⟨⟨⟨?_, h2⟩, ?_⟩, ?_⟩
  ·have := hv.1.1
   rw [List.length_eraseIdx]; split <;> omega
  ·exact Qe hs.1.2 _ (List.mem_of_getElem? (i := a) (by rw [List.getElem?_set]; simp [(List.getElem?_eq_some_iff.1 hx).1]))
  ·rw [h1]; exact hs.1
theorem ZmE (sS : List Zc) (sO sD : List Zd) (sL sC : Int) (eK eL eX eY eW eH epW epH : Int) (epT : Bool) (epK eC eo ea ep : Int) (et : Bool) (ek : List Zg) (hv : ZN (Zp.mk sS sO sD sL sC)) (h0 : eK = 0) (ha : WP ⟨eL, eW, eH, []⟩ sS) (hx : eX = 0) (hy : eY = 0) : Zh Xs Ms ZD [.ptr 0 0, (.d (.agg [J eK, J eL, J eX, J eY, J eW, J eH, J epW, J epH, .bool epT, J epK, J eC, J eo, J ea, J ep, .bool et, .sl (ek.map Zg.enc)]))] [.box [.own 1, .own 2, .own 3, (.d (J sL)), (.d (J sC))], .deep 4 4 (sS.map Zc.enc) none, .row 5 (sO.map Zd.enc) true false, .row 5 (sD.map Zd.enc) true false] = some ((.d (.bool true)), [.box [.own 4, .own 2, .own 3, (.d (J sL)), (.d (J (sC + eW * eH)))], .deep 4 4 (sS.map Zc.enc) none, .row 5 (sO.map Zd.enc) true false, .row 5 (sD.map Zd.enc) true false, .row 4 ((Qf ⟨eL, eW, eH, []⟩ sS).map Zc.enc) true false]) := by
 have e1 := Znx sS sO sD sL sC eK eL eX eY eW eH epW epH epT epK eC eo ea ep et ek hv ha hx hy
 subst h0
 generalize Qf ⟨eL, eW, eH, []⟩ sS = Q at *
 refine Ze Xs Ms Zs Qg (by show 2 ≤ _; decide) ?_
 simp +contextual -implicitDefEqProofs (maxSteps := 10^7) only [go_sem, seval, ↓gZ, Zs, e1]
theorem ZmF (sS : List Zc) (sO sD : List Zd) (sL sC : Int) (eK eL eX eY eW eH epW epH : Int) (epT : Bool) (epK eC eo ea ep : Int) (et : Bool) (ek : List Zg) (hv : ZN (Zp.mk sS sO sD sL sC)) (h0 : eK = 0) (hl : sS.length ≤ 100000) (hn : ¬ ((WP ⟨eL, eW, eH, []⟩ sS ∧ eX = 0) ∧ eY = 0)) : Zh Xs Ms ZD [.ptr 0 0, (.d (.agg [J eK, J eL, J eX, J eY, J eW, J eH, J epW, J epH, .bool epT, J epK, J eC, J eo, J ea, J ep, .bool et, .sl (ek.map Zg.enc)]))] [.box [.own 1, .own 2, .own 3, (.d (J sL)), (.d (J sC))], .deep 4 4 (sS.map Zc.enc) none, .row 5 (sO.map Zd.enc) true false, .row 5 (sD.map Zd.enc) true false] = some ((.d (.bool false)), [.box [.own 1, .own 2, .own 3, (.d (J sL)), (.d (J sC))], .deep 4 4 (sS.map Zc.enc) none, .row 5 (sO.map Zd.enc) true false, .row 5 (sD.map Zd.enc) true false]) := by
 have e1 := Zpq sS sO sD sL sC eK eL eX eY eW eH epW epH epT epK eC eo ea ep et ek hl hn
 subst h0
 refine Ze Xs Ms Zs Qg (by show 2 ≤ _; decide) ?_
 simp +contextual -implicitDefEqProofs (maxSteps := 10^7) only [go_sem, seval, ↓gZ, Zs, e1]
theorem ZmG (sS : List Zc) (sO sD : List Zd) (sL sC : Int) (eK eL eX eY eW eH epW epH : Int) (epT : Bool) (epK eC eo ea ep : Int) (et : Bool) (ek : List Zg) (hv : ZN (Zp.mk sS sO sD sL sC)) (h0 : eK = 1) (hl : sS.length ≤ 100000) (a : Nat) (ha : QC 0 sS eL = (a : Int)) (xL xW xH : Int) (xF : List Box) (hx : sS[a]? = some (Zc.mk xL xW xH xF)) (hF : xF.length ≤ 1000) : Zh Xs Ms ZD [.ptr 0 0, (.d (.agg [J eK, J eL, J eX, J eY, J eW, J eH, J epW, J epH, .bool epT, J epK, J eC, J eo, J ea, J ep, .bool et, .sl (ek.map Zg.enc)]))] [.box [.own 1, .own 2, .own 3, (.d (J sL)), (.d (J sC))], .deep 4 4 (sS.map Zc.enc) none, .row 5 (sO.map Zd.enc) true false, .row 5 (sD.map Zd.enc) true false] = some ((.d (.bool true)), [.box [.own 1, .own 2, .own 3, (.d (J sL)), (.d (J sC))], .row 4 ((sS.set a ⟨xL, xW, xH, xF ++ [⟨eX, eY, eW, eH⟩]⟩).map Zc.enc) true false, .row 5 (sO.map Zd.enc) true false, .row 5 (sD.map Zd.enc) true false]) := by
 have e1 := Zpr sS sO sD sL sC eK eL eX eY eW eH epW epH epT epK eC eo ea ep et ek hl a ha xL xW xH xF hx hF
 subst h0
 generalize sS.set a ⟨xL, xW, xH, xF ++ [⟨eX, eY, eW, eH⟩]⟩ = Q at *
 refine Ze Xs Ms Zs Qg (by show 2 ≤ _; decide) ?_
 simp +contextual -implicitDefEqProofs (maxSteps := 10^7) only [go_sem, seval, ↓gZ, Zs, e1]
theorem ZmH (sS : List Zc) (sO sD : List Zd) (sL sC : Int) (eK eL eX eY eW eH epW epH : Int) (epT : Bool) (epK eC eo ea ep : Int) (et : Bool) (ek : List Zg) (hv : ZN (Zp.mk sS sO sD sL sC)) (h0 : eK = 1) (hl : sS.length ≤ 100000) (hn : QC 0 sS eL < 0) : Zh Xs Ms ZD [.ptr 0 0, (.d (.agg [J eK, J eL, J eX, J eY, J eW, J eH, J epW, J epH, .bool epT, J epK, J eC, J eo, J ea, J ep, .bool et, .sl (ek.map Zg.enc)]))] [.box [.own 1, .own 2, .own 3, (.d (J sL)), (.d (J sC))], .deep 4 4 (sS.map Zc.enc) none, .row 5 (sO.map Zd.enc) true false, .row 5 (sD.map Zd.enc) true false] = some ((.d (.bool false)), [.box [.own 1, .own 2, .own 3, (.d (J sL)), (.d (J sC))], .deep 4 4 (sS.map Zc.enc) none, .row 5 (sO.map Zd.enc) true false, .row 5 (sD.map Zd.enc) true false]) := by
 have e1 := Zrd sS sO sD sL sC eK eL eX eY eW eH epW epH epT epK eC eo ea ep et ek hl hn
 subst h0
 refine Ze Xs Ms Zs Qg (by show 2 ≤ _; decide) ?_
 simp +contextual -implicitDefEqProofs (maxSteps := 10^7) only [go_sem, seval, ↓gZ, Zs, e1]
theorem ZmI (sS : List Zc) (sO sD : List Zd) (sL sC : Int) (eK eL eX eY eW eH epW epH : Int) (epT : Bool) (epK eC eo ea ep : Int) (et : Bool) (ek : List Zg) (hv : ZN (Zp.mk sS sO sD sL sC)) (h0 : eK = 2) (hn : Wt ⟨⟨epW, epH, epT, epK⟩, eC⟩) : Zh Xs Ms ZD [.ptr 0 0, (.d (.agg [J eK, J eL, J eX, J eY, J eW, J eH, J epW, J epH, .bool epT, J epK, J eC, J eo, J ea, J ep, .bool et, .sl (ek.map Zg.enc)]))] [.box [.own 1, .own 2, .own 3, (.d (J sL)), (.d (J sC))], .deep 4 4 (sS.map Zc.enc) none, .row 5 (sO.map Zd.enc) true false, .row 5 (sD.map Zd.enc) true false] = some ((.d (.bool true)), [.box [.own 1, .own 4, .own 3, (.d (J sL)), (.d (J sC))], .deep 4 4 (sS.map Zc.enc) none, .row 5 (sO.map Zd.enc) true false, .row 5 (sD.map Zd.enc) true false, .row 5 ((YB ⟨epW, epH, epT, epK⟩ eC sO).map Zd.enc) true false]) := by
 have e1 := Zlc sS sO sD sL sC eK eL eX eY eW eH epW epH epT epK eC eo ea ep et ek hv hn
 subst h0
 generalize YB ⟨epW, epH, epT, epK⟩ eC sO = Q at *
 refine Ze Xs Ms Zs Qg (by show 2 ≤ _; decide) ?_
 simp +contextual -implicitDefEqProofs (maxSteps := 10^7) only [go_sem, seval, ↓gZ, Zs, e1]
theorem ZmJ (sS : List Zc) (sO sD : List Zd) (sL sC : Int) (eK eL eX eY eW eH epW epH : Int) (epT : Bool) (epK eC eo ea ep : Int) (et : Bool) (ek : List Zg) (hv : ZN (Zp.mk sS sO sD sL sC)) (h0 : eK = 2) (hn : ¬ Wt ⟨⟨epW, epH, epT, epK⟩, eC⟩) : Zh Xs Ms ZD [.ptr 0 0, (.d (.agg [J eK, J eL, J eX, J eY, J eW, J eH, J epW, J epH, .bool epT, J epK, J eC, J eo, J ea, J ep, .bool et, .sl (ek.map Zg.enc)]))] [.box [.own 1, .own 2, .own 3, (.d (J sL)), (.d (J sC))], .deep 4 4 (sS.map Zc.enc) none, .row 5 (sO.map Zd.enc) true false, .row 5 (sD.map Zd.enc) true false] = some ((.d (.bool false)), [.box [.own 1, .own 2, .own 3, (.d (J sL)), (.d (J sC))], .deep 4 4 (sS.map Zc.enc) none, .row 5 (sO.map Zd.enc) true false, .row 5 (sD.map Zd.enc) true false]) := by
 have e1 := ZmB sS sO sD sL sC eK eL eX eY eW eH epW epH epT epK eC eo ea ep et ek hn
 subst h0
 refine Ze Xs Ms Zs Qg (by show 2 ≤ _; decide) ?_
 simp +contextual -implicitDefEqProofs (maxSteps := 10^7) only [go_sem, seval, ↓gZ, Zs, e1]
theorem ZmK (sS : List Zc) (sO sD : List Zd) (sL sC : Int) (eK eL eX eY eW eH epW epH : Int) (epT : Bool) (epK eC eo ea ep : Int) (et : Bool) (ek : List Zg) (hv : ZN (Zp.mk sS sO sD sL sC)) (h0 : eK = 4) (hl : Wt ⟨⟨epW, epH, epT, epK⟩, eC⟩) (hk : Xn ⟨epW, epH, epT, epK⟩ eC false sD = true) : Zh Xs Ms ZD [.ptr 0 0, (.d (.agg [J eK, J eL, J eX, J eY, J eW, J eH, J epW, J epH, .bool epT, J epK, J eC, J eo, J ea, J ep, .bool et, .sl (ek.map Zg.enc)]))] [.box [.own 1, .own 2, .own 3, (.d (J sL)), (.d (J sC))], .deep 4 4 (sS.map Zc.enc) none, .row 5 (sO.map Zd.enc) true false, .row 5 (sD.map Zd.enc) true false] = some ((.d (.bool true)), [.box [.own 1, .own 4, .own 5, (.d (J (sL + eC * epW * epH))), (.d (J sC))], .deep 4 4 (sS.map Zc.enc) none, .row 5 (sO.map Zd.enc) true false, .row 5 (sD.map Zd.enc) true false, .row 5 ((YB ⟨epW, epH, epT, epK⟩ eC sO).map Zd.enc) true false, .row 5 ((X6 sD ⟨epW, epH, epT, epK⟩ eC).map Zd.enc) true false]) := by
 have e1 := Zld sS sO sD sL sC eK eL eX eY eW eH epW epH epT epK eC eo ea ep et ek hv hl hk
 subst h0
 generalize YB ⟨epW, epH, epT, epK⟩ eC sO = Q at *
 generalize X6 sD ⟨epW, epH, epT, epK⟩ eC = Q2 at *
 refine Ze Xs Ms Zs Qg (by show 2 ≤ _; decide) ?_
 simp +contextual -implicitDefEqProofs (maxSteps := 10^7) only [go_sem, seval, ↓gZ, Zs, e1]
theorem ZmL (sS : List Zc) (sO sD : List Zd) (sL sC : Int) (eK eL eX eY eW eH epW epH : Int) (epT : Bool) (epK eC eo ea ep : Int) (et : Bool) (ek : List Zg) (hv : ZN (Zp.mk sS sO sD sL sC)) (h0 : eK = 4) (hn : ¬ (Wt ⟨⟨epW, epH, epT, epK⟩, eC⟩ ∧ Xn ⟨epW, epH, epT, epK⟩ eC false sD = true)) : Zh Xs Ms ZD [.ptr 0 0, (.d (.agg [J eK, J eL, J eX, J eY, J eW, J eH, J epW, J epH, .bool epT, J epK, J eC, J eo, J ea, J ep, .bool et, .sl (ek.map Zg.enc)]))] [.box [.own 1, .own 2, .own 3, (.d (J sL)), (.d (J sC))], .deep 4 4 (sS.map Zc.enc) none, .row 5 (sO.map Zd.enc) true false, .row 5 (sD.map Zd.enc) true false] = some ((.d (.bool false)), [.box [.own 1, .own 2, .own 3, (.d (J sL)), (.d (J sC))], .deep 4 4 (sS.map Zc.enc) none, .row 5 (sO.map Zd.enc) true false, .row 5 (sD.map Zd.enc) true false]) := by
 have e1 := ZmC sS sO sD sL sC eK eL eX eY eW eH epW epH epT epK eC eo ea ep et ek hv hn
 subst h0
 refine Ze Xs Ms Zs Qg (by show 2 ≤ _; decide) ?_
 simp +contextual -implicitDefEqProofs (maxSteps := 10^7) only [go_sem, seval, ↓gZ, Zs, e1]
theorem ZmM (sS : List Zc) (sO sD : List Zd) (sL sC : Int) (eK eL eX eY eW eH epW epH : Int) (epT : Bool) (epK eC eo ea ep : Int) (et : Bool) (ek : List Zg) (hv : ZN (Zp.mk sS sO sD sL sC)) (h0 : eK = 5) (a : Nat) (ha : QC 0 sS eL = (a : Int)) (xL xW xH : Int) (xF : List Box) (hx : sS[a]? = some (Zc.mk xL xW xH xF)) : Zh Xs Ms ZD [.ptr 0 0, (.d (.agg [J eK, J eL, J eX, J eY, J eW, J eH, J epW, J epH, .bool epT, J epK, J eC, J eo, J ea, J ep, .bool et, .sl (ek.map Zg.enc)]))] [.box [.own 1, .own 2, .own 3, (.d (J sL)), (.d (J sC))], .deep 4 4 (sS.map Zc.enc) none, .row 5 (sO.map Zd.enc) true false, .row 5 (sD.map Zd.enc) true false] = some ((.d (.bool true)), [.box [.own 4, .own 2, .own 3, (.d (J (sL + xW * xH))), (.d (J sC))], .deep 4 4 (sS.map Zc.enc) none, .row 5 (sO.map Zd.enc) true false, .row 5 (sD.map Zd.enc) true false, .row 4 ((sS.eraseIdx a).map Zc.enc) true false]) := by
 have e1 := Zle sS sO sD sL sC eK eL eX eY eW eH epW epH epT epK eC eo ea ep et ek hv a ha xL xW xH xF hx
 subst h0
 generalize sS.eraseIdx a = Q at *
 refine Ze Xs Ms Zs Qg (by show 2 ≤ _; decide) ?_
 simp +contextual -implicitDefEqProofs (maxSteps := 10^7) only [go_sem, seval, ↓gZ, Zs, e1]
theorem ZmN (sS : List Zc) (sO sD : List Zd) (sL sC : Int) (eK eL eX eY eW eH epW epH : Int) (epT : Bool) (epK eC eo ea ep : Int) (et : Bool) (ek : List Zg) (hv : ZN (Zp.mk sS sO sD sL sC)) (h0 : eK = 5) (hn : QC 0 sS eL < 0) : Zh Xs Ms ZD [.ptr 0 0, (.d (.agg [J eK, J eL, J eX, J eY, J eW, J eH, J epW, J epH, .bool epT, J epK, J eC, J eo, J ea, J ep, .bool et, .sl (ek.map Zg.enc)]))] [.box [.own 1, .own 2, .own 3, (.d (J sL)), (.d (J sC))], .deep 4 4 (sS.map Zc.enc) none, .row 5 (sO.map Zd.enc) true false, .row 5 (sD.map Zd.enc) true false] = some ((.d (.bool false)), [.box [.own 1, .own 2, .own 3, (.d (J sL)), (.d (J sC))], .deep 4 4 (sS.map Zc.enc) none, .row 5 (sO.map Zd.enc) true false, .row 5 (sD.map Zd.enc) true false]) := by
 have e1 := ZmD sS sO sD sL sC eK eL eX eY eW eH epW epH epT epK eC eo ea ep et ek hn
 subst h0
 refine Ze Xs Ms Zs Qg (by show 2 ≤ _; decide) ?_
 simp +contextual -implicitDefEqProofs (maxSteps := 10^7) only [go_sem, seval, ↓gZ, Zs, e1]
theorem Znz (sS : List Zc) (sO sD : List Zd) (sL sC : Int) (eK eL eX eY eW eH epW epH : Int) (epT : Bool) (epK eC eo ea ep : Int) (et : Bool) (ek : List Zg) (hv : ZN (Zp.mk sS sO sD sL sC)) (h0 : eK = 3) : Zh Xs Ms ZD [.ptr 0 0, (.d (.agg [J eK, J eL, J eX, J eY, J eW, J eH, J epW, J epH, .bool epT, J epK, J eC, J eo, J ea, J ep, .bool et, .sl (ek.map Zg.enc)]))] [.box [.own 1, .own 2, .own 3, (.d (J sL)), (.d (J sC))], .deep 4 4 (sS.map Zc.enc) none, .row 5 (sO.map Zd.enc) true false, .row 5 (sD.map Zd.enc) true false] = some (cpV sS sO sD sL sC (Zfq (Zp.mk sS sO sD sL sC) (ZS.mk eK eL (Box.mk eX eY eW eH) (Zd.mk (Pane.mk epW epH epT epK) eC) (Zg.mk eo ea ep et ek)))) := by
 have e1 := Zps sS sO sD sL sC eK eL eX eY eW eH epW epH epT epK eC eo ea ep et ek hv
 subst h0
 generalize Zfq (Zp.mk sS sO sD sL sC) (ZS.mk 3 eL (Box.mk eX eY eW eH) (Zd.mk (Pane.mk epW epH epT epK) eC) (Zg.mk eo ea ep et ek)) = t at *
 cases t with
 | none =>
  unfold cpV at e1 ⊢
  refine Ze Xs Ms Zs Qg (by show 2 ≤ _; decide) ?_
  simp +contextual -implicitDefEqProofs (maxSteps := 10^7) only [go_sem, seval, ↓gZ, Zs, e1]
 | some t =>
  unfold cpV at e1 ⊢
  obtain ⟨a, b, c, d, f⟩ := t
  simp only at e1 ⊢
  refine Ze Xs Ms Zs Qg (by show 2 ≤ _; decide) ?_
  simp +contextual -implicitDefEqProofs (maxSteps := 10^7) only [go_sem, seval, ↓gZ, Zs, e1]
theorem ZnA (sS : List Zc) (sO sD : List Zd) (sL sC : Int) (eK eL eX eY eW eH epW epH : Int) (epT : Bool) (epK eC eo ea ep : Int) (et : Bool) (ek : List Zg) (h0 : ¬ eK = 0) (h1 : ¬ eK = 1) (h2 : ¬ eK = 2) (h3 : ¬ eK = 3) (h4 : ¬ eK = 4) (h5 : ¬ eK = 5) : Zh Xs Ms ZD [.ptr 0 0, (.d (.agg [J eK, J eL, J eX, J eY, J eW, J eH, J epW, J epH, .bool epT, J epK, J eC, J eo, J ea, J ep, .bool et, .sl (ek.map Zg.enc)]))] [.box [.own 1, .own 2, .own 3, (.d (J sL)), (.d (J sC))], .deep 4 4 (sS.map Zc.enc) none, .row 5 (sO.map Zd.enc) true false, .row 5 (sD.map Zd.enc) true false] = some ((.d (.bool false)), [.box [.own 1, .own 2, .own 3, (.d (J sL)), (.d (J sC))], .deep 4 4 (sS.map Zc.enc) none, .row 5 (sO.map Zd.enc) true false, .row 5 (sD.map Zd.enc) true false]) := by
 refine Ze Xs Ms Zs Qg (by show 2 ≤ _; decide) ?_
 simp +contextual -implicitDefEqProofs (maxSteps := 10^7) only [go_sem, seval, ↓gZ, Zs, h0, h1, h2, h3, h4, h5]
theorem Zlf (sS : List Zc) (sO sD : List Zd) (sL sC : Int) (eK eL eX eY eW eH epW epH : Int) (epT : Bool) (epK eC eo ea ep : Int) (et : Bool) (ek : List Zg) (hv : ¬ ZN (Zp.mk sS sO sD sL sC)) : Zh Xs Ms ZY [(.d (.agg [.sl (sS.map Zc.enc), .sl (sO.map Zd.enc), .sl (sD.map Zd.enc), J sL, J sC])), (.d (.agg [J eK, J eL, J eX, J eY, J eW, J eH, J epW, J epH, .bool epT, J epK, J eC, J eo, J ea, J ep, .bool et, .sl (ek.map Zg.enc)]))] [] = some (shV none) := by
 have e1 := Z5 sS sO sD sL sC
 rw [decide_eq_false hv] at e1
 unfold shV
 refine Ze Xs Ms Zv Qy (by show 2 ≤ _; decide) ?_
 simp +contextual -implicitDefEqProofs (maxSteps := 10^7) only [go_sem, seval, ↓gZ, Zv, e1]
theorem Yi (sS : List Zc) (sO sD : List Zd) (sL sC : Int) (eK eL eX eY eW eH epW epH : Int) (epT : Bool) (epK eC eo ea ep : Int) (et : Bool) (ek : List Zg) (hv : ZN (Zp.mk sS sO sD sL sC)) (hc : Zh Xs Ms ZD [.ptr 0 0, (.d (.agg [J eK, J eL, J eX, J eY, J eW, J eH, J epW, J epH, .bool epT, J epK, J eC, J eo, J ea, J ep, .bool et, .sl (ek.map Zg.enc)]))] [.box [.own 1, .own 2, .own 3, (.d (J sL)), (.d (J sC))], .deep 4 4 (sS.map Zc.enc) none, .row 5 (sO.map Zd.enc) true false, .row 5 (sD.map Zd.enc) true false] = some ((.d (.bool false)), [.box [.own 1, .own 2, .own 3, (.d (J sL)), (.d (J sC))], .deep 4 4 (sS.map Zc.enc) none, .row 5 (sO.map Zd.enc) true false, .row 5 (sD.map Zd.enc) true false])) : Zh Xs Ms ZY [(.d (.agg [.sl (sS.map Zc.enc), .sl (sO.map Zd.enc), .sl (sD.map Zd.enc), J sL, J sC])), (.d (.agg [J eK, J eL, J eX, J eY, J eW, J eH, J epW, J epH, .bool epT, J epK, J eC, J eo, J ea, J ep, .bool et, .sl (ek.map Zg.enc)]))] [] = some (shV none) := by
 have e1 := Z5 sS sO sD sL sC
 rw [decide_eq_true hv] at e1
 have e2 := WC sS sO sD sL sC (YZ hv)
 unfold shV
 refine Ze Xs Ms Zv Qy (by show 2 ≤ _; decide) ?_
 simp +contextual -implicitDefEqProofs (maxSteps := 10^7) only [go_sem, seval, ↓gZ, Zv, e1, e2, hc]
theorem Zg5 (sS : List Zc) (sO sD : List Zd) (sL sC : Int) (eK eL eX eY eW eH epW epH : Int) (epT : Bool) (epK eC eo ea ep : Int) (et : Bool) (ek : List Zg) (hv : ZN (Zp.mk sS sO sD sL sC)) (tS : List Zc) (tO tD : List Zd) (tL tC : Int) (hc : Zh Xs Ms ZD [.ptr 0 0, (.d (.agg [J eK, J eL, J eX, J eY, J eW, J eH, J epW, J epH, .bool epT, J epK, J eC, J eo, J ea, J ep, .bool et, .sl (ek.map Zg.enc)]))] [.box [.own 1, .own 2, .own 3, (.d (J sL)), (.d (J sC))], .deep 4 4 (sS.map Zc.enc) none, .row 5 (sO.map Zd.enc) true false, .row 5 (sD.map Zd.enc) true false] = some ((.d (.bool true)), [.box [.own 4, .own 2, .own 3, (.d (J tL)), (.d (J tC))], .deep 4 4 (sS.map Zc.enc) none, .row 5 (sO.map Zd.enc) true false, .row 5 (sD.map Zd.enc) true false, .row 4 (tS.map Zc.enc) true false])) : Zh Xs Ms ZY [(.d (.agg [.sl (sS.map Zc.enc), .sl (sO.map Zd.enc), .sl (sD.map Zd.enc), J sL, J sC])), (.d (.agg [J eK, J eL, J eX, J eY, J eW, J eH, J epW, J epH, .bool epT, J epK, J eC, J eo, J ea, J ep, .bool et, .sl (ek.map Zg.enc)]))] [] = some (shV (Y0 (some ⟨tS, sO, sD, tL, tC⟩))) := by
 have e1 := Z5 sS sO sD sL sC
 rw [decide_eq_true hv] at e1
 have e2 := WC sS sO sD sL sC (YZ hv)
 have e3 := Z5 tS sO sD tL tC
 unfold Y0
 by_cases hvt : ZN ⟨tS, sO, sD, tL, tC⟩
 ·rw [decide_eq_true hvt] at e3
  simp only [if_pos hvt]
  unfold shV
  refine Ze Xs Ms Zv Qy (by show 2 ≤ _; decide) ?_
  simp +contextual -implicitDefEqProofs (maxSteps := 10^7) only [go_sem, seval, ↓gZ, Zv, e1, e2, hc, e3]
 ·rw [decide_eq_false hvt] at e3
  simp only [if_neg hvt]
  unfold shV
  refine Ze Xs Ms Zv Qy (by show 2 ≤ _; decide) ?_
  simp +contextual -implicitDefEqProofs (maxSteps := 10^7) only [go_sem, seval, ↓gZ, Zv, e1, e2, hc, e3]
theorem ZmO (sS : List Zc) (sO sD : List Zd) (sL sC : Int) (eK eL eX eY eW eH epW epH : Int) (epT : Bool) (epK eC eo ea ep : Int) (et : Bool) (ek : List Zg) (hv : ZN (Zp.mk sS sO sD sL sC)) (tS : List Zc) (tO tD : List Zd) (tL tC : Int) (hc : Zh Xs Ms ZD [.ptr 0 0, (.d (.agg [J eK, J eL, J eX, J eY, J eW, J eH, J epW, J epH, .bool epT, J epK, J eC, J eo, J ea, J ep, .bool et, .sl (ek.map Zg.enc)]))] [.box [.own 1, .own 2, .own 3, (.d (J sL)), (.d (J sC))], .deep 4 4 (sS.map Zc.enc) none, .row 5 (sO.map Zd.enc) true false, .row 5 (sD.map Zd.enc) true false] = some ((.d (.bool true)), [.box [.own 1, .own 2, .own 3, (.d (J tL)), (.d (J tC))], .row 4 (tS.map Zc.enc) true false, .row 5 (sO.map Zd.enc) true false, .row 5 (sD.map Zd.enc) true false])) : Zh Xs Ms ZY [(.d (.agg [.sl (sS.map Zc.enc), .sl (sO.map Zd.enc), .sl (sD.map Zd.enc), J sL, J sC])), (.d (.agg [J eK, J eL, J eX, J eY, J eW, J eH, J epW, J epH, .bool epT, J epK, J eC, J eo, J ea, J ep, .bool et, .sl (ek.map Zg.enc)]))] [] = some (shV (Y0 (some ⟨tS, sO, sD, tL, tC⟩))) := by
 have e1 := Z5 sS sO sD sL sC
 rw [decide_eq_true hv] at e1
 have e2 := WC sS sO sD sL sC (YZ hv)
 have e3 := Z5 tS sO sD tL tC
 unfold Y0
 by_cases hvt : ZN ⟨tS, sO, sD, tL, tC⟩
 ·rw [decide_eq_true hvt] at e3
  simp only [if_pos hvt]
  unfold shV
  refine Ze Xs Ms Zv Qy (by show 2 ≤ _; decide) ?_
  simp +contextual -implicitDefEqProofs (maxSteps := 10^7) only [go_sem, seval, ↓gZ, Zv, e1, e2, hc, e3]
 ·rw [decide_eq_false hvt] at e3
  simp only [if_neg hvt]
  unfold shV
  refine Ze Xs Ms Zv Qy (by show 2 ≤ _; decide) ?_
  simp +contextual -implicitDefEqProofs (maxSteps := 10^7) only [go_sem, seval, ↓gZ, Zv, e1, e2, hc, e3]
theorem ZmP (sS : List Zc) (sO sD : List Zd) (sL sC : Int) (eK eL eX eY eW eH epW epH : Int) (epT : Bool) (epK eC eo ea ep : Int) (et : Bool) (ek : List Zg) (hv : ZN (Zp.mk sS sO sD sL sC)) (tS : List Zc) (tO tD : List Zd) (tL tC : Int) (hc : Zh Xs Ms ZD [.ptr 0 0, (.d (.agg [J eK, J eL, J eX, J eY, J eW, J eH, J epW, J epH, .bool epT, J epK, J eC, J eo, J ea, J ep, .bool et, .sl (ek.map Zg.enc)]))] [.box [.own 1, .own 2, .own 3, (.d (J sL)), (.d (J sC))], .deep 4 4 (sS.map Zc.enc) none, .row 5 (sO.map Zd.enc) true false, .row 5 (sD.map Zd.enc) true false] = some ((.d (.bool true)), [.box [.own 1, .own 4, .own 3, (.d (J tL)), (.d (J tC))], .deep 4 4 (sS.map Zc.enc) none, .row 5 (sO.map Zd.enc) true false, .row 5 (sD.map Zd.enc) true false, .row 5 (tO.map Zd.enc) true false])) : Zh Xs Ms ZY [(.d (.agg [.sl (sS.map Zc.enc), .sl (sO.map Zd.enc), .sl (sD.map Zd.enc), J sL, J sC])), (.d (.agg [J eK, J eL, J eX, J eY, J eW, J eH, J epW, J epH, .bool epT, J epK, J eC, J eo, J ea, J ep, .bool et, .sl (ek.map Zg.enc)]))] [] = some (shV (Y0 (some ⟨sS, tO, sD, tL, tC⟩))) := by
 have e1 := Z5 sS sO sD sL sC
 rw [decide_eq_true hv] at e1
 have e2 := WC sS sO sD sL sC (YZ hv)
 have e3 := Z5 sS tO sD tL tC
 unfold Y0
 by_cases hvt : ZN ⟨sS, tO, sD, tL, tC⟩
 ·rw [decide_eq_true hvt] at e3
  simp only [if_pos hvt]
  unfold shV
  refine Ze Xs Ms Zv Qy (by show 2 ≤ _; decide) ?_
  simp +contextual -implicitDefEqProofs (maxSteps := 10^7) only [go_sem, seval, ↓gZ, Zv, e1, e2, hc, e3]
 ·rw [decide_eq_false hvt] at e3
  simp only [if_neg hvt]
  unfold shV
  refine Ze Xs Ms Zv Qy (by show 2 ≤ _; decide) ?_
  simp +contextual -implicitDefEqProofs (maxSteps := 10^7) only [go_sem, seval, ↓gZ, Zv, e1, e2, hc, e3]
theorem ZmQ (sS : List Zc) (sO sD : List Zd) (sL sC : Int) (eK eL eX eY eW eH epW epH : Int) (epT : Bool) (epK eC eo ea ep : Int) (et : Bool) (ek : List Zg) (hv : ZN (Zp.mk sS sO sD sL sC)) (tS : List Zc) (tO tD : List Zd) (tL tC : Int) (hc : Zh Xs Ms ZD [.ptr 0 0, (.d (.agg [J eK, J eL, J eX, J eY, J eW, J eH, J epW, J epH, .bool epT, J epK, J eC, J eo, J ea, J ep, .bool et, .sl (ek.map Zg.enc)]))] [.box [.own 1, .own 2, .own 3, (.d (J sL)), (.d (J sC))], .deep 4 4 (sS.map Zc.enc) none, .row 5 (sO.map Zd.enc) true false, .row 5 (sD.map Zd.enc) true false] = some ((.d (.bool true)), [.box [.own 1, .own 4, .own 5, (.d (J tL)), (.d (J tC))], .deep 4 4 (sS.map Zc.enc) none, .row 5 (sO.map Zd.enc) true false, .row 5 (sD.map Zd.enc) true false, .row 5 (tO.map Zd.enc) true false, .row 5 (tD.map Zd.enc) true false])) : Zh Xs Ms ZY [(.d (.agg [.sl (sS.map Zc.enc), .sl (sO.map Zd.enc), .sl (sD.map Zd.enc), J sL, J sC])), (.d (.agg [J eK, J eL, J eX, J eY, J eW, J eH, J epW, J epH, .bool epT, J epK, J eC, J eo, J ea, J ep, .bool et, .sl (ek.map Zg.enc)]))] [] = some (shV (Y0 (some ⟨sS, tO, tD, tL, tC⟩))) := by
 have e1 := Z5 sS sO sD sL sC
 rw [decide_eq_true hv] at e1
 have e2 := WC sS sO sD sL sC (YZ hv)
 have e3 := Z5 sS tO tD tL tC
 unfold Y0
 by_cases hvt : ZN ⟨sS, tO, tD, tL, tC⟩
 ·rw [decide_eq_true hvt] at e3
  simp only [if_pos hvt]
  unfold shV
  refine Ze Xs Ms Zv Qy (by show 2 ≤ _; decide) ?_
  simp +contextual -implicitDefEqProofs (maxSteps := 10^7) only [go_sem, seval, ↓gZ, Zv, e1, e2, hc, e3]
 ·rw [decide_eq_false hvt] at e3
  simp only [if_neg hvt]
  unfold shV
  refine Ze Xs Ms Zv Qy (by show 2 ≤ _; decide) ?_
  simp +contextual -implicitDefEqProofs (maxSteps := 10^7) only [go_sem, seval, ↓gZ, Zv, e1, e2, hc, e3]
theorem ZmR (sS : List Zc) (sO sD : List Zd) (sL sC : Int) (eK eL eX eY eW eH epW epH : Int) (epT : Bool) (epK eC eo ea ep : Int) (et : Bool) (ek : List Zg) (hv : ZN (Zp.mk sS sO sD sL sC)) (tS : List Zc) (tO tD : List Zd) (tL tC : Int) (hc : Zh Xs Ms ZD [.ptr 0 0, (.d (.agg [J eK, J eL, J eX, J eY, J eW, J eH, J epW, J epH, .bool epT, J epK, J eC, J eo, J ea, J ep, .bool et, .sl (ek.map Zg.enc)]))] [.box [.own 1, .own 2, .own 3, (.d (J sL)), (.d (J sC))], .deep 4 4 (sS.map Zc.enc) none, .row 5 (sO.map Zd.enc) true false, .row 5 (sD.map Zd.enc) true false] = some ((.d (.bool true)), [.box [.own 4, .own 5, .own 6, (.d (J tL)), (.d (J tC))], .deep 4 4 (sS.map Zc.enc) none, .row 5 (sO.map Zd.enc) true false, .row 5 (sD.map Zd.enc) true false, .row 4 (tS.map Zc.enc) true false, .row 5 (tO.map Zd.enc) true false, .row 5 (tD.map Zd.enc) true false])) : Zh Xs Ms ZY [(.d (.agg [.sl (sS.map Zc.enc), .sl (sO.map Zd.enc), .sl (sD.map Zd.enc), J sL, J sC])), (.d (.agg [J eK, J eL, J eX, J eY, J eW, J eH, J epW, J epH, .bool epT, J epK, J eC, J eo, J ea, J ep, .bool et, .sl (ek.map Zg.enc)]))] [] = some (shV (Y0 (some ⟨tS, tO, tD, tL, tC⟩))) := by
 have e1 := Z5 sS sO sD sL sC
 rw [decide_eq_true hv] at e1
 have e2 := WC sS sO sD sL sC (YZ hv)
 have e3 := Z5 tS tO tD tL tC
 unfold Y0
 by_cases hvt : ZN ⟨tS, tO, tD, tL, tC⟩
 ·rw [decide_eq_true hvt] at e3
  simp only [if_pos hvt]
  unfold shV
  refine Ze Xs Ms Zv Qy (by show 2 ≤ _; decide) ?_
  simp +contextual -implicitDefEqProofs (maxSteps := 10^7) only [go_sem, seval, ↓gZ, Zv, e1, e2, hc, e3]
 ·rw [decide_eq_false hvt] at e3
  simp only [if_neg hvt]
  unfold shV
  refine Ze Xs Ms Zv Qy (by show 2 ≤ _; decide) ?_
  simp +contextual -implicitDefEqProofs (maxSteps := 10^7) only [go_sem, seval, ↓gZ, Zv, e1, e2, hc, e3]
theorem JH (sS : List Zc) (sO sD : List Zd) (sL sC : Int) (eK eL eX eY eW eH epW epH : Int) (epT : Bool) (epK eC eo ea ep : Int) (et : Bool) (ek : List Zg) : Zh Xs Ms ZY [(.d (.agg [.sl (sS.map Zc.enc), .sl (sO.map Zd.enc), .sl (sD.map Zd.enc), J sL, J sC])), (.d (.agg [J eK, J eL, J eX, J eY, J eW, J eH, J epW, J epH, .bool epT, J epK, J eC, J eo, J ea, J ep, .bool et, .sl (ek.map Zg.enc)]))] [] = some (shV (if ZN (Zp.mk sS sO sD sL sC) then QM (Zp.mk sS sO sD sL sC) (ZS.mk eK eL (Box.mk eX eY eW eH) (Zd.mk (Pane.mk epW epH epT epK) eC) (Zg.mk eo ea ep et ek)) else none)) := by
 by_cases hv : ZN (Zp.mk sS sO sD sL sC)
 ·rw [if_pos hv]
  have h20 : sS.length ≤ 100000 := by have := hv.1.1; simp only at this; omega
  by_cases k0 : eK = 0
  ·by_cases hr : (WP ⟨eL, eW, eH, []⟩ sS ∧ eX = 0) ∧ eY = 0
   ·have ee : QM (Zp.mk sS sO sD sL sC) (ZS.mk eK eL (Box.mk eX eY eW eH) (Zd.mk (Pane.mk epW epH epT epK) eC) (Zg.mk eo ea ep et ek)) = Y0 (some (Zp.mk (Qf ⟨eL, eW, eH, []⟩ sS) sO sD sL (sC + eW * eH))) := by unfold QM evS; simp only [k0, hr, if_true, and_self]
    rw [ee]
    exact Zg5 sS sO sD sL sC eK eL eX eY eW eH epW epH epT epK eC eo ea ep et ek hv _ sO sD _ _ (ZmE sS sO sD sL sC eK eL eX eY eW eH epW epH epT epK eC eo ea ep et ek hv k0 hr.1.1 hr.1.2 hr.2)
   ·have ee : QM (Zp.mk sS sO sD sL sC) (ZS.mk eK eL (Box.mk eX eY eW eH) (Zd.mk (Pane.mk epW epH epT epK) eC) (Zg.mk eo ea ep et ek)) = none := by unfold QM evS; simp only [k0, if_true]; rw [if_neg hr]; rfl
    rw [ee]
    exact Yi sS sO sD sL sC eK eL eX eY eW eH epW epH epT epK eC eo ea ep et ek hv (ZmF sS sO sD sL sC eK eL eX eY eW eH epW epH epT epK eC eo ea ep et ek hv k0 h20 hr)
  ·by_cases k1 : eK = 1
   ·by_cases hf : QC 0 sS eL < 0
    ·have ee : QM (Zp.mk sS sO sD sL sC) (ZS.mk eK eL (Box.mk eX eY eW eH) (Zd.mk (Pane.mk epW epH epT epK) eC) (Zg.mk eo ea ep et ek)) = none := by unfold QM evS; simp [k1, Zfr hf, Y0]
     rw [ee]
     exact Yi sS sO sD sL sC eK eL eX eY eW eH epW epH epT epK eC eo ea ep et ek hv (ZmH sS sO sD sL sC eK eL eX eY eW eH epW epH epT epK eC eo ea ep et ek hv k1 h20 hf)
    ·obtain ⟨a, x, ha, hx⟩ := ZbG (by omega : 0 ≤ QC 0 sS eL)
     have hxv := (Qe hv.1.2 x (List.mem_of_getElem? hx)).1
     obtain ⟨xL, xW, xH, xF⟩ := x
     simp only at hxv
     rw [ZvQ hv k1 ha hx]
     exact ZmO sS sO sD sL sC eK eL eX eY eW eH epW epH epT epK eC eo ea ep et ek hv _ sO sD _ _ (ZmG sS sO sD sL sC eK eL eX eY eW eH epW epH epT epK eC eo ea ep et ek hv k1 h20 a ha xL xW xH xF hx (by omega))
   ·by_cases k5 : eK = 5
    ·by_cases hf : QC 0 sS eL < 0
     ·have ee : QM (Zp.mk sS sO sD sL sC) (ZS.mk eK eL (Box.mk eX eY eW eH) (Zd.mk (Pane.mk epW epH epT epK) eC) (Zg.mk eo ea ep et ek)) = none := by unfold QM evS; simp [k5, Zfr hf, Y0]
      rw [ee]
      exact Yi sS sO sD sL sC eK eL eX eY eW eH epW epH epT epK eC eo ea ep et ek hv (ZmN sS sO sD sL sC eK eL eX eY eW eH epW epH epT epK eC eo ea ep et ek hv k5 hf)
     ·obtain ⟨a, x, ha, hx⟩ := ZbG (by omega : 0 ≤ QC 0 sS eL)
      obtain ⟨xL, xW, xH, xF⟩ := x
      have ee : QM (Zp.mk sS sO sD sL sC) (ZS.mk eK eL (Box.mk eX eY eW eH) (Zd.mk (Pane.mk epW epH epT epK) eC) (Zg.mk eo ea ep et ek)) = Y0 (some (Zp.mk (sS.eraseIdx a) sO sD (sL + xW * xH) sC)) := by unfold QM evS; simp [k5, ZcU ha hx]
      rw [ee]
      exact Zg5 sS sO sD sL sC eK eL eX eY eW eH epW epH epT epK eC eo ea ep et ek hv _ sO sD _ _ (ZmM sS sO sD sL sC eK eL eX eY eW eH epW epH epT epK eC eo ea ep et ek hv k5 a ha xL xW xH xF hx)
    ·by_cases k2 : eK = 2
     ·by_cases hl : Wt ⟨⟨epW, epH, epT, epK⟩, eC⟩
      ·have ee : QM (Zp.mk sS sO sD sL sC) (ZS.mk eK eL (Box.mk eX eY eW eH) (Zd.mk (Pane.mk epW epH epT epK) eC) (Zg.mk eo ea ep et ek)) = Y0 (some (Zp.mk sS (YB ⟨epW, epH, epT, epK⟩ eC sO) sD sL sC)) := by unfold QM evS; simp [k2, hl]
       rw [ee]
       exact ZmP sS sO sD sL sC eK eL eX eY eW eH epW epH epT epK eC eo ea ep et ek hv sS _ sD _ _ (ZmI sS sO sD sL sC eK eL eX eY eW eH epW epH epT epK eC eo ea ep et ek hv k2 hl)
      ·have ee : QM (Zp.mk sS sO sD sL sC) (ZS.mk eK eL (Box.mk eX eY eW eH) (Zd.mk (Pane.mk epW epH epT epK) eC) (Zg.mk eo ea ep et ek)) = none := by unfold QM evS; simp [k2, hl, Y0]
       rw [ee]
       exact Yi sS sO sD sL sC eK eL eX eY eW eH epW epH epT epK eC eo ea ep et ek hv (ZmJ sS sO sD sL sC eK eL eX eY eW eH epW epH epT epK eC eo ea ep et ek hv k2 hl)
     ·by_cases k4 : eK = 4
      ·by_cases hl : Wt ⟨⟨epW, epH, epT, epK⟩, eC⟩ ∧ Xn ⟨epW, epH, epT, epK⟩ eC false sD = true
       ·have ee : QM (Zp.mk sS sO sD sL sC) (ZS.mk eK eL (Box.mk eX eY eW eH) (Zd.mk (Pane.mk epW epH epT epK) eC) (Zg.mk eo ea ep et ek)) = Y0 (some (Zp.mk sS (YB ⟨epW, epH, epT, epK⟩ eC sO) (X6 sD ⟨epW, epH, epT, epK⟩ eC) (sL + eC * epW * epH) sC)) := by unfold QM evS; simp [k4, hl]
        rw [ee]
        exact ZmQ sS sO sD sL sC eK eL eX eY eW eH epW epH epT epK eC eo ea ep et ek hv sS _ _ _ _ (ZmK sS sO sD sL sC eK eL eX eY eW eH epW epH epT epK eC eo ea ep et ek hv k4 hl.1 hl.2)
       ·have ee : QM (Zp.mk sS sO sD sL sC) (ZS.mk eK eL (Box.mk eX eY eW eH) (Zd.mk (Pane.mk epW epH epT epK) eC) (Zg.mk eo ea ep et ek)) = none := by unfold QM evS; simp only [k4]; simp [hl, Y0]
        rw [ee]
        exact Yi sS sO sD sL sC eK eL eX eY eW eH epW epH epT epK eC eo ea ep et ek hv (ZmL sS sO sD sL sC eK eL eX eY eW eH epW epH epT epK eC eo ea ep et ek hv k4 hl)
      ·by_cases k3 : eK = 3
       ·have hc := Znz sS sO sD sL sC eK eL eX eY eW eH epW epH epT epK eC eo ea ep et ek hv k3
        have ee : QM (Zp.mk sS sO sD sL sC) (ZS.mk eK eL (Box.mk eX eY eW eH) (Zd.mk (Pane.mk epW epH epT epK) eC) (Zg.mk eo ea ep et ek)) = Y0 (Zfq (Zp.mk sS sO sD sL sC) (ZS.mk eK eL (Box.mk eX eY eW eH) (Zd.mk (Pane.mk epW epH epT epK) eC) (Zg.mk eo ea ep et ek))) := by unfold QM evS; simp [k3]
        rw [ee]
        generalize Zfq (Zp.mk sS sO sD sL sC) (ZS.mk eK eL (Box.mk eX eY eW eH) (Zd.mk (Pane.mk epW epH epT epK) eC) (Zg.mk eo ea ep et ek)) = t at hc
        cases t with
        | none => exact Yi sS sO sD sL sC eK eL eX eY eW eH epW epH epT epK eC eo ea ep et ek hv hc
        | some t =>
         obtain ⟨a, b, c, d, f⟩ := t
         exact ZmR sS sO sD sL sC eK eL eX eY eW eH epW epH epT epK eC eo ea ep et ek hv a b c d f hc
       ·have ee : QM (Zp.mk sS sO sD sL sC) (ZS.mk eK eL (Box.mk eX eY eW eH) (Zd.mk (Pane.mk epW epH epT epK) eC) (Zg.mk eo ea ep et ek)) = none := by unfold QM evS; simp [k0, k1, k2, k3, k4, k5, Y0]
        rw [ee]
        exact Yi sS sO sD sL sC eK eL eX eY eW eH epW epH epT epK eC eo ea ep et ek hv (ZnA sS sO sD sL sC eK eL eX eY eW eH epW epH epT epK eC eo ea ep et ek k0 k1 k2 k3 k4 k5)
 ·rw [if_neg hv]
  exact Zlf sS sO sD sL sC eK eL eX eY eW eH epW epH epT epK eC eo ea ep et ek hv
theorem Zfu (p : Pane) (c : Int) : ∀ (l : List Zd), QD (YB p c l) = QD l + c
 | [] => by simp [YB, QD]
 | x :: l => by
  unfold YB
  split
  ·simp only [QD]; omega
  ·simp only [QD, Zfu p c l]; omega
theorem ZsF : ∀ {l : List Zd} {a : Nat} {x y : Zd}, l[a]? = some x → QD (l.set a y) = QD l - x.Count + y.Count
 | [], a, x, y, h => by simp at h
 | z :: l, 0, x, y, h => by
  simp only [List.getElem?_cons_zero, Option.some.injEq] at h
  subst h
  simp only [List.set_cons_zero, QD]; omega
 | z :: l, a + 1, x, y, h => by
  simp only [List.getElem?_cons_succ] at h
  simp only [List.set_cons_succ, QD, ZsF h]; omega
theorem ZnB : ∀ {l : List Zd} {a : Nat} {x : Zd}, l[a]? = some x → QD (l.eraseIdx a) = QD l - x.Count
 | [], a, x, h => by simp at h
 | z :: l, 0, x, h => by
  simp only [List.getElem?_cons_zero, Option.some.injEq] at h
  subst h
  simp only [List.eraseIdx_cons_zero, QD]; omega
 | z :: l, a + 1, x, h => by
  simp only [List.getElem?_cons_succ] at h
  simp only [List.eraseIdx_cons_succ, QD, ZnB h]; omega
theorem ZnC {l : List Zd} {p : Pane} {c : Int} (hu : UL l) (h : Xn p c false l = true) : QD (X6 l p c) = QD l - c := by
 by_cases hf : VY 0 l p < 0
 ·rw [Zip (Zkd hf)] at h; cases h
 ·obtain ⟨a, x, h1, h2, h3, h4⟩ := Zio (by omega : 0 ≤ VY 0 l p)
  obtain ⟨k1, k2⟩ := Zns (c := c) hu h2 h3
  rw [k1, decide_eq_true_eq] at h
  rw [k2]
  split
  ·rw [ZsF h2]; simp only; omega
  ·rw [ZnB h2]; omega
theorem Zlg : ∀ {ps : List Pane} {us : List Int} {o d o' d' : List Zd}, us.length = ps.length → WV ps us o d = some (o', d') → UL o → (∀ v ∈ us, 0 ≤ v) →
  QD o' + QD d' = QD o + QD d ∧ QD d ≤ QD d' ∧ ((∃ v ∈ us, v ≠ 0) → QD d < QD d')
 | [], us, o, d, o', d', hl, h, hu, hv => by
  cases us with
  | nil => unfold WV at h; cases h; simp
  | cons c us => simp at hl
 | p :: ps, [], o, d, o', d', hl, h, hu, hv => by simp at hl
 | p :: ps, c :: us, o, d, o', d', hl, h, hu, hv => by
  rw [WV] at h
  simp only [List.length_cons, Nat.add_right_cancel_iff] at hl
  have hc := hv c (by simp)
  split at h
  ·rename_i h0
   obtain ⟨a, b, e⟩ := Zlg hl h hu (fun v h => hv v (by simp [h]))
   refine ⟨a, b, fun ⟨v, hm, hn⟩ => ?_⟩
   rcases List.mem_cons.1 hm with rfl | hm
   ·exact absurd h0 hn
   ·exact e ⟨v, hm, hn⟩
  ·rename_i h0
   split at h
   ·rename_i ht
    obtain ⟨a, b, e⟩ := Zlg hl h (Znt hu) (fun v h => hv v (by simp [h]))
    rw [ZnC hu ht, Zfu] at a
    rw [Zfu] at b
    exact ⟨by omega, by omega, fun _ => by omega⟩
   ·cases h
structure AFacts (s : Zp) (e : ZS) (t : Zp) : Prop where
 vs : ZN t
 came : t.Came = s.Came + (if e.kind = 0 then e.box.W * e.box.H else 0)
 lost : s.Lost ≤ t.Lost
 cnt : QD t.Opn + QD t.Done = QD s.Opn + QD s.Done + (if e.kind = 2 then e.line.Count else 0)
 lt : QD t.Done < QD s.Done ↔ e.kind = 4
 gt : QD s.Done < QD t.Done ↔ e.kind = 3
 sheet : e.kind = 0 → WP ⟨e.label, e.box.W, e.box.H, []⟩ s.Stock ∧ e.box.X = 0 ∧ e.box.Y = 0 ∧ t = { s with Stock := Qf ⟨e.label, e.box.W, e.box.H, []⟩ s.Stock, Came := s.Came + e.box.W * e.box.H }
 ord : e.kind = 2 → Wt e.line
theorem Zw0 {s t : Zp} {e : ZS} (h : QM s e = some t) : evS s e = some t ∧ ZN t := by
 have hv := Zjp h
 unfold QM Y0 at h
 split at h
 ·split at h
  ·cases h; exact ⟨by assumption, hv⟩
  ·cases h
 ·cases h
theorem Zga {s t : Zp} {e : ZS} (hs : ZN s) (h : QM s e = some t) : AFacts s e t := by
 obtain ⟨h, hv⟩ := Zw0 h
 unfold evS at h
 split at h
 ·rename_i k
  split at h
  ·rename_i hr
   cases h
   exact ⟨hv, by simp [k], Int.le_refl _, by simp [k], by simp [k], by simp [k], fun _ => ⟨hr.1.1, hr.1.2, hr.2, rfl⟩, fun h => by omega⟩
  ·cases h
 ·rename_i k0
  split at h
  ·rename_i k
   split at h
   ·cases h
   ·split at h
    ·cases h
     exact ⟨hv, by simp [k], Int.le_refl _, by simp [k], by simp [k], by simp [k], fun h => absurd h k0, fun h => by omega⟩
    ·cases h
  ·rename_i k1
   split at h
   ·rename_i k
    split at h
    ·cases h
    ·rename_i a q hq
     cases h
     have hqm : q ∈ s.Stock := by
      unfold Zsu at hq
      split at hq
      ·obtain ⟨x, hx, e⟩ := Option.map_eq_some_iff.1 hq
       cases e
       exact List.mem_of_getElem? hx
      ·cases hq
     have hqv := (Qe hs.1.2 q hqm).1
     have := UX (b := ⟨0, 0, q.W, q.H⟩) (by simp only [VB]; omega)
     simp only at this
     exact ⟨hv, by simp [k], by simp only; omega, by simp [k], by simp [k], by simp [k], fun h => absurd h k0, fun h => by omega⟩
   ·rename_i k5
    split at h
    ·rename_i k
     split at h
     ·rename_i hl
      cases h
      have hc := hl.2
      refine ⟨hv, by simp [k], Int.le_refl _, ?_, by simp [k], by simp [k], fun h => absurd h k0, fun _ => hl⟩
      simp only [Zfu, k, if_true]; omega
     ·cases h
    ·rename_i k2
     split at h
     ·rename_i k
      split at h
      ·rename_i hl
       cases h
       have hc := hl.1.2
       have ha := ZcT hl.1
       have h1 := ZnC (Zf9 hs.2.2.1) hl.2
       refine ⟨hv, by simp [k], by simp only; omega, ?_, ?_, ?_, fun h => absurd h k0, fun h => absurd h k2⟩
       ·simp only [Zfu, h1, k]; simp; omega
       ·simp only [h1, k, iff_true]; omega
       ·simp only [h1, k]; omega
      ·cases h
     ·rename_i k4
      split at h
      ·rename_i k
       unfold Zfq at h
       split at h
       ·cases h
       ·rename_i x hx
        split at h
        ·cases h
        ·rename_i R hR
         obtain ⟨hvp, _, _⟩ := Zj9 hR
         split at h
         ·rename_i hp
          split at h
          ·cases h
          ·rename_i o d hg
           cases h
           have hu := Zhr hvp
           have hpos := Zqg hvp hp
           obtain ⟨a, b, c⟩ := Zlg (by rw [hu.1]) hg (Zf9 hs.2.1) (fun v h => (hu.2 v h).1)
           have c := c hpos
           have hla := ZfV (l := Zer ⟨x.W, x.H, s.Opn.map Zd.Pane⟩ e.plan 5) (fun c hc => by
            obtain ⟨z, hz, hzc⟩ := List.mem_filterMap.1 hc
            unfold JB at hzc
            split at hzc
            ·cases hzc; exact Zc0 hvp c hz
            ·cases hzc)
           refine ⟨hv, by simp [k], by simp only; omega, ?_, ?_, ?_, fun h => absurd h k0, fun h => absurd h k2⟩
           ·simp only [k]; simp; omega
           ·simp only [k]; omega
           ·simp only [k, iff_true]; omega
         ·cases h
      ·cases h
theorem ZsG {q : Zc} : ∀ {l : List Zc} {b : Int}, XM b l → q.Label ∉ l.map Zc.Label → ∃ a : Nat, (∀ k, QC k (Qf q l) q.Label = ((k + a : Nat) : Int)) ∧ (Qf q l)[a]? = some q ∧ (Qf q l).eraseIdx a = l
 | [], b, _, _ => ⟨0, by simp [Qf, QC], by simp [Qf], by simp [Qf]⟩
 | x :: l, b, h, hn => by
  simp only [List.map_cons, List.mem_cons, not_or] at hn
  unfold Qf
  by_cases hlt : q.Label < x.Label
  ·rw [if_pos hlt]
   exact ⟨0, by simp [QC], by simp, by simp⟩
  ·rw [if_neg hlt]
   obtain ⟨a, h1, h2, h3⟩ := ZsG h.2.2 hn.2
   refine ⟨a + 1, fun k => ?_, by simpa using h2, by simp [h3]⟩
   unfold QC
   rw [if_neg (fun e => hn.1 e.symm), h1 (k + 1)]
   congr 1; omega
theorem ZvR {s t : Zp} {e : ZS} (hs : ZN s) (h : QM s e = some t) (hk : e.kind = 0) (b : Box) (l : Zd) (p : Zg) : QM t ⟨5, e.label, b, l, p⟩ = some { s with Lost := s.Lost + e.box.W * e.box.H, Came := s.Came + e.box.W * e.box.H } := by
 have hf := Zga hs h
 obtain ⟨ha, hx, hy, rfl⟩ := hf.sheet hk
 have hv := hf.vs
 have hm := (ZsD hs.1 ha.1.2).1 ha
 have hn := Znw.1 hm.2
 obtain ⟨a, h1, h2, h3⟩ := ZsG hs.1.2 hn
 have h1 := h1 0
 rw [Nat.zero_add] at h1
 simp only at h1 h2 h3 hv
 have hp := ZcU h1 h2
 unfold QM evS
 simp only [hp]
 rw [if_neg (by decide), if_neg (by decide), if_pos trivial, h3]
 unfold Y0
 refine if_pos ?_
 obtain ⟨a1, a2, a3, a4, a5, a6, a7, a8⟩ := hv
 obtain ⟨b1, b2, b3, b4, b5, b6, b7, b8⟩ := hs
 simp only at a1 a2 a3 a4 a5 a6 a7 a8
 have hq := ha.1.2.1
 simp only at hq
 have hw := UX (b := ⟨0, 0, e.box.W, e.box.H⟩) (by simp only [VB]; omega)
 simp only at hw
 have g1 := (Zac (Znl b1)).1
 have g2 := (Zf6 b3).1
 exact ⟨b1, b2, b3, by simp only; omega, by simp only; omega, by simp only; omega, by simp only; omega, by simp only; omega⟩
theorem ZbW (sS : List Zc) (sO sD : List Zd) (sL sC : Int) (eK eL eX eY eW eH epW epH : Int) (epT : Bool) (epK eC eo ea ep : Int) (et : Bool) (ek : List Zg) (hs : JO (Zp.mk sS sO sD sL sC)) (hW : eK = 0 → I5 eW) (hH : eK = 0 → I5 eH) : Zh Xs Ms X7 [(.d (.agg [.sl (sS.map Zc.enc), .sl (sO.map Zd.enc), .sl (sD.map Zd.enc), J sL, J sC])), (.d (.agg [J eK, J eL, J eX, J eY, J eW, J eH, J epW, J epH, .bool epT, J epK, J eC, J eo, J ea, J ep, .bool et, .sl (ek.map Zg.enc)]))] [] = some (shV (if ZN (Zp.mk sS sO sD sL sC) then QM (Zp.mk sS sO sD sL sC) (ZS.mk eK eL (Box.mk eX eY eW eH) (Zd.mk (Pane.mk epW epH epT epK) eC) (Zg.mk eo ea ep et ek)) else none)) := by
 have e1 := YC sS sO sD sL sC hs
 by_cases hv : ZN (Zp.mk sS sO sD sL sC)
 ·rw [decide_eq_true hv] at e1
  rw [if_pos hv]
  have e2 := Zg3 sS sO sD sL sC eK eL eX eY eW eH epW epH epT epK eC eo ea ep et ek hv hW hH
  cases ha : QM (Zp.mk sS sO sD sL sC) (ZS.mk eK eL (Box.mk eX eY eW eH) (Zd.mk (Pane.mk epW epH epT epK) eC) (Zg.mk eo ea ep et ek)) with
  | none =>
   rw [ha] at e2
   unfold shV at e2 ⊢
   refine Ze Xs Ms Xx Zdb (by show 2 ≤ _; decide) ?_
   simp +contextual -implicitDefEqProofs (maxSteps := 10^7) only [go_sem, seval, ↓gZ, Xx, e1, e2]
  | some t =>
   rw [ha] at e2
   unfold shV at e2 ⊢
   obtain ⟨a, b, c, d, f⟩ := t
   simp only at e2 ⊢
   refine Ze Xs Ms Xx Zdb (by show 2 ≤ _; decide) ?_
   simp +contextual -implicitDefEqProofs (maxSteps := 10^7) only [go_sem, seval, ↓gZ, Xx, e1, e2]
 ·rw [decide_eq_false hv] at e1
  rw [if_neg hv]
  unfold shV
  refine Ze Xs Ms Xx Zdb (by show 2 ≤ _; decide) ?_
  simp +contextual -implicitDefEqProofs (maxSteps := 10^7) only [go_sem, seval, ↓gZ, Xx, e1]
def PDrE (r : AV × List Zr) : Prop := ∃ (sS : List Zc) (sO sD : List Zd) (sL sC : Int) (f g h : Bool) (eK eL eX eY eW eH epW epH : Int) (epT : Bool) (epK eC eo ea ep : Int) (et : Bool) (ek : List Zg), WSh (Zp.mk sS sO sD sL sC) ∧ (eK = 0 → I5 eW ∧ I5 eH) ∧
 r = (.tup [.agg [.own 0, .own 1, .own 2, (.d (J sL)), (.d (J sC))], .agg [(.d (J eK)), (.d (J eL)), (.d (J eX)), (.d (J eY)), (.d (J eW)), (.d (J eH)), (.d (J epW)), (.d (J epH)), (.d (.bool epT)), (.d (J epK)), (.d (J eC)), (.d (J eo)), (.d (J ea)), (.d (J ep)), (.d (.bool et)), .own 3]], [.row 4 (sS.map Zc.enc) true f, .row 5 (sO.map Zd.enc) true g, .row 5 (sD.map Zd.enc) true h, .row 5 (ek.map Zg.enc) true false])
theorem U6 (code : List UInt8) : ∃ r, Zh Xs Ms QG [.d (.sl (code.map JU))] [] = some r ∧ PDrE r := by
 have hb : (code.take 2000).length ≤ 2000 := by simp; omega
 have en := Zm8 code
 obtain ⟨r, e1, S, O, D, L, C, f, g, h, p', h1, h2, h3, rfl⟩ := Zrb (code.take 2000) hb 0 (by omega)
 simp only [cast0] at e1
 generalize code.take 2000 = bs at *
 obtain ⟨r, e2, K, Lb, X, Y, W, H, pW, pH, pT, pK, Ct, o, a, q, t, ks, p, hK, h4, h5, rfl⟩ := Zhx bs hb p' (by omega) S O D L C h1
 have c0 := Qu bs p 16 hb (by omega)
 generalize Q0 bs p 16 = c at c0
 refine ZqA Xs Ms Qb Zjq (by show 1 ≤ _; decide) ?_
 by_cases k0 : c = 0
 ·subst k0
  obtain ⟨v, hv1, eV⟩ := Ja bs (p + 1) [0, 10000, 1] hb (by omega) (by decide)
  simp only [List.map_cons, List.map_nil, ZaZ] at eV
  simp +contextual -implicitDefEqProofs (maxSteps := 10^7) only [go_sem, seval, ↓gZ, Qb, en, e1, e2, c0, eV]
  exact ⟨S, O, D, L, C, _, _, _, K, v, X, Y, W, H, pW, pH, pT, pK, Ct, o, a, q, t, ks, h1, hK, rfl⟩
 ·by_cases k1 : c = 1
  ·subst k1
   obtain ⟨v, hv1, eV⟩ := Ja bs (p + 1) [6, -1, 3, 4] hb (by omega) (by decide)
   have hv0 : ¬ v = 0 := by simp only [List.mem_cons, List.not_mem_nil, or_false] at hv1; omega
   simp only [List.map_cons, List.map_nil, ZaZ] at eV
   simp +contextual -implicitDefEqProofs (maxSteps := 10^7) only [go_sem, seval, ↓gZ, Qb, en, e1, e2, c0, eV]
   exact ⟨S, O, D, L, C, _, _, _, v, Lb, X, Y, W, H, pW, pH, pT, pK, Ct, o, a, q, t, ks, h1, fun h => absurd h hv0, rfl⟩
  ·by_cases k2 : c = 2
   ·subst k2
    obtain ⟨v, hv1, eV⟩ := Ja bs (p + 1) [0, 25] hb (by omega) (by decide)
    simp only [List.map_cons, List.map_nil, ZaZ] at eV
    simp +contextual -implicitDefEqProofs (maxSteps := 10^7) only [go_sem, seval, ↓gZ, Qb, en, e1, e2, c0, eV]
    exact ⟨S, O, D, L, C, _, _, _, K, Lb, X, Y, W, H, pW, pH, pT, pK, v, o, a, q, t, ks, h1, hK, rfl⟩
   ·by_cases k3 : c = 3
    ·subst k3
     simp +contextual -implicitDefEqProofs (maxSteps := 10^7) only [go_sem, seval, ↓gZ, Qb, en, e1, e2, c0]
     exact ⟨S, O, D, L, C, _, _, _, K, Lb, X, Y, W, H, pW, pH, pT, pK, Ct, o, _, q, t, ks, h1, hK, rfl⟩
    ·by_cases k4 : c = 4
     ·subst k4
      obtain ⟨v, hv1, eV⟩ := Ja bs (p + 1) [1, 200] hb (by omega) (by decide)
      simp only [List.map_cons, List.map_nil, ZaZ] at eV
      simp +contextual -implicitDefEqProofs (maxSteps := 10^7) only [go_sem, seval, ↓gZ, Qb, en, e1, e2, c0, eV]
      exact ⟨S, O, D, L, C, _, _, _, K, Lb, v, Y, W, H, pW, pH, pT, pK, Ct, o, a, q, t, ks, h1, hK, rfl⟩
     ·simp +contextual -implicitDefEqProofs (maxSteps := 10^7) only [go_sem, seval, ↓gZ, Qb, en, e1, e2, c0, k0, k1, k2, k3, k4]
      exact ⟨S, O, D, L, C, _, _, _, K, Lb, X, Y, W, H, pW, pH, pT, pK, Ct, o, a, q, t, ks, h1, hK, rfl⟩
theorem Zee (a : List Zd) (ha : a.length < 4611686018427387904) : Zh Xs Ms YD [(.d (.sl (a.map Zd.enc))), (.d (.sl (a.map Zd.enc)))] [] = some ((.d (.bool true)), []) := by
 refine Ze Xs Ms Ue ZnF (by show 2 ≤ _; decide) ?_
 simp +contextual -implicitDefEqProofs (maxSteps := 10^7) only [go_sem, seval, ↓gZ, Ue]
 refine ZE Xs Ms (st0 := ?st0) (α := Nat) (fun k => [(5, .d (J (k : Int)))]) (fun _ => []) (fun k => k ≤ a.length) (fun k => a.length - k) 0 ?hc (by omega) ?h0 ?step
 case hc => simp +contextual -implicitDefEqProofs (maxSteps := 10^7) only [go_sem, seval, ↓gZ] <;> exact rfl
 case h0 => rfl
 case step =>
  intro k hk ih
  by_cases hlt : k < a.length
  ·obtain ⟨x, hx⟩ := Zw hlt
   have hw := Zm (k := k) (by omega)
   simp +contextual -implicitDefEqProofs (maxSteps := 10^7) only [go_sem, seval, ↓gZ, hx, hlt, hw]
   refine ih (k + 1) _ (by omega) (by omega) ?_
   simp +contextual -implicitDefEqProofs (maxSteps := 10^7) only [go_sem, seval, ↓gZ]
  ·have : k = a.length := by omega
   subst this
   simp +contextual -implicitDefEqProofs (maxSteps := 10^7) only [go_sem, seval, ↓gZ]
theorem XR (sS : List Zc) (sO sD : List Zd) (sL sC : Int) (hs : JO (Zp.mk sS sO sD sL sC)) : Zh Xs Ms QK [(.d (.agg [.sl (sS.map Zc.enc), .sl (sO.map Zd.enc), .sl (sD.map Zd.enc), J sL, J sC])), (.d (.agg [.sl (sS.map Zc.enc), .sl (sO.map Zd.enc), .sl (sD.map Zd.enc), J sL, J sC]))] [] = some ((.d (.bool true)), []) := by
 obtain ⟨h1, h2, h3, h4⟩ := hs
 simp only at h1 h2 h3 h4
 have e1 := Zmw sS sS (by omega) (fun x hx => by have := (h2 x hx).1; omega)
 rw [decide_eq_true rfl] at e1
 have e2 := Zee sO (by omega)
 have e3 := Zee sD (by omega)
 refine Ze Xs Ms Jd Zpt (by show 2 ≤ _; decide) ?_
 simp +contextual -implicitDefEqProofs (maxSteps := 10^7) only [go_sem, seval, ↓gZ, Jd, e1, e2, e3]
theorem Zgb (l : List Zd) (h : ZaY l) : Zh Xs Ms Yz [(.d (.sl (l.map Zd.enc)))] [] = some ((.d (J (QD l))), []) := by
 have h8 := h.1
 have hb := h.2.2
 have hall := fun x hx => (QS h x hx).2.1
 refine Ze Xs Ms Zfw ZvT (by show 1 ≤ _; decide) ?_
 simp +contextual -implicitDefEqProofs (maxSteps := 10^7) only [go_sem, seval, ↓gZ, Zfw]
 refine ZE Xs Ms (st0 := ?st0) (α := Nat) (fun k => [(4, .d (J (k : Int))), (3, .d (J (QD (l.take k))))]) (fun _ => []) (fun k => k ≤ l.length) (fun k => l.length - k) 0 ?hc (by omega) ?h0 ?step
 case hc => simp +contextual -implicitDefEqProofs (maxSteps := 10^7) only [go_sem, seval, ↓gZ] <;> exact rfl
 case h0 => rfl
 case step =>
  intro k hk ih
  by_cases hlt : k < l.length
  ·obtain ⟨x, hx⟩ := Zw hlt
   have hw := Zm (k := k) (by omega)
   have ht := Zk5 hx
   have h1 := Zhm (i := k) hall
   have h2 := Zhm (i := k + 1) hall
   have h3 := Znj (l := l.take k) (fun y hy => hall y (List.mem_of_mem_take hy))
   have hx1 := hall x (List.mem_of_getElem? hx)
   obtain ⟨⟨W, H, T, K⟩, C⟩ := x
   simp only at ht hx1
   have u0 := wi (QD (l.take k) + C) (by omega) (by omega)
   simp +contextual -implicitDefEqProofs (maxSteps := 10^7) only [go_sem, seval, ↓gZ, hx, hlt, hw, u0]
   refine ih (k + 1) _ (by omega) (by omega) ?_
   simp +contextual -implicitDefEqProofs (maxSteps := 10^7) only [go_sem, seval, ↓gZ, ht]
  ·have : k = l.length := by omega
   subst this
   simp +contextual -implicitDefEqProofs (maxSteps := 10^7) only [go_sem, seval, ↓gZ, List.take_length]
theorem Zke (code : List UInt8) : Zh Xs Ms VE [.d (.sl (code.map JU))] [] = some ((.d (.bool true)), []) := by
 have nb : ∀ a b : Bool, Zhf .neq true (.d (.bool a)) (.d (.bool b)) = QB (.d (.bool (!(a == b)))) := fun _ _ => rfl
 have bb : ∀ a b : Bool, Zhf .eql true (.d (.bool a)) (.d (.bool b)) = QB (.d (.bool (a == b))) := fun _ _ => rfl
 by_cases hlen : (1048576 : Int) < code.length
 ·refine Ze Xs Ms Qi Ux (by show 1 ≤ _; decide) ?_
  simp +contextual -implicitDefEqProofs (maxSteps := 10^7) only [go_sem, seval, ↓gZ, Qi, hlen]
 ·obtain ⟨r, ed, S, O, D, L, C, f, g, h, K, Lb, X, Y, W, H, pW, pH, pT, pK, Ct, o, a, q, t, ks, hw, hK, rfl⟩ := U6 code
  have hsm := (Zka hw).1
  have e1 := JH S O D L C K Lb X Y W H pW pH pT pK Ct o a q t ks
  have e2 := ZbW S O D L C K Lb X Y W H pW pH pT pK Ct o a q t ks hsm (fun h => (hK h).1) (fun h => (hK h).2)
  cases ha : (if ZN (Zp.mk S O D L C) then QM (Zp.mk S O D L C) (ZS.mk K Lb (Box.mk X Y W H) (Zd.mk (Pane.mk pW pH pT pK) Ct) (Zg.mk o a q t ks)) else none) with
  | none =>
   rw [ha] at e1 e2
   unfold shV at e1 e2
   have e3 := XR [] [] [] 0 0 (YZ Zf8)
   simp only [List.map_nil] at e1 e2 e3
   refine Ze Xs Ms Qi Ux (by show 1 ≤ _; decide) ?_
   simp +contextual -implicitDefEqProofs (maxSteps := 10^7) only [go_sem, seval, ↓gZ, Qi, nb, bb, hlen, ed, e1, e2, e3]
  | some z =>
   have hv : ZN (Zp.mk S O D L C) := Classical.byContradiction fun hn => by rw [if_neg hn] at ha; cases ha
   have ha' := ha
   rw [if_pos hv] at ha'
   have hf := Zga hv ha'
   rw [ha] at e1 e2
   obtain ⟨zS, zO, zD, zL, zC⟩ := z
   have hz := hf.vs
   have e3 := XR zS zO zD zL zC (YZ hz)
   unfold shV at e1 e2
   simp only at e1 e2
   have e4 := Z5 zS zO zD zL zC
   rw [decide_eq_true hz] at e4
   have e5 := Zi1 zS zO zD zL zC
   have e6 := Zi1 S O D L C
   have s1 : shA (Zp.mk zS zO zD zL zC) = zC := by unfold shA; rw [if_pos hz]
   have s2 : shA (Zp.mk S O D L C) = C := by unfold shA; rw [if_pos hv]
   rw [s1] at e5
   rw [s2] at e6
   have hc := hf.came
   have hl := hf.lost
   have hb1 := hv.2.2.2
   have hb2 := hz.2.2.2
   simp only at hc hl hb1 hb2
   by_cases k0 : K = 0
   ·rw [if_pos k0] at hc
    obtain ⟨hr, _⟩ := hf.sheet k0
    have hp := hr.1.2.1
    simp only at hp
    have hwh := UX (b := ⟨0, 0, W, H⟩) (by simp only [VB]; omega)
    simp only at hwh
    have u0 := wi (W * H) (by omega) (by omega)
    have u1 := wi (C + W * H) (by omega) (by omega)
    subst hc
    subst k0
    refine Ze Xs Ms Qi Ux (by show 1 ≤ _; decide) ?_
    simp +contextual -implicitDefEqProofs (maxSteps := 10^7) only [go_sem, seval, ↓gZ, Qi, nb, bb, hlen, ed, e1, e2, e3, e4, e5, e6, u0, u1, hl]
   ·rw [if_neg k0] at hc
    have hc' : zC = C := by omega
    have u1 := wi C (by omega) (by omega)
    subst hc'
    refine Ze Xs Ms Qi Ux (by show 1 ≤ _; decide) ?_
    simp +contextual -implicitDefEqProofs (maxSteps := 10^7) only [go_sem, seval, ↓gZ, Qi, nb, bb, hlen, ed, e1, e2, e3, e4, e5, e6, k0, u1, hl, Int.add_zero]
theorem Zgc (code : List UInt8) : Zh Xs Ms XN [.d (.sl (code.map JU))] [] = some ((.d (.bool true)), []) := by
 have nb : ∀ a b : Bool, Zhf .neq true (.d (.bool a)) (.d (.bool b)) = QB (.d (.bool (!(a == b)))) := fun _ _ => rfl
 have bb : ∀ a b : Bool, Zhf .eql true (.d (.bool a)) (.d (.bool b)) = QB (.d (.bool (a == b))) := fun _ _ => rfl
 by_cases hlen : (1048576 : Int) < code.length
 ·refine Ze Xs Ms ZA QW (by show 1 ≤ _; decide) ?_
  simp +contextual -implicitDefEqProofs (maxSteps := 10^7) only [go_sem, seval, ↓gZ, ZA, hlen]
 ·obtain ⟨r, ed, S, O, D, L, C, f, g, h, K, Lb, X, Y, W, H, pW, pH, pT, pK, Ct, o, a, q, t, ks, hw, hK, rfl⟩ := U6 code
  have hsm := (Zka hw).1
  have e1 := JH S O D L C K Lb X Y W H pW pH pT pK Ct o a q t ks
  have e2 := ZbW S O D L C K Lb X Y W H pW pH pT pK Ct o a q t ks hsm (fun h => (hK h).1) (fun h => (hK h).2)
  cases ha : (if ZN (Zp.mk S O D L C) then QM (Zp.mk S O D L C) (ZS.mk K Lb (Box.mk X Y W H) (Zd.mk (Pane.mk pW pH pT pK) Ct) (Zg.mk o a q t ks)) else none) with
  | none =>
   rw [ha] at e1 e2
   unfold shV at e1 e2
   have e3 := XR [] [] [] 0 0 (YZ Zf8)
   simp only [List.map_nil] at e1 e2 e3
   refine Ze Xs Ms ZA QW (by show 1 ≤ _; decide) ?_
   simp +contextual -implicitDefEqProofs (maxSteps := 10^7) only [go_sem, seval, ↓gZ, ZA, nb, bb, hlen, ed, e1, e2, e3]
  | some z =>
   have hv : ZN (Zp.mk S O D L C) := Classical.byContradiction fun hn => by rw [if_neg hn] at ha; cases ha
   have ha' := ha
   rw [if_pos hv] at ha'
   have hf := Zga hv ha'
   rw [ha] at e1 e2
   obtain ⟨zS, zO, zD, zL, zC⟩ := z
   have hz := hf.vs
   have e3 := XR zS zO zD zL zC (YZ hz)
   unfold shV at e1 e2
   simp only at e1 e2
   have e4 := Zgb zO hz.2.1
   have e5 := Zgb zD hz.2.2.1
   have e6 := Zgb O hv.2.1
   have e7 := Zgb D hv.2.2.1
   have b4 := Zc6 (fun x hx => (QS hz.2.1 x hx).2)
   have b5 := Zc6 (fun x hx => (QS hz.2.2.1 x hx).2)
   have b6 := Zc6 (fun x hx => (QS hv.2.1 x hx).2)
   have b7 := Zc6 (fun x hx => (QS hv.2.2.1 x hx).2)
   have g4 := hz.2.1.2.2
   have g5 := hz.2.2.1.2.2
   have g6 := hv.2.1.2.2
   have g7 := hv.2.2.1.2.2
   have hc := hf.cnt
   have h4 := hf.lt
   have h3 := hf.gt
   have ho := hf.ord
   simp only at b4 b5 b6 b7 g4 g5 g6 g7 hc h3 h4 ho
   generalize QD zO = n1 at *
   generalize QD zD = n2 at *
   generalize QD O = m1 at *
   generalize QD D = m2 at *
   have u1 := wi (n1 + n2) (by omega) (by omega)
   have u2 := wi (m1 + m2) (by omega) (by omega)
   by_cases k2 : K = 2
   ·have hlv := (ho k2).2
    simp only at hlv
    rw [if_pos k2] at hc
    have u3 := wi (m1 + m2 + Ct) (by omega) (by omega)
    have x3 : ¬ m2 < n2 := fun h => by have := h3.1 h; omega
    have x4 : ¬ n2 < m2 := fun h => by have := h4.1 h; omega
    have d1 : ¬ (2 : Int) = 4 := by decide
    have d2 : ¬ (2 : Int) = 3 := by decide
    subst k2
    refine Ze Xs Ms ZA QW (by show 1 ≤ _; decide) ?_
    simp +contextual -implicitDefEqProofs (maxSteps := 10^7) only [go_sem, seval, ↓gZ, ZA, nb, bb, hlen, ed, e1, e2, e3, e4, e5, e6, e7, u1, u2, u3, hc, x3, x4, d1, d2]
   ·rw [if_neg k2, Int.add_zero] at hc
    by_cases k3 : K = 3
    ·have x3 := h3.2 k3
     have x4 : ¬ n2 < m2 := by omega
     have d1 : ¬ (3 : Int) = 4 := by decide
     subst k3
     refine Ze Xs Ms ZA QW (by show 1 ≤ _; decide) ?_
     simp +contextual -implicitDefEqProofs (maxSteps := 10^7) only [go_sem, seval, ↓gZ, ZA, nb, bb, hlen, ed, e1, e2, e3, e4, e5, e6, e7, u1, u2, hc, x3, x4, d1, Int.add_zero]
    ·have x3 : ¬ m2 < n2 := fun h => k3 (h3.1 h)
     by_cases k4 : K = 4
     ·have x4 := h4.2 k4
      subst k4
      refine Ze Xs Ms ZA QW (by show 1 ≤ _; decide) ?_
      simp +contextual -implicitDefEqProofs (maxSteps := 10^7) only [go_sem, seval, ↓gZ, ZA, nb, bb, hlen, ed, e1, e2, e3, e4, e5, e6, e7, u1, u2, hc, x3, x4, Int.add_zero]
     ·have x4 : ¬ n2 < m2 := fun h => k4 (h4.1 h)
      refine Ze Xs Ms ZA QW (by show 1 ≤ _; decide) ?_
      simp +contextual -implicitDefEqProofs (maxSteps := 10^7) only [go_sem, seval, ↓gZ, ZA, nb, bb, hlen, ed, e1, e2, e3, e4, e5, e6, e7, k2, k3, k4, u1, u2, hc, x3, x4, Int.add_zero]
theorem Zfv (code : List UInt8) : Zh Xs Ms Xp [.d (.sl (code.map JU))] [] = some ((.d (.bool true)), []) := by
 have nb : ∀ a b : Bool, Zhf .neq true (.d (.bool a)) (.d (.bool b)) = QB (.d (.bool (!(a == b)))) := fun _ _ => rfl
 have bb : ∀ a b : Bool, Zhf .eql true (.d (.bool a)) (.d (.bool b)) = QB (.d (.bool (a == b))) := fun _ _ => rfl
 by_cases hlen : (1048576 : Int) < code.length
 ·refine Ze Xs Ms ZR Yq (by show 1 ≤ _; decide) ?_
  simp +contextual -implicitDefEqProofs (maxSteps := 10^7) only [go_sem, seval, ↓gZ, ZR, hlen]
 ·obtain ⟨r, ed, S, O, D, L, C, f, g, h, K, Lb, X, Y, W, H, pW, pH, pT, pK, Ct, o, a, q, t, ks, hw, hK, rfl⟩ := U6 code
  have hsm := (Zka hw).1
  have e1 := JH S O D L C K Lb X Y W H pW pH pT pK Ct o a q t ks
  have e2 := ZbW S O D L C K Lb X Y W H pW pH pT pK Ct o a q t ks hsm (fun h => (hK h).1) (fun h => (hK h).2)
  cases ha : (if ZN (Zp.mk S O D L C) then QM (Zp.mk S O D L C) (ZS.mk K Lb (Box.mk X Y W H) (Zd.mk (Pane.mk pW pH pT pK) Ct) (Zg.mk o a q t ks)) else none) with
  | none =>
   rw [ha] at e1 e2
   unfold shV at e1 e2
   have e3 := XR [] [] [] 0 0 (YZ Zf8)
   simp only [List.map_nil] at e1 e2 e3
   refine Ze Xs Ms ZR Yq (by show 1 ≤ _; decide) ?_
   simp +contextual -implicitDefEqProofs (maxSteps := 10^7) only [go_sem, seval, ↓gZ, ZR, nb, bb, hlen, ed, e1, e2, e3]
  | some z =>
   have hv : ZN (Zp.mk S O D L C) := Classical.byContradiction fun hn => by rw [if_neg hn] at ha; cases ha
   have ha' := ha
   rw [if_pos hv] at ha'
   have hf := Zga hv ha'
   rw [ha] at e1 e2
   obtain ⟨zS, zO, zD, zL, zC⟩ := z
   have hz := hf.vs
   have e3 := XR zS zO zD zL zC (YZ hz)
   unfold shV at e1 e2
   simp only at e1 e2
   by_cases k0 : K = 0
   ·have e4 := JH zS zO zD zL zC 5 Lb 0 0 0 0 0 0 false 0 0 0 0 0 false []
    rw [if_pos hz] at e4
    have hun := ZvR hv ha' k0 ⟨0, 0, 0, 0⟩ ⟨⟨0, 0, false, 0⟩, 0⟩ (.mk 0 0 0 false [])
    simp only at hun
    rw [hun] at e4
    have hzz := Zjp hun
    have e5 := XR S O D (L + W * H) (C + W * H) (YZ hzz)
    have hb1 := hzz.2.2.2
    simp only at hb1
    unfold shV at e4
    simp only [List.map_nil] at e4
    obtain ⟨hr, _⟩ := hf.sheet k0
    have hp := hr.1.2.1
    simp only at hp
    have hwh := UX (b := ⟨0, 0, W, H⟩) (by simp only [VB]; omega)
    simp only at hwh
    have u0 := wi (W * H) (by omega) (by omega)
    have u1 := wi (C + W * H) (by omega) (by omega)
    have u2 := wi (L + W * H) (by omega) (by omega)
    subst k0
    refine Ze Xs Ms ZR Yq (by show 1 ≤ _; decide) ?_
    simp +contextual -implicitDefEqProofs (maxSteps := 10^7) only [go_sem, seval, ↓gZ, ZR, nb, bb, hlen, ed, e1, e2, e3, e4, e5, u0, u1, u2]
   ·refine Ze Xs Ms ZR Yq (by show 1 ≤ _; decide) ?_
    simp +contextual -implicitDefEqProofs (maxSteps := 10^7) only [go_sem, seval, ↓gZ, ZR, nb, bb, hlen, ed, e1, e2, e3, k0]
end Go.Proofs.YtpobhkoombldlaaGreat
