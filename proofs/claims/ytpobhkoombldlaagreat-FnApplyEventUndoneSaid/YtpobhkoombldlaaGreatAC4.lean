/- Contracts of the functions, by the abstract semantics. -/
import Derived.Test.YtpobhkoombldlaaGreatACode
import Derived.Test.YtpobhkoombldlaaGreatAbsParts
import Derived.Test.YtpobhkoombldlaaGreatAC3
namespace Go.Proofs.YtpobhkoombldlaaGreat
open Go Go.Abs Go.Abs.E Go.Abs.L
open Nat (reduceMul reduceSub reduceLeDiff reduceEqDiff)
open Int (reduceLE reduceEq reduceToNat reduceNeg)
set_option linter.unusedSimpArgs false
set_option linter.unusedVariables false
set_option maxRecDepth 20000
set_option maxHeartbeats 4000000
def WV : List Pane → List Int → List Zd → List Zd → Option (List Zd × List Zd)
 | p :: ps, c :: us, o, d => if c = 0 then WV ps us o d else if Xn p c false o = true then WV ps us (X6 o p c) (YB p c d) else none
 | [], _, o, d => some (o, d)
 | _, [], o, d => some (o, d)
theorem Zjo {ps : List Pane} {us : List Int} {o d : List Zd} {k : Nat} {p : Pane} {c : Int} (hp : ps[k]? = some p) (hu : us[k]? = some c) : WV (ps.drop k) (us.drop k) o d = if c = 0 then WV (ps.drop (k + 1)) (us.drop (k + 1)) o d else if Xn p c false o = true then WV (ps.drop (k + 1)) (us.drop (k + 1)) (X6 o p c) (YB p c d) else none := by
 obtain ⟨h1, h2⟩ := List.getElem?_eq_some_iff.1 hp
 obtain ⟨h3, h4⟩ := List.getElem?_eq_some_iff.1 hu
 rw [List.drop_eq_getElem_cons h1, h2, List.drop_eq_getElem_cons h3, h4, WV]
theorem Zqb {ps : List Pane} {us : List Int} {o d : List Zd} : WV (ps.drop ps.length) us o d = some (o, d) := by
 rw [List.drop_length]; unfold WV; rfl
theorem Zk8 {l : List Zd} {p : Pane} {c hi : Int} (hc : 0 ≤ c) (h : ∀ x ∈ l, x.Count ≤ hi) : ∀ y ∈ X6 l p c, 0 ≤ y.Count ∧ y.Count ≤ hi := fun y hy => by
 obtain ⟨x, hx, e⟩ := List.mem_filterMap.1 hy
 have := h x hx
 unfold Zhn at e
 split at e
 ·split at e
  ·cases e; simp only; omega
  ·cases e
 ·split at e
  ·cases e; omega
  ·cases e
theorem Zj8 {p : Pane} {c hi : Int} (hc : 0 ≤ c) (hh : 0 ≤ hi) : ∀ {l : List Zd}, (∀ x ∈ l, 0 ≤ x.Count ∧ x.Count ≤ hi) → ∀ y ∈ YB p c l, 0 ≤ y.Count ∧ y.Count ≤ hi + c
 | [], h, y, hy => by simp [YB] at hy; subst hy; simp only; omega
 | x :: l, h, y, hy => by
  have h1 := h x (by simp)
  unfold YB at hy
  split at hy
  ·rcases List.mem_cons.1 hy with rfl | hy
   ·simp only; omega
   ·have := h y (by simp [hy]); omega
  ·rcases List.mem_cons.1 hy with rfl | hy
   ·omega
   ·exact Zj8 hc hh (fun z hz => h z (by simp [hz])) y hy
def Zpm (p : Zg) : Bool := match YR p with
 | some b => Zjn b
 | none => false
def Zfq (s : Zp) (e : ZS) : Option Zp :=
 match s.Stock[(QC 0 s.Stock e.label).toNat]? with
 | none => none
 | some x => match Zc5 s.Stock e.label ⟨x.W, x.H, s.Opn.map Zd.Pane⟩ e.plan 5 with
  | none => none
  | some R => if Zpm e.plan = true then
    match WV (s.Opn.map Zd.Pane) (Zed ⟨x.W, x.H, s.Opn.map Zd.Pane⟩ e.plan) s.Opn s.Done with
    | none => none
    | some (o, d) => some ⟨R, o, d, s.Lost + Ym (Zer ⟨x.W, x.H, s.Opn.map Zd.Pane⟩ e.plan 5), s.Came⟩
   else none
def shV : Option Zp → AV × List Zr
 | some s => (.tup [.agg [.own 0, .own 1, .own 2, (.d (J (s.Lost))), (.d (J (s.Came)))], (.d (.bool true))], [.row 4 (s.Stock.map Zc.enc) true false, .row 5 (s.Opn.map Zd.enc) true false, .row 5 (s.Done.map Zd.enc) true false])
 | none => (.tup [.agg [.own 0, .own 1, .own 2, (.d (J 0)), (.d (J 0))], (.d (.bool false))], [.row 4 [] true false, .row 5 [] true false, .row 5 [] true false])
theorem Zqc {l : List Zc} {n : Int} {k : ZJ} {p : Zg} {least : Int} (h : QC 0 l n < 0) : Zc5 l n k p least = none := by
 unfold Zc5
 rw [if_neg (fun h' => by omega)]
theorem Zj9 {l : List Zc} {n : Int} {k : ZJ} {p : Zg} {least : Int} {R : List Zc} (h : Zc5 l n k p least = some R) : V5 k p = true ∧ VSt R ∧ VSt l := by
 unfold Zc5 at h
 split at h
 ·rename_i hc
  split at h
  ·rename_i x hx
   split at h
   ·rename_i hg
    cases h
    exact ⟨hg.1.1, hg.2, hc.1⟩
   ·cases h
  ·cases h
 ·cases h
def WSh (s : Zp) : Prop := VSt s.Stock ∧ s.Opn.length ≤ 9 ∧ (∀ x ∈ s.Opn, VP x.Pane ∧ 0 ≤ x.Count ∧ x.Count ≤ 24) ∧ ZaY s.Done ∧ -1 ≤ s.Lost ∧ s.Lost ≤ 900001 ∧ -1 ≤ s.Came ∧ s.Came ≤ 900001
theorem Zq9 {s : Zp} (h : ZN s) : WSh s := ⟨h.1, by have := h.2.1.1; omega, fun x hx => by have := QS h.2.1 x hx; exact ⟨this.1, by omega, this.2.2⟩, h.2.2.1, by have := h.2.2.2; omega, by have := h.2.2.2; omega, by have := h.2.2.2; omega, by have := h.2.2.2; omega⟩
theorem Zka {s : Zp} (h : WSh s) : SmS s := by
 obtain ⟨h1, h2, _, h3, h4, h5, h6, h7⟩ := h
 exact ⟨⟨by have := h1.1; omega, fun x hx => ⟨(ZcS h1).2 x hx, Zj4 (Qe h1.2 x hx)⟩, by omega, by have := h3.1; omega⟩, by have := h1.1; omega, by omega, by omega, by omega, by omega⟩
theorem Zpn (sS : List Zc) (sO sD : List Zd) (sL sC : Int) (eK eL eX eY eW eH epW epH : Int) (epT : Bool) (epK eC eo ea ep : Int) (et : Bool) (ek : List Zg) (hv : WSh (Zp.mk sS sO sD sL sC)) : Zh Xs Ms UG [(.d (.agg [.sl (sS.map Zc.enc), .sl (sO.map Zd.enc), .sl (sD.map Zd.enc), J sL, J sC])), (.d (.agg [J eK, J eL, J eX, J eY, J eW, J eH, J epW, J epH, .bool epT, J epK, J eC, J eo, J ea, J ep, .bool et, .sl (ek.map Zg.enc)]))] [] = some (shV (Zfq (Zp.mk sS sO sD sL sC) (ZS.mk eK eL (Box.mk eX eY eW eH) (Zd.mk (Pane.mk epW epH epT epK) eC) (Zg.mk eo ea ep et ek)))) := by
 obtain ⟨⟨h1, h2, h3, h4⟩, h5, h6, h7, h8, h9⟩ := Zka hv
 simp only at h1 h2 h3 h4 h5 h6 h7 h8 h9
 have hO9 := hv.2.1
 have hO := hv.2.2.1
 have hD := hv.2.2.2.1
 simp only at hO hD hO9
 have hD8 := hD.1
 have e1 := YA sS eL (by omega)
 by_cases hf : QC 0 sS eL < 0
 ·have ec : Zfq (Zp.mk sS sO sD sL sC) (ZS.mk eK eL (Box.mk eX eY eW eH) (Zd.mk (Pane.mk epW epH epT epK) eC) (Zg.mk eo ea ep et ek)) = none := by
   unfold Zfq
   simp only
   split
   ·rfl
   ·rw [Zqc hf]
  rw [ec]
  unfold shV
  refine Ze Xs Ms XB ZcF (by show 2 ≤ _; decide) ?_
  simp +contextual -implicitDefEqProofs (maxSteps := 10^7) only [go_sem, seval, ↓gZ, XB, e1, hf]
 ·obtain ⟨a, x, ha, hx⟩ := ZbG (by omega : 0 ≤ QC 0 sS eL)
  rw [ha] at e1
  have ha0 : ¬ (a : Int) < 0 := by omega
  have hlt := (List.getElem?_eq_some_iff.1 hx).1
  have e3 := Zph sS eL x.W x.H (sO.map Zd.Pane) (.mk eo ea ep et ek) 5 (by have := hv.1.1; simp only at this; omega) (fun y hy => by
   have := Qe hv.1.2 y hy
   exact ⟨this.1.2.2.2.2.2.2, Zj4 this⟩) (by simp; omega)
  have ecs : Zfq (Zp.mk sS sO sD sL sC) (ZS.mk eK eL (Box.mk eX eY eW eH) (Zd.mk (Pane.mk epW epH epT epK) eC) (Zg.mk eo ea ep et ek)) = match Zc5 sS eL ⟨x.W, x.H, sO.map Zd.Pane⟩ (.mk eo ea ep et ek) 5 with
   | none => none
   | some R => if Zpm (.mk eo ea ep et ek) = true then
     match WV (sO.map Zd.Pane) (Zed ⟨x.W, x.H, sO.map Zd.Pane⟩ (.mk eo ea ep et ek)) sO sD with
     | none => none
     | some (o, d) => some ⟨R, o, d, sL + Ym (Zer ⟨x.W, x.H, sO.map Zd.Pane⟩ (.mk eo ea ep et ek) 5), sC⟩
    else none := by
   unfold Zfq
   simp only [ha, Int.toNat_natCast, hx]
  rw [ecs]
  clear ecs
  obtain ⟨xL, xW, xH, xF⟩ := x
  simp only at e3 ⊢
  have e2 := Zss sS sO sD sL sC a xL xW xH xF hx h3 h1
  cases hcs : Zc5 sS eL ⟨xW, xH, sO.map Zd.Pane⟩ (.mk eo ea ep et ek) 5 with
  | none =>
   rw [hcs] at e3
   unfold Zg9 at e3
   simp only
   unfold shV
   rw [Zg.enc_mk] at e3
   refine Ze Xs Ms XB ZcF (by show 2 ≤ _; decide) ?_
   simp +contextual -implicitDefEqProofs (maxSteps := 10^7) only [go_sem, seval, ↓gZ, XB, e1, ha0, e2, e3]
  | some R =>
   obtain ⟨hvp, hvR, _⟩ := Zj9 hcs
   rw [hcs] at e3
   unfold Zg9 at e3
   simp only
   obtain ⟨b, hb, hpb, hvw, hcnt, hfit, hpt⟩ := XT hvp
   have e4 := Zf7 b
   rw [← hpb] at e4
   have hh : Zpm (.mk eo ea ep et ek) = Zjn b := by unfold Zpm; rw [hb]
   rw [hh]
   have e5 := Zpl xW xH (sO.map Zd.Pane) (.mk eo ea ep et ek) 5 hvp (by omega) (by omega)
   have e6 := Zst xW xH (sO.map Zd.Pane) (.mk eo ea ep et ek) hvp
   have hu := Zhr hvp
   have hla := ZfV (l := Zer ⟨xW, xH, sO.map Zd.Pane⟩ (.mk eo ea ep et ek) 5) (fun c hc => by
    obtain ⟨z, hz, hzc⟩ := List.mem_filterMap.1 hc
    unfold JB at hzc
    split at hzc
    ·cases hzc; exact Zc0 hvp c hz
    ·cases hzc)
   have hll : (Zer ⟨xW, xH, sO.map Zd.Pane⟩ (.mk eo ea ep et ek) 5).length ≤ 255 := by
    refine Nat.le_trans (List.length_filterMap_le _ _) (Nat.le_trans (List.length_filterMap_le _ _) ?_)
    rw [hpt, ZaP]; exact hcnt
   generalize Ym (Zer ⟨xW, xH, sO.map Zd.Pane⟩ (.mk eo ea ep et ek) 5) = A at e5 hla ⊢
   generalize Zed ⟨xW, xH, sO.map Zd.Pane⟩ (.mk eo ea ep et ek) = us at e6 hu ⊢
   rw [Zg.enc_mk] at e3 e4 e5 e6
   simp only [List.length_map] at hu
   have u1 := wi (sL + A) (by omega) (by omega)
   have r1 : sO.length * 40 ≤ 140737488355328 ∧ sO.length ≤ 140737488355328 := by omega
   have r2 : sD.length * 40 ≤ 140737488355328 ∧ sD.length ≤ 140737488355328 := by omega
   cases hhb : Zjn b with
   | false =>
    rw [hhb] at e4
    rw [if_neg (by simp)]
    unfold shV
    refine Ze Xs Ms XB ZcF (by show 2 ≤ _; decide) ?_
    simp +contextual -implicitDefEqProofs (maxSteps := 10^7) only [go_sem, seval, ↓gZ, XB, e1, ha0, e2, e3, e4]
   | true =>
    rw [hhb] at e4
    rw [if_pos rfl]
    refine Ze Xs Ms XB ZcF (by show 2 ≤ _; decide) ?_
    simp +contextual -implicitDefEqProofs (maxSteps := 10^7) only [go_sem, seval, ↓gZ, XB, ZoL, e1, ha0, e2, e3, e4, e5, e6, u1, r1, r2]
    refine ZE Xs Ms (st0 := ?st0) (α := Nat × List Zd × List Zd) (fun s => [(12, .d (J (s.1 : Int)))]) (fun s => [(5, .row 5 (s.2.1.map Zd.enc) true false), (6, .row 5 (s.2.2.map Zd.enc) true false)]) (fun s => s.1 ≤ us.length ∧ WV ((sO.map Zd.Pane).drop s.1) (us.drop s.1) s.2.1 s.2.2 = WV (sO.map Zd.Pane) us sO sD ∧ s.2.1.length ≤ 9 ∧ s.2.2.length ≤ 8 + s.1 ∧ (∀ x ∈ s.2.1, 0 ≤ x.Count ∧ x.Count ≤ 24) ∧ (∀ x ∈ s.2.2, 0 ≤ x.Count ∧ x.Count ≤ 24 + 255 * (s.1 : Int))) (fun s => us.length - s.1) (0, sO, sD) ?hc ⟨by simp, by simp, hO9, by simp only; omega, fun x hx => by have := hO x hx; omega, fun x hx => by have := QS hD x hx; simp only; omega⟩ ?h0 ?step
    case hc => simp +contextual -implicitDefEqProofs (maxSteps := 10^7) only [go_sem, seval, ↓gZ] <;> exact rfl
    case h0 => rfl
    case step =>
     intro ⟨i, o, d⟩ ⟨hi, hp, ho8, hd8, hoc, hdc⟩ ih
     simp only at hi hp ho8 hd8 hoc hdc
     by_cases hil : i < us.length
     ·obtain ⟨c, hc⟩ := Zw hil
      have hiO : i < sO.length := by omega
      obtain ⟨y, hy⟩ := Zw hiO
      have hw := Zm (k := i) (by omega)
      have hcb := hu.2 c (List.mem_of_getElem? hc)
      have hpy : (sO.map Zd.Pane)[i]? = some y.Pane := by rw [List.getElem?_map, hy]; rfl
      rw [Zjo hpy hc] at hp
      obtain ⟨⟨W, H, T, K⟩, C⟩ := y
      simp only at hp hpy
      by_cases hc0 : c = 0
      ·rw [if_pos hc0] at hp
       simp +contextual -implicitDefEqProofs (maxSteps := 10^7) only [go_sem, seval, ↓gZ, hil, hc, hc0, hw]
       refine ih (i + 1, o, d) _ ⟨by simp only; omega, hp, ho8, by simp only; omega, hoc, fun x hx => by have := hdc x hx; simp only; omega⟩ (by simp only; omega) ?_
       simp +contextual -implicitDefEqProofs (maxSteps := 10^7) only [go_sem, seval, ↓gZ]
      ·rw [if_neg hc0] at hp
       have et := Zhq o W H T K c (by omega) (fun x hx => by have := hoc x hx; unfold R64; omega)
       have ea := Zex d W H T K c (by omega) (fun x hx => by have := hdc x hx; unfold R64; omega)
       by_cases hto : Xn ⟨W, H, T, K⟩ c false o = true
       ·rw [if_pos hto] at hp
        rw [hto] at et
        simp +contextual -implicitDefEqProofs (maxSteps := 10^7) only [go_sem, seval, ↓gZ, hil, hc, hc0, hw, hiO, hy, hpy, et, ea]
        refine ih (i + 1, X6 o ⟨W, H, T, K⟩ c, YB ⟨W, H, T, K⟩ c d) _ ⟨by simp only; omega, hp, Nat.le_trans (List.length_filterMap_le _ _) ho8, Nat.le_trans (Zc7 _ _ _) (by simp only; omega), Zk8 hcb.1 (fun x hx => (hoc x hx).2), fun x hx => ?_⟩ (by simp only; omega) ?_
        ·have := Zj8 hcb.1 (by omega) hdc x hx
         simp only
         omega
        ·simp +contextual -implicitDefEqProofs (maxSteps := 10^7) only [go_sem, seval, ↓gZ]
       ·rw [if_neg hto] at hp
        simp only [Bool.not_eq_true] at hto
        rw [hto] at et
        simp +contextual -implicitDefEqProofs (maxSteps := 10^7) only [go_sem, seval, ↓gZ, hil, hc, hc0, hw, hiO, hy, hpy, et, ea]
        rw [← hp]
        rfl
     ·have : i = sO.length := by omega
      subst this
      have hce := @Zqb (sO.map Zd.Pane) (us.drop sO.length) o d
      rw [List.length_map] at hce
      rw [hce] at hp
      rw [← hp]
      simp +contextual -implicitDefEqProofs (maxSteps := 10^7) only [go_sem, seval, ↓gZ, hil]
      rfl
def Zsu (l : List Zc) (n : Int) : Option (Nat × Zc) := if 0 ≤ QC 0 l n then (l[(QC 0 l n).toNat]?).map (fun x => ((QC 0 l n).toNat, x)) else none
theorem Zfr {l : List Zc} {n : Int} (h : QC 0 l n < 0) : Zsu l n = none := by unfold Zsu; rw [if_neg (by omega)]
theorem ZcU {l : List Zc} {n : Int} {a : Nat} {x : Zc} (h : QC 0 l n = (a : Int)) (hx : l[a]? = some x) : Zsu l n = some (a, x) := by
 unfold Zsu
 rw [h, if_pos (by omega), Int.toNat_natCast, hx]; rfl
def evS (s : Zp) (e : ZS) : Option Zp :=
 if e.kind = 0 then (if (WP ⟨e.label, e.box.W, e.box.H, []⟩ s.Stock ∧ e.box.X = 0) ∧ e.box.Y = 0 then some { s with Stock := Qf ⟨e.label, e.box.W, e.box.H, []⟩ s.Stock, Came := s.Came + e.box.W * e.box.H } else none)
 else if e.kind = 1 then (match Zsu s.Stock e.label with
  | none => none
  | some (a, q) => if WP { q with Flaws := q.Flaws ++ [e.box] } (s.Stock.eraseIdx a) then some { s with Stock := Qf { q with Flaws := q.Flaws ++ [e.box] } (s.Stock.eraseIdx a) } else none)
 else if e.kind = 5 then (match Zsu s.Stock e.label with
  | none => none
  | some (a, q) => some { s with Stock := s.Stock.eraseIdx a, Lost := s.Lost + q.W * q.H })
 else if e.kind = 2 then (if Wt e.line then some { s with Opn := YB e.line.Pane e.line.Count s.Opn } else none)
 else if e.kind = 4 then (if Wt e.line ∧ Xn e.line.Pane e.line.Count false s.Done = true then some { s with Opn := YB e.line.Pane e.line.Count s.Opn, Done := X6 s.Done e.line.Pane e.line.Count, Lost := s.Lost + e.line.Count * e.line.Pane.W * e.line.Pane.H } else none)
 else if e.kind = 3 then Zfq s e
 else none
def Y0 (t : Option Zp) : Option Zp := match t with
 | some t => if ZN t then some t else none
 | none => none
def QM (s : Zp) (e : ZS) : Option Zp := Y0 (evS s e)
theorem Zjp {s t : Zp} {e : ZS} (h : QM s e = some t) : ZN t := by
 unfold QM Y0 at h
 split at h
 ·split at h
  ·cases h; assumption
  ·cases h
 ·cases h
theorem Zfs {s t : Zp} (h : JO s) (ho : t.Opn.length ≤ 1000000) (hd : t.Done.length ≤ 1000000) (hs : VSt t.Stock) : JO t :=
 ⟨by have := hs.1; omega, fun x hx => ⟨(ZcS hs).2 x hx, Zj4 (Qe hs.2 x hx)⟩, ho, hd⟩
theorem ZyS {s t : Zp} {e : ZS} (hv : WSh s) (h : Zfq s e = some t) : VSt t.Stock ∧ t.Opn.length ≤ 9 ∧ t.Done.length ≤ 1000000 := by
 have hgo : ∀ (ps : List Pane) (us : List Int) (o d o' d' : List Zd), WV ps us o d = some (o', d') → o'.length ≤ o.length ∧ d'.length ≤ d.length + ps.length := by
  intro ps
  induction ps with
  | nil => intro us o d o' d' h; unfold WV at h; cases h; simp
  | cons p ps ih =>
   intro us o d o' d' h
   cases us with
   | nil => unfold WV at h; cases h; simp
   | cons c us =>
    rw [WV] at h
    split at h
    ·have := ih _ _ _ _ _ h; simp; omega
    ·split at h
     ·have := ih _ _ _ _ _ h
      have h2 := List.length_filterMap_le (Zhn p c) o
      have h3 := Zc7 p c d
      unfold X6 at this
      simp; omega
     ·cases h
 unfold Zfq at h
 split at h
 ·cases h
 ·split at h
  ·cases h
  ·rename_i R hR
   obtain ⟨_, hvR, _⟩ := Zj9 hR
   split at h
   ·split at h
    ·cases h
    ·rename_i o d hg
     cases h
     have := hgo _ _ _ _ _ _ hg
     have h8 := hv.2.1
     have h9 := hv.2.2.2.1.1
     rw [List.length_map] at this
     exact ⟨hvR, by simp only; omega, by simp only; omega⟩
   ·cases h
theorem Za7 (sS : List Zc) (sO sD : List Zd) (sL sC : Int) (eK eL eX eY eW eH epW epH : Int) (epT : Bool) (epK eC eo ea ep : Int) (et : Bool) (ek : List Zg) (hv : WSh (Zp.mk sS sO sD sL sC)) (k3 : eK = 3) : Zh Xs Ms Xq [(.d (.agg [.sl (sS.map Zc.enc), .sl (sO.map Zd.enc), .sl (sD.map Zd.enc), J sL, J sC])), (.d (.agg [J eK, J eL, J eX, J eY, J eW, J eH, J epW, J epH, .bool epT, J epK, J eC, J eo, J ea, J ep, .bool et, .sl (ek.map Zg.enc)]))] [] = some (shV (QM (Zp.mk sS sO sD sL sC) (ZS.mk eK eL (Box.mk eX eY eW eH) (Zd.mk (Pane.mk epW epH epT epK) eC) (Zg.mk eo ea ep et ek)))) := by
 have hsm := (Zka hv).1
 have hpe := Zpn sS sO sD sL sC eK eL eX eY eW eH epW epH epT epK eC eo ea ep et ek hv
 subst k3
 have ee : QM (Zp.mk sS sO sD sL sC) (ZS.mk 3 eL ⟨eX, eY, eW, eH⟩ ⟨⟨epW, epH, epT, epK⟩, eC⟩ (.mk eo ea ep et ek)) = Y0 (Zfq (Zp.mk sS sO sD sL sC) (ZS.mk 3 eL ⟨eX, eY, eW, eH⟩ ⟨⟨epW, epH, epT, epK⟩, eC⟩ (.mk eo ea ep et ek))) := by
  unfold QM evS
  simp
 rw [ee]
 have hcsm := fun t => ZyS (t := t) (e := ZS.mk 3 eL ⟨eX, eY, eW, eH⟩ ⟨⟨epW, epH, epT, epK⟩, eC⟩ (.mk eo ea ep et ek)) hv
 cases hc : Zfq (Zp.mk sS sO sD sL sC) (ZS.mk 3 eL ⟨eX, eY, eW, eH⟩ ⟨⟨epW, epH, epT, epK⟩, eC⟩ (.mk eo ea ep et ek)) with
 | none =>
  rw [hc] at hpe
  unfold Y0 shV at *
  simp only
  refine Ze Xs Ms Zk ZQ (by show 2 ≤ _; decide) ?_
  simp +contextual -implicitDefEqProofs (maxSteps := 10^7) only [go_sem, seval, ↓gZ, Zk, hpe]
 | some t =>
  obtain ⟨g1, g2, g3⟩ := hcsm t hc
  rw [hc] at hpe
  have hst : JO t := Zfs hsm (by omega) g3 g1
  obtain ⟨tS, tO, tD, tL, tC⟩ := t
  have e1 := YC _ _ _ _ _ hst
  have e2 := WB _ _ _ _ _ hst
  unfold Y0
  unfold shV at hpe
  simp only at hpe
  by_cases hvt : ZN (Zp.mk tS tO tD tL tC)
  ·rw [decide_eq_true hvt] at e1
   simp only [if_pos hvt]
   unfold shV
   refine Ze Xs Ms Zk ZQ (by show 2 ≤ _; decide) ?_
   simp +contextual -implicitDefEqProofs (maxSteps := 10^7) only [go_sem, seval, ↓gZ, Zk, hpe, e1, e2]
  ·rw [decide_eq_false hvt] at e1
   simp only [if_neg hvt]
   unfold shV
   refine Ze Xs Ms Zk ZQ (by show 2 ≤ _; decide) ?_
   simp +contextual -implicitDefEqProofs (maxSteps := 10^7) only [go_sem, seval, ↓gZ, Zk, hpe, e1]
theorem Zg3 (sS : List Zc) (sO sD : List Zd) (sL sC : Int) (eK eL eX eY eW eH epW epH : Int) (epT : Bool) (epK eC eo ea ep : Int) (et : Bool) (ek : List Zg) (hv : ZN (Zp.mk sS sO sD sL sC)) (hW : eK = 0 → I5 eW) (hH : eK = 0 → I5 eH) : Zh Xs Ms Xq [(.d (.agg [.sl (sS.map Zc.enc), .sl (sO.map Zd.enc), .sl (sD.map Zd.enc), J sL, J sC])), (.d (.agg [J eK, J eL, J eX, J eY, J eW, J eH, J epW, J epH, .bool epT, J epK, J eC, J eo, J ea, J ep, .bool et, .sl (ek.map Zg.enc)]))] [] = some (shV (QM (Zp.mk sS sO sD sL sC) (ZS.mk eK eL (Box.mk eX eY eW eH) (Zd.mk (Pane.mk epW epH epT epK) eC) (Zg.mk eo ea ep et ek)))) := by
 have hS := Zk7 hv
 have hsm := hS.1
 have hO8 := hv.2.1.1
 have hD8 := hv.2.2.1.1
 simp only at hO8 hD8
 by_cases k0 : eK = 0
 ·have hpe := Zjl sS sO sD sL sC eK eL eX eY eW eH epW epH epT epK eC eo ea ep et ek hS k0 (hW k0) (hH k0)
  rw [k0] at hpe
  by_cases hr : (WP ⟨eL, eW, eH, []⟩ sS ∧ eX = 0) ∧ eY = 0
  ·have ee : QM (Zp.mk sS sO sD sL sC) (ZS.mk eK eL (Box.mk eX eY eW eH) (Zd.mk (Pane.mk epW epH epT epK) eC) (Zg.mk eo ea ep et ek)) = Y0 (some (Zp.mk (Qf ⟨eL, eW, eH, []⟩ sS) sO sD sL (sC + eW * eH))) := by unfold QM evS; simp only [k0, hr, if_true, and_self]
   rw [ee]
   rw [decide_eq_true hr, if_pos hr.1.1] at hpe
   have hst : JO (Zp.mk (Qf ⟨eL, eW, eH, []⟩ sS) sO sD sL (sC + eW * eH)) := Zfs hsm (by simp only; omega) (by simp only; omega) hr.1.1.2
   have e1 := YC _ _ _ _ _ hst
   have e2 := WB _ _ _ _ _ hst
   unfold Y0
   generalize Qf ⟨eL, eW, eH, []⟩ sS = Q at hpe e1 e2 ⊢
   by_cases hvt : ZN (Zp.mk Q sO sD sL (sC + eW * eH))
   ·rw [decide_eq_true hvt] at e1
    simp only [if_pos hvt]
    unfold shV
    refine Ze Xs Ms Zk ZQ (by show 2 ≤ _; decide) ?_
    simp +contextual -implicitDefEqProofs (maxSteps := 10^7) only [go_sem, seval, ↓gZ, Zk, k0, hpe, e1, e2]
   ·rw [decide_eq_false hvt] at e1
    simp only [if_neg hvt]
    unfold shV
    refine Ze Xs Ms Zk ZQ (by show 2 ≤ _; decide) ?_
    simp +contextual -implicitDefEqProofs (maxSteps := 10^7) only [go_sem, seval, ↓gZ, Zk, k0, hpe, e1]
  ·have ee : QM (Zp.mk sS sO sD sL sC) (ZS.mk eK eL (Box.mk eX eY eW eH) (Zd.mk (Pane.mk epW epH epT epK) eC) (Zg.mk eo ea ep et ek)) = none := by unfold QM evS; simp only [k0, if_true]; rw [if_neg hr]; rfl
   rw [ee]
   rw [decide_eq_false hr] at hpe
   unfold shV
   refine Ze Xs Ms Zk ZQ (by show 2 ≤ _; decide) ?_
   simp +contextual -implicitDefEqProofs (maxSteps := 10^7) only [go_sem, seval, ↓gZ, Zk, k0, hpe]
 ·by_cases k15 : eK = 1 ∨ eK = 5
  ·by_cases hf : QC 0 sS eL < 0
   ·have hpe := Zmz sS sO sD sL sC eK eL eX eY eW eH epW epH epT epK eC eo ea ep et ek hS k0 hf
    have ee : QM (Zp.mk sS sO sD sL sC) (ZS.mk eK eL (Box.mk eX eY eW eH) (Zd.mk (Pane.mk epW epH epT epK) eC) (Zg.mk eo ea ep et ek)) = none := by
     unfold QM evS
     rcases k15 with k1 | k1 <;> simp [k1, Zfr hf, Y0]
    rw [ee]
    unfold shV
    refine Ze Xs Ms Zk ZQ (by show 2 ≤ _; decide) ?_
    rcases k15 with k1 | k1
    ·rw [k1] at hpe
     simp +contextual -implicitDefEqProofs (maxSteps := 10^7) only [go_sem, seval, ↓gZ, Zk, k1, hpe]
    ·rw [k1] at hpe
     simp +contextual -implicitDefEqProofs (maxSteps := 10^7) only [go_sem, seval, ↓gZ, Zk, k1, hpe]
   ·obtain ⟨a, x, ha, hx⟩ := ZbG (by omega : 0 ≤ QC 0 sS eL)
    have hpa := ZcU ha hx
    obtain ⟨xL, xW, xH, xF⟩ := x
    have hxv := Qe hv.1.2 _ (List.mem_of_getElem? hx)
    by_cases k1 : eK = 1
    ·have hpe := Zj5 sS sO sD sL sC eK eL eX eY eW eH epW epH epT epK eC eo ea ep et ek hv k1 a ha xL xW xH xF hx
     rw [k1] at hpe
     by_cases hr : WP ⟨xL, xW, xH, xF ++ [⟨eX, eY, eW, eH⟩]⟩ (sS.eraseIdx a)
     ·have ee : QM (Zp.mk sS sO sD sL sC) (ZS.mk eK eL (Box.mk eX eY eW eH) (Zd.mk (Pane.mk epW epH epT epK) eC) (Zg.mk eo ea ep et ek)) = Y0 (some (Zp.mk (Qf ⟨xL, xW, xH, xF ++ [⟨eX, eY, eW, eH⟩]⟩ (sS.eraseIdx a)) sO sD sL sC)) := by
       unfold QM evS
       simp [k1, hpa, hr]
      rw [ee]
      rw [decide_eq_true hr, if_pos hr] at hpe
      have hst : JO (Zp.mk (Qf ⟨xL, xW, xH, xF ++ [⟨eX, eY, eW, eH⟩]⟩ (sS.eraseIdx a)) sO sD sL sC) := Zfs hsm (by simp only; omega) (by simp only; omega) hr.2
      have e1 := YC _ _ _ _ _ hst
      have e2 := WB _ _ _ _ _ hst
      unfold Y0
      generalize Qf ⟨xL, xW, xH, xF ++ [⟨eX, eY, eW, eH⟩]⟩ (sS.eraseIdx a) = Q at hpe e1 e2 ⊢
      by_cases hvt : ZN (Zp.mk Q sO sD sL sC)
      ·rw [decide_eq_true hvt] at e1
       simp only [if_pos hvt]
       unfold shV
       refine Ze Xs Ms Zk ZQ (by show 2 ≤ _; decide) ?_
       simp +contextual -implicitDefEqProofs (maxSteps := 10^7) only [go_sem, seval, ↓gZ, Zk, k1, hpe, e1, e2]
      ·rw [decide_eq_false hvt] at e1
       simp only [if_neg hvt]
       unfold shV
       refine Ze Xs Ms Zk ZQ (by show 2 ≤ _; decide) ?_
       simp +contextual -implicitDefEqProofs (maxSteps := 10^7) only [go_sem, seval, ↓gZ, Zk, k1, hpe, e1]
     ·have ee : QM (Zp.mk sS sO sD sL sC) (ZS.mk eK eL (Box.mk eX eY eW eH) (Zd.mk (Pane.mk epW epH epT epK) eC) (Zg.mk eo ea ep et ek)) = none := by
       unfold QM evS
       simp [k1, hpa, hr, Y0]
      rw [ee]
      rw [decide_eq_false hr] at hpe
      unfold shV
      refine Ze Xs Ms Zk ZQ (by show 2 ≤ _; decide) ?_
      simp +contextual -implicitDefEqProofs (maxSteps := 10^7) only [go_sem, seval, ↓gZ, Zk, k1, hpe]
    ·have k5 : eK = 5 := by omega
     have hpe := Zjm sS sO sD sL sC eK eL eX eY eW eH epW epH epT epK eC eo ea ep et ek hS k5 a ha xL xW xH xF hx (by have := hxv.1; simp only at this; unfold I5; omega) (by have := hxv.1; simp only at this; unfold I5; omega)
     rw [k5] at hpe
     have ee : QM (Zp.mk sS sO sD sL sC) (ZS.mk eK eL (Box.mk eX eY eW eH) (Zd.mk (Pane.mk epW epH epT epK) eC) (Zg.mk eo ea ep et ek)) = Y0 (some (Zp.mk (sS.eraseIdx a) sO sD (sL + xW * xH) sC)) := by
      unfold QM evS
      simp [k5, hpa]
     rw [ee]
     have hst : JO (Zp.mk (sS.eraseIdx a) sO sD (sL + xW * xH) sC) := ⟨by have := Zk2 sS a; have := hsm.1; simp only at this ⊢; omega, fun y hy => hsm.2.1 y (List.mem_of_mem_eraseIdx hy), hsm.2.2⟩
     have e1 := YC _ _ _ _ _ hst
     have e2 := WB _ _ _ _ _ hst
     unfold Y0
     generalize sS.eraseIdx a = Q at hpe e1 e2 ⊢
     by_cases hvt : ZN (Zp.mk Q sO sD (sL + xW * xH) sC)
     ·rw [decide_eq_true hvt] at e1
      simp only [if_pos hvt]
      unfold shV
      refine Ze Xs Ms Zk ZQ (by show 2 ≤ _; decide) ?_
      simp +contextual -implicitDefEqProofs (maxSteps := 10^7) only [go_sem, seval, ↓gZ, Zk, k5, hpe, e1, e2]
     ·rw [decide_eq_false hvt] at e1
      simp only [if_neg hvt]
      unfold shV
      refine Ze Xs Ms Zk ZQ (by show 2 ≤ _; decide) ?_
      simp +contextual -implicitDefEqProofs (maxSteps := 10^7) only [go_sem, seval, ↓gZ, Zk, k5, hpe, e1]
  ·have k1 : ¬ eK = 1 := fun h => k15 (.inl h)
   have k5 : ¬ eK = 5 := fun h => k15 (.inr h)
   by_cases k24 : eK = 2 ∨ eK = 4
   ·by_cases hl : Wt ⟨⟨epW, epH, epT, epK⟩, eC⟩
    ·by_cases k2 : eK = 2
     ·have hpe := Zj6 sS sO sD sL sC eK eL eX eY eW eH epW epH epT epK eC eo ea ep et ek hv hl k2
      rw [k2] at hpe
      have ee : QM (Zp.mk sS sO sD sL sC) (ZS.mk eK eL (Box.mk eX eY eW eH) (Zd.mk (Pane.mk epW epH epT epK) eC) (Zg.mk eo ea ep et ek)) = Y0 (some (Zp.mk sS (YB ⟨epW, epH, epT, epK⟩ eC sO) sD sL sC)) := by
       unfold QM evS
       simp [k2, hl]
      rw [ee]
      have hst : JO (Zp.mk sS (YB ⟨epW, epH, epT, epK⟩ eC sO) sD sL sC) := Zfs hsm (Nat.le_trans (Zc7 _ _ _) (by omega)) (by simp only; omega) hv.1
      have e1 := YC _ _ _ _ _ hst
      have e2 := WB _ _ _ _ _ hst
      unfold Y0
      generalize YB ⟨epW, epH, epT, epK⟩ eC sO = Q at hpe e1 e2 ⊢
      by_cases hvt : ZN (Zp.mk sS Q sD sL sC)
      ·rw [decide_eq_true hvt] at e1
       simp only [if_pos hvt]
       unfold shV
       refine Ze Xs Ms Zk ZQ (by show 2 ≤ _; decide) ?_
       simp +contextual -implicitDefEqProofs (maxSteps := 10^7) only [go_sem, seval, ↓gZ, Zk, k2, hpe, e1, e2]
      ·rw [decide_eq_false hvt] at e1
       simp only [if_neg hvt]
       unfold shV
       refine Ze Xs Ms Zk ZQ (by show 2 ≤ _; decide) ?_
       simp +contextual -implicitDefEqProofs (maxSteps := 10^7) only [go_sem, seval, ↓gZ, Zk, k2, hpe, e1]
     ·have k4 : eK = 4 := by omega
      have hpe := Zj7 sS sO sD sL sC eK eL eX eY eW eH epW epH epT epK eC eo ea ep et ek hv hl k2
      rw [k4] at hpe
      by_cases ht : Xn ⟨epW, epH, epT, epK⟩ eC false sD = true
      ·rw [ht] at hpe
       have ee : QM (Zp.mk sS sO sD sL sC) (ZS.mk eK eL (Box.mk eX eY eW eH) (Zd.mk (Pane.mk epW epH epT epK) eC) (Zg.mk eo ea ep et ek)) = Y0 (some (Zp.mk sS (YB ⟨epW, epH, epT, epK⟩ eC sO) (X6 sD ⟨epW, epH, epT, epK⟩ eC) (sL + eC * epW * epH) sC)) := by
        unfold QM evS
        simp [k4, hl, ht]
       rw [ee]
       have hst : JO (Zp.mk sS (YB ⟨epW, epH, epT, epK⟩ eC sO) (X6 sD ⟨epW, epH, epT, epK⟩ eC) (sL + eC * epW * epH) sC) := Zfs hsm (Nat.le_trans (Zc7 _ _ _) (by omega)) (Nat.le_trans (List.length_filterMap_le _ _) (by omega)) hv.1
       have e1 := YC _ _ _ _ _ hst
       have e2 := WB _ _ _ _ _ hst
       unfold Y0
       generalize YB ⟨epW, epH, epT, epK⟩ eC sO = Q at hpe e1 e2 ⊢
       generalize X6 sD ⟨epW, epH, epT, epK⟩ eC = R at hpe e1 e2 ⊢
       by_cases hvt : ZN (Zp.mk sS Q R (sL + eC * epW * epH) sC)
       ·rw [decide_eq_true hvt] at e1
        simp only [if_pos hvt]
        unfold shV
        refine Ze Xs Ms Zk ZQ (by show 2 ≤ _; decide) ?_
        simp +contextual -implicitDefEqProofs (maxSteps := 10^7) only [go_sem, seval, ↓gZ, Zk, k4, hpe, e1, e2]
       ·rw [decide_eq_false hvt] at e1
        simp only [if_neg hvt]
        unfold shV
        refine Ze Xs Ms Zk ZQ (by show 2 ≤ _; decide) ?_
        simp +contextual -implicitDefEqProofs (maxSteps := 10^7) only [go_sem, seval, ↓gZ, Zk, k4, hpe, e1]
      ·have ee : QM (Zp.mk sS sO sD sL sC) (ZS.mk eK eL (Box.mk eX eY eW eH) (Zd.mk (Pane.mk epW epH epT epK) eC) (Zg.mk eo ea ep et ek)) = none := by
        unfold QM evS
        simp [k4, ht, Y0]
       rw [ee]
       simp only [Bool.not_eq_true] at ht
       rw [ht] at hpe
       unfold shV
       refine Ze Xs Ms Zk ZQ (by show 2 ≤ _; decide) ?_
       simp +contextual -implicitDefEqProofs (maxSteps := 10^7) only [go_sem, seval, ↓gZ, Zk, k4, hpe]
    ·have hpe := ZmA sS sO sD sL sC eK eL eX eY eW eH epW epH epT epK eC eo ea ep et ek hl
     have ee : QM (Zp.mk sS sO sD sL sC) (ZS.mk eK eL (Box.mk eX eY eW eH) (Zd.mk (Pane.mk epW epH epT epK) eC) (Zg.mk eo ea ep et ek)) = none := by
      unfold QM evS
      rcases k24 with k2 | k2 <;> simp [k2, hl, Y0]
     rw [ee]
     unfold shV
     refine Ze Xs Ms Zk ZQ (by show 2 ≤ _; decide) ?_
     rcases k24 with k2 | k2
     ·rw [k2] at hpe
      simp +contextual -implicitDefEqProofs (maxSteps := 10^7) only [go_sem, seval, ↓gZ, Zk, k2, hpe]
     ·rw [k2] at hpe
      simp +contextual -implicitDefEqProofs (maxSteps := 10^7) only [go_sem, seval, ↓gZ, Zk, k2, hpe]
   ·have k2 : ¬ eK = 2 := fun h => k24 (.inl h)
    have k4 : ¬ eK = 4 := fun h => k24 (.inr h)
    by_cases k3 : eK = 3
    ·exact Za7 sS sO sD sL sC eK eL eX eY eW eH epW epH epT epK eC eo ea ep et ek (Zq9 hv) k3
    ·have ee : QM (Zp.mk sS sO sD sL sC) (ZS.mk eK eL (Box.mk eX eY eW eH) (Zd.mk (Pane.mk epW epH epT epK) eC) (Zg.mk eo ea ep et ek)) = none := by
      unfold QM evS
      simp [k0, k1, k5, k2, k4, k3, Y0]
     rw [ee]
     unfold shV
     refine Ze Xs Ms Zk ZQ (by show 2 ≤ _; decide) ?_
     simp +contextual -implicitDefEqProofs (maxSteps := 10^7) only [go_sem, seval, ↓gZ, Zk, k0, k1, k5, k2, k4, k3]
def Zsv (F : List Box) (W w h y : Int) : Nat → Int → Option Box
 | 0, _ => none
 | n + 1, x => if x + w ≤ W then (if Qm F ⟨x, y, w, h⟩ then some ⟨x, y, w, h⟩ else Zsv F W w h y n (x + 1)) else none
def Zsw (F : List Box) (W H w h : Int) : Nat → Int → Option Box
 | 0, _ => none
 | n + 1, y => if y + h ≤ H then (match Zsv F W w h y (W.toNat + 1) 0 with
  | some b => some b
  | none => Zsw F W H w h n (y + 1)) else none
def Zaf (q : Zc) (w h : Int) : Option Box := Zsw q.Flaws q.W q.H w h (q.H.toNat + 1) 0
theorem Zqd {F : List Box} {W w h y : Int} : ∀ {n : Nat} {x : Int} {b : Box}, Zsv F W w h y n x = some b → x ≤ b.X ∧ b.X + w ≤ W ∧ b.Y = y ∧ b.W = w ∧ b.H = h ∧ Qm F b
 | 0, x, b, e => by simp [Zsv] at e
 | n + 1, x, b, e => by
  unfold Zsv at e
  split at e
  ·split at e
   ·cases e; exact ⟨Int.le_refl _, by assumption, rfl, rfl, rfl, by assumption⟩
   ·obtain ⟨h1, h2⟩ := Zqd e
    exact ⟨by omega, h2⟩
  ·cases e
theorem Zqe {F : List Box} {W H w h : Int} : ∀ {n : Nat} {y : Int} {b : Box}, Zsw F W H w h n y = some b → 0 ≤ b.X ∧ b.X + w ≤ W ∧ y ≤ b.Y ∧ b.Y + h ≤ H ∧ b.W = w ∧ b.H = h ∧ Qm F b
 | 0, y, b, e => by simp [Zsw] at e
 | n + 1, y, b, e => by
  unfold Zsw at e
  split at e
  ·rename_i hy
   split at e
   ·rename_i c hc
    cases e
    obtain ⟨h1, h2, h3, h4, h5, h6⟩ := Zqd hc
    exact ⟨h1, h2, by omega, by omega, h4, h5, h6⟩
   ·obtain ⟨h1, h2, h3, h4⟩ := Zqe e
    exact ⟨h1, h2, by omega, h4⟩
  ·cases e
theorem Zsx {q : Zc} {w h : Int} {b : Box} (e : Zaf q w h = some b) : 0 ≤ b.X ∧ b.X + w ≤ q.W ∧ 0 ≤ b.Y ∧ b.Y + h ≤ q.H ∧ b.W = w ∧ b.H = h ∧ Qm q.Flaws b := Zqe e
def fcV : Option Box → AV × List Zr
 | some b => (.tup [.d b.enc, (.d (.bool true))], [])
 | none => (.tup [.d (.agg [J 0, J 0, J 0, J 0]), (.d (.bool false))], [])
theorem JF (qL qW qH : Int) (qF : List Box) (w h : Int) (hq : VPc (Zc.mk qL qW qH qF)) (hw : 1 ≤ w ∧ w ≤ 200) (hh : 1 ≤ h ∧ h ≤ 200) : Zh Xs Ms Xv [(.d (.agg [J qL, J qW, J qH, .sl (qF.map Box.enc)])), (.d (J w)), (.d (J h))] [] = some (fcV (Zaf (Zc.mk qL qW qH qF) w h)) := by
 have hF : ∀ f ∈ qF, VB f := fun f hf => (hq.2 f hf).1
 obtain ⟨_, _, hW1, hW2, hH1, hH2, hF6⟩ := hq.1
 simp only at hW1 hW2 hH1 hH2 hF6
 clear hq
 unfold Zaf
 simp only
 refine Ze Xs Ms Uk ZnK (by show 3 ≤ _; decide) ?_
 simp +contextual -implicitDefEqProofs (maxSteps := 10^7) only [go_sem, seval, ↓gZ, Uk]
 refine ZE Xs Ms (st0 := ?st0) (α := Nat) (fun y => [(8, .d (J (y : Int)))]) (fun _ => []) (fun y => (y : Int) ≤ qH ∧ Zsw qF qW qH w h (qH.toNat + 1 - y) y = Zsw qF qW qH w h (qH.toNat + 1) 0) (fun y => qH.toNat + 1 - y) 0 ?hc ⟨by omega, by simp⟩ ?h0 ?step
 case hc => simp +contextual -implicitDefEqProofs (maxSteps := 10^7) only [go_sem, seval, ↓gZ] <;> exact rfl
 case h0 => rfl
 case step =>
  intro y ⟨hy, hp⟩ ih
  obtain ⟨n, hn⟩ : ∃ n, qH.toNat + 1 - y = n + 1 := ⟨qH.toNat - y, by omega⟩
  rw [hn, Zsw] at hp
  have wy := wi ((y : Int) + h) (by omega) (by omega)
  by_cases hyl : (y : Int) + h ≤ qH
  ·rw [if_pos hyl] at hp
   simp +contextual -implicitDefEqProofs (maxSteps := 10^7) only [go_sem, seval, ↓gZ, wy, hyl]
   refine ZE Xs Ms (st0 := ?st1) (α := Nat) (fun x => [(9, .d (J (x : Int)))]) (fun _ => []) (fun x => (x : Int) ≤ qW ∧ Zsv qF qW w h y (qW.toNat + 1 - x) x = Zsv qF qW w h y (qW.toNat + 1) 0) (fun x => qW.toNat + 1 - x) 0 ?hc2 ⟨by omega, by simp⟩ ?h02 ?step2
   case hc2 => simp +contextual -implicitDefEqProofs (maxSteps := 10^7) only [go_sem, seval, ↓gZ] <;> exact rfl
   case h02 => rfl
   case step2 =>
    intro x ⟨hx, hpx⟩ ih2
    obtain ⟨m, hm⟩ : ∃ m, qW.toNat + 1 - x = m + 1 := ⟨qW.toNat - x, by omega⟩
    rw [hm, Zsv] at hpx
    have wx := wi ((x : Int) + w) (by omega) (by omega)
    have hsx := Zm (k := x) (by omega)
    have hsy := Zm (k := y) (by omega)
    by_cases hxl : (x : Int) + w ≤ qW
    ·rw [if_pos hxl] at hpx
     have ec := ZjZ qL qW qH qF x y w h hF (by simp only [VB]; omega) (by omega)
     by_cases hcl : Qm qF ⟨x, y, w, h⟩
     ·rw [if_pos hcl] at hpx
      rw [← hpx] at hp
      simp only at hp
      rw [decide_eq_true hcl] at ec
      simp +contextual -implicitDefEqProofs (maxSteps := 10^7) only [go_sem, seval, ↓gZ, wx, hxl, ec]
      rw [← hp]
      rfl
     ·rw [if_neg hcl] at hpx
      rw [decide_eq_false hcl] at ec
      simp +contextual -implicitDefEqProofs (maxSteps := 10^7) only [go_sem, seval, ↓gZ, wx, hxl, ec, hsx]
      refine ih2 (x + 1) _ ⟨by omega, ?_⟩ (by omega) ?_
      ·rw [← hpx]
       have : qW.toNat + 1 - (x + 1) = m := by omega
       rw [this]
       rfl
      ·simp +contextual -implicitDefEqProofs (maxSteps := 10^7) only [go_sem, seval, ↓gZ]
    ·rw [if_neg hxl] at hpx
     rw [← hpx] at hp
     simp only at hp
     simp +contextual -implicitDefEqProofs (maxSteps := 10^7) only [go_sem, seval, ↓gZ, wx, hxl, hsy]
     refine ih (y + 1) _ ⟨by omega, ?_⟩ (by omega) ?_
     ·rw [← hp]
      have : qH.toNat + 1 - (y + 1) = n := by omega
      rw [this]
      rfl
     ·simp +contextual -implicitDefEqProofs (maxSteps := 10^7) only [go_sem, seval, ↓gZ]
  ·rw [if_neg hyl] at hp
   simp +contextual -implicitDefEqProofs (maxSteps := 10^7) only [go_sem, seval, ↓gZ, wy, hyl]
   rw [← hp]
   rfl
def okP (p : Pane) (q : Zc) : Bool := (Zaf q p.W p.H).isSome || (p.Turns && (Zaf q p.H p.W).isSome)
def Zk9 (l : List Zc) (b : Int) : Int := match l[b.toNat]? with
 | some q => q.W * q.H
 | none => 0
def Zc9 (L : List Zc) (p : Pane) : List Zc → Nat → Int → Int
 | [], _, b => b
 | x :: r, i, b => Zc9 L p r (i + 1) (if okP p x = true ∧ (b < 0 ∨ x.W * x.H < Zk9 L b) then (i : Int) else b)
theorem Zsy {L l : List Zc} {p : Pane} {k i : Nat} {x : Zc} {b : Int} (hx : l[k]? = some x) : Zc9 L p (l.drop k) i b = Zc9 L p (l.drop (k + 1)) (i + 1) (if okP p x = true ∧ (b < 0 ∨ x.W * x.H < Zk9 L b) then (i : Int) else b) := by
 obtain ⟨h1, h2⟩ := List.getElem?_eq_some_iff.1 hx
 rw [List.drop_eq_getElem_cons h1, h2, Zc9]
theorem Zt0 {L l : List Zc} {p : Pane} {i : Nat} {b : Int} : Zc9 L p (l.drop l.length) i b = b := by simp [Zc9]
def Zi3 (L : List Zc) (p : Pane) : Int := Zc9 L p L 0 (-1)
def ZwW (L : List Zc) (p : Pane) : Int := if VSt L ∧ VP p then (if Zi3 L p < 0 then 0 else match L[(Zi3 L p).toNat]? with
 | some q => q.Label
 | none => 0) else 0
theorem Zqf (L : List Zc) (p : Pane) : ∀ (l : List Zc) (i : Nat) (b : Int), (∀ (j : Nat) (x : Zc), l[j]? = some x → L[i + j]? = some x) → (b < 0 ∨ ∃ (j : Nat) (x : Zc), b = (j : Int) ∧ L[j]? = some x ∧ okP p x = true) → Zc9 L p l i b < 0 ∨ ∃ (j : Nat) (x : Zc), Zc9 L p l i b = (j : Int) ∧ L[j]? = some x ∧ okP p x = true
 | [], i, b, _, hb => hb
 | x :: r, i, b, hl, hb => by
  unfold Zc9
  refine Zqf L p r (i + 1) _ (fun j y hy => by have := hl (j + 1) y (by simpa using hy); rw [show i + 1 + j = i + (j + 1) by omega]; exact this) ?_
  split
  ·rename_i hc
   exact .inr ⟨i, x, rfl, by have := hl 0 x (by simp); simpa using this, hc.1⟩
  ·exact hb
theorem ZwX (L : List Zc) (p : Pane) : Zi3 L p < 0 ∨ ∃ (j : Nat) (x : Zc), Zi3 L p = (j : Int) ∧ L[j]? = some x ∧ okP p x = true :=
 Zqf L p L 0 (-1) (fun j x h => by simpa using h) (.inl (by omega))
theorem Znp (l : List Zc) (pW pH : Int) (pT : Bool) (pK : Int) (hv : VSt l) (hp : VP (Pane.mk pW pH pT pK)) : Zh Xs Ms WF [(.d (.sl (l.map Zc.enc))), (.d (.agg [J pW, J pH, .bool pT, J pK]))] [] = some ((.d (J (ZwW l (Pane.mk pW pH pT pK)))), []) := by
 have e1 := YX l (by have := hv.1; omega) (fun x hx => ⟨by have := (ZcS hv).2 x hx; omega, Zj4 (Qe hv.2 x hx)⟩)
 have e2 := VA pW pH pT pK
 rw [decide_eq_true hv] at e1
 rw [decide_eq_true hp] at e2
 have hval := fun x hx => Qe hv.2 x hx
 have hl20 := hv.1
 unfold ZwW
 rw [if_pos ⟨hv, hp⟩]
 have hpw : 1 ≤ pW ∧ pW ≤ 200 ∧ 1 ≤ pH ∧ pH ≤ 200 := ⟨hp.1, hp.2.1, hp.2.2.1, hp.2.2.2.1⟩
 clear hv hp
 refine Ze Xs Ms Jl ZpF (by show 2 ≤ _; decide) ?_
 simp +contextual -implicitDefEqProofs (maxSteps := 10^7) only [go_sem, seval, ↓gZ, Jl, e1, e2]
 refine ZE Xs Ms (st0 := ?st0) (α := Nat × Int) (fun s => [(6, .d (J (s.1 : Int))), (5, .d (J s.2))]) (fun _ => []) (fun s => s.1 ≤ l.length ∧ Zc9 l (Pane.mk pW pH pT pK) (l.drop s.1) s.1 s.2 = Zi3 l (Pane.mk pW pH pT pK) ∧ (s.2 = -1 ∨ ∃ j : Nat, s.2 = (j : Int) ∧ j < l.length)) (fun s => l.length - s.1) (0, -1) ?hc ⟨by simp, by simp [Zi3], .inl rfl⟩ ?h0 ?step
 case hc => simp +contextual -implicitDefEqProofs (maxSteps := 10^7) only [go_sem, seval, ↓gZ] <;> exact rfl
 case h0 => rfl
 case step =>
  intro ⟨i, b⟩ ⟨hi, hq, hb⟩ ih
  simp only at hi hq hb
  by_cases hlt : i < l.length
  ·obtain ⟨x, hx⟩ := Zw hlt
   have hw := Zm (k := i) (by omega)
   rw [Zsy hx] at hq
   have hvx := hval x (List.mem_of_getElem? hx)
   have f1 := JF x.Label x.W x.H x.Flaws pW pH hvx ⟨hpw.1, hpw.2.1⟩ hpw.2.2
   have f2 := JF x.Label x.W x.H x.Flaws pH pW hvx hpw.2.2 ⟨hpw.1, hpw.2.1⟩
   have hx1 := hvx.1
   have hxa : 0 ≤ x.W * x.H ∧ x.W * x.H ≤ 40000 := UX (b := ⟨0, 0, x.W, x.H⟩) (by simp only [VB]; omega)
   have hok : okP (Pane.mk pW pH pT pK) x = ((Zaf ⟨x.Label, x.W, x.H, x.Flaws⟩ pW pH).isSome || (pT && (Zaf ⟨x.Label, x.W, x.H, x.Flaws⟩ pH pW).isSome)) := rfl
   obtain ⟨L, W, H, F⟩ := x
   simp only at f1 f2 hxa hok
   have u1 := wi (W * H) (by omega) (by omega)
   cases h1 : Zaf ⟨L, W, H, F⟩ pW pH with
   | some b1 =>
    rw [h1] at f1 hok
    unfold fcV at f1
    simp only [Option.isSome_some, Bool.true_or] at hok
    obtain ⟨bX, bY, bW, bH⟩ := b1
    rcases hb with hb | ⟨j, hb, hj⟩
    ·subst hb
     rw [if_pos ⟨hok, .inl (by omega)⟩] at hq
     simp +contextual -implicitDefEqProofs (maxSteps := 10^7) only [go_sem, seval, ↓gZ, hx, hlt, hw, f1]
     refine ih (i + 1, (i : Int)) _ ⟨by simp only; omega, hq, .inr ⟨i, rfl, hlt⟩⟩ (by simp only; omega) ?_
     simp +contextual -implicitDefEqProofs (maxSteps := 10^7) only [go_sem, seval, ↓gZ]
    ·subst hb
     obtain ⟨y, hy⟩ := Zw hj
     have hvy := (hval y (List.mem_of_getElem? hy)).1
     have hya : 0 ≤ y.W * y.H ∧ y.W * y.H ≤ 40000 := UX (b := ⟨0, 0, y.W, y.H⟩) (by simp only [VB]; omega)
     have hj0 : ¬ (j : Int) < 0 := by omega
     have har : Zk9 l (j : Int) = y.W * y.H := by unfold Zk9; rw [Int.toNat_natCast, hy]
     rw [har] at hq
     obtain ⟨yL, yW, yH, yF⟩ := y
     simp only at hya hq
     have u2 := wi (yW * yH) (by omega) (by omega)
     by_cases hc : W * H < yW * yH
     ·rw [if_pos ⟨hok, .inr hc⟩] at hq
      simp +contextual -implicitDefEqProofs (maxSteps := 10^7) only [go_sem, seval, ↓gZ, hx, hlt, hw, hj0, hj, hy, u1, u2, hc, f1]
      refine ih (i + 1, (i : Int)) _ ⟨by simp only; omega, hq, .inr ⟨i, rfl, hlt⟩⟩ (by simp only; omega) ?_
      simp +contextual -implicitDefEqProofs (maxSteps := 10^7) only [go_sem, seval, ↓gZ]
     ·rw [if_neg (fun h => by rcases h.2 with h | h <;> omega)] at hq
      simp +contextual -implicitDefEqProofs (maxSteps := 10^7) only [go_sem, seval, ↓gZ, hx, hlt, hw, hj0, hj, hy, u1, u2, hc, f1]
      refine ih (i + 1, (j : Int)) _ ⟨by simp only; omega, hq, .inr ⟨j, rfl, hj⟩⟩ (by simp only; omega) ?_
      simp +contextual -implicitDefEqProofs (maxSteps := 10^7) only [go_sem, seval, ↓gZ]
   | none =>
    rw [h1] at f1 hok
    unfold fcV at f1
    cases pT with
    | false =>
     simp only [Option.isSome_none, Bool.false_and, Bool.or_self] at hok
     rw [if_neg (fun h => by rw [hok] at h; exact absurd h.1 (by simp))] at hq
     simp +contextual -implicitDefEqProofs (maxSteps := 10^7) only [go_sem, seval, ↓gZ, hx, hlt, hw, f1]
     refine ih (i + 1, b) _ ⟨by simp only; omega, hq, hb⟩ (by simp only; omega) ?_
     simp +contextual -implicitDefEqProofs (maxSteps := 10^7) only [go_sem, seval, ↓gZ]
    | true =>
     cases h2 : Zaf ⟨L, W, H, F⟩ pH pW with
     | none =>
      rw [h2] at f2 hok
      unfold fcV at f2
      simp only [Option.isSome_none, Bool.true_and, Bool.or_self] at hok
      rw [if_neg (fun h => by rw [hok] at h; exact absurd h.1 (by simp))] at hq
      simp +contextual -implicitDefEqProofs (maxSteps := 10^7) only [go_sem, seval, ↓gZ, hx, hlt, hw, f1, f2]
      refine ih (i + 1, b) _ ⟨by simp only; omega, hq, hb⟩ (by simp only; omega) ?_
      simp +contextual -implicitDefEqProofs (maxSteps := 10^7) only [go_sem, seval, ↓gZ]
     | some b2 =>
      rw [h2] at f2 hok
      unfold fcV at f2
      simp only [Option.isSome_some, Option.isSome_none, Bool.true_and, Bool.false_or] at hok
      obtain ⟨bX, bY, bW, bH⟩ := b2
      rcases hb with hb | ⟨j, hb, hj⟩
      ·subst hb
       rw [if_pos ⟨hok, .inl (by omega)⟩] at hq
       simp +contextual -implicitDefEqProofs (maxSteps := 10^7) only [go_sem, seval, ↓gZ, hx, hlt, hw, f1, f2]
       refine ih (i + 1, (i : Int)) _ ⟨by simp only; omega, hq, .inr ⟨i, rfl, hlt⟩⟩ (by simp only; omega) ?_
       simp +contextual -implicitDefEqProofs (maxSteps := 10^7) only [go_sem, seval, ↓gZ]
      ·subst hb
       obtain ⟨y, hy⟩ := Zw hj
       have hvy := (hval y (List.mem_of_getElem? hy)).1
       have hya : 0 ≤ y.W * y.H ∧ y.W * y.H ≤ 40000 := UX (b := ⟨0, 0, y.W, y.H⟩) (by simp only [VB]; omega)
       have hj0 : ¬ (j : Int) < 0 := by omega
       have har : Zk9 l (j : Int) = y.W * y.H := by unfold Zk9; rw [Int.toNat_natCast, hy]
       rw [har] at hq
       obtain ⟨yL, yW, yH, yF⟩ := y
       simp only at hya hq
       have u2 := wi (yW * yH) (by omega) (by omega)
       by_cases hc : W * H < yW * yH
       ·rw [if_pos ⟨hok, .inr hc⟩] at hq
        simp +contextual -implicitDefEqProofs (maxSteps := 10^7) only [go_sem, seval, ↓gZ, hx, hlt, hw, hj0, hj, hy, u1, u2, hc, f1, f2]
        refine ih (i + 1, (i : Int)) _ ⟨by simp only; omega, hq, .inr ⟨i, rfl, hlt⟩⟩ (by simp only; omega) ?_
        simp +contextual -implicitDefEqProofs (maxSteps := 10^7) only [go_sem, seval, ↓gZ]
       ·rw [if_neg (fun h => by rcases h.2 with h | h <;> omega)] at hq
        simp +contextual -implicitDefEqProofs (maxSteps := 10^7) only [go_sem, seval, ↓gZ, hx, hlt, hw, hj0, hj, hy, u1, u2, hc, f1, f2]
        refine ih (i + 1, (j : Int)) _ ⟨by simp only; omega, hq, .inr ⟨j, rfl, hj⟩⟩ (by simp only; omega) ?_
        simp +contextual -implicitDefEqProofs (maxSteps := 10^7) only [go_sem, seval, ↓gZ]
  ·have : i = l.length := by omega
   subst this
   rw [Zt0] at hq
   subst hq
   rcases hb with hb | ⟨j, hb, hj⟩
   ·have h0 : Zi3 l (Pane.mk pW pH pT pK) < 0 := by omega
    simp +contextual -implicitDefEqProofs (maxSteps := 10^7) only [go_sem, seval, ↓gZ, hb]
   ·have h0 : ¬ Zi3 l (Pane.mk pW pH pT pK) < 0 := by omega
    have h1 : ¬ (j : Int) < 0 := by omega
    obtain ⟨y, hy⟩ := Zw hj
    simp only [hb, if_neg h1, Int.toNat_natCast, hy]
    obtain ⟨yL, yW, yH, yF⟩ := y
    simp +contextual -implicitDefEqProofs (maxSteps := 10^7) only [go_sem, seval, ↓gZ, h1, hj, hy]
def VZ (lo hi fr to : Int) : List Int := (if fr < lo ∧ lo < to then [lo] else []) ++ (if fr < hi ∧ hi < to then [hi] else [])
theorem ZvM {lo hi fr to x : Int} (h : x ∈ VZ lo hi fr to) : x < to := by
 unfold VZ at h
 rcases List.mem_append.1 h with h | h
 ·split at h
  ·simp at h; omega
  ·simp at h
 ·split at h
  ·simp at h; omega
  ·simp at h
theorem Zla (lo hi fr to : Int) : (VZ lo hi fr to).length ≤ 2 := by
 unfold VZ
 split <;> split <;> simp
theorem ZvN {lo hi fr t : Int} (hl : lo < hi) (hf : fr < t) (h : t = lo ∨ t = hi) : VZ lo hi fr (t + 1) = VZ lo hi fr t ++ [t] := by
 unfold VZ
 rcases h with h | h
 ·rw [if_pos (show fr < lo ∧ lo < t + 1 by omega), if_neg (show ¬ (fr < hi ∧ hi < t + 1) by omega), if_neg (show ¬ (fr < lo ∧ lo < t) by omega), if_neg (show ¬ (fr < hi ∧ hi < t) by omega), h]; rfl
 ·rw [if_pos (show fr < hi ∧ hi < t + 1 by omega), if_neg (show ¬ (fr < hi ∧ hi < t) by omega)]
  by_cases h2 : fr < lo
  ·rw [if_pos (show fr < lo ∧ lo < t + 1 by omega), if_pos (show fr < lo ∧ lo < t by omega), h]; rfl
  ·rw [if_neg (show ¬ (fr < lo ∧ lo < t + 1) by omega), if_neg (show ¬ (fr < lo ∧ lo < t) by omega), h]; rfl
theorem ZwY {lo hi fr t : Int} (h : ¬ (t = lo ∨ t = hi)) : VZ lo hi fr (t + 1) = VZ lo hi fr t := by
 unfold VZ
 have h1 : (fr < lo ∧ lo < t + 1) = (fr < lo ∧ lo < t) := propext (by omega)
 have h2 : (fr < hi ∧ hi < t + 1) = (fr < hi ∧ hi < t) := propext (by omega)
 simp only [h1, h2]
theorem Zkb : ∀ (l : List Int) (k : Nat) (n : Int), n ∉ l → WA k l n = -1
 | [], _, _, _ => rfl
 | x :: l, k, n, h => by
  simp only [List.mem_cons, not_or] at h
  unfold WA
  rw [if_neg (fun e => h.1 e.symm), Zkb l (k + 1) n h.2]
theorem Znq (cP : Int) (cT : Bool) (cX cY cW cH : Int) (op lo n fr to : Int) (ho : (op = 2 ∧ lo = cX ∧ n = cW) ∨ (op = 3 ∧ lo = cY ∧ n = cH)) (hc : 0 ≤ cX ∧ cX ≤ 1000 ∧ 0 ≤ cY ∧ cY ≤ 1000 ∧ 1 ≤ cW ∧ cW ≤ 1000 ∧ 1 ≤ cH ∧ cH ≤ 1000) (h0 : 0 ≤ fr) (h1 : fr < to) (h2 : to ≤ 1000) : Zh Xs Ms ZcV [.d (.sl [.agg [J cP, .bool cT, J cX, J cY, J cW, J cH]]), (.d (J op)), (.d (J fr)), (.d (J to))] [] = some (.own 0, [.row 1 ((VZ lo (lo + n) fr to).map ZaZ) true false]) := by
 have w0 := wi (fr + 1) (by omega) (by omega)
 have wx := wi (cX + cW) (by omega) (by omega)
 have wy := wi (cY + cH) (by omega) (by omega)
 have hn : lo < lo + n := by omega
 have he0 : VZ lo (lo + n) fr (fr + 1) = [] := by unfold VZ; rw [if_neg (by omega), if_neg (by omega)]; rfl
 refine Ze Xs Ms Zfx ZvV (by show 4 ≤ _; decide) ?_
 simp +contextual -implicitDefEqProofs (maxSteps := 10^7) only [go_sem, seval, ↓gZ, Zfx, w0]
 refine ZE Xs Ms (st0 := ?st0) (α := Int) (fun t => [(10, .d (J t))]) (fun t => [(0, .row 1 ((VZ lo (lo + n) fr t).map ZaZ) true false)]) (fun t => fr + 1 ≤ t ∧ t ≤ to) (fun t => (to - t).toNat) (fr + 1) ?hc (by omega) ?h0 ?step
 case hc => simp +contextual -implicitDefEqProofs (maxSteps := 10^7) only [go_sem, seval, ↓gZ] <;> exact rfl
 case h0 => rw [he0]; rfl
 case step =>
  intro t ⟨ht1, ht2⟩ ih
  by_cases hlt : t < to
  ·have wt := wi (t + 1) (by omega) (by omega)
   have hel := Zla lo (lo + n) fr t
   have hr : ((VZ lo (lo + n) fr t).length + 1) * 8 ≤ 140737488355328 ∧ (VZ lo (lo + n) fr t).length ≤ 140737488355327 := by omega
   have epl := Zq3 (VZ lo (lo + n) fr t) t (by omega)
   rw [Zkb _ _ _ (fun h => by have := ZvM h; omega)] at epl
   by_cases hm : t = lo ∨ t = lo + n
   ·have hy := ZvN hn (show fr < t by omega) hm
    have hfin : (1 : Int) + 0 = 1 := rfl
    rcases ho with ⟨o1, o2, o3⟩ | ⟨o1, o2, o3⟩
    ·have hm' : (t = cX ∨ t = cX + cW) := by omega
     simp +contextual -implicitDefEqProofs (maxSteps := 10^7) only [go_sem, seval, ↓gZ, hlt]
     refine Qd Xs Ms ?_
     simp +contextual -implicitDefEqProofs (maxSteps := 10^7) only [go_sem, seval, ↓gZ, wx, o1, hm', epl, hr, ← Bool.decide_or]
     refine Qd Xs Ms ?_
     simp +contextual -implicitDefEqProofs (maxSteps := 10^7) only [go_sem, seval, ↓gZ, wt]
     refine ih (t + 1) _ (by omega) (by omega) ?_
     simp +contextual -implicitDefEqProofs (maxSteps := 10^7) only [go_sem, seval, ↓gZ, hy, o1, List.map_append, List.map_cons, List.map_nil]
    ·have hm' : (t = cY ∨ t = cY + cH) := by omega
     simp +contextual -implicitDefEqProofs (maxSteps := 10^7) only [go_sem, seval, ↓gZ, hlt]
     refine Qd Xs Ms ?_
     simp +contextual -implicitDefEqProofs (maxSteps := 10^7) only [go_sem, seval, ↓gZ, wx, wy, o1, hm', epl, hr, ← Bool.decide_or]
     refine Qd Xs Ms ?_
     simp +contextual -implicitDefEqProofs (maxSteps := 10^7) only [go_sem, seval, ↓gZ, wt]
     refine ih (t + 1) _ (by omega) (by omega) ?_
     simp +contextual -implicitDefEqProofs (maxSteps := 10^7) only [go_sem, seval, ↓gZ, hy, o1, List.map_append, List.map_cons, List.map_nil]
   ·have hy := ZwY (fr := fr) hm
    rcases ho with ⟨o1, o2, o3⟩ | ⟨o1, o2, o3⟩
    ·have hm' : ¬ (t = cX ∨ t = cX + cW) := by omega
     simp +contextual -implicitDefEqProofs (maxSteps := 10^7) only [go_sem, seval, ↓gZ, hlt]
     refine Qd Xs Ms ?_
     simp +contextual -implicitDefEqProofs (maxSteps := 10^7) only [go_sem, seval, ↓gZ, wx, o1, hm', ← Bool.decide_or]
     refine Qd Xs Ms ?_
     simp +contextual -implicitDefEqProofs (maxSteps := 10^7) only [go_sem, seval, ↓gZ, wt]
     refine ih (t + 1) _ (by omega) (by omega) ?_
     simp +contextual -implicitDefEqProofs (maxSteps := 10^7) only [go_sem, seval, ↓gZ, hy, o1]
    ·have hm' : ¬ (t = cY ∨ t = cY + cH) := by omega
     simp +contextual -implicitDefEqProofs (maxSteps := 10^7) only [go_sem, seval, ↓gZ, hlt]
     refine Qd Xs Ms ?_
     simp +contextual -implicitDefEqProofs (maxSteps := 10^7) only [go_sem, seval, ↓gZ, wx, wy, o1, hm', ← Bool.decide_or]
     refine Qd Xs Ms ?_
     simp +contextual -implicitDefEqProofs (maxSteps := 10^7) only [go_sem, seval, ↓gZ, wt]
     refine ih (t + 1) _ (by omega) (by omega) ?_
     simp +contextual -implicitDefEqProofs (maxSteps := 10^7) only [go_sem, seval, ↓gZ, hy, o1]
  ·have : t = to := by omega
   subst this
   simp +contextual -implicitDefEqProofs (maxSteps := 10^7) only [go_sem, seval, ↓gZ]
theorem Zin (cP : Int) (cT : Bool) (cX cY cW cH : Int) (op lo n t : Int) (f : Bool) (ho : (op = 2 ∧ lo = cX ∧ n = cW) ∨ (op = 3 ∧ lo = cY ∧ n = cH)) (hc : 0 ≤ cX ∧ cX ≤ 1000 ∧ 0 ≤ cY ∧ cY ≤ 1000 ∧ 1 ≤ cW ∧ cW ≤ 1000 ∧ 1 ≤ cH ∧ cH ≤ 1000) (hn : ¬ (lo < t ∧ t < lo + n)) : Zh Xs Ms Zdd [.d (.sl [.agg [J cP, .bool cT, J cX, J cY, J cW, J cH]]), (.d (J op)), (.d (J t)), (.d (.bool f))] [] =
  some (.tup [.own 0, (.d (.bool true))], [.row 6 (if f = decide (lo + n ≤ t) then [.agg [J cP, .bool cT, J cX, J cY, J cW, J cH]] else []) true false]) := by
 have wx := wi (cX + cW) (by omega) (by omega)
 have wy := wi (cY + cH) (by omega) (by omega)
 have bb : ∀ a b : Bool, Zhf .eql true (.d (.bool a)) (.d (.bool b)) = QB (.d (.bool (a == b))) := fun _ _ => rfl
 refine Ze Xs Ms Zfy Zxn (by show 4 ≤ _; decide) ?_
 rcases ho with ⟨o1, o2, o3⟩ | ⟨o1, o2, o3⟩
 ·have hn' : ¬ (cX < t ∧ t < cX + cW) := by omega
  have he : (lo + n ≤ t) = (cX + cW ≤ t) := propext (by omega)
  simp only [he]
  simp +contextual -implicitDefEqProofs (maxSteps := 10^7) only [go_sem, seval, ↓gZ, Zfy]
  refine Qd Xs Ms ?_
  by_cases hf : f = decide (cX + cW ≤ t)
  ·have hg : (f == decide (cX + cW ≤ t)) = true := by rw [hf]; simp
   rw [if_pos hf]
   simp +contextual -implicitDefEqProofs (maxSteps := 10^7) only [go_sem, seval, ↓gZ, wx, o1, hn', bb, hg, ← Bool.decide_and]
   refine Qd Xs Ms ?_
   simp +contextual -implicitDefEqProofs (maxSteps := 10^7) only [go_sem, seval, ↓gZ]
  ·have hg : (f == decide (cX + cW ≤ t)) = false := by simpa using hf
   rw [if_neg hf]
   simp +contextual -implicitDefEqProofs (maxSteps := 10^7) only [go_sem, seval, ↓gZ, wx, o1, hn', bb, hg, ← Bool.decide_and]
   refine Qd Xs Ms ?_
   simp +contextual -implicitDefEqProofs (maxSteps := 10^7) only [go_sem, seval, ↓gZ]
 ·have hn' : ¬ (cY < t ∧ t < cY + cH) := by omega
  have he : (lo + n ≤ t) = (cY + cH ≤ t) := propext (by omega)
  simp only [he]
  simp +contextual -implicitDefEqProofs (maxSteps := 10^7) only [go_sem, seval, ↓gZ, Zfy]
  refine Qd Xs Ms ?_
  by_cases hf : f = decide (cY + cH ≤ t)
  ·have hg : (f == decide (cY + cH ≤ t)) = true := by rw [hf]; simp
   rw [if_pos hf]
   simp +contextual -implicitDefEqProofs (maxSteps := 10^7) only [go_sem, seval, ↓gZ, wx, wy, o1, hn', bb, hg, ← Bool.decide_and]
   refine Qd Xs Ms ?_
   simp +contextual -implicitDefEqProofs (maxSteps := 10^7) only [go_sem, seval, ↓gZ]
  ·have hg : (f == decide (cY + cH ≤ t)) = false := by simpa using hf
   rw [if_neg hf]
   simp +contextual -implicitDefEqProofs (maxSteps := 10^7) only [go_sem, seval, ↓gZ, wx, wy, o1, hn', bb, hg, ← Bool.decide_and]
   refine Qd Xs Ms ?_
   simp +contextual -implicitDefEqProofs (maxSteps := 10^7) only [go_sem, seval, ↓gZ]
def Zda : Zg → AV × List Zr
 | .mk o a q t ks => (.tup [.agg [(.d (J o)), (.d (J a)), (.d (J q)), (.d (.bool t)), .own 0], (.d (.bool true))], [.row 5 (ks.map Zg.enc) true false])
theorem Zbx (bX bY bW bH : Int) : Zh Xs Ms Qq [.d (.sl []), (.d (.agg [J bX, J bY, J bW, J bH]))] [] = some (Zda BT.waste.plan) := by
 simp only [BT.plan, Zda]
 refine Ze Xs Ms Yb Zef (by show 2 ≤ _; decide) ?_
 simp +contextual -implicitDefEqProofs (maxSteps := 10^7) only [go_sem, seval, ↓gZ, Yb]
theorem Zhs (cP : Int) (cT : Bool) (cX cY cW cH : Int) : Zh Xs Ms Qq [.d (.sl [.agg [J cP, .bool cT, J cX, J cY, J cW, J cH]]), .d (.agg [J cX, J cY, J cW, J cH])] [] = some (Zda (BT.pane cP cT).plan) := by
 simp only [BT.plan, Zda]
 refine Ze Xs Ms Yb Zef (by show 2 ≤ _; decide) ?_
 simp +contextual -implicitDefEqProofs (maxSteps := 10^7) only [go_sem, seval, ↓gZ, Yb]
theorem Zag (A B : List D) (bX bY bW bH : Int) (d : Bool) (a : Int) (l r : BT) (hA : uni 6 A) (hB : uni 6 B) (h1 : R64 (bX + a)) (h2 : R64 (bY + a)) (h3 : R64 (bW - a)) (h4 : R64 (bH - a))
  (hl : Zh Xs Ms Qq [.d (.sl A), if d then .d (.agg [J bX, J bY, J a, J bH]) else .d (.agg [J bX, J bY, J bW, J a])] [] = some (Zda l.plan))
  (hr : Zh Xs Ms Qq [.d (.sl B), if d then .d (.agg [J (bX + a), J bY, J (bW - a), J bH]) else .d (.agg [J bX, J (bY + a), J bW, J (bH - a)])] [] = some (Zda r.plan)) :
  Zh Xs Ms Vq [.d (.sl A), .d (.sl B), (.d (.agg [J bX, J bY, J bW, J bH])), (.d (J (J7 d))), (.d (J a))] [] = some (Zda (BT.cut d a l r).plan) := by
 have w1 := wi (bX + a) h1.1 h1.2
 have w2 := wi (bY + a) h2.1 h2.2
 have w3 := wi (bW - a) h3.1 h3.2
 have w4 := wi (bH - a) h4.1 h4.2
 obtain ⟨lo, la, lq, lt, lk, el⟩ : ∃ o a q t ks, l.plan = .mk o a q t ks := by cases l.plan; exact ⟨_, _, _, _, _, rfl⟩
 obtain ⟨ro, ra, rq, rt, rk, er⟩ : ∃ o a q t ks, r.plan = .mk o a q t ks := by cases r.plan; exact ⟨_, _, _, _, _, rfl⟩
 rw [el] at hl
 rw [er] at hr
 simp only [BT.plan, el, er, Zda] at hl hr ⊢
 cases d with
 | true =>
  simp only [if_true, J7] at hl hr ⊢
  refine Ze Xs Ms Vu Zi8 (by show 5 ≤ _; decide) ?_
  simp +contextual -implicitDefEqProofs (maxSteps := 10^7) only [go_sem, seval, ↓gZ, Vu, w1, w3, hl, hr, hA, hB]
 | false =>
  simp only [Bool.false_eq_true, if_false, J7] at hl hr ⊢
  refine Ze Xs Ms Vu Zi8 (by show 5 ≤ _; decide) ?_
  simp +contextual -implicitDefEqProofs (maxSteps := 10^7) only [go_sem, seval, ↓gZ, Vu, w1, w2, w3, w4, hl, hr, hA, hB]
end Go.Proofs.YtpobhkoombldlaaGreat
