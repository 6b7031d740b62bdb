/- Contracts of the functions, by the abstract semantics. -/
import Derived.Test.YtcaaffdbjdabmaaACode
import Derived.Test.YtcaaffdbjdabmaaAbsParts
import Derived.Test.YtcaaffdbjdabmaaAC3
namespace Go.Proofs.Ytcaaffdbjdabmaa
open Go Go.Abs Go.Abs.E Go.Abs.L
open Nat (reduceMul reduceSub reduceLeDiff reduceEqDiff)
open Int (reduceLE reduceEq reduceToNat reduceNeg)
set_option linter.unusedSimpArgs false
set_option linter.unusedVariables false
set_option maxRecDepth 20000
set_option maxHeartbeats 4000000
def pcAt (l : List Piece) (n : Int) : Option (Nat × Piece) := if 0 ≤ fLab 0 l n then (l[(fLab 0 l n).toNat]?).map (fun x => ((fLab 0 l n).toNat, x)) else none
theorem pcAt_none {l : List Piece} {n : Int} (h : fLab 0 l n < 0) : pcAt l n = none := by unfold pcAt; rw [if_neg (by omega)]
theorem pcAt_some {l : List Piece} {n : Int} {a : Nat} {x : Piece} (h : fLab 0 l n = (a : Int)) (hx : l[a]? = some x) : pcAt l n = some (a, x) := by
  unfold pcAt
  rw [h, if_pos (by omega), Int.toNat_natCast, hx]; rfl
def evS (s : Shop) (e : Event) : Option Shop :=
  if e.kind = 0 then (if (addR ⟨e.label, e.box.W, e.box.H, []⟩ s.Stock ∧ e.box.X = 0) ∧ e.box.Y = 0 then some { s with Stock := addPc ⟨e.label, e.box.W, e.box.H, []⟩ s.Stock, Came := s.Came + e.box.W * e.box.H } else none)
  else if e.kind = 1 then (match pcAt s.Stock e.label with
    | none => none
    | some (a, q) => if addR { q with Flaws := q.Flaws ++ [e.box] } (s.Stock.eraseIdx a) then some { s with Stock := addPc { q with Flaws := q.Flaws ++ [e.box] } (s.Stock.eraseIdx a) } else none)
  else if e.kind = 5 then (match pcAt s.Stock e.label with
    | none => none
    | some (a, q) => some { s with Stock := s.Stock.eraseIdx a, Lost := s.Lost + q.W * q.H })
  else if e.kind = 2 then (if lineV e.line then some { s with Opn := addL e.line.Pane e.line.Count s.Opn } else none)
  else if e.kind = 4 then (if lineV e.line ∧ takeOk e.line.Pane e.line.Count false s.Done = true then some { s with Opn := addL e.line.Pane e.line.Count s.Opn, Done := takeL s.Done e.line.Pane e.line.Count, Lost := s.Lost + e.line.Count * e.line.Pane.W * e.line.Pane.H } else none)
  else if e.kind = 3 then cutS s e
  else none
def valS (t : Option Shop) : Option Shop := match t with
  | some t => if VShop t then some t else none
  | none => none
def appE (s : Shop) (e : Event) : Option Shop := valS (evS s e)
theorem appE_valid {s t : Shop} {e : Event} (h : appE s e = some t) : VShop t := by
  unfold appE valS at h
  split at h
  · split at h
    · cases h; assumption
    · cases h
  · cases h
theorem SmShop_st {s t : Shop} (h : SmShop s) (ho : t.Opn.length ≤ 1000000) (hd : t.Done.length ≤ 1000000) (hs : VSt t.Stock) : SmShop t :=
  ⟨by have := hs.1; omega, fun x hx => ⟨(VSt_small hs).2 x hx, VPc_R64 (sortF_all hs.2 x hx)⟩, ho, hd⟩
theorem cutS_sm {s t : Shop} {e : Event} (hv : VShop s) (h : cutS s e = some t) : VSt t.Stock ∧ t.Opn.length ≤ 8 ∧ t.Done.length ≤ 1000000 := by
  have hgo : ∀ (ps : List Pane) (us : List Int) (o d o' d' : List Line), cutGo ps us o d = some (o', d') → o'.length ≤ o.length ∧ d'.length ≤ d.length + ps.length := by
    intro ps
    induction ps with
    | nil => intro us o d o' d' h; unfold cutGo at h; cases h; simp
    | cons p ps ih =>
      intro us o d o' d' h
      cases us with
      | nil => unfold cutGo at h; cases h; simp
      | cons c us =>
        rw [cutGo] at h
        split at h
        · have := ih _ _ _ _ _ h; simp; omega
        · split at h
          · have := ih _ _ _ _ _ h
            have h2 := List.length_filterMap_le (takeB p c) o
            have h3 := addL_len p c d
            unfold takeL at this
            simp; omega
          · cases h
  unfold cutS at h
  split at h
  · cases h
  · split at h
    · cases h
    · rename_i R hR
      obtain ⟨_, hvR, _⟩ := cutSt_vp hR
      split at h
      · split at h
        · cases h
        · rename_i o d hg
          cases h
          have := hgo _ _ _ _ _ _ hg
          have h8 := hv.2.1.1
          have h9 := hv.2.2.1.1
          rw [List.length_map] at this
          exact ⟨hvR, by simp only; omega, by simp only; omega⟩
      · cases h
theorem s_applyEvent_ev (sS : List Piece) (sO : List Line) (sD : List Line) (sL : Int) (sC : Int) (eK : Int) (eL : Int) (eX : Int) (eY : Int) (eW : Int) (eH : Int) (epW : Int) (epH : Int) (epT : Bool) (epK : Int) (eC : Int) (eo : Int) (ea : Int) (ep : Int) (et : Bool) (ek : List Plan) (hv : VShop (Shop.mk sS sO sD sL sC)) (hW : eK = 0 → I5 eW) (hH : eK = 0 → I5 eH) : vcall Xs Ms n_s_applyEvent [(.d (.agg [.sl (sS.map Piece.enc), .sl (sO.map Line.enc), .sl (sD.map Line.enc), .int .i64 sL, .int .i64 sC])), (.d (.agg [.int .i64 eK, .int .i64 eL, .int .i64 eX, .int .i64 eY, .int .i64 eW, .int .i64 eH, .int .i64 epW, .int .i64 epH, .bool epT, .int .i64 epK, .int .i64 eC, .int .i64 eo, .int .i64 ea, .int .i64 ep, .bool et, .sl (ek.map Plan.enc)]))] [] = some (shV (appE (Shop.mk sS sO sD sL sC) (Event.mk eK eL (Box.mk eX eY eW eH) (Line.mk (Pane.mk epW epH epT epK) eC) (Plan.mk eo ea ep et ek)))) := by
  have hS := VShop_SmS hv
  have hsm := hS.1
  have hO8 := hv.2.1.1
  have hD8 := hv.2.2.1.1
  simp only at hO8 hD8
  by_cases k0 : eK = 0
  · have hpe := s_pieceEvent_sheet sS sO sD sL sC eK eL eX eY eW eH epW epH epT epK eC eo ea ep et ek hS k0 (hW k0) (hH k0)
    rw [k0] at hpe
    by_cases hr : (addR ⟨eL, eW, eH, []⟩ sS ∧ eX = 0) ∧ eY = 0
    · have ee : appE (Shop.mk sS sO sD sL sC) (Event.mk eK eL (Box.mk eX eY eW eH) (Line.mk (Pane.mk epW epH epT epK) eC) (Plan.mk eo ea ep et ek)) = valS (some (Shop.mk (addPc ⟨eL, eW, eH, []⟩ sS) sO sD sL (sC + eW * eH))) := by unfold appE evS; simp only [k0, hr, if_true, and_self]
      rw [ee]
      rw [decide_eq_true hr, if_pos hr.1.1] at hpe
      have hst : SmShop (Shop.mk (addPc ⟨eL, eW, eH, []⟩ sS) sO sD sL (sC + eW * eH)) := SmShop_st hsm (by simp only; omega) (by simp only; omega) hr.1.1.2
      have e1 := s_validShop_ev _ _ _ _ _ hst
      have e2 := s_copyShop_ev _ _ _ _ _ hst
      unfold valS
      generalize addPc ⟨eL, eW, eH, []⟩ sS = Q at hpe e1 e2 ⊢
      by_cases hvt : VShop (Shop.mk Q sO sD sL (sC + eW * eH))
      · rw [decide_eq_true hvt] at e1
        simp only [if_pos hvt]
        unfold shV
        refine callE Xs Ms f_s_applyEvent x_s_applyEvent (by show 2 ≤ _; decide) ?_
        simp +contextual -implicitDefEqProofs (maxSteps := 10000000) only [go_sem, seval, ↓gA, ↓gB, ↓gC, ↓gD, ↓gE, ↓gF, f_s_applyEvent, k0, hpe, e1, e2]
      · rw [decide_eq_false hvt] at e1
        simp only [if_neg hvt]
        unfold shV
        refine callE Xs Ms f_s_applyEvent x_s_applyEvent (by show 2 ≤ _; decide) ?_
        simp +contextual -implicitDefEqProofs (maxSteps := 10000000) only [go_sem, seval, ↓gA, ↓gB, ↓gC, ↓gD, ↓gE, ↓gF, f_s_applyEvent, k0, hpe, e1]
    · have ee : appE (Shop.mk sS sO sD sL sC) (Event.mk eK eL (Box.mk eX eY eW eH) (Line.mk (Pane.mk epW epH epT epK) eC) (Plan.mk eo ea ep et ek)) = none := by unfold appE evS; simp only [k0, if_true]; rw [if_neg hr]; rfl
      rw [ee]
      rw [decide_eq_false hr] at hpe
      unfold shV
      refine callE Xs Ms f_s_applyEvent x_s_applyEvent (by show 2 ≤ _; decide) ?_
      simp +contextual -implicitDefEqProofs (maxSteps := 10000000) only [go_sem, seval, ↓gA, ↓gB, ↓gC, ↓gD, ↓gE, ↓gF, f_s_applyEvent, k0, hpe]
  · by_cases k15 : eK = 1 ∨ eK = 5
    · by_cases hf : fLab 0 sS eL < 0
      · have hpe := s_pieceEvent_no sS sO sD sL sC eK eL eX eY eW eH epW epH epT epK eC eo ea ep et ek hS k0 hf
        have ee : appE (Shop.mk sS sO sD sL sC) (Event.mk eK eL (Box.mk eX eY eW eH) (Line.mk (Pane.mk epW epH epT epK) eC) (Plan.mk eo ea ep et ek)) = none := by
          unfold appE evS
          rcases k15 with k1 | k1 <;> simp [k1, pcAt_none hf, valS]
        rw [ee]
        unfold shV
        refine callE Xs Ms f_s_applyEvent x_s_applyEvent (by show 2 ≤ _; decide) ?_
        rcases k15 with k1 | k1
        · rw [k1] at hpe
          simp +contextual -implicitDefEqProofs (maxSteps := 10000000) only [go_sem, seval, ↓gA, ↓gB, ↓gC, ↓gD, ↓gE, ↓gF, f_s_applyEvent, k1, hpe]
        · rw [k1] at hpe
          simp +contextual -implicitDefEqProofs (maxSteps := 10000000) only [go_sem, seval, ↓gA, ↓gB, ↓gC, ↓gD, ↓gE, ↓gF, f_s_applyEvent, k1, hpe]
      · obtain ⟨a, x, ha, hx⟩ := fLab_get (by omega : 0 ≤ fLab 0 sS eL)
        have hpa := pcAt_some ha hx
        obtain ⟨xL, xW, xH, xF⟩ := x
        have hxv := sortF_all hv.1.2 _ (List.mem_of_getElem? hx)
        by_cases k1 : eK = 1
        · have hpe := s_pieceEvent_flaw sS sO sD sL sC eK eL eX eY eW eH epW epH epT epK eC eo ea ep et ek hv k1 a ha xL xW xH xF hx
          rw [k1] at hpe
          by_cases hr : addR ⟨xL, xW, xH, xF ++ [⟨eX, eY, eW, eH⟩]⟩ (sS.eraseIdx a)
          · have ee : appE (Shop.mk sS sO sD sL sC) (Event.mk eK eL (Box.mk eX eY eW eH) (Line.mk (Pane.mk epW epH epT epK) eC) (Plan.mk eo ea ep et ek)) = valS (some (Shop.mk (addPc ⟨xL, xW, xH, xF ++ [⟨eX, eY, eW, eH⟩]⟩ (sS.eraseIdx a)) sO sD sL sC)) := by
              unfold appE evS
              simp [k1, hpa, hr]
            rw [ee]
            rw [decide_eq_true hr, if_pos hr] at hpe
            have hst : SmShop (Shop.mk (addPc ⟨xL, xW, xH, xF ++ [⟨eX, eY, eW, eH⟩]⟩ (sS.eraseIdx a)) sO sD sL sC) := SmShop_st hsm (by simp only; omega) (by simp only; omega) hr.2
            have e1 := s_validShop_ev _ _ _ _ _ hst
            have e2 := s_copyShop_ev _ _ _ _ _ hst
            unfold valS
            generalize addPc ⟨xL, xW, xH, xF ++ [⟨eX, eY, eW, eH⟩]⟩ (sS.eraseIdx a) = Q at hpe e1 e2 ⊢
            by_cases hvt : VShop (Shop.mk Q sO sD sL sC)
            · rw [decide_eq_true hvt] at e1
              simp only [if_pos hvt]
              unfold shV
              refine callE Xs Ms f_s_applyEvent x_s_applyEvent (by show 2 ≤ _; decide) ?_
              simp +contextual -implicitDefEqProofs (maxSteps := 10000000) only [go_sem, seval, ↓gA, ↓gB, ↓gC, ↓gD, ↓gE, ↓gF, f_s_applyEvent, k1, hpe, e1, e2]
            · rw [decide_eq_false hvt] at e1
              simp only [if_neg hvt]
              unfold shV
              refine callE Xs Ms f_s_applyEvent x_s_applyEvent (by show 2 ≤ _; decide) ?_
              simp +contextual -implicitDefEqProofs (maxSteps := 10000000) only [go_sem, seval, ↓gA, ↓gB, ↓gC, ↓gD, ↓gE, ↓gF, f_s_applyEvent, k1, hpe, e1]
          · have ee : appE (Shop.mk sS sO sD sL sC) (Event.mk eK eL (Box.mk eX eY eW eH) (Line.mk (Pane.mk epW epH epT epK) eC) (Plan.mk eo ea ep et ek)) = none := by
              unfold appE evS
              simp [k1, hpa, hr, valS]
            rw [ee]
            rw [decide_eq_false hr] at hpe
            unfold shV
            refine callE Xs Ms f_s_applyEvent x_s_applyEvent (by show 2 ≤ _; decide) ?_
            simp +contextual -implicitDefEqProofs (maxSteps := 10000000) only [go_sem, seval, ↓gA, ↓gB, ↓gC, ↓gD, ↓gE, ↓gF, f_s_applyEvent, k1, hpe]
        · have k5 : eK = 5 := by omega
          have hpe := s_pieceEvent_scrap sS sO sD sL sC eK eL eX eY eW eH epW epH epT epK eC eo ea ep et ek hS k5 a ha xL xW xH xF hx (by have := hxv.1; simp only at this; unfold I5; omega) (by have := hxv.1; simp only at this; unfold I5; omega)
          rw [k5] at hpe
          have ee : appE (Shop.mk sS sO sD sL sC) (Event.mk eK eL (Box.mk eX eY eW eH) (Line.mk (Pane.mk epW epH epT epK) eC) (Plan.mk eo ea ep et ek)) = valS (some (Shop.mk (sS.eraseIdx a) sO sD (sL + xW * xH) sC)) := by
            unfold appE evS
            simp [k5, hpa]
          rw [ee]
          have hst : SmShop (Shop.mk (sS.eraseIdx a) sO sD (sL + xW * xH) sC) := ⟨by have := er_len sS a; have := hsm.1; simp only at this ⊢; omega, fun y hy => hsm.2.1 y (List.mem_of_mem_eraseIdx hy), hsm.2.2⟩
          have e1 := s_validShop_ev _ _ _ _ _ hst
          have e2 := s_copyShop_ev _ _ _ _ _ hst
          unfold valS
          generalize sS.eraseIdx a = Q at hpe e1 e2 ⊢
          by_cases hvt : VShop (Shop.mk Q sO sD (sL + xW * xH) sC)
          · rw [decide_eq_true hvt] at e1
            simp only [if_pos hvt]
            unfold shV
            refine callE Xs Ms f_s_applyEvent x_s_applyEvent (by show 2 ≤ _; decide) ?_
            simp +contextual -implicitDefEqProofs (maxSteps := 10000000) only [go_sem, seval, ↓gA, ↓gB, ↓gC, ↓gD, ↓gE, ↓gF, f_s_applyEvent, k5, hpe, e1, e2]
          · rw [decide_eq_false hvt] at e1
            simp only [if_neg hvt]
            unfold shV
            refine callE Xs Ms f_s_applyEvent x_s_applyEvent (by show 2 ≤ _; decide) ?_
            simp +contextual -implicitDefEqProofs (maxSteps := 10000000) only [go_sem, seval, ↓gA, ↓gB, ↓gC, ↓gD, ↓gE, ↓gF, f_s_applyEvent, k5, hpe, e1]
    · have k1 : ¬ eK = 1 := fun h => k15 (.inl h)
      have k5 : ¬ eK = 5 := fun h => k15 (.inr h)
      by_cases k24 : eK = 2 ∨ eK = 4
      · by_cases hl : lineV ⟨⟨epW, epH, epT, epK⟩, eC⟩
        · by_cases k2 : eK = 2
          · have hpe := s_lineEvent_order sS sO sD sL sC eK eL eX eY eW eH epW epH epT epK eC eo ea ep et ek hv hl k2
            rw [k2] at hpe
            have ee : appE (Shop.mk sS sO sD sL sC) (Event.mk eK eL (Box.mk eX eY eW eH) (Line.mk (Pane.mk epW epH epT epK) eC) (Plan.mk eo ea ep et ek)) = valS (some (Shop.mk sS (addL ⟨epW, epH, epT, epK⟩ eC sO) sD sL sC)) := by
              unfold appE evS
              simp [k2, hl]
            rw [ee]
            have hst : SmShop (Shop.mk sS (addL ⟨epW, epH, epT, epK⟩ eC sO) sD sL sC) := SmShop_st hsm (Nat.le_trans (addL_len _ _ _) (by omega)) (by simp only; omega) hv.1
            have e1 := s_validShop_ev _ _ _ _ _ hst
            have e2 := s_copyShop_ev _ _ _ _ _ hst
            unfold valS
            generalize addL ⟨epW, epH, epT, epK⟩ eC sO = Q at hpe e1 e2 ⊢
            by_cases hvt : VShop (Shop.mk sS Q sD sL sC)
            · rw [decide_eq_true hvt] at e1
              simp only [if_pos hvt]
              unfold shV
              refine callE Xs Ms f_s_applyEvent x_s_applyEvent (by show 2 ≤ _; decide) ?_
              simp +contextual -implicitDefEqProofs (maxSteps := 10000000) only [go_sem, seval, ↓gA, ↓gB, ↓gC, ↓gD, ↓gE, ↓gF, f_s_applyEvent, k2, hpe, e1, e2]
            · rw [decide_eq_false hvt] at e1
              simp only [if_neg hvt]
              unfold shV
              refine callE Xs Ms f_s_applyEvent x_s_applyEvent (by show 2 ≤ _; decide) ?_
              simp +contextual -implicitDefEqProofs (maxSteps := 10000000) only [go_sem, seval, ↓gA, ↓gB, ↓gC, ↓gD, ↓gE, ↓gF, f_s_applyEvent, k2, hpe, e1]
          · have k4 : eK = 4 := by omega
            have hpe := s_lineEvent_break sS sO sD sL sC eK eL eX eY eW eH epW epH epT epK eC eo ea ep et ek hv hl k2
            rw [k4] at hpe
            by_cases ht : takeOk ⟨epW, epH, epT, epK⟩ eC false sD = true
            · rw [ht] at hpe
              have ee : appE (Shop.mk sS sO sD sL sC) (Event.mk eK eL (Box.mk eX eY eW eH) (Line.mk (Pane.mk epW epH epT epK) eC) (Plan.mk eo ea ep et ek)) = valS (some (Shop.mk sS (addL ⟨epW, epH, epT, epK⟩ eC sO) (takeL sD ⟨epW, epH, epT, epK⟩ eC) (sL + eC * epW * epH) sC)) := by
                unfold appE evS
                simp [k4, hl, ht]
              rw [ee]
              have hst : SmShop (Shop.mk sS (addL ⟨epW, epH, epT, epK⟩ eC sO) (takeL sD ⟨epW, epH, epT, epK⟩ eC) (sL + eC * epW * epH) sC) := SmShop_st hsm (Nat.le_trans (addL_len _ _ _) (by omega)) (Nat.le_trans (List.length_filterMap_le _ _) (by omega)) hv.1
              have e1 := s_validShop_ev _ _ _ _ _ hst
              have e2 := s_copyShop_ev _ _ _ _ _ hst
              unfold valS
              generalize addL ⟨epW, epH, epT, epK⟩ eC sO = Q at hpe e1 e2 ⊢
              generalize takeL sD ⟨epW, epH, epT, epK⟩ eC = R at hpe e1 e2 ⊢
              by_cases hvt : VShop (Shop.mk sS Q R (sL + eC * epW * epH) sC)
              · rw [decide_eq_true hvt] at e1
                simp only [if_pos hvt]
                unfold shV
                refine callE Xs Ms f_s_applyEvent x_s_applyEvent (by show 2 ≤ _; decide) ?_
                simp +contextual -implicitDefEqProofs (maxSteps := 10000000) only [go_sem, seval, ↓gA, ↓gB, ↓gC, ↓gD, ↓gE, ↓gF, f_s_applyEvent, k4, hpe, e1, e2]
              · rw [decide_eq_false hvt] at e1
                simp only [if_neg hvt]
                unfold shV
                refine callE Xs Ms f_s_applyEvent x_s_applyEvent (by show 2 ≤ _; decide) ?_
                simp +contextual -implicitDefEqProofs (maxSteps := 10000000) only [go_sem, seval, ↓gA, ↓gB, ↓gC, ↓gD, ↓gE, ↓gF, f_s_applyEvent, k4, hpe, e1]
            · have ee : appE (Shop.mk sS sO sD sL sC) (Event.mk eK eL (Box.mk eX eY eW eH) (Line.mk (Pane.mk epW epH epT epK) eC) (Plan.mk eo ea ep et ek)) = none := by
                unfold appE evS
                simp [k4, ht, valS]
              rw [ee]
              simp only [Bool.not_eq_true] at ht
              rw [ht] at hpe
              unfold shV
              refine callE Xs Ms f_s_applyEvent x_s_applyEvent (by show 2 ≤ _; decide) ?_
              simp +contextual -implicitDefEqProofs (maxSteps := 10000000) only [go_sem, seval, ↓gA, ↓gB, ↓gC, ↓gD, ↓gE, ↓gF, f_s_applyEvent, k4, hpe]
        · have hpe := s_lineEvent_bad sS sO sD sL sC eK eL eX eY eW eH epW epH epT epK eC eo ea ep et ek hl
          have ee : appE (Shop.mk sS sO sD sL sC) (Event.mk eK eL (Box.mk eX eY eW eH) (Line.mk (Pane.mk epW epH epT epK) eC) (Plan.mk eo ea ep et ek)) = none := by
            unfold appE evS
            rcases k24 with k2 | k2 <;> simp [k2, hl, valS]
          rw [ee]
          unfold shV
          refine callE Xs Ms f_s_applyEvent x_s_applyEvent (by show 2 ≤ _; decide) ?_
          rcases k24 with k2 | k2
          · rw [k2] at hpe
            simp +contextual -implicitDefEqProofs (maxSteps := 10000000) only [go_sem, seval, ↓gA, ↓gB, ↓gC, ↓gD, ↓gE, ↓gF, f_s_applyEvent, k2, hpe]
          · rw [k2] at hpe
            simp +contextual -implicitDefEqProofs (maxSteps := 10000000) only [go_sem, seval, ↓gA, ↓gB, ↓gC, ↓gD, ↓gE, ↓gF, f_s_applyEvent, k2, hpe]
      · have k2 : ¬ eK = 2 := fun h => k24 (.inl h)
        have k4 : ¬ eK = 4 := fun h => k24 (.inr h)
        by_cases k3 : eK = 3
        · have hpe := s_cutEvent_ev sS sO sD sL sC eK eL eX eY eW eH epW epH epT epK eC eo ea ep et ek hv
          subst k3
          have ee : appE (Shop.mk sS sO sD sL sC) (Event.mk 3 eL ⟨eX, eY, eW, eH⟩ ⟨⟨epW, epH, epT, epK⟩, eC⟩ (.mk eo ea ep et ek)) = valS (cutS (Shop.mk sS sO sD sL sC) (Event.mk 3 eL ⟨eX, eY, eW, eH⟩ ⟨⟨epW, epH, epT, epK⟩, eC⟩ (.mk eo ea ep et ek))) := by
            unfold appE evS
            simp
          rw [ee]
          have hcsm := fun t => cutS_sm (t := t) (e := Event.mk 3 eL ⟨eX, eY, eW, eH⟩ ⟨⟨epW, epH, epT, epK⟩, eC⟩ (.mk eo ea ep et ek)) hv
          cases hc : cutS (Shop.mk sS sO sD sL sC) (Event.mk 3 eL ⟨eX, eY, eW, eH⟩ ⟨⟨epW, epH, epT, epK⟩, eC⟩ (.mk eo ea ep et ek)) with
          | none =>
            rw [hc] at hpe
            unfold valS shV at *
            simp only
            refine callE Xs Ms f_s_applyEvent x_s_applyEvent (by show 2 ≤ _; decide) ?_
            simp +contextual -implicitDefEqProofs (maxSteps := 10000000) only [go_sem, seval, ↓gA, ↓gB, ↓gC, ↓gD, ↓gE, ↓gF, f_s_applyEvent, hpe]
          | some t =>
            obtain ⟨g1, g2, g3⟩ := hcsm t hc
            rw [hc] at hpe
            have hst : SmShop t := SmShop_st hsm (by omega) g3 g1
            obtain ⟨tS, tO, tD, tL, tC⟩ := t
            have e1 := s_validShop_ev _ _ _ _ _ hst
            have e2 := s_copyShop_ev _ _ _ _ _ hst
            unfold valS
            unfold shV at hpe
            simp only at hpe
            by_cases hvt : VShop (Shop.mk tS tO tD tL tC)
            · rw [decide_eq_true hvt] at e1
              simp only [if_pos hvt]
              unfold shV
              refine callE Xs Ms f_s_applyEvent x_s_applyEvent (by show 2 ≤ _; decide) ?_
              simp +contextual -implicitDefEqProofs (maxSteps := 10000000) only [go_sem, seval, ↓gA, ↓gB, ↓gC, ↓gD, ↓gE, ↓gF, f_s_applyEvent, hpe, e1, e2]
            · rw [decide_eq_false hvt] at e1
              simp only [if_neg hvt]
              unfold shV
              refine callE Xs Ms f_s_applyEvent x_s_applyEvent (by show 2 ≤ _; decide) ?_
              simp +contextual -implicitDefEqProofs (maxSteps := 10000000) only [go_sem, seval, ↓gA, ↓gB, ↓gC, ↓gD, ↓gE, ↓gF, f_s_applyEvent, hpe, e1]
        · have ee : appE (Shop.mk sS sO sD sL sC) (Event.mk eK eL (Box.mk eX eY eW eH) (Line.mk (Pane.mk epW epH epT epK) eC) (Plan.mk eo ea ep et ek)) = none := by
            unfold appE evS
            simp [k0, k1, k5, k2, k4, k3, valS]
          rw [ee]
          unfold shV
          refine callE Xs Ms f_s_applyEvent x_s_applyEvent (by show 2 ≤ _; decide) ?_
          simp +contextual -implicitDefEqProofs (maxSteps := 10000000) only [go_sem, seval, ↓gA, ↓gB, ↓gC, ↓gD, ↓gE, ↓gF, f_s_applyEvent, k0, k1, k5, k2, k4, k3]

def rowC (F : List Box) (W w h y : Int) : Nat → Int → Option Box
  | 0, _ => none
  | n + 1, x => if x + w ≤ W then (if clearOf F ⟨x, y, w, h⟩ then some ⟨x, y, w, h⟩ else rowC F W w h y n (x + 1)) else none
def colC (F : List Box) (W H w h : Int) : Nat → Int → Option Box
  | 0, _ => none
  | n + 1, y => if y + h ≤ H then (match rowC F W w h y (W.toNat + 1) 0 with
    | some b => some b
    | none => colC F W H w h n (y + 1)) else none
def firstC (q : Piece) (w h : Int) : Option Box := colC q.Flaws q.W q.H w h (q.H.toNat + 1) 0
theorem rowC_some {F : List Box} {W w h y : Int} : ∀ {n : Nat} {x : Int} {b : Box}, rowC F W w h y n x = some b → x ≤ b.X ∧ b.X + w ≤ W ∧ b.Y = y ∧ b.W = w ∧ b.H = h ∧ clearOf F b
  | 0, x, b, e => by simp [rowC] at e
  | n + 1, x, b, e => by
    unfold rowC at e
    split at e
    · split at e
      · cases e; exact ⟨Int.le_refl _, by assumption, rfl, rfl, rfl, by assumption⟩
      · obtain ⟨h1, h2⟩ := rowC_some e
        exact ⟨by omega, h2⟩
    · cases e
theorem colC_some {F : List Box} {W H w h : Int} : ∀ {n : Nat} {y : Int} {b : Box}, colC F W H w h n y = some b → 0 ≤ b.X ∧ b.X + w ≤ W ∧ y ≤ b.Y ∧ b.Y + h ≤ H ∧ b.W = w ∧ b.H = h ∧ clearOf F b
  | 0, y, b, e => by simp [colC] at e
  | n + 1, y, b, e => by
    unfold colC at e
    split at e
    · rename_i hy
      split at e
      · rename_i c hc
        cases e
        obtain ⟨h1, h2, h3, h4, h5, h6⟩ := rowC_some hc
        exact ⟨h1, h2, by omega, by omega, h4, h5, h6⟩
      · obtain ⟨h1, h2, h3, h4⟩ := colC_some e
        exact ⟨h1, h2, by omega, h4⟩
    · cases e
theorem firstC_some {q : Piece} {w h : Int} {b : Box} (e : firstC q w h = some b) : 0 ≤ b.X ∧ b.X + w ≤ q.W ∧ 0 ≤ b.Y ∧ b.Y + h ≤ q.H ∧ b.W = w ∧ b.H = h ∧ clearOf q.Flaws b := colC_some e
def fcV : Option Box → AV × List AObj
  | some b => (.tup [.d b.enc, (.d (.bool (true)))], [])
  | none => (.tup [.d (.agg [.int .i64 0, .int .i64 0, .int .i64 0, .int .i64 0]), (.d (.bool (false)))], [])
theorem s_firstClear_ev (qL : Int) (qW : Int) (qH : Int) (qF : List Box) (w h : Int) (hq : VPc (Piece.mk qL qW qH qF)) (hw : 1 ≤ w ∧ w ≤ 200) (hh : 1 ≤ h ∧ h ≤ 200) : vcall Xs Ms n_s_firstClear [(.d (.agg [.int .i64 qL, .int .i64 qW, .int .i64 qH, .sl (qF.map Box.enc)])), (.d (.int .i64 (w))), (.d (.int .i64 (h)))] [] = some (fcV (firstC (Piece.mk qL qW qH qF) w h)) := by
  have hF : ∀ f ∈ qF, VB f := fun f hf => (hq.2 f hf).1
  obtain ⟨_, _, hW1, hW2, hH1, hH2, hF6⟩ := hq.1
  simp only at hW1 hW2 hH1 hH2 hF6
  clear hq
  unfold firstC
  simp only
  refine callE Xs Ms f_s_firstClear x_s_firstClear (by show 3 ≤ _; decide) ?_
  simp +contextual -implicitDefEqProofs (maxSteps := 10000000) only [go_sem, seval, ↓gA, ↓gB, ↓gC, ↓gD, ↓gE, ↓gF, f_s_firstClear]
  refine LW_over Xs Ms (st0 := ?st0) (α := Nat) (fun y => [(8, .d (.int .i64 (y : Int)))]) (fun _ => []) (fun y => (y : Int) ≤ qH ∧ colC qF qW qH w h (qH.toNat + 1 - y) y = colC qF qW qH w h (qH.toNat + 1) 0) (fun y => qH.toNat + 1 - y) 0 ?hc ⟨by omega, by simp⟩ ?h0 ?step
  case hc => simp +contextual -implicitDefEqProofs (maxSteps := 10000000) only [go_sem, seval, ↓gA, ↓gB, ↓gC, ↓gD, ↓gE, ↓gF] <;> exact rfl
  case h0 => rfl
  case step =>
    intro y ⟨hy, hp⟩ ih
    obtain ⟨n, hn⟩ : ∃ n, qH.toNat + 1 - y = n + 1 := ⟨qH.toNat - y, by omega⟩
    rw [hn, colC] at hp
    have wy := wi ((y : Int) + h) (by omega) (by omega)
    by_cases hyl : (y : Int) + h ≤ qH
    · rw [if_pos hyl] at hp
      simp +contextual -implicitDefEqProofs (maxSteps := 10000000) only [go_sem, seval, ↓gA, ↓gB, ↓gC, ↓gD, ↓gE, ↓gF, wy, hyl]
      refine LW_over Xs Ms (st0 := ?st1) (α := Nat) (fun x => [(9, .d (.int .i64 (x : Int)))]) (fun _ => []) (fun x => (x : Int) ≤ qW ∧ rowC qF qW w h y (qW.toNat + 1 - x) x = rowC qF qW w h y (qW.toNat + 1) 0) (fun x => qW.toNat + 1 - x) 0 ?hc2 ⟨by omega, by simp⟩ ?h02 ?step2
      case hc2 => simp +contextual -implicitDefEqProofs (maxSteps := 10000000) only [go_sem, seval, ↓gA, ↓gB, ↓gC, ↓gD, ↓gE, ↓gF] <;> exact rfl
      case h02 => rfl
      case step2 =>
        intro x ⟨hx, hpx⟩ ih2
        obtain ⟨m, hm⟩ : ∃ m, qW.toNat + 1 - x = m + 1 := ⟨qW.toNat - x, by omega⟩
        rw [hm, rowC] at hpx
        have wx := wi ((x : Int) + w) (by omega) (by omega)
        have hsx := wrap_succ (k := x) (by omega)
        have hsy := wrap_succ (k := y) (by omega)
        by_cases hxl : (x : Int) + w ≤ qW
        · rw [if_pos hxl] at hpx
          have ec := s_clearAt_ev qL qW qH qF x y w h hF (by simp only [VB]; omega) (by omega)
          by_cases hcl : clearOf qF ⟨x, y, w, h⟩
          · rw [if_pos hcl] at hpx
            rw [← hpx] at hp
            simp only at hp
            rw [decide_eq_true hcl] at ec
            simp +contextual -implicitDefEqProofs (maxSteps := 10000000) only [go_sem, seval, ↓gA, ↓gB, ↓gC, ↓gD, ↓gE, ↓gF, wx, hxl, ec]
            rw [← hp]
            rfl
          · rw [if_neg hcl] at hpx
            rw [decide_eq_false hcl] at ec
            simp +contextual -implicitDefEqProofs (maxSteps := 10000000) only [go_sem, seval, ↓gA, ↓gB, ↓gC, ↓gD, ↓gE, ↓gF, wx, hxl, ec, hsx]
            refine ih2 (x + 1) _ ⟨by omega, ?_⟩ (by omega) ?_
            · rw [← hpx]
              have : qW.toNat + 1 - (x + 1) = m := by omega
              rw [this]
              rfl
            · simp +contextual -implicitDefEqProofs (maxSteps := 10000000) only [go_sem, seval, ↓gA, ↓gB, ↓gC, ↓gD, ↓gE, ↓gF]
        · rw [if_neg hxl] at hpx
          rw [← hpx] at hp
          simp only at hp
          simp +contextual -implicitDefEqProofs (maxSteps := 10000000) only [go_sem, seval, ↓gA, ↓gB, ↓gC, ↓gD, ↓gE, ↓gF, wx, hxl, hsy]
          refine ih (y + 1) _ ⟨by omega, ?_⟩ (by omega) ?_
          · rw [← hp]
            have : qH.toNat + 1 - (y + 1) = n := by omega
            rw [this]
            rfl
          · simp +contextual -implicitDefEqProofs (maxSteps := 10000000) only [go_sem, seval, ↓gA, ↓gB, ↓gC, ↓gD, ↓gE, ↓gF]
    · rw [if_neg hyl] at hp
      simp +contextual -implicitDefEqProofs (maxSteps := 10000000) only [go_sem, seval, ↓gA, ↓gB, ↓gC, ↓gD, ↓gE, ↓gF, wy, hyl]
      rw [← hp]
      rfl
def okP (p : Pane) (q : Piece) : Bool := (firstC q p.W p.H).isSome || (p.Turns && (firstC q p.H p.W).isSome)
def areaAt (l : List Piece) (b : Int) : Int := match l[b.toNat]? with
  | some q => q.W * q.H
  | none => 0
def findGo (L : List Piece) (p : Pane) : List Piece → Nat → Int → Int
  | [], _, b => b
  | x :: r, i, b => findGo L p r (i + 1) (if okP p x = true ∧ (b < 0 ∨ x.W * x.H < areaAt L b) then (i : Int) else b)
theorem findGo_cons {L l : List Piece} {p : Pane} {k i : Nat} {x : Piece} {b : Int} (hx : l[k]? = some x) : findGo L p (l.drop k) i b = findGo L p (l.drop (k + 1)) (i + 1) (if okP p x = true ∧ (b < 0 ∨ x.W * x.H < areaAt L b) then (i : Int) else b) := by
  obtain ⟨h1, h2⟩ := List.getElem?_eq_some_iff.1 hx
  rw [List.drop_eq_getElem_cons h1, h2, findGo]
theorem findGo_end {L l : List Piece} {p : Pane} {i : Nat} {b : Int} : findGo L p (l.drop l.length) i b = b := by simp [findGo]
def findI (L : List Piece) (p : Pane) : Int := findGo L p L 0 (-1)
def findP (L : List Piece) (p : Pane) : Int := if VSt L ∧ VP p then (if findI L p < 0 then 0 else match L[(findI L p).toNat]? with
  | some q => q.Label
  | none => 0) else 0
theorem findGo_ok (L : List Piece) (p : Pane) : ∀ (l : List Piece) (i : Nat) (b : Int), (∀ (j : Nat) (x : Piece), l[j]? = some x → L[i + j]? = some x) → (b < 0 ∨ ∃ (j : Nat) (x : Piece), b = (j : Int) ∧ L[j]? = some x ∧ okP p x = true) → findGo L p l i b < 0 ∨ ∃ (j : Nat) (x : Piece), findGo L p l i b = (j : Int) ∧ L[j]? = some x ∧ okP p x = true
  | [], i, b, _, hb => hb
  | x :: r, i, b, hl, hb => by
    unfold findGo
    refine findGo_ok L p r (i + 1) _ (fun j y hy => by have := hl (j + 1) y (by simpa using hy); rw [show i + 1 + j = i + (j + 1) by omega]; exact this) ?_
    split
    · rename_i hc
      exact .inr ⟨i, x, rfl, by have := hl 0 x (by simp); simpa using this, hc.1⟩
    · exact hb
theorem findI_ok (L : List Piece) (p : Pane) : findI L p < 0 ∨ ∃ (j : Nat) (x : Piece), findI L p = (j : Int) ∧ L[j]? = some x ∧ okP p x = true :=
  findGo_ok L p L 0 (-1) (fun j x h => by simpa using h) (.inl (by omega))
theorem s_FindPiece_ev (l : List Piece) (pW : Int) (pH : Int) (pT : Bool) (pK : Int) (hv : VSt l) (hp : VP (Pane.mk pW pH pT pK)) : vcall Xs Ms n_s_FindPiece [(.d (.sl (l.map Piece.enc))), (.d (.agg [.int .i64 pW, .int .i64 pH, .bool pT, .int .i64 pK]))] [] = some ((.d (.int .i64 (findP l (Pane.mk pW pH pT pK)))), []) := by
  have e1 := s_validStock_ev l (by have := hv.1; omega) (fun x hx => ⟨by have := (VSt_small hv).2 x hx; omega, VPc_R64 (sortF_all hv.2 x hx)⟩)
  have e2 := s_validPane_ev pW pH pT pK
  rw [decide_eq_true hv] at e1
  rw [decide_eq_true hp] at e2
  have hval := fun x hx => sortF_all hv.2 x hx
  have hl20 := hv.1
  unfold findP
  rw [if_pos ⟨hv, hp⟩]
  have hpw : 1 ≤ pW ∧ pW ≤ 200 ∧ 1 ≤ pH ∧ pH ≤ 200 := ⟨hp.1, hp.2.1, hp.2.2.1, hp.2.2.2.1⟩
  clear hv hp
  refine callE Xs Ms f_s_FindPiece x_s_FindPiece (by show 2 ≤ _; decide) ?_
  simp +contextual -implicitDefEqProofs (maxSteps := 10000000) only [go_sem, seval, ↓gA, ↓gB, ↓gC, ↓gD, ↓gE, ↓gF, f_s_FindPiece, e1, e2]
  refine LW_over Xs Ms (st0 := ?st0) (α := Nat × Int) (fun s => [(6, .d (.int .i64 (s.1 : Int))), (5, .d (.int .i64 s.2))]) (fun _ => []) (fun s => s.1 ≤ l.length ∧ findGo l (Pane.mk pW pH pT pK) (l.drop s.1) s.1 s.2 = findI l (Pane.mk pW pH pT pK) ∧ (s.2 = -1 ∨ ∃ j : Nat, s.2 = (j : Int) ∧ j < l.length)) (fun s => l.length - s.1) (0, -1) ?hc ⟨by simp, by simp [findI], .inl rfl⟩ ?h0 ?step
  case hc => simp +contextual -implicitDefEqProofs (maxSteps := 10000000) only [go_sem, seval, ↓gA, ↓gB, ↓gC, ↓gD, ↓gE, ↓gF] <;> exact rfl
  case h0 => rfl
  case step =>
    intro ⟨i, b⟩ ⟨hi, hq, hb⟩ ih
    simp only at hi hq hb
    by_cases hlt : i < l.length
    · obtain ⟨x, hx⟩ := get_lt hlt
      have hw := wrap_succ (k := i) (by omega)
      rw [findGo_cons hx] at hq
      have hvx := hval x (List.mem_of_getElem? hx)
      have f1 := s_firstClear_ev x.Label x.W x.H x.Flaws pW pH hvx ⟨hpw.1, hpw.2.1⟩ hpw.2.2
      have f2 := s_firstClear_ev x.Label x.W x.H x.Flaws pH pW hvx hpw.2.2 ⟨hpw.1, hpw.2.1⟩
      have hx1 := hvx.1
      have hxa : 0 ≤ x.W * x.H ∧ x.W * x.H ≤ 40000 := area_VB (b := ⟨0, 0, x.W, x.H⟩) (by simp only [VB]; omega)
      have hok : okP (Pane.mk pW pH pT pK) x = ((firstC ⟨x.Label, x.W, x.H, x.Flaws⟩ pW pH).isSome || (pT && (firstC ⟨x.Label, x.W, x.H, x.Flaws⟩ pH pW).isSome)) := rfl
      obtain ⟨L, W, H, F⟩ := x
      simp only at f1 f2 hxa hok
      have u1 := wi (W * H) (by omega) (by omega)
      cases h1 : firstC ⟨L, W, H, F⟩ pW pH with
      | some b1 =>
        rw [h1] at f1 hok
        unfold fcV at f1
        simp only [Option.isSome_some, Bool.true_or] at hok
        obtain ⟨bX, bY, bW, bH⟩ := b1
        rcases hb with hb | ⟨j, hb, hj⟩
        · subst hb
          rw [if_pos ⟨hok, .inl (by omega)⟩] at hq
          simp +contextual -implicitDefEqProofs (maxSteps := 10000000) only [go_sem, seval, ↓gA, ↓gB, ↓gC, ↓gD, ↓gE, ↓gF, hx, hlt, hw, f1]
          refine ih (i + 1, (i : Int)) _ ⟨by simp only; omega, hq, .inr ⟨i, rfl, hlt⟩⟩ (by simp only; omega) ?_
          simp +contextual -implicitDefEqProofs (maxSteps := 10000000) only [go_sem, seval, ↓gA, ↓gB, ↓gC, ↓gD, ↓gE, ↓gF]
        · subst hb
          obtain ⟨y, hy⟩ := get_lt hj
          have hvy := (hval y (List.mem_of_getElem? hy)).1
          have hya : 0 ≤ y.W * y.H ∧ y.W * y.H ≤ 40000 := area_VB (b := ⟨0, 0, y.W, y.H⟩) (by simp only [VB]; omega)
          have hj0 : ¬ (j : Int) < 0 := by omega
          have har : areaAt l (j : Int) = y.W * y.H := by unfold areaAt; rw [Int.toNat_natCast, hy]
          rw [har] at hq
          obtain ⟨yL, yW, yH, yF⟩ := y
          simp only at hya hq
          have u2 := wi (yW * yH) (by omega) (by omega)
          by_cases hc : W * H < yW * yH
          · rw [if_pos ⟨hok, .inr hc⟩] at hq
            simp +contextual -implicitDefEqProofs (maxSteps := 10000000) only [go_sem, seval, ↓gA, ↓gB, ↓gC, ↓gD, ↓gE, ↓gF, hx, hlt, hw, hj0, hj, hy, u1, u2, hc, f1]
            refine ih (i + 1, (i : Int)) _ ⟨by simp only; omega, hq, .inr ⟨i, rfl, hlt⟩⟩ (by simp only; omega) ?_
            simp +contextual -implicitDefEqProofs (maxSteps := 10000000) only [go_sem, seval, ↓gA, ↓gB, ↓gC, ↓gD, ↓gE, ↓gF]
          · rw [if_neg (fun h => by rcases h.2 with h | h <;> omega)] at hq
            simp +contextual -implicitDefEqProofs (maxSteps := 10000000) only [go_sem, seval, ↓gA, ↓gB, ↓gC, ↓gD, ↓gE, ↓gF, hx, hlt, hw, hj0, hj, hy, u1, u2, hc, f1]
            refine ih (i + 1, (j : Int)) _ ⟨by simp only; omega, hq, .inr ⟨j, rfl, hj⟩⟩ (by simp only; omega) ?_
            simp +contextual -implicitDefEqProofs (maxSteps := 10000000) only [go_sem, seval, ↓gA, ↓gB, ↓gC, ↓gD, ↓gE, ↓gF]
      | none =>
        rw [h1] at f1 hok
        unfold fcV at f1
        cases pT with
        | false =>
          simp only [Option.isSome_none, Bool.false_and, Bool.or_self] at hok
          rw [if_neg (fun h => by rw [hok] at h; exact absurd h.1 (by simp))] at hq
          simp +contextual -implicitDefEqProofs (maxSteps := 10000000) only [go_sem, seval, ↓gA, ↓gB, ↓gC, ↓gD, ↓gE, ↓gF, hx, hlt, hw, f1]
          refine ih (i + 1, b) _ ⟨by simp only; omega, hq, hb⟩ (by simp only; omega) ?_
          simp +contextual -implicitDefEqProofs (maxSteps := 10000000) only [go_sem, seval, ↓gA, ↓gB, ↓gC, ↓gD, ↓gE, ↓gF]
        | true =>
          cases h2 : firstC ⟨L, W, H, F⟩ pH pW with
          | none =>
            rw [h2] at f2 hok
            unfold fcV at f2
            simp only [Option.isSome_none, Bool.true_and, Bool.or_self] at hok
            rw [if_neg (fun h => by rw [hok] at h; exact absurd h.1 (by simp))] at hq
            simp +contextual -implicitDefEqProofs (maxSteps := 10000000) only [go_sem, seval, ↓gA, ↓gB, ↓gC, ↓gD, ↓gE, ↓gF, hx, hlt, hw, f1, f2]
            refine ih (i + 1, b) _ ⟨by simp only; omega, hq, hb⟩ (by simp only; omega) ?_
            simp +contextual -implicitDefEqProofs (maxSteps := 10000000) only [go_sem, seval, ↓gA, ↓gB, ↓gC, ↓gD, ↓gE, ↓gF]
          | some b2 =>
            rw [h2] at f2 hok
            unfold fcV at f2
            simp only [Option.isSome_some, Option.isSome_none, Bool.true_and, Bool.false_or] at hok
            obtain ⟨bX, bY, bW, bH⟩ := b2
            rcases hb with hb | ⟨j, hb, hj⟩
            · subst hb
              rw [if_pos ⟨hok, .inl (by omega)⟩] at hq
              simp +contextual -implicitDefEqProofs (maxSteps := 10000000) only [go_sem, seval, ↓gA, ↓gB, ↓gC, ↓gD, ↓gE, ↓gF, hx, hlt, hw, f1, f2]
              refine ih (i + 1, (i : Int)) _ ⟨by simp only; omega, hq, .inr ⟨i, rfl, hlt⟩⟩ (by simp only; omega) ?_
              simp +contextual -implicitDefEqProofs (maxSteps := 10000000) only [go_sem, seval, ↓gA, ↓gB, ↓gC, ↓gD, ↓gE, ↓gF]
            · subst hb
              obtain ⟨y, hy⟩ := get_lt hj
              have hvy := (hval y (List.mem_of_getElem? hy)).1
              have hya : 0 ≤ y.W * y.H ∧ y.W * y.H ≤ 40000 := area_VB (b := ⟨0, 0, y.W, y.H⟩) (by simp only [VB]; omega)
              have hj0 : ¬ (j : Int) < 0 := by omega
              have har : areaAt l (j : Int) = y.W * y.H := by unfold areaAt; rw [Int.toNat_natCast, hy]
              rw [har] at hq
              obtain ⟨yL, yW, yH, yF⟩ := y
              simp only at hya hq
              have u2 := wi (yW * yH) (by omega) (by omega)
              by_cases hc : W * H < yW * yH
              · rw [if_pos ⟨hok, .inr hc⟩] at hq
                simp +contextual -implicitDefEqProofs (maxSteps := 10000000) only [go_sem, seval, ↓gA, ↓gB, ↓gC, ↓gD, ↓gE, ↓gF, hx, hlt, hw, hj0, hj, hy, u1, u2, hc, f1, f2]
                refine ih (i + 1, (i : Int)) _ ⟨by simp only; omega, hq, .inr ⟨i, rfl, hlt⟩⟩ (by simp only; omega) ?_
                simp +contextual -implicitDefEqProofs (maxSteps := 10000000) only [go_sem, seval, ↓gA, ↓gB, ↓gC, ↓gD, ↓gE, ↓gF]
              · rw [if_neg (fun h => by rcases h.2 with h | h <;> omega)] at hq
                simp +contextual -implicitDefEqProofs (maxSteps := 10000000) only [go_sem, seval, ↓gA, ↓gB, ↓gC, ↓gD, ↓gE, ↓gF, hx, hlt, hw, hj0, hj, hy, u1, u2, hc, f1, f2]
                refine ih (i + 1, (j : Int)) _ ⟨by simp only; omega, hq, .inr ⟨j, rfl, hj⟩⟩ (by simp only; omega) ?_
                simp +contextual -implicitDefEqProofs (maxSteps := 10000000) only [go_sem, seval, ↓gA, ↓gB, ↓gC, ↓gD, ↓gE, ↓gF]
    · have : i = l.length := by omega
      subst this
      rw [findGo_end] at hq
      subst hq
      rcases hb with hb | ⟨j, hb, hj⟩
      · have h0 : findI l (Pane.mk pW pH pT pK) < 0 := by omega
        simp +contextual -implicitDefEqProofs (maxSteps := 10000000) only [go_sem, seval, ↓gA, ↓gB, ↓gC, ↓gD, ↓gE, ↓gF, hb]
      · have h0 : ¬ findI l (Pane.mk pW pH pT pK) < 0 := by omega
        have h1 : ¬ (j : Int) < 0 := by omega
        obtain ⟨y, hy⟩ := get_lt hj
        simp only [hb, if_neg h1, Int.toNat_natCast, hy]
        obtain ⟨yL, yW, yH, yF⟩ := y
        simp +contextual -implicitDefEqProofs (maxSteps := 10000000) only [go_sem, seval, ↓gA, ↓gB, ↓gC, ↓gD, ↓gE, ↓gF, h1, hj, hy]

def edgeL (lo hi fr to : Int) : List Int := (if fr < lo ∧ lo < to then [lo] else []) ++ (if fr < hi ∧ hi < to then [hi] else [])
theorem edgeL_mem {lo hi fr to x : Int} (h : x ∈ edgeL lo hi fr to) : x < to := by
  unfold edgeL at h
  rcases List.mem_append.1 h with h | h
  · split at h
    · simp at h; omega
    · simp at h
  · split at h
    · simp at h; omega
    · simp at h
theorem edgeL_len (lo hi fr to : Int) : (edgeL lo hi fr to).length ≤ 2 := by
  unfold edgeL
  split <;> split <;> simp
theorem edgeL_yes {lo hi fr t : Int} (hl : lo < hi) (hf : fr < t) (h : t = lo ∨ t = hi) : edgeL lo hi fr (t + 1) = edgeL lo hi fr t ++ [t] := by
  unfold edgeL
  rcases h with h | h
  · rw [if_pos (show fr < lo ∧ lo < t + 1 by omega), if_neg (show ¬ (fr < hi ∧ hi < t + 1) by omega), if_neg (show ¬ (fr < lo ∧ lo < t) by omega), if_neg (show ¬ (fr < hi ∧ hi < t) by omega), h]; rfl
  · rw [if_pos (show fr < hi ∧ hi < t + 1 by omega), if_neg (show ¬ (fr < hi ∧ hi < t) by omega)]
    by_cases h2 : fr < lo
    · rw [if_pos (show fr < lo ∧ lo < t + 1 by omega), if_pos (show fr < lo ∧ lo < t by omega), h]; rfl
    · rw [if_neg (show ¬ (fr < lo ∧ lo < t + 1) by omega), if_neg (show ¬ (fr < lo ∧ lo < t) by omega), h]; rfl
theorem edgeL_no {lo hi fr t : Int} (h : ¬ (t = lo ∨ t = hi)) : edgeL lo hi fr (t + 1) = edgeL lo hi fr t := by
  unfold edgeL
  have h1 : (fr < lo ∧ lo < t + 1) = (fr < lo ∧ lo < t) := propext (by omega)
  have h2 : (fr < hi ∧ hi < t + 1) = (fr < hi ∧ hi < t) := propext (by omega)
  simp only [h1, h2]
theorem placeFrom_no : ∀ (l : List Int) (k : Nat) (n : Int), n ∉ l → placeFrom k l n = -1
  | [], _, _, _ => rfl
  | x :: l, k, n, h => by
    simp only [List.mem_cons, not_or] at h
    unfold placeFrom
    rw [if_neg (fun e => h.1 e.symm), placeFrom_no l (k + 1) n h.2]
theorem s_edges_ev (cP : Int) (cT : Bool) (cX : Int) (cY : Int) (cW : Int) (cH : Int) (op lo n fr to : Int) (ho : (op = 2 ∧ lo = cX ∧ n = cW) ∨ (op = 3 ∧ lo = cY ∧ n = cH)) (hc : 0 ≤ cX ∧ cX ≤ 1000 ∧ 0 ≤ cY ∧ cY ≤ 1000 ∧ 1 ≤ cW ∧ cW ≤ 1000 ∧ 1 ≤ cH ∧ cH ≤ 1000) (h0 : 0 ≤ fr) (h1 : fr < to) (h2 : to ≤ 1000) : vcall Xs Ms n_s_edges [.d (.sl [.agg [.int .i64 cP, .bool cT, .int .i64 cX, .int .i64 cY, .int .i64 cW, .int .i64 cH]]), (.d (.int .i64 (op))), (.d (.int .i64 (fr))), (.d (.int .i64 (to)))] [] = some (.own 0, [.row 1 ((edgeL lo (lo + n) fr to).map encI) true false]) := by
  have w0 := wi (fr + 1) (by omega) (by omega)
  have wx := wi (cX + cW) (by omega) (by omega)
  have wy := wi (cY + cH) (by omega) (by omega)
  have hn : lo < lo + n := by omega
  have he0 : edgeL lo (lo + n) fr (fr + 1) = [] := by unfold edgeL; rw [if_neg (by omega), if_neg (by omega)]; rfl
  refine callE Xs Ms f_s_edges x_s_edges (by show 4 ≤ _; decide) ?_
  simp +contextual -implicitDefEqProofs (maxSteps := 10000000) only [go_sem, seval, ↓gA, ↓gB, ↓gC, ↓gD, ↓gE, ↓gF, f_s_edges, w0]
  refine LW_over Xs Ms (st0 := ?st0) (α := Int) (fun t => [(10, .d (.int .i64 t))]) (fun t => [(0, .row 1 ((edgeL lo (lo + n) fr t).map encI) true false)]) (fun t => fr + 1 ≤ t ∧ t ≤ to) (fun t => (to - t).toNat) (fr + 1) ?hc (by omega) ?h0 ?step
  case hc => simp +contextual -implicitDefEqProofs (maxSteps := 10000000) only [go_sem, seval, ↓gA, ↓gB, ↓gC, ↓gD, ↓gE, ↓gF] <;> exact rfl
  case h0 => rw [he0]; rfl
  case step =>
    intro t ⟨ht1, ht2⟩ ih
    by_cases hlt : t < to
    · have wt := wi (t + 1) (by omega) (by omega)
      have hel := edgeL_len lo (lo + n) fr t
      have hr : ((edgeL lo (lo + n) fr t).length + 1) * 8 ≤ 140737488355328 ∧ (edgeL lo (lo + n) fr t).length ≤ 140737488355327 := by omega
      have epl := s_placeIn_ev (edgeL lo (lo + n) fr t) t (by omega)
      rw [placeFrom_no _ _ _ (fun h => by have := edgeL_mem h; omega)] at epl
      by_cases hm : t = lo ∨ t = lo + n
      · have hy := edgeL_yes hn (show fr < t by omega) hm
        have hfin : (1 : Int) + 0 = 1 := rfl
        rcases ho with ⟨o1, o2, o3⟩ | ⟨o1, o2, o3⟩
        · have hm' : (t = cX ∨ t = cX + cW) := by omega
          simp +contextual -implicitDefEqProofs (maxSteps := 10000000) only [go_sem, seval, ↓gA, ↓gB, ↓gC, ↓gD, ↓gE, ↓gF, hlt]
          refine LW_round Xs Ms ?_
          simp +contextual -implicitDefEqProofs (maxSteps := 10000000) only [go_sem, seval, ↓gA, ↓gB, ↓gC, ↓gD, ↓gE, ↓gF, wx, o1, hm', epl, hr, ← Bool.decide_or]
          refine LW_round Xs Ms ?_
          simp +contextual -implicitDefEqProofs (maxSteps := 10000000) only [go_sem, seval, ↓gA, ↓gB, ↓gC, ↓gD, ↓gE, ↓gF, wt]
          refine ih (t + 1) _ (by omega) (by omega) ?_
          simp +contextual -implicitDefEqProofs (maxSteps := 10000000) only [go_sem, seval, ↓gA, ↓gB, ↓gC, ↓gD, ↓gE, ↓gF, hy, o1, List.map_append, List.map_cons, List.map_nil]
        · have hm' : (t = cY ∨ t = cY + cH) := by omega
          simp +contextual -implicitDefEqProofs (maxSteps := 10000000) only [go_sem, seval, ↓gA, ↓gB, ↓gC, ↓gD, ↓gE, ↓gF, hlt]
          refine LW_round Xs Ms ?_
          simp +contextual -implicitDefEqProofs (maxSteps := 10000000) only [go_sem, seval, ↓gA, ↓gB, ↓gC, ↓gD, ↓gE, ↓gF, wx, wy, o1, hm', epl, hr, ← Bool.decide_or]
          refine LW_round Xs Ms ?_
          simp +contextual -implicitDefEqProofs (maxSteps := 10000000) only [go_sem, seval, ↓gA, ↓gB, ↓gC, ↓gD, ↓gE, ↓gF, wt]
          refine ih (t + 1) _ (by omega) (by omega) ?_
          simp +contextual -implicitDefEqProofs (maxSteps := 10000000) only [go_sem, seval, ↓gA, ↓gB, ↓gC, ↓gD, ↓gE, ↓gF, hy, o1, List.map_append, List.map_cons, List.map_nil]
      · have hy := edgeL_no (fr := fr) hm
        rcases ho with ⟨o1, o2, o3⟩ | ⟨o1, o2, o3⟩
        · have hm' : ¬ (t = cX ∨ t = cX + cW) := by omega
          simp +contextual -implicitDefEqProofs (maxSteps := 10000000) only [go_sem, seval, ↓gA, ↓gB, ↓gC, ↓gD, ↓gE, ↓gF, hlt]
          refine LW_round Xs Ms ?_
          simp +contextual -implicitDefEqProofs (maxSteps := 10000000) only [go_sem, seval, ↓gA, ↓gB, ↓gC, ↓gD, ↓gE, ↓gF, wx, o1, hm', ← Bool.decide_or]
          refine LW_round Xs Ms ?_
          simp +contextual -implicitDefEqProofs (maxSteps := 10000000) only [go_sem, seval, ↓gA, ↓gB, ↓gC, ↓gD, ↓gE, ↓gF, wt]
          refine ih (t + 1) _ (by omega) (by omega) ?_
          simp +contextual -implicitDefEqProofs (maxSteps := 10000000) only [go_sem, seval, ↓gA, ↓gB, ↓gC, ↓gD, ↓gE, ↓gF, hy, o1]
        · have hm' : ¬ (t = cY ∨ t = cY + cH) := by omega
          simp +contextual -implicitDefEqProofs (maxSteps := 10000000) only [go_sem, seval, ↓gA, ↓gB, ↓gC, ↓gD, ↓gE, ↓gF, hlt]
          refine LW_round Xs Ms ?_
          simp +contextual -implicitDefEqProofs (maxSteps := 10000000) only [go_sem, seval, ↓gA, ↓gB, ↓gC, ↓gD, ↓gE, ↓gF, wx, wy, o1, hm', ← Bool.decide_or]
          refine LW_round Xs Ms ?_
          simp +contextual -implicitDefEqProofs (maxSteps := 10000000) only [go_sem, seval, ↓gA, ↓gB, ↓gC, ↓gD, ↓gE, ↓gF, wt]
          refine ih (t + 1) _ (by omega) (by omega) ?_
          simp +contextual -implicitDefEqProofs (maxSteps := 10000000) only [go_sem, seval, ↓gA, ↓gB, ↓gC, ↓gD, ↓gE, ↓gF, hy, o1]
    · have : t = to := by omega
      subst this
      simp +contextual -implicitDefEqProofs (maxSteps := 10000000) only [go_sem, seval, ↓gA, ↓gB, ↓gC, ↓gD, ↓gE, ↓gF]
theorem s_part_ev (cP : Int) (cT : Bool) (cX : Int) (cY : Int) (cW : Int) (cH : Int) (op lo n t : Int) (f : Bool) (ho : (op = 2 ∧ lo = cX ∧ n = cW) ∨ (op = 3 ∧ lo = cY ∧ n = cH)) (hc : 0 ≤ cX ∧ cX ≤ 1000 ∧ 0 ≤ cY ∧ cY ≤ 1000 ∧ 1 ≤ cW ∧ cW ≤ 1000 ∧ 1 ≤ cH ∧ cH ≤ 1000) (hn : ¬ (lo < t ∧ t < lo + n)) : vcall Xs Ms n_s_part [.d (.sl [.agg [.int .i64 cP, .bool cT, .int .i64 cX, .int .i64 cY, .int .i64 cW, .int .i64 cH]]), (.d (.int .i64 (op))), (.d (.int .i64 (t))), (.d (.bool (f)))] [] =
    some (.tup [.own 0, (.d (.bool (true)))], [.row 6 (if f = decide (lo + n ≤ t) then [.agg [.int .i64 cP, .bool cT, .int .i64 cX, .int .i64 cY, .int .i64 cW, .int .i64 cH]] else []) true false]) := by
  have wx := wi (cX + cW) (by omega) (by omega)
  have wy := wi (cY + cH) (by omega) (by omega)
  have bb : ∀ a b : Bool, binV .eql true (.d (.bool a)) (.d (.bool b)) = only1 (.d (.bool (a == b))) := fun _ _ => rfl
  refine callE Xs Ms f_s_part x_s_part (by show 4 ≤ _; decide) ?_
  rcases ho with ⟨o1, o2, o3⟩ | ⟨o1, o2, o3⟩
  · have hn' : ¬ (cX < t ∧ t < cX + cW) := by omega
    have he : (lo + n ≤ t) = (cX + cW ≤ t) := propext (by omega)
    simp only [he]
    simp +contextual -implicitDefEqProofs (maxSteps := 10000000) only [go_sem, seval, ↓gA, ↓gB, ↓gC, ↓gD, ↓gE, ↓gF, f_s_part]
    refine LW_round Xs Ms ?_
    by_cases hf : f = decide (cX + cW ≤ t)
    · have hg : (f == decide (cX + cW ≤ t)) = true := by rw [hf]; simp
      rw [if_pos hf]
      simp +contextual -implicitDefEqProofs (maxSteps := 10000000) only [go_sem, seval, ↓gA, ↓gB, ↓gC, ↓gD, ↓gE, ↓gF, wx, o1, hn', bb, hg, ← Bool.decide_and]
      refine LW_round Xs Ms ?_
      simp +contextual -implicitDefEqProofs (maxSteps := 10000000) only [go_sem, seval, ↓gA, ↓gB, ↓gC, ↓gD, ↓gE, ↓gF]
    · have hg : (f == decide (cX + cW ≤ t)) = false := by simpa using hf
      rw [if_neg hf]
      simp +contextual -implicitDefEqProofs (maxSteps := 10000000) only [go_sem, seval, ↓gA, ↓gB, ↓gC, ↓gD, ↓gE, ↓gF, wx, o1, hn', bb, hg, ← Bool.decide_and]
      refine LW_round Xs Ms ?_
      simp +contextual -implicitDefEqProofs (maxSteps := 10000000) only [go_sem, seval, ↓gA, ↓gB, ↓gC, ↓gD, ↓gE, ↓gF]
  · have hn' : ¬ (cY < t ∧ t < cY + cH) := by omega
    have he : (lo + n ≤ t) = (cY + cH ≤ t) := propext (by omega)
    simp only [he]
    simp +contextual -implicitDefEqProofs (maxSteps := 10000000) only [go_sem, seval, ↓gA, ↓gB, ↓gC, ↓gD, ↓gE, ↓gF, f_s_part]
    refine LW_round Xs Ms ?_
    by_cases hf : f = decide (cY + cH ≤ t)
    · have hg : (f == decide (cY + cH ≤ t)) = true := by rw [hf]; simp
      rw [if_pos hf]
      simp +contextual -implicitDefEqProofs (maxSteps := 10000000) only [go_sem, seval, ↓gA, ↓gB, ↓gC, ↓gD, ↓gE, ↓gF, wx, wy, o1, hn', bb, hg, ← Bool.decide_and]
      refine LW_round Xs Ms ?_
      simp +contextual -implicitDefEqProofs (maxSteps := 10000000) only [go_sem, seval, ↓gA, ↓gB, ↓gC, ↓gD, ↓gE, ↓gF]
    · have hg : (f == decide (cY + cH ≤ t)) = false := by simpa using hf
      rw [if_neg hf]
      simp +contextual -implicitDefEqProofs (maxSteps := 10000000) only [go_sem, seval, ↓gA, ↓gB, ↓gC, ↓gD, ↓gE, ↓gF, wx, wy, o1, hn', bb, hg, ← Bool.decide_and]
      refine LW_round Xs Ms ?_
      simp +contextual -implicitDefEqProofs (maxSteps := 10000000) only [go_sem, seval, ↓gA, ↓gB, ↓gC, ↓gD, ↓gE, ↓gF]
def planV : Plan → AV × List AObj
  | .mk o a q t ks => (.tup [.agg [(.d (.int .i64 (o))), (.d (.int .i64 (a))), (.d (.int .i64 (q))), (.d (.bool (t))), .own 0], (.d (.bool (true)))], [.row 5 (ks.map Plan.enc) true false])
theorem s_planFor_nil (bX : Int) (bY : Int) (bW : Int) (bH : Int) : vcall Xs Ms n_s_planFor [.d (.sl []), (.d (.agg [.int .i64 bX, .int .i64 bY, .int .i64 bW, .int .i64 bH]))] [] = some (planV BT.waste.plan) := by
  simp only [BT.plan, planV]
  refine callE Xs Ms f_s_planFor x_s_planFor (by show 2 ≤ _; decide) ?_
  simp +contextual -implicitDefEqProofs (maxSteps := 10000000) only [go_sem, seval, ↓gA, ↓gB, ↓gC, ↓gD, ↓gE, ↓gF, f_s_planFor]
theorem s_planFor_fill (cP : Int) (cT : Bool) (cX : Int) (cY : Int) (cW : Int) (cH : Int) : vcall Xs Ms n_s_planFor [.d (.sl [.agg [.int .i64 cP, .bool cT, .int .i64 cX, .int .i64 cY, .int .i64 cW, .int .i64 cH]]), .d (.agg [.int .i64 cX, .int .i64 cY, .int .i64 cW, .int .i64 cH])] [] = some (planV (BT.pane cP cT).plan) := by
  simp only [BT.plan, planV]
  refine callE Xs Ms f_s_planFor x_s_planFor (by show 2 ≤ _; decide) ?_
  simp +contextual -implicitDefEqProofs (maxSteps := 10000000) only [go_sem, seval, ↓gA, ↓gB, ↓gC, ↓gD, ↓gE, ↓gF, f_s_planFor]
theorem s_bothSides_ev (A B : List D) (bX : Int) (bY : Int) (bW : Int) (bH : Int) (d : Bool) (a : Int) (l r : BT) (hA : uni 6 A) (hB : uni 6 B) (h1 : R64 (bX + a)) (h2 : R64 (bY + a)) (h3 : R64 (bW - a)) (h4 : R64 (bH - a))
    (hl : vcall Xs Ms n_s_planFor [.d (.sl A), if d then .d (.agg [.int .i64 bX, .int .i64 bY, .int .i64 a, .int .i64 bH]) else .d (.agg [.int .i64 bX, .int .i64 bY, .int .i64 bW, .int .i64 a])] [] = some (planV l.plan))
    (hr : vcall Xs Ms n_s_planFor [.d (.sl B), if d then .d (.agg [.int .i64 (bX + a), .int .i64 bY, .int .i64 (bW - a), .int .i64 bH]) else .d (.agg [.int .i64 bX, .int .i64 (bY + a), .int .i64 bW, .int .i64 (bH - a)])] [] = some (planV r.plan)) :
    vcall Xs Ms n_s_bothSides [.d (.sl A), .d (.sl B), (.d (.agg [.int .i64 bX, .int .i64 bY, .int .i64 bW, .int .i64 bH])), (.d (.int .i64 (opOf d))), (.d (.int .i64 (a)))] [] = some (planV (BT.cut d a l r).plan) := by
  have w1 := wi (bX + a) h1.1 h1.2
  have w2 := wi (bY + a) h2.1 h2.2
  have w3 := wi (bW - a) h3.1 h3.2
  have w4 := wi (bH - a) h4.1 h4.2
  obtain ⟨lo, la, lq, lt, lk, el⟩ : ∃ o a q t ks, l.plan = .mk o a q t ks := by cases l.plan; exact ⟨_, _, _, _, _, rfl⟩
  obtain ⟨ro, ra, rq, rt, rk, er⟩ : ∃ o a q t ks, r.plan = .mk o a q t ks := by cases r.plan; exact ⟨_, _, _, _, _, rfl⟩
  rw [el] at hl
  rw [er] at hr
  simp only [BT.plan, el, er, planV] at hl hr ⊢
  cases d with
  | true =>
    simp only [if_true, opOf] at hl hr ⊢
    refine callE Xs Ms f_s_bothSides x_s_bothSides (by show 5 ≤ _; decide) ?_
    simp +contextual -implicitDefEqProofs (maxSteps := 10000000) only [go_sem, seval, ↓gA, ↓gB, ↓gC, ↓gD, ↓gE, ↓gF, f_s_bothSides, w1, w3, hl, hr, hA, hB]
  | false =>
    simp only [Bool.false_eq_true, if_false, opOf] at hl hr ⊢
    refine callE Xs Ms f_s_bothSides x_s_bothSides (by show 5 ≤ _; decide) ?_
    simp +contextual -implicitDefEqProofs (maxSteps := 10000000) only [go_sem, seval, ↓gA, ↓gB, ↓gC, ↓gD, ↓gE, ↓gF, f_s_bothSides, w1, w2, w3, w4, hl, hr, hA, hB]

end Go.Proofs.Ytcaaffdbjdabmaa
