/- The statement that the law FnPlanOfPlaces holds of every row of bytes: it answers true, and its argument reads as before. -/
import Derived.Test.YtdkieppaodnilaaAC5
import Derived.Test.YtdkieppaodnilaaACodeOk
import Derived.Test.YtdkieppaodnilaaRows
import Derived.Test.YtdkieppaodnilaaAbsLaw
namespace Go.Proofs.Ytdkieppaodnilaa
open Go Go.Abs Go.Abs.L Go.ChangeShapes Go.WideShapes Go.ChangeAt Go.RowKit

def AllOK : List (Nat × Go.Abs.Fn) → Prop
  | [] => True
  | (f, .text cf) :: r => FunOK f cf ∧ AllOK r
  | _ :: _ => False
theorem allOK_get : ∀ {l : List (Nat × Go.Abs.Fn)} {f : Nat} {x : Go.Abs.Fn}, AllOK l → lkp l f = some x → ∃ cf, x = .text cf ∧ FunOK f cf
  | [], f, x, _, h => by cases h
  | (g, .text cf) :: r, f, x, ha, h => by
    simp only [lkp] at h
    split at h
    · rename_i e
      cases h
      subst e
      exact ⟨cf, rfl, ha.1⟩
    · exact allOK_get ha.2 h
  | (g, .prim p) :: r, f, x, ha, h => ha.elim
theorem all_ok : AllOK tbl :=
  ⟨ok_l_FnPlanOfPlaces, ok_i_PlacesOf, ok_s_DrawPlanOfPlaces, ok_i_PlanOfPlaces, ok_s_PlanOfPlaces, ok_l_equalPlan, ok_i_PrunePlan, ok_i_ValidPlan, ok_s_newReader, ok_s_reader_pick, ok_i_partsOf, ok_i_splitBox, ok_s_placeIn, ok_i_PlanSize, ok_s_reader_one, ok_s_DrawValidPlaces, ok_s_somePlaces, ok_i_ValidPlaces, ok_i_planPlaces, ok_i_sheetOf, ok_s_validPlaces, ok_s_planFor, ok_i_pruned, ok_i_ValidWork, ok_i_planFits, ok_s_validWork, ok_s_workPlan, ok_i_addParts, ok_s_fitsPlan, ok_i_countParts, ok_i_isCut, ok_s_placesOf, ok_i_ValidBox, ok_i_InsideOf, ok_i_paneFills, ok_i_ApartBoxes, ok_i_cutPlaces, ok_s_validBox, ok_s_insideOf, ok_s_apart, ok_s_edges, ok_s_part, ok_s_bothSides, ok_i_ValidPane, ok_s_inRange, ok_s_validPanes, ok_s_grow, ok_s_spread, ok_i_MeetOf, ok_i_validBoxes, ok_i_firstCut, ok_s_meetOf, ok_s_validPane, ok_i_spanOf, ok_i_leastCut, trivial⟩
theorem table_ok : TableOK Try.prog Xs Ms where
  text := fun f cf h => by
    obtain ⟨cf', e, h'⟩ := allOK_get all_ok h
    cases e
    exact h'
  prim := fun f p h => by
    obtain ⟨cf', e, _⟩ := allOK_get all_ok h
    cases e
theorem sound : SoundOrc Try.prog (vcall Xs Ms) := vcall_sound' (by kernel_rfl) table_ok

theorem own : ownKnob Try.prog.godebug = none := by kernel_rfl
theorem laidOut : laidOutB Try.prog = true := by kernel_rfl
theorem cells5 : Try.prog.cellsOf 5 = 1 := by kernel_rfl

set_option maxRecDepth 100000 in
theorem lifted (os : Os) (started : os.Started) (H : Type) (enc : TypeId × Value → H) :
    ReturnsInHanded {} Try.checked os 4 .any (Rows.fnPlanOfPlacesSpec.pre6 enc Try.prog Try.f4 Rows.fnPlanOfPlacesRow.domain false) (Rows.fnPlanOfPlacesSpec.post enc Try.prog Try.f4 false true false false) := by
  refine returnsInHanded_of_change (C := Try.checked) own started (by kernel_rfl) Try.func4
    (ChangeSpec.witness6 (enc := enc) (C := Try.checked) false ⟨#[], #[.slice none 0 0], []⟩ 8 (by kernel_rfl) (by kernel_rfl) (by kernel_rfl) (by kernel_rfl)) ?_
  intro W base args ds gs before hval0 hW _ _
  have hval : ∀ (j : Nat) t v, Try.f4.params[j]? = some t → args[j]? = some v → Value.okWide Try.prog W .any base t v := hval0
  have hW' := hW
  obtain ⟨p, q, hA0, hV, rfl, _, _⟩ := hW
  have hA : DataW.TrodAll enc Try.prog W 0 (fun _ => true) true Try.f4.params.toList args.toList ds p := hA0
  rw [Try.params4] at hA hval
  obtain ⟨v0, d0, rfl, rfl, h0⟩ := trodAll_one hA
  obtain ⟨rfl, rfl⟩ := trodVars_none hV
  clear hA0 hval0
  simp only [List.append_nil] at hW'
  have hlt : ∀ x ∈ p, x.block < W.heap.size := fun x hx => by simpa using hW'.lt x hx
  have hargs : ∀ (W' : World), Below W.heap.size W W' → DataW.Trod enc Try.prog W' 0 (fun b => decide (b < W.heap.size)) true 22 v0 d0 p :=
    fun W' hn => Below.trod laidOut (by kernel_rfl) (of_decide_eq_true (by kernel_rfl)) h0 hn hlt
  obtain ⟨code, hrep⟩ := bytes_rep Try.underlying22 Try.underlying5 cells5 (hval 0 22 v0 rfl rfl) h0
  refine (law_calls sound l_FnPlanOfPlaces_ev hrep).mono fun e W' ⟨he, hn⟩ => ?_
  subst he
  exact ⟨_, rfl, ⟨_, _, _, [], _, [], hW', trodAll_mk1 (shut_bool Try.underlying4 _), trodAll_mk1 (hargs _ hn), rfl, hn.frame _, fun h => by cases h⟩⟩

theorem fnPlanOfPlaces_holds : Rows.FnPlanOfPlacesSaid :=
  OpenClaim.holds_of_wide 4 Try.f4 rfl rfl rfl rfl rfl rfl rfl ⟨rfl, rfl, rfl, rfl, rfl⟩ rfl rfl rfl rfl rfl (by kernel_rfl) Try.func4 (by kernel_rfl)
    (of_decide_eq_true (by kernel_rfl)) (by unfold Func.isWrapper; first | (rw [if_pos (by decide +kernel)]; kernel_rfl) | (rw [if_neg (by decide +kernel)]; exact ⟨rfl, rfl⟩))
    (fun os started H enc _ => lifted os started H enc)
#print axioms fnPlanOfPlaces_holds
end Go.Proofs.Ytdkieppaodnilaa
