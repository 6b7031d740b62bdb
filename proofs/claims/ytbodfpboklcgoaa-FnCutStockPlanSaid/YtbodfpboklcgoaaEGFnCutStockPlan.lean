/- The statement that the law FnCutStockPlan holds of every row of bytes: it answers true, and its argument reads as before. -/
import Derived.Test.YtbodfpboklcgoaaEC5
import Derived.Test.YtbodfpboklcgoaaECodeOk
import Derived.Test.YtbodfpboklcgoaaRows
import Derived.Test.YtbodfpboklcgoaaAbsLaw
namespace Go.Proofs.Ytbodfpboklcgoaa
open Go Go.Abs Go.Abs.L Go.ChangeShapes Go.WideShapes Go.ChangeAt Go.RowKit

def AllOK : List (Nat × Go.Abs.Fn) → Prop
  | [] => True
  | (f, .text cf) :: r => FunOK f cf ∧ AllOK r
  | _ :: _ => False
theorem allOK_get : ∀ {l : List (Nat × Go.Abs.Fn)} {f : Nat} {x : Go.Abs.Fn}, AllOK l → lkp l f = some x → ∃ cf, x = .text cf ∧ FunOK f cf
  | [], f, x, _, h => by cases h
  | (g, .text cf) :: r, f, x, ha, h => by
    simp only [lkp] at h
    split at h
    · rename_i e
      cases h
      subst e
      exact ⟨cf, rfl, ha.1⟩
    · exact allOK_get ha.2 h
  | (g, .prim p) :: r, f, x, ha, h => ha.elim
theorem all_ok : AllOK tbl :=
  ⟨ok_l_FnCutStockPlan, ok_i_ValidPiece, ok_l_area, ok_l_boxesOf, ok_i_PlacesOf, ok_s_DrawGoodPlan, ok_i_GoodPlan, ok_s_GoodPlan, ok_i_CutStock, ok_i_WastesOf, ok_i_CoverArea, ok_i_StockArea, ok_i_TakePiece, ok_i_ValidStock, ok_s_newReader, ok_s_planPiece, ok_s_reader_one, ok_i_cutRemnants, ok_s_validPiece, ok_s_goodPlan, ok_s_inRange, ok_i_ValidBox, ok_i_pieceBox, ok_i_InsideOf, ok_i_ValidPlan, ok_i_partsOf, ok_i_meetsFlaw, ok_i_validBoxes, ok_s_reader_pick, ok_i_findLabel, ok_i_copyStock, ok_i_copyPiece, ok_s_workPlan, ok_s_wastesOf, ok_s_someBox, ok_i_keptWastes, ok_i_CutOut, ok_s_validBox, ok_s_insideOf, ok_s_validPlan, ok_s_placesOf, ok_s_clearAt, ok_i_MeetOf, ok_i_ValidWork, ok_i_PlanSize, ok_i_planFits, ok_i_sheetOf, ok_i_addParts, ok_slices_IndexFunc_g, ok_i_findLabel_1, ok_s_grow, ok_s_spread, ok_s_validWork, ok_s_planSize, ok_s_fitsPlan, ok_s_meetOf, ok_i_ValidPane, ok_i_countParts, ok_i_paneFills, ok_i_splitBox, ok_i_isCut, ok_s_validPanes, ok_s_isCut, ok_s_validPane, trivial⟩
theorem table_ok : TableOK Try.prog Xs Ms where
  text := fun f cf h => by
    obtain ⟨cf', e, h'⟩ := allOK_get all_ok h
    cases e
    exact h'
  prim := fun f p h => by
    obtain ⟨cf', e, _⟩ := allOK_get all_ok h
    cases e
theorem sound : SoundOrc Try.prog (vcall Xs Ms) := vcall_sound' (by kernel_rfl) table_ok

theorem own : ownKnob Try.prog.godebug = none := by kernel_rfl
theorem laidOut : laidOutB Try.prog = true := by kernel_rfl
theorem cells5 : Try.prog.cellsOf 5 = 1 := by kernel_rfl

set_option maxRecDepth 100000 in
theorem lifted (os : Os) (started : os.Started) (H : Type) (enc : TypeId × Value → H) :
    ReturnsInHanded {} Try.checked os 4 .any (Rows.fnCutStockPlanSpec.pre6 enc Try.prog Try.f4 Rows.fnCutStockPlanRow.domain false) (Rows.fnCutStockPlanSpec.post enc Try.prog Try.f4 false true false false) := by
  refine returnsInHanded_of_change (C := Try.checked) own started (by kernel_rfl) Try.func4
    (ChangeSpec.witness6 (enc := enc) (C := Try.checked) false ⟨#[], #[.slice none 0 0], []⟩ 8 (by kernel_rfl) (by kernel_rfl) (by kernel_rfl) (by kernel_rfl)) ?_
  intro W base args ds gs before hval0 hW _ _
  have hval : ∀ (j : Nat) t v, Try.f4.params[j]? = some t → args[j]? = some v → Value.okWide Try.prog W .any base t v := hval0
  have hW' := hW
  obtain ⟨p, q, hA0, hV, rfl, _, _⟩ := hW
  have hA : DataW.TrodAll enc Try.prog W 0 (fun _ => true) true Try.f4.params.toList args.toList ds p := hA0
  rw [Try.params4] at hA hval
  obtain ⟨v0, d0, rfl, rfl, h0⟩ := trodAll_one hA
  obtain ⟨rfl, rfl⟩ := trodVars_none hV
  clear hA0 hval0
  simp only [List.append_nil] at hW'
  have hlt : ∀ x ∈ p, x.block < W.heap.size := fun x hx => by simpa using hW'.lt x hx
  have hargs : ∀ (W' : World), Below W.heap.size W W' → DataW.Trod enc Try.prog W' 0 (fun b => decide (b < W.heap.size)) true 22 v0 d0 p :=
    fun W' hn => Below.trod laidOut (by kernel_rfl) (of_decide_eq_true (by kernel_rfl)) h0 hn hlt
  obtain ⟨code, hrep⟩ := bytes_rep Try.underlying22 Try.underlying5 cells5 (hval 0 22 v0 rfl rfl) h0
  refine (law_calls sound l_FnCutStockPlan_ev hrep).mono fun e W' ⟨he, hn⟩ => ?_
  subst he
  exact ⟨_, rfl, ⟨_, _, _, [], _, [], hW', trodAll_mk1 (shut_bool Try.underlying4 _), trodAll_mk1 (hargs _ hn), rfl, hn.frame _, fun h => by cases h⟩⟩

theorem fnCutStockPlan_holds : Rows.FnCutStockPlanSaid :=
  OpenClaim.holds_of_wide 4 Try.f4 rfl rfl rfl rfl rfl rfl rfl ⟨rfl, rfl, rfl, rfl, rfl⟩ rfl rfl rfl rfl rfl (by kernel_rfl) Try.func4 (by kernel_rfl)
    (of_decide_eq_true (by kernel_rfl)) (by unfold Func.isWrapper; first | (rw [if_pos (by decide +kernel)]; kernel_rfl) | (rw [if_neg (by decide +kernel)]; exact ⟨rfl, rfl⟩))
    (fun os started H enc _ => lifted os started H enc)
#print axioms fnCutStockPlan_holds
end Go.Proofs.Ytbodfpboklcgoaa
