/- The statement that the law FnWorkFor holds of every row of bytes: it answers true, and its argument reads as before. -/
import Derived.Test.YtcaaffdbjdabmaaAC5
import Derived.Test.YtcaaffdbjdabmaaACodeOk
import Derived.Test.YtcaaffdbjdabmaaRows
import Derived.Test.YtcaaffdbjdabmaaAbsLaw
namespace Go.Proofs.Ytcaaffdbjdabmaa
open Go Go.Abs Go.Abs.L Go.ChangeShapes Go.WideShapes Go.ChangeAt Go.RowKit

def AllOK : List (Nat × Go.Abs.Fn) → Prop
  | [] => True
  | (f, .text cf) :: r => FunOK f cf ∧ AllOK r
  | _ :: _ => False
theorem allOK_get : ∀ {l : List (Nat × Go.Abs.Fn)} {f : Nat} {x : Go.Abs.Fn}, AllOK l → lkp l f = some x → ∃ cf, x = .text cf ∧ FunOK f cf
  | [], f, x, _, h => by cases h
  | (g, .text cf) :: r, f, x, ha, h => by
    simp only [lkp] at h
    split at h
    · rename_i e
      cases h
      subst e
      exact ⟨cf, rfl, ha.1⟩
    · exact allOK_get ha.2 h
  | (g, .prim p) :: r, f, x, ha, h => ha.elim
theorem all_ok : AllOK tbl :=
  ⟨ok_l_FnShopArea, ok_l_FnValidShop, ok_l_FnWorkFor, ok_s_DrawShopArea, ok_i_ShopArea, ok_s_ShopArea, ok_i_StockArea, ok_i_OrderArea, ok_s_DrawValidShop, ok_i_ValidShop, ok_s_ValidShop, ok_s_DrawWorkFor, ok_i_WorkFor, ok_s_WorkFor, ok_l_equalWork, ok_i_TakePiece, ok_i_ValidWork, ok_s_anyShop, ok_s_newReader, ok_s_validShop, ok_s_shopArea, ok_i_ValidStock, ok_i_ValidOrder, ok_s_reader_one, ok_s_reader_pick, ok_i_findLabel, ok_s_findLabel, ok_s_workOf, ok_l_equalPanes, ok_i_copyStock, ok_i_copyPiece, ok_i_ValidPane, ok_s_someBook, ok_s_validStock, ok_s_validOrder, ok_s_inRange, ok_s_stockArea, ok_s_orderArea, ok_i_ValidPiece, ok_i_findLine, ok_slices_IndexFunc_g, ok_i_findLabel_1, ok_s_someEvent, ok_s_applyEvent, ok_s_validPiece, ok_s_validPane, ok_i_ValidBox, ok_i_pieceBox, ok_i_InsideOf, ok_slices_IndexFunc_g2, ok_i_findLine_1, ok_s_lastLabel, ok_s_someBox, ok_s_somePane, ok_s_nextCut, ok_s_pieceEvent, ok_s_lineEvent, ok_s_cutEvent, ok_s_copyShop, ok_s_validBox, ok_s_insideOf, ok_i_MeetOf, ok_s_FindPiece, ok_s_firstClear, ok_s_planFor, ok_s_AddPiece, ok_s_copyPiece, ok_s_without, ok_s_addPanes, ok_s_takePanes, ok_s_CutStock, ok_s_hasPane, ok_s_LostArea, ok_s_usedOf, ok_s_clearAt, ok_s_edges, ok_s_part, ok_s_bothSides, ok_s_addPiece, ok_s_goodPlan, ok_s_remnants, ok_s_isCut, ok_s_validPlan, ok_s_wastesOf, ok_s_isRemnant, ok_s_placesOf, ok_s_meetOf, ok_s_placeIn, ok_s_cutOut, ok_s_validWork, ok_s_planSize, ok_s_fitsPlan, ok_s_spread, ok_s_validPanes, trivial⟩
theorem table_ok : TableOK Try.prog Xs Ms where
  text := fun f cf h => by
    obtain ⟨cf', e, h'⟩ := allOK_get all_ok h
    cases e
    exact h'
  prim := fun f p h => by
    obtain ⟨cf', e, _⟩ := allOK_get all_ok h
    cases e
theorem sound : SoundOrc Try.prog (vcall Xs Ms) := vcall_sound' (by kernel_rfl) table_ok

theorem own : ownKnob Try.prog.godebug = none := by kernel_rfl
theorem laidOut : laidOutB Try.prog = true := by kernel_rfl
theorem cells5 : Try.prog.cellsOf 5 = 1 := by kernel_rfl

set_option maxRecDepth 100000 in
theorem lifted (os : Os) (started : os.Started) (H : Type) (enc : TypeId × Value → H) :
    ReturnsInHanded {} Try.checked os 5 .any (Rows.fnWorkForSpec.pre6 enc Try.prog Try.f5 Rows.fnWorkForRow.domain false) (Rows.fnWorkForSpec.post enc Try.prog Try.f5 false true false false) := by
  refine returnsInHanded_of_change (C := Try.checked) own started (by kernel_rfl) Try.func5
    (ChangeSpec.witness6 (enc := enc) (C := Try.checked) false ⟨#[], #[.slice none 0 0], []⟩ 8 (by kernel_rfl) (by kernel_rfl) (by kernel_rfl) (by kernel_rfl)) ?_
  intro W base args ds gs before hval0 hW _ _
  have hval : ∀ (j : Nat) t v, Try.f5.params[j]? = some t → args[j]? = some v → Value.okWide Try.prog W .any base t v := hval0
  have hW' := hW
  obtain ⟨p, q, hA0, hV, rfl, _, _⟩ := hW
  have hA : DataW.TrodAll enc Try.prog W 0 (fun _ => true) true Try.f5.params.toList args.toList ds p := hA0
  rw [Try.params5] at hA hval
  obtain ⟨v0, d0, rfl, rfl, h0⟩ := trodAll_one hA
  obtain ⟨rfl, rfl⟩ := trodVars_none hV
  clear hA0 hval0
  simp only [List.append_nil] at hW'
  have hlt : ∀ x ∈ p, x.block < W.heap.size := fun x hx => by simpa using hW'.lt x hx
  have hargs : ∀ (W' : World), Below W.heap.size W W' → DataW.Trod enc Try.prog W' 0 (fun b => decide (b < W.heap.size)) true 22 v0 d0 p :=
    fun W' hn => Below.trod laidOut (by kernel_rfl) (of_decide_eq_true (by kernel_rfl)) h0 hn hlt
  obtain ⟨code, hrep⟩ := bytes_rep Try.underlying22 Try.underlying5 cells5 (hval 0 22 v0 rfl rfl) h0
  refine (law_calls sound l_FnWorkFor_ev hrep).mono fun e W' ⟨he, hn⟩ => ?_
  subst he
  exact ⟨_, rfl, ⟨_, _, _, [], _, [], hW', trodAll_mk1 (shut_bool Try.underlying4 _), trodAll_mk1 (hargs _ hn), rfl, hn.frame _, fun h => by cases h⟩⟩

theorem fnWorkFor_holds : Rows.FnWorkForSaid :=
  OpenClaim.holds_of_wide 5 Try.f5 rfl rfl rfl rfl rfl rfl rfl ⟨rfl, rfl, rfl, rfl, rfl⟩ rfl rfl rfl rfl rfl (by kernel_rfl) Try.func5 (by kernel_rfl)
    (of_decide_eq_true (by kernel_rfl)) (by unfold Func.isWrapper; first | (rw [if_pos (by decide +kernel)]; kernel_rfl) | (rw [if_neg (by decide +kernel)]; exact ⟨rfl, rfl⟩))
    (fun os started H enc _ => lifted os started H enc)
#print axioms fnWorkFor_holds
end Go.Proofs.Ytcaaffdbjdabmaa
