/- The functions of this seat, compiled for the abstract semantics. Printed by a program of the prover's. -/
import Derived.Test.YtbodfpboklcgoaaDCodeA
namespace Go.Proofs.Ytbodfpboklcgoaa
open Go Go.Abs
noncomputable section

def tbl : List (Nat × Go.Abs.Fn) := [(n_l_FnCutStockOthers, .text f_l_FnCutStockOthers), (n_i_RemnantsOf, .text f_i_RemnantsOf), (n_l_equalStock, .text f_l_equalStock), (n_i_ValidPiece, .text f_i_ValidPiece), (n_i_PlacesOf, .text f_i_PlacesOf), (n_i_GoodPlan, .text f_i_GoodPlan), (n_i_CutStock, .text f_i_CutStock), (n_i_WastesOf, .text f_i_WastesOf), (n_s_DrawCutStock, .text f_s_DrawCutStock), (n_s_CutStock, .text f_s_CutStock), (n_i_TakePiece, .text f_i_TakePiece), (n_i_ValidStock, .text f_i_ValidStock), (n_s_newReader, .text f_s_newReader), (n_s_planPiece, .text f_s_planPiece), (n_s_reader_one, .text f_s_reader_one), (n_i_cutRemnants, .text f_i_cutRemnants), (n_l_equalPiece, .text f_l_equalPiece), (n_s_validPiece, .text f_s_validPiece), (n_s_goodPlan, .text f_s_goodPlan), (n_s_inRange, .text f_s_inRange), (n_s_remnants, .text f_s_remnants), (n_i_ValidBox, .text f_i_ValidBox), (n_i_pieceBox, .text f_i_pieceBox), (n_i_InsideOf, .text f_i_InsideOf), (n_i_ValidPlan, .text f_i_ValidPlan), (n_i_partsOf, .text f_i_partsOf), (n_i_meetsFlaw, .text f_i_meetsFlaw), (n_s_anyStock, .text f_s_anyStock), (n_s_reader_pick, .text f_s_reader_pick), (n_s_validStock, .text f_s_validStock), (n_s_findLabel, .text f_s_findLabel), (n_s_without, .text f_s_without), (n_s_lastLabel, .text f_s_lastLabel), (n_i_findLabel, .text f_i_findLabel), (n_i_copyStock, .text f_i_copyStock), (n_i_copyPiece, .text f_i_copyPiece), (n_s_workPlan, .text f_s_workPlan), (n_s_wastesOf, .text f_s_wastesOf), (n_s_someBox, .text f_s_someBox), (n_i_keptWastes, .text f_i_keptWastes), (n_i_CutOut, .text f_i_CutOut), (n_l_equalBoxes, .text f_l_equalBoxes), (n_s_validBox, .text f_s_validBox), (n_s_insideOf, .text f_s_insideOf), (n_s_validPlan, .text f_s_validPlan), (n_s_placesOf, .text f_s_placesOf), (n_s_clearAt, .text f_s_clearAt), (n_s_isRemnant, .text f_s_isRemnant), (n_s_cutOut, .text f_s_cutOut), (n_i_MeetOf, .text f_i_MeetOf), (n_i_ValidWork, .text f_i_ValidWork), (n_i_PlanSize, .text f_i_PlanSize), (n_i_planFits, .text f_i_planFits), (n_i_sheetOf, .text f_i_sheetOf), (n_i_addParts, .text f_i_addParts), (n_s_someStock, .text f_s_someStock), (n_s_copyPiece, .text f_s_copyPiece), (n_slices_IndexFunc_g, .text f_slices_IndexFunc_g), (n_i_findLabel_1, .text f_i_findLabel_1), (n_s_grow, .text f_s_grow), (n_s_spread, .text f_s_spread), (n_s_validWork, .text f_s_validWork), (n_s_planSize, .text f_s_planSize), (n_s_fitsPlan, .text f_s_fitsPlan), (n_s_meetOf, .text f_s_meetOf), (n_i_ValidPane, .text f_i_ValidPane), (n_i_countParts, .text f_i_countParts), (n_i_paneFills, .text f_i_paneFills), (n_i_splitBox, .text f_i_splitBox), (n_i_isCut, .text f_i_isCut), (n_s_somePiece, .text f_s_somePiece), (n_s_validPanes, .text f_s_validPanes), (n_s_isCut, .text f_s_isCut), (n_s_validPane, .text f_s_validPane)]
def Xs : Fns := fun f => lkp tbl f
def Ms : Modes := fun f i => (f == n_i_addParts && i == 0)
theorem x_l_FnCutStockOthers : Xs n_l_FnCutStockOthers = some (.text f_l_FnCutStockOthers) := rfl
@[go_sem] theorem m_l_FnCutStockOthers (i : Nat) : Ms n_l_FnCutStockOthers i = false := rfl
theorem x_i_RemnantsOf : Xs n_i_RemnantsOf = some (.text f_i_RemnantsOf) := rfl
@[go_sem] theorem m_i_RemnantsOf (i : Nat) : Ms n_i_RemnantsOf i = false := rfl
theorem x_l_equalStock : Xs n_l_equalStock = some (.text f_l_equalStock) := rfl
@[go_sem] theorem m_l_equalStock (i : Nat) : Ms n_l_equalStock i = false := rfl
theorem x_i_ValidPiece : Xs n_i_ValidPiece = some (.text f_i_ValidPiece) := rfl
@[go_sem] theorem m_i_ValidPiece (i : Nat) : Ms n_i_ValidPiece i = false := rfl
theorem x_i_PlacesOf : Xs n_i_PlacesOf = some (.text f_i_PlacesOf) := rfl
@[go_sem] theorem m_i_PlacesOf (i : Nat) : Ms n_i_PlacesOf i = false := rfl
theorem x_i_GoodPlan : Xs n_i_GoodPlan = some (.text f_i_GoodPlan) := rfl
@[go_sem] theorem m_i_GoodPlan (i : Nat) : Ms n_i_GoodPlan i = false := rfl
theorem x_i_CutStock : Xs n_i_CutStock = some (.text f_i_CutStock) := rfl
@[go_sem] theorem m_i_CutStock (i : Nat) : Ms n_i_CutStock i = false := rfl
theorem x_i_WastesOf : Xs n_i_WastesOf = some (.text f_i_WastesOf) := rfl
@[go_sem] theorem m_i_WastesOf (i : Nat) : Ms n_i_WastesOf i = false := rfl
theorem x_s_DrawCutStock : Xs n_s_DrawCutStock = some (.text f_s_DrawCutStock) := rfl
@[go_sem] theorem m_s_DrawCutStock (i : Nat) : Ms n_s_DrawCutStock i = false := rfl
theorem x_s_CutStock : Xs n_s_CutStock = some (.text f_s_CutStock) := rfl
@[go_sem] theorem m_s_CutStock (i : Nat) : Ms n_s_CutStock i = false := rfl
theorem x_i_TakePiece : Xs n_i_TakePiece = some (.text f_i_TakePiece) := rfl
@[go_sem] theorem m_i_TakePiece (i : Nat) : Ms n_i_TakePiece i = false := rfl
theorem x_i_ValidStock : Xs n_i_ValidStock = some (.text f_i_ValidStock) := rfl
@[go_sem] theorem m_i_ValidStock (i : Nat) : Ms n_i_ValidStock i = false := rfl
theorem x_s_newReader : Xs n_s_newReader = some (.text f_s_newReader) := rfl
@[go_sem] theorem m_s_newReader (i : Nat) : Ms n_s_newReader i = false := rfl
theorem x_s_planPiece : Xs n_s_planPiece = some (.text f_s_planPiece) := rfl
@[go_sem] theorem m_s_planPiece (i : Nat) : Ms n_s_planPiece i = false := rfl
theorem x_s_reader_one : Xs n_s_reader_one = some (.text f_s_reader_one) := rfl
@[go_sem] theorem m_s_reader_one (i : Nat) : Ms n_s_reader_one i = false := rfl
theorem x_i_cutRemnants : Xs n_i_cutRemnants = some (.text f_i_cutRemnants) := rfl
@[go_sem] theorem m_i_cutRemnants (i : Nat) : Ms n_i_cutRemnants i = false := rfl
theorem x_l_equalPiece : Xs n_l_equalPiece = some (.text f_l_equalPiece) := rfl
@[go_sem] theorem m_l_equalPiece (i : Nat) : Ms n_l_equalPiece i = false := rfl
theorem x_s_validPiece : Xs n_s_validPiece = some (.text f_s_validPiece) := rfl
@[go_sem] theorem m_s_validPiece (i : Nat) : Ms n_s_validPiece i = false := rfl
theorem x_s_goodPlan : Xs n_s_goodPlan = some (.text f_s_goodPlan) := rfl
@[go_sem] theorem m_s_goodPlan (i : Nat) : Ms n_s_goodPlan i = false := rfl
theorem x_s_inRange : Xs n_s_inRange = some (.text f_s_inRange) := rfl
@[go_sem] theorem m_s_inRange (i : Nat) : Ms n_s_inRange i = false := rfl
theorem x_s_remnants : Xs n_s_remnants = some (.text f_s_remnants) := rfl
@[go_sem] theorem m_s_remnants (i : Nat) : Ms n_s_remnants i = false := rfl
theorem x_i_ValidBox : Xs n_i_ValidBox = some (.text f_i_ValidBox) := rfl
@[go_sem] theorem m_i_ValidBox (i : Nat) : Ms n_i_ValidBox i = false := rfl
theorem x_i_pieceBox : Xs n_i_pieceBox = some (.text f_i_pieceBox) := rfl
@[go_sem] theorem m_i_pieceBox (i : Nat) : Ms n_i_pieceBox i = false := rfl
theorem x_i_InsideOf : Xs n_i_InsideOf = some (.text f_i_InsideOf) := rfl
@[go_sem] theorem m_i_InsideOf (i : Nat) : Ms n_i_InsideOf i = false := rfl
theorem x_i_ValidPlan : Xs n_i_ValidPlan = some (.text f_i_ValidPlan) := rfl
@[go_sem] theorem m_i_ValidPlan (i : Nat) : Ms n_i_ValidPlan i = false := rfl
theorem x_i_partsOf : Xs n_i_partsOf = some (.text f_i_partsOf) := rfl
@[go_sem] theorem m_i_partsOf (i : Nat) : Ms n_i_partsOf i = false := rfl
theorem x_i_meetsFlaw : Xs n_i_meetsFlaw = some (.text f_i_meetsFlaw) := rfl
@[go_sem] theorem m_i_meetsFlaw (i : Nat) : Ms n_i_meetsFlaw i = false := rfl
theorem x_s_anyStock : Xs n_s_anyStock = some (.text f_s_anyStock) := rfl
@[go_sem] theorem m_s_anyStock (i : Nat) : Ms n_s_anyStock i = false := rfl
theorem x_s_reader_pick : Xs n_s_reader_pick = some (.text f_s_reader_pick) := rfl
@[go_sem] theorem m_s_reader_pick (i : Nat) : Ms n_s_reader_pick i = false := rfl
theorem x_s_validStock : Xs n_s_validStock = some (.text f_s_validStock) := rfl
@[go_sem] theorem m_s_validStock (i : Nat) : Ms n_s_validStock i = false := rfl
theorem x_s_findLabel : Xs n_s_findLabel = some (.text f_s_findLabel) := rfl
@[go_sem] theorem m_s_findLabel (i : Nat) : Ms n_s_findLabel i = false := rfl
theorem x_s_without : Xs n_s_without = some (.text f_s_without) := rfl
@[go_sem] theorem m_s_without (i : Nat) : Ms n_s_without i = false := rfl
theorem x_s_lastLabel : Xs n_s_lastLabel = some (.text f_s_lastLabel) := rfl
@[go_sem] theorem m_s_lastLabel (i : Nat) : Ms n_s_lastLabel i = false := rfl
theorem x_i_findLabel : Xs n_i_findLabel = some (.text f_i_findLabel) := rfl
@[go_sem] theorem m_i_findLabel (i : Nat) : Ms n_i_findLabel i = false := rfl
theorem x_i_copyStock : Xs n_i_copyStock = some (.text f_i_copyStock) := rfl
@[go_sem] theorem m_i_copyStock (i : Nat) : Ms n_i_copyStock i = false := rfl
theorem x_i_copyPiece : Xs n_i_copyPiece = some (.text f_i_copyPiece) := rfl
@[go_sem] theorem m_i_copyPiece (i : Nat) : Ms n_i_copyPiece i = false := rfl
theorem x_s_workPlan : Xs n_s_workPlan = some (.text f_s_workPlan) := rfl
@[go_sem] theorem m_s_workPlan (i : Nat) : Ms n_s_workPlan i = false := rfl
theorem x_s_wastesOf : Xs n_s_wastesOf = some (.text f_s_wastesOf) := rfl
@[go_sem] theorem m_s_wastesOf (i : Nat) : Ms n_s_wastesOf i = false := rfl
theorem x_s_someBox : Xs n_s_someBox = some (.text f_s_someBox) := rfl
@[go_sem] theorem m_s_someBox (i : Nat) : Ms n_s_someBox i = false := rfl
theorem x_i_keptWastes : Xs n_i_keptWastes = some (.text f_i_keptWastes) := rfl
@[go_sem] theorem m_i_keptWastes (i : Nat) : Ms n_i_keptWastes i = false := rfl
theorem x_i_CutOut : Xs n_i_CutOut = some (.text f_i_CutOut) := rfl
@[go_sem] theorem m_i_CutOut (i : Nat) : Ms n_i_CutOut i = false := rfl
theorem x_l_equalBoxes : Xs n_l_equalBoxes = some (.text f_l_equalBoxes) := rfl
@[go_sem] theorem m_l_equalBoxes (i : Nat) : Ms n_l_equalBoxes i = false := rfl
theorem x_s_validBox : Xs n_s_validBox = some (.text f_s_validBox) := rfl
@[go_sem] theorem m_s_validBox (i : Nat) : Ms n_s_validBox i = false := rfl
theorem x_s_insideOf : Xs n_s_insideOf = some (.text f_s_insideOf) := rfl
@[go_sem] theorem m_s_insideOf (i : Nat) : Ms n_s_insideOf i = false := rfl
theorem x_s_validPlan : Xs n_s_validPlan = some (.text f_s_validPlan) := rfl
@[go_sem] theorem m_s_validPlan (i : Nat) : Ms n_s_validPlan i = false := rfl
theorem x_s_placesOf : Xs n_s_placesOf = some (.text f_s_placesOf) := rfl
@[go_sem] theorem m_s_placesOf (i : Nat) : Ms n_s_placesOf i = false := rfl
theorem x_s_clearAt : Xs n_s_clearAt = some (.text f_s_clearAt) := rfl
@[go_sem] theorem m_s_clearAt (i : Nat) : Ms n_s_clearAt i = false := rfl
theorem x_s_isRemnant : Xs n_s_isRemnant = some (.text f_s_isRemnant) := rfl
@[go_sem] theorem m_s_isRemnant (i : Nat) : Ms n_s_isRemnant i = false := rfl
theorem x_s_cutOut : Xs n_s_cutOut = some (.text f_s_cutOut) := rfl
@[go_sem] theorem m_s_cutOut (i : Nat) : Ms n_s_cutOut i = false := rfl
theorem x_i_MeetOf : Xs n_i_MeetOf = some (.text f_i_MeetOf) := rfl
@[go_sem] theorem m_i_MeetOf (i : Nat) : Ms n_i_MeetOf i = false := rfl
theorem x_i_ValidWork : Xs n_i_ValidWork = some (.text f_i_ValidWork) := rfl
@[go_sem] theorem m_i_ValidWork (i : Nat) : Ms n_i_ValidWork i = false := rfl
theorem x_i_PlanSize : Xs n_i_PlanSize = some (.text f_i_PlanSize) := rfl
@[go_sem] theorem m_i_PlanSize (i : Nat) : Ms n_i_PlanSize i = false := rfl
theorem x_i_planFits : Xs n_i_planFits = some (.text f_i_planFits) := rfl
@[go_sem] theorem m_i_planFits (i : Nat) : Ms n_i_planFits i = false := rfl
theorem x_i_sheetOf : Xs n_i_sheetOf = some (.text f_i_sheetOf) := rfl
@[go_sem] theorem m_i_sheetOf (i : Nat) : Ms n_i_sheetOf i = false := rfl
theorem x_i_addParts : Xs n_i_addParts = some (.text f_i_addParts) := rfl
@[go_sem] theorem m0_i_addParts : Ms n_i_addParts 0 = true := rfl
@[go_sem] theorem m1_i_addParts : Ms n_i_addParts 1 = false := rfl
@[go_sem] theorem m2_i_addParts : Ms n_i_addParts 2 = false := rfl
@[go_sem] theorem m3_i_addParts : Ms n_i_addParts 3 = false := rfl
@[go_sem] theorem m4_i_addParts : Ms n_i_addParts 4 = false := rfl
@[go_sem] theorem m5_i_addParts : Ms n_i_addParts 5 = false := rfl
theorem x_s_someStock : Xs n_s_someStock = some (.text f_s_someStock) := rfl
@[go_sem] theorem m_s_someStock (i : Nat) : Ms n_s_someStock i = false := rfl
theorem x_s_copyPiece : Xs n_s_copyPiece = some (.text f_s_copyPiece) := rfl
@[go_sem] theorem m_s_copyPiece (i : Nat) : Ms n_s_copyPiece i = false := rfl
theorem x_slices_IndexFunc_g : Xs n_slices_IndexFunc_g = some (.text f_slices_IndexFunc_g) := rfl
@[go_sem] theorem m_slices_IndexFunc_g (i : Nat) : Ms n_slices_IndexFunc_g i = false := rfl
theorem x_i_findLabel_1 : Xs n_i_findLabel_1 = some (.text f_i_findLabel_1) := rfl
@[go_sem] theorem m_i_findLabel_1 (i : Nat) : Ms n_i_findLabel_1 i = false := rfl
theorem x_s_grow : Xs n_s_grow = some (.text f_s_grow) := rfl
@[go_sem] theorem m_s_grow (i : Nat) : Ms n_s_grow i = false := rfl
theorem x_s_spread : Xs n_s_spread = some (.text f_s_spread) := rfl
@[go_sem] theorem m_s_spread (i : Nat) : Ms n_s_spread i = false := rfl
theorem x_s_validWork : Xs n_s_validWork = some (.text f_s_validWork) := rfl
@[go_sem] theorem m_s_validWork (i : Nat) : Ms n_s_validWork i = false := rfl
theorem x_s_planSize : Xs n_s_planSize = some (.text f_s_planSize) := rfl
@[go_sem] theorem m_s_planSize (i : Nat) : Ms n_s_planSize i = false := rfl
theorem x_s_fitsPlan : Xs n_s_fitsPlan = some (.text f_s_fitsPlan) := rfl
@[go_sem] theorem m_s_fitsPlan (i : Nat) : Ms n_s_fitsPlan i = false := rfl
theorem x_s_meetOf : Xs n_s_meetOf = some (.text f_s_meetOf) := rfl
@[go_sem] theorem m_s_meetOf (i : Nat) : Ms n_s_meetOf i = false := rfl
theorem x_i_ValidPane : Xs n_i_ValidPane = some (.text f_i_ValidPane) := rfl
@[go_sem] theorem m_i_ValidPane (i : Nat) : Ms n_i_ValidPane i = false := rfl
theorem x_i_countParts : Xs n_i_countParts = some (.text f_i_countParts) := rfl
@[go_sem] theorem m_i_countParts (i : Nat) : Ms n_i_countParts i = false := rfl
theorem x_i_paneFills : Xs n_i_paneFills = some (.text f_i_paneFills) := rfl
@[go_sem] theorem m_i_paneFills (i : Nat) : Ms n_i_paneFills i = false := rfl
theorem x_i_splitBox : Xs n_i_splitBox = some (.text f_i_splitBox) := rfl
@[go_sem] theorem m_i_splitBox (i : Nat) : Ms n_i_splitBox i = false := rfl
theorem x_i_isCut : Xs n_i_isCut = some (.text f_i_isCut) := rfl
@[go_sem] theorem m_i_isCut (i : Nat) : Ms n_i_isCut i = false := rfl
theorem x_s_somePiece : Xs n_s_somePiece = some (.text f_s_somePiece) := rfl
@[go_sem] theorem m_s_somePiece (i : Nat) : Ms n_s_somePiece i = false := rfl
theorem x_s_validPanes : Xs n_s_validPanes = some (.text f_s_validPanes) := rfl
@[go_sem] theorem m_s_validPanes (i : Nat) : Ms n_s_validPanes i = false := rfl
theorem x_s_isCut : Xs n_s_isCut = some (.text f_s_isCut) := rfl
@[go_sem] theorem m_s_isCut (i : Nat) : Ms n_s_isCut i = false := rfl
theorem x_s_validPane : Xs n_s_validPane = some (.text f_s_validPane) := rfl
@[go_sem] theorem m_s_validPane (i : Nat) : Ms n_s_validPane i = false := rfl
end
end Go.Proofs.Ytbodfpboklcgoaa
