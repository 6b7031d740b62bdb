/- The functions of this seat, compiled for the abstract semantics. Printed by a program of the prover's. -/
import Derived.Test.YtbodfpboklcgoaaECodeA
namespace Go.Proofs.Ytbodfpboklcgoaa
open Go Go.Abs
noncomputable section

def tbl : List (Nat × Go.Abs.Fn) := [(n_l_FnCutStockPlan, .text f_l_FnCutStockPlan), (n_i_ValidPiece, .text f_i_ValidPiece), (n_l_area, .text f_l_area), (n_l_boxesOf, .text f_l_boxesOf), (n_i_PlacesOf, .text f_i_PlacesOf), (n_s_DrawGoodPlan, .text f_s_DrawGoodPlan), (n_i_GoodPlan, .text f_i_GoodPlan), (n_s_GoodPlan, .text f_s_GoodPlan), (n_i_CutStock, .text f_i_CutStock), (n_i_WastesOf, .text f_i_WastesOf), (n_i_CoverArea, .text f_i_CoverArea), (n_i_StockArea, .text f_i_StockArea), (n_i_TakePiece, .text f_i_TakePiece), (n_i_ValidStock, .text f_i_ValidStock), (n_s_newReader, .text f_s_newReader), (n_s_planPiece, .text f_s_planPiece), (n_s_reader_one, .text f_s_reader_one), (n_i_cutRemnants, .text f_i_cutRemnants), (n_s_validPiece, .text f_s_validPiece), (n_s_goodPlan, .text f_s_goodPlan), (n_s_inRange, .text f_s_inRange), (n_i_ValidBox, .text f_i_ValidBox), (n_i_pieceBox, .text f_i_pieceBox), (n_i_InsideOf, .text f_i_InsideOf), (n_i_ValidPlan, .text f_i_ValidPlan), (n_i_partsOf, .text f_i_partsOf), (n_i_meetsFlaw, .text f_i_meetsFlaw), (n_i_validBoxes, .text f_i_validBoxes), (n_s_reader_pick, .text f_s_reader_pick), (n_i_findLabel, .text f_i_findLabel), (n_i_copyStock, .text f_i_copyStock), (n_i_copyPiece, .text f_i_copyPiece), (n_s_workPlan, .text f_s_workPlan), (n_s_wastesOf, .text f_s_wastesOf), (n_s_someBox, .text f_s_someBox), (n_i_keptWastes, .text f_i_keptWastes), (n_i_CutOut, .text f_i_CutOut), (n_s_validBox, .text f_s_validBox), (n_s_insideOf, .text f_s_insideOf), (n_s_validPlan, .text f_s_validPlan), (n_s_placesOf, .text f_s_placesOf), (n_s_clearAt, .text f_s_clearAt), (n_i_MeetOf, .text f_i_MeetOf), (n_i_ValidWork, .text f_i_ValidWork), (n_i_PlanSize, .text f_i_PlanSize), (n_i_planFits, .text f_i_planFits), (n_i_sheetOf, .text f_i_sheetOf), (n_i_addParts, .text f_i_addParts), (n_slices_IndexFunc_g, .text f_slices_IndexFunc_g), (n_i_findLabel_1, .text f_i_findLabel_1), (n_s_grow, .text f_s_grow), (n_s_spread, .text f_s_spread), (n_s_validWork, .text f_s_validWork), (n_s_planSize, .text f_s_planSize), (n_s_fitsPlan, .text f_s_fitsPlan), (n_s_meetOf, .text f_s_meetOf), (n_i_ValidPane, .text f_i_ValidPane), (n_i_countParts, .text f_i_countParts), (n_i_paneFills, .text f_i_paneFills), (n_i_splitBox, .text f_i_splitBox), (n_i_isCut, .text f_i_isCut), (n_s_validPanes, .text f_s_validPanes), (n_s_isCut, .text f_s_isCut), (n_s_validPane, .text f_s_validPane)]
def Xs : Fns := fun f => lkp tbl f
def Ms : Modes := fun f i => (f == n_i_addParts && i == 0)
theorem x_l_FnCutStockPlan : Xs n_l_FnCutStockPlan = some (.text f_l_FnCutStockPlan) := rfl
@[go_sem] theorem m_l_FnCutStockPlan (i : Nat) : Ms n_l_FnCutStockPlan i = false := rfl
theorem x_i_ValidPiece : Xs n_i_ValidPiece = some (.text f_i_ValidPiece) := rfl
@[go_sem] theorem m_i_ValidPiece (i : Nat) : Ms n_i_ValidPiece i = false := rfl
theorem x_l_area : Xs n_l_area = some (.text f_l_area) := rfl
@[go_sem] theorem m_l_area (i : Nat) : Ms n_l_area i = false := rfl
theorem x_l_boxesOf : Xs n_l_boxesOf = some (.text f_l_boxesOf) := rfl
@[go_sem] theorem m_l_boxesOf (i : Nat) : Ms n_l_boxesOf i = false := rfl
theorem x_i_PlacesOf : Xs n_i_PlacesOf = some (.text f_i_PlacesOf) := rfl
@[go_sem] theorem m_i_PlacesOf (i : Nat) : Ms n_i_PlacesOf i = false := rfl
theorem x_s_DrawGoodPlan : Xs n_s_DrawGoodPlan = some (.text f_s_DrawGoodPlan) := rfl
@[go_sem] theorem m_s_DrawGoodPlan (i : Nat) : Ms n_s_DrawGoodPlan i = false := rfl
theorem x_i_GoodPlan : Xs n_i_GoodPlan = some (.text f_i_GoodPlan) := rfl
@[go_sem] theorem m_i_GoodPlan (i : Nat) : Ms n_i_GoodPlan i = false := rfl
theorem x_s_GoodPlan : Xs n_s_GoodPlan = some (.text f_s_GoodPlan) := rfl
@[go_sem] theorem m_s_GoodPlan (i : Nat) : Ms n_s_GoodPlan i = false := rfl
theorem x_i_CutStock : Xs n_i_CutStock = some (.text f_i_CutStock) := rfl
@[go_sem] theorem m_i_CutStock (i : Nat) : Ms n_i_CutStock i = false := rfl
theorem x_i_WastesOf : Xs n_i_WastesOf = some (.text f_i_WastesOf) := rfl
@[go_sem] theorem m_i_WastesOf (i : Nat) : Ms n_i_WastesOf i = false := rfl
theorem x_i_CoverArea : Xs n_i_CoverArea = some (.text f_i_CoverArea) := rfl
@[go_sem] theorem m_i_CoverArea (i : Nat) : Ms n_i_CoverArea i = false := rfl
theorem x_i_StockArea : Xs n_i_StockArea = some (.text f_i_StockArea) := rfl
@[go_sem] theorem m_i_StockArea (i : Nat) : Ms n_i_StockArea i = false := rfl
theorem x_i_TakePiece : Xs n_i_TakePiece = some (.text f_i_TakePiece) := rfl
@[go_sem] theorem m_i_TakePiece (i : Nat) : Ms n_i_TakePiece i = false := rfl
theorem x_i_ValidStock : Xs n_i_ValidStock = some (.text f_i_ValidStock) := rfl
@[go_sem] theorem m_i_ValidStock (i : Nat) : Ms n_i_ValidStock i = false := rfl
theorem x_s_newReader : Xs n_s_newReader = some (.text f_s_newReader) := rfl
@[go_sem] theorem m_s_newReader (i : Nat) : Ms n_s_newReader i = false := rfl
theorem x_s_planPiece : Xs n_s_planPiece = some (.text f_s_planPiece) := rfl
@[go_sem] theorem m_s_planPiece (i : Nat) : Ms n_s_planPiece i = false := rfl
theorem x_s_reader_one : Xs n_s_reader_one = some (.text f_s_reader_one) := rfl
@[go_sem] theorem m_s_reader_one (i : Nat) : Ms n_s_reader_one i = false := rfl
theorem x_i_cutRemnants : Xs n_i_cutRemnants = some (.text f_i_cutRemnants) := rfl
@[go_sem] theorem m_i_cutRemnants (i : Nat) : Ms n_i_cutRemnants i = false := rfl
theorem x_s_validPiece : Xs n_s_validPiece = some (.text f_s_validPiece) := rfl
@[go_sem] theorem m_s_validPiece (i : Nat) : Ms n_s_validPiece i = false := rfl
theorem x_s_goodPlan : Xs n_s_goodPlan = some (.text f_s_goodPlan) := rfl
@[go_sem] theorem m_s_goodPlan (i : Nat) : Ms n_s_goodPlan i = false := rfl
theorem x_s_inRange : Xs n_s_inRange = some (.text f_s_inRange) := rfl
@[go_sem] theorem m_s_inRange (i : Nat) : Ms n_s_inRange i = false := rfl
theorem x_i_ValidBox : Xs n_i_ValidBox = some (.text f_i_ValidBox) := rfl
@[go_sem] theorem m_i_ValidBox (i : Nat) : Ms n_i_ValidBox i = false := rfl
theorem x_i_pieceBox : Xs n_i_pieceBox = some (.text f_i_pieceBox) := rfl
@[go_sem] theorem m_i_pieceBox (i : Nat) : Ms n_i_pieceBox i = false := rfl
theorem x_i_InsideOf : Xs n_i_InsideOf = some (.text f_i_InsideOf) := rfl
@[go_sem] theorem m_i_InsideOf (i : Nat) : Ms n_i_InsideOf i = false := rfl
theorem x_i_ValidPlan : Xs n_i_ValidPlan = some (.text f_i_ValidPlan) := rfl
@[go_sem] theorem m_i_ValidPlan (i : Nat) : Ms n_i_ValidPlan i = false := rfl
theorem x_i_partsOf : Xs n_i_partsOf = some (.text f_i_partsOf) := rfl
@[go_sem] theorem m_i_partsOf (i : Nat) : Ms n_i_partsOf i = false := rfl
theorem x_i_meetsFlaw : Xs n_i_meetsFlaw = some (.text f_i_meetsFlaw) := rfl
@[go_sem] theorem m_i_meetsFlaw (i : Nat) : Ms n_i_meetsFlaw i = false := rfl
theorem x_i_validBoxes : Xs n_i_validBoxes = some (.text f_i_validBoxes) := rfl
@[go_sem] theorem m_i_validBoxes (i : Nat) : Ms n_i_validBoxes i = false := rfl
theorem x_s_reader_pick : Xs n_s_reader_pick = some (.text f_s_reader_pick) := rfl
@[go_sem] theorem m_s_reader_pick (i : Nat) : Ms n_s_reader_pick i = false := rfl
theorem x_i_findLabel : Xs n_i_findLabel = some (.text f_i_findLabel) := rfl
@[go_sem] theorem m_i_findLabel (i : Nat) : Ms n_i_findLabel i = false := rfl
theorem x_i_copyStock : Xs n_i_copyStock = some (.text f_i_copyStock) := rfl
@[go_sem] theorem m_i_copyStock (i : Nat) : Ms n_i_copyStock i = false := rfl
theorem x_i_copyPiece : Xs n_i_copyPiece = some (.text f_i_copyPiece) := rfl
@[go_sem] theorem m_i_copyPiece (i : Nat) : Ms n_i_copyPiece i = false := rfl
theorem x_s_workPlan : Xs n_s_workPlan = some (.text f_s_workPlan) := rfl
@[go_sem] theorem m_s_workPlan (i : Nat) : Ms n_s_workPlan i = false := rfl
theorem x_s_wastesOf : Xs n_s_wastesOf = some (.text f_s_wastesOf) := rfl
@[go_sem] theorem m_s_wastesOf (i : Nat) : Ms n_s_wastesOf i = false := rfl
theorem x_s_someBox : Xs n_s_someBox = some (.text f_s_someBox) := rfl
@[go_sem] theorem m_s_someBox (i : Nat) : Ms n_s_someBox i = false := rfl
theorem x_i_keptWastes : Xs n_i_keptWastes = some (.text f_i_keptWastes) := rfl
@[go_sem] theorem m_i_keptWastes (i : Nat) : Ms n_i_keptWastes i = false := rfl
theorem x_i_CutOut : Xs n_i_CutOut = some (.text f_i_CutOut) := rfl
@[go_sem] theorem m_i_CutOut (i : Nat) : Ms n_i_CutOut i = false := rfl
theorem x_s_validBox : Xs n_s_validBox = some (.text f_s_validBox) := rfl
@[go_sem] theorem m_s_validBox (i : Nat) : Ms n_s_validBox i = false := rfl
theorem x_s_insideOf : Xs n_s_insideOf = some (.text f_s_insideOf) := rfl
@[go_sem] theorem m_s_insideOf (i : Nat) : Ms n_s_insideOf i = false := rfl
theorem x_s_validPlan : Xs n_s_validPlan = some (.text f_s_validPlan) := rfl
@[go_sem] theorem m_s_validPlan (i : Nat) : Ms n_s_validPlan i = false := rfl
theorem x_s_placesOf : Xs n_s_placesOf = some (.text f_s_placesOf) := rfl
@[go_sem] theorem m_s_placesOf (i : Nat) : Ms n_s_placesOf i = false := rfl
theorem x_s_clearAt : Xs n_s_clearAt = some (.text f_s_clearAt) := rfl
@[go_sem] theorem m_s_clearAt (i : Nat) : Ms n_s_clearAt i = false := rfl
theorem x_i_MeetOf : Xs n_i_MeetOf = some (.text f_i_MeetOf) := rfl
@[go_sem] theorem m_i_MeetOf (i : Nat) : Ms n_i_MeetOf i = false := rfl
theorem x_i_ValidWork : Xs n_i_ValidWork = some (.text f_i_ValidWork) := rfl
@[go_sem] theorem m_i_ValidWork (i : Nat) : Ms n_i_ValidWork i = false := rfl
theorem x_i_PlanSize : Xs n_i_PlanSize = some (.text f_i_PlanSize) := rfl
@[go_sem] theorem m_i_PlanSize (i : Nat) : Ms n_i_PlanSize i = false := rfl
theorem x_i_planFits : Xs n_i_planFits = some (.text f_i_planFits) := rfl
@[go_sem] theorem m_i_planFits (i : Nat) : Ms n_i_planFits i = false := rfl
theorem x_i_sheetOf : Xs n_i_sheetOf = some (.text f_i_sheetOf) := rfl
@[go_sem] theorem m_i_sheetOf (i : Nat) : Ms n_i_sheetOf i = false := rfl
theorem x_i_addParts : Xs n_i_addParts = some (.text f_i_addParts) := rfl
@[go_sem] theorem m0_i_addParts : Ms n_i_addParts 0 = true := rfl
@[go_sem] theorem m1_i_addParts : Ms n_i_addParts 1 = false := rfl
@[go_sem] theorem m2_i_addParts : Ms n_i_addParts 2 = false := rfl
@[go_sem] theorem m3_i_addParts : Ms n_i_addParts 3 = false := rfl
@[go_sem] theorem m4_i_addParts : Ms n_i_addParts 4 = false := rfl
@[go_sem] theorem m5_i_addParts : Ms n_i_addParts 5 = false := rfl
theorem x_slices_IndexFunc_g : Xs n_slices_IndexFunc_g = some (.text f_slices_IndexFunc_g) := rfl
@[go_sem] theorem m_slices_IndexFunc_g (i : Nat) : Ms n_slices_IndexFunc_g i = false := rfl
theorem x_i_findLabel_1 : Xs n_i_findLabel_1 = some (.text f_i_findLabel_1) := rfl
@[go_sem] theorem m_i_findLabel_1 (i : Nat) : Ms n_i_findLabel_1 i = false := rfl
theorem x_s_grow : Xs n_s_grow = some (.text f_s_grow) := rfl
@[go_sem] theorem m_s_grow (i : Nat) : Ms n_s_grow i = false := rfl
theorem x_s_spread : Xs n_s_spread = some (.text f_s_spread) := rfl
@[go_sem] theorem m_s_spread (i : Nat) : Ms n_s_spread i = false := rfl
theorem x_s_validWork : Xs n_s_validWork = some (.text f_s_validWork) := rfl
@[go_sem] theorem m_s_validWork (i : Nat) : Ms n_s_validWork i = false := rfl
theorem x_s_planSize : Xs n_s_planSize = some (.text f_s_planSize) := rfl
@[go_sem] theorem m_s_planSize (i : Nat) : Ms n_s_planSize i = false := rfl
theorem x_s_fitsPlan : Xs n_s_fitsPlan = some (.text f_s_fitsPlan) := rfl
@[go_sem] theorem m_s_fitsPlan (i : Nat) : Ms n_s_fitsPlan i = false := rfl
theorem x_s_meetOf : Xs n_s_meetOf = some (.text f_s_meetOf) := rfl
@[go_sem] theorem m_s_meetOf (i : Nat) : Ms n_s_meetOf i = false := rfl
theorem x_i_ValidPane : Xs n_i_ValidPane = some (.text f_i_ValidPane) := rfl
@[go_sem] theorem m_i_ValidPane (i : Nat) : Ms n_i_ValidPane i = false := rfl
theorem x_i_countParts : Xs n_i_countParts = some (.text f_i_countParts) := rfl
@[go_sem] theorem m_i_countParts (i : Nat) : Ms n_i_countParts i = false := rfl
theorem x_i_paneFills : Xs n_i_paneFills = some (.text f_i_paneFills) := rfl
@[go_sem] theorem m_i_paneFills (i : Nat) : Ms n_i_paneFills i = false := rfl
theorem x_i_splitBox : Xs n_i_splitBox = some (.text f_i_splitBox) := rfl
@[go_sem] theorem m_i_splitBox (i : Nat) : Ms n_i_splitBox i = false := rfl
theorem x_i_isCut : Xs n_i_isCut = some (.text f_i_isCut) := rfl
@[go_sem] theorem m_i_isCut (i : Nat) : Ms n_i_isCut i = false := rfl
theorem x_s_validPanes : Xs n_s_validPanes = some (.text f_s_validPanes) := rfl
@[go_sem] theorem m_s_validPanes (i : Nat) : Ms n_s_validPanes i = false := rfl
theorem x_s_isCut : Xs n_s_isCut = some (.text f_s_isCut) := rfl
@[go_sem] theorem m_s_isCut (i : Nat) : Ms n_s_isCut i = false := rfl
theorem x_s_validPane : Xs n_s_validPane = some (.text f_s_validPane) := rfl
@[go_sem] theorem m_s_validPane (i : Nat) : Ms n_s_validPane i = false := rfl
end
end Go.Proofs.Ytbodfpboklcgoaa
