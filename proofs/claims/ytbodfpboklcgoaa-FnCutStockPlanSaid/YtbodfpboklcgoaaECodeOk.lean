/- The table of this seat's functions is true to the program. -/
import Derived.Test.YtbodfpboklcgoaaECode
import Derived.KernelRfl
namespace Go.Proofs.Ytbodfpboklcgoaa
open Go Go.Abs

def FunOK (f : Nat) (cf : CFun) : Prop := ∃ fn, Try.prog.funcs[f]? = some fn ∧ (fn.name == "runtime.NumGoroutine") = false ∧ cFun Try.prog fn = some (stripF cf)

theorem ok_l_FnCutStockPlan : FunOK n_l_FnCutStockPlan f_l_FnCutStockPlan := ⟨Try.f4, Try.func4, by kernel_rfl, by kernel_rfl⟩
theorem ok_i_ValidPiece : FunOK n_i_ValidPiece f_i_ValidPiece := ⟨Try.f11, Try.func11, by kernel_rfl, by kernel_rfl⟩
theorem ok_l_area : FunOK n_l_area f_l_area := ⟨Try.f13, Try.func13, by kernel_rfl, by kernel_rfl⟩
theorem ok_l_boxesOf : FunOK n_l_boxesOf f_l_boxesOf := ⟨Try.f14, Try.func14, by kernel_rfl, by kernel_rfl⟩
theorem ok_i_PlacesOf : FunOK n_i_PlacesOf f_i_PlacesOf := ⟨Try.f15, Try.func15, by kernel_rfl, by kernel_rfl⟩
theorem ok_s_DrawGoodPlan : FunOK n_s_DrawGoodPlan f_s_DrawGoodPlan := ⟨Try.f16, Try.func16, by kernel_rfl, by kernel_rfl⟩
theorem ok_i_GoodPlan : FunOK n_i_GoodPlan f_i_GoodPlan := ⟨Try.f17, Try.func17, by kernel_rfl, by kernel_rfl⟩
theorem ok_s_GoodPlan : FunOK n_s_GoodPlan f_s_GoodPlan := ⟨Try.f18, Try.func18, by kernel_rfl, by kernel_rfl⟩
theorem ok_i_CutStock : FunOK n_i_CutStock f_i_CutStock := ⟨Try.f19, Try.func19, by kernel_rfl, by kernel_rfl⟩
theorem ok_i_WastesOf : FunOK n_i_WastesOf f_i_WastesOf := ⟨Try.f20, Try.func20, by kernel_rfl, by kernel_rfl⟩
theorem ok_i_CoverArea : FunOK n_i_CoverArea f_i_CoverArea := ⟨Try.f21, Try.func21, by kernel_rfl, by kernel_rfl⟩
theorem ok_i_StockArea : FunOK n_i_StockArea f_i_StockArea := ⟨Try.f22, Try.func22, by kernel_rfl, by kernel_rfl⟩
theorem ok_i_TakePiece : FunOK n_i_TakePiece f_i_TakePiece := ⟨Try.f25, Try.func25, by kernel_rfl, by kernel_rfl⟩
theorem ok_i_ValidStock : FunOK n_i_ValidStock f_i_ValidStock := ⟨Try.f26, Try.func26, by kernel_rfl, by kernel_rfl⟩
theorem ok_s_newReader : FunOK n_s_newReader f_s_newReader := ⟨Try.f27, Try.func27, by kernel_rfl, by kernel_rfl⟩
theorem ok_s_planPiece : FunOK n_s_planPiece f_s_planPiece := ⟨Try.f28, Try.func28, by kernel_rfl, by kernel_rfl⟩
theorem ok_s_reader_one : FunOK n_s_reader_one f_s_reader_one := ⟨Try.f29, Try.func29, by kernel_rfl, by kernel_rfl⟩
theorem ok_i_cutRemnants : FunOK n_i_cutRemnants f_i_cutRemnants := ⟨Try.f30, Try.func30, by kernel_rfl, by kernel_rfl⟩
theorem ok_s_validPiece : FunOK n_s_validPiece f_s_validPiece := ⟨Try.f32, Try.func32, by kernel_rfl, by kernel_rfl⟩
theorem ok_s_goodPlan : FunOK n_s_goodPlan f_s_goodPlan := ⟨Try.f33, Try.func33, by kernel_rfl, by kernel_rfl⟩
theorem ok_s_inRange : FunOK n_s_inRange f_s_inRange := ⟨Try.f34, Try.func34, by kernel_rfl, by kernel_rfl⟩
theorem ok_i_ValidBox : FunOK n_i_ValidBox f_i_ValidBox := ⟨Try.f36, Try.func36, by kernel_rfl, by kernel_rfl⟩
theorem ok_i_pieceBox : FunOK n_i_pieceBox f_i_pieceBox := ⟨Try.f37, Try.func37, by kernel_rfl, by kernel_rfl⟩
theorem ok_i_InsideOf : FunOK n_i_InsideOf f_i_InsideOf := ⟨Try.f38, Try.func38, by kernel_rfl, by kernel_rfl⟩
theorem ok_i_ValidPlan : FunOK n_i_ValidPlan f_i_ValidPlan := ⟨Try.f39, Try.func39, by kernel_rfl, by kernel_rfl⟩
theorem ok_i_partsOf : FunOK n_i_partsOf f_i_partsOf := ⟨Try.f41, Try.func41, by kernel_rfl, by kernel_rfl⟩
theorem ok_i_meetsFlaw : FunOK n_i_meetsFlaw f_i_meetsFlaw := ⟨Try.f42, Try.func42, by kernel_rfl, by kernel_rfl⟩
theorem ok_i_validBoxes : FunOK n_i_validBoxes f_i_validBoxes := ⟨Try.f43, Try.func43, by kernel_rfl, by kernel_rfl⟩
theorem ok_s_reader_pick : FunOK n_s_reader_pick f_s_reader_pick := ⟨Try.f45, Try.func45, by kernel_rfl, by kernel_rfl⟩
theorem ok_i_findLabel : FunOK n_i_findLabel f_i_findLabel := ⟨Try.f50, Try.func50, by kernel_rfl, by kernel_rfl⟩
theorem ok_i_copyStock : FunOK n_i_copyStock f_i_copyStock := ⟨Try.f51, Try.func51, by kernel_rfl, by kernel_rfl⟩
theorem ok_i_copyPiece : FunOK n_i_copyPiece f_i_copyPiece := ⟨Try.f52, Try.func52, by kernel_rfl, by kernel_rfl⟩
theorem ok_s_workPlan : FunOK n_s_workPlan f_s_workPlan := ⟨Try.f53, Try.func53, by kernel_rfl, by kernel_rfl⟩
theorem ok_s_wastesOf : FunOK n_s_wastesOf f_s_wastesOf := ⟨Try.f54, Try.func54, by kernel_rfl, by kernel_rfl⟩
theorem ok_s_someBox : FunOK n_s_someBox f_s_someBox := ⟨Try.f55, Try.func55, by kernel_rfl, by kernel_rfl⟩
theorem ok_i_keptWastes : FunOK n_i_keptWastes f_i_keptWastes := ⟨Try.f56, Try.func56, by kernel_rfl, by kernel_rfl⟩
theorem ok_i_CutOut : FunOK n_i_CutOut f_i_CutOut := ⟨Try.f57, Try.func57, by kernel_rfl, by kernel_rfl⟩
theorem ok_s_validBox : FunOK n_s_validBox f_s_validBox := ⟨Try.f59, Try.func59, by kernel_rfl, by kernel_rfl⟩
theorem ok_s_insideOf : FunOK n_s_insideOf f_s_insideOf := ⟨Try.f60, Try.func60, by kernel_rfl, by kernel_rfl⟩
theorem ok_s_validPlan : FunOK n_s_validPlan f_s_validPlan := ⟨Try.f61, Try.func61, by kernel_rfl, by kernel_rfl⟩
theorem ok_s_placesOf : FunOK n_s_placesOf f_s_placesOf := ⟨Try.f62, Try.func62, by kernel_rfl, by kernel_rfl⟩
theorem ok_s_clearAt : FunOK n_s_clearAt f_s_clearAt := ⟨Try.f63, Try.func63, by kernel_rfl, by kernel_rfl⟩
theorem ok_i_MeetOf : FunOK n_i_MeetOf f_i_MeetOf := ⟨Try.f66, Try.func66, by kernel_rfl, by kernel_rfl⟩
theorem ok_i_ValidWork : FunOK n_i_ValidWork f_i_ValidWork := ⟨Try.f67, Try.func67, by kernel_rfl, by kernel_rfl⟩
theorem ok_i_PlanSize : FunOK n_i_PlanSize f_i_PlanSize := ⟨Try.f68, Try.func68, by kernel_rfl, by kernel_rfl⟩
theorem ok_i_planFits : FunOK n_i_planFits f_i_planFits := ⟨Try.f69, Try.func69, by kernel_rfl, by kernel_rfl⟩
theorem ok_i_sheetOf : FunOK n_i_sheetOf f_i_sheetOf := ⟨Try.f70, Try.func70, by kernel_rfl, by kernel_rfl⟩
theorem ok_i_addParts : FunOK n_i_addParts f_i_addParts := ⟨Try.f71, Try.func71, by kernel_rfl, by kernel_rfl⟩
theorem ok_slices_IndexFunc_g : FunOK n_slices_IndexFunc_g f_slices_IndexFunc_g := ⟨Try.f74, Try.func74, by kernel_rfl, by kernel_rfl⟩
theorem ok_i_findLabel_1 : FunOK n_i_findLabel_1 f_i_findLabel_1 := ⟨Try.f75, Try.func75, by kernel_rfl, by kernel_rfl⟩
theorem ok_s_grow : FunOK n_s_grow f_s_grow := ⟨Try.f76, Try.func76, by kernel_rfl, by kernel_rfl⟩
theorem ok_s_spread : FunOK n_s_spread f_s_spread := ⟨Try.f77, Try.func77, by kernel_rfl, by kernel_rfl⟩
theorem ok_s_validWork : FunOK n_s_validWork f_s_validWork := ⟨Try.f78, Try.func78, by kernel_rfl, by kernel_rfl⟩
theorem ok_s_planSize : FunOK n_s_planSize f_s_planSize := ⟨Try.f79, Try.func79, by kernel_rfl, by kernel_rfl⟩
theorem ok_s_fitsPlan : FunOK n_s_fitsPlan f_s_fitsPlan := ⟨Try.f80, Try.func80, by kernel_rfl, by kernel_rfl⟩
theorem ok_s_meetOf : FunOK n_s_meetOf f_s_meetOf := ⟨Try.f81, Try.func81, by kernel_rfl, by kernel_rfl⟩
theorem ok_i_ValidPane : FunOK n_i_ValidPane f_i_ValidPane := ⟨Try.f82, Try.func82, by kernel_rfl, by kernel_rfl⟩
theorem ok_i_countParts : FunOK n_i_countParts f_i_countParts := ⟨Try.f83, Try.func83, by kernel_rfl, by kernel_rfl⟩
theorem ok_i_paneFills : FunOK n_i_paneFills f_i_paneFills := ⟨Try.f84, Try.func84, by kernel_rfl, by kernel_rfl⟩
theorem ok_i_splitBox : FunOK n_i_splitBox f_i_splitBox := ⟨Try.f85, Try.func85, by kernel_rfl, by kernel_rfl⟩
theorem ok_i_isCut : FunOK n_i_isCut f_i_isCut := ⟨Try.f86, Try.func86, by kernel_rfl, by kernel_rfl⟩
theorem ok_s_validPanes : FunOK n_s_validPanes f_s_validPanes := ⟨Try.f88, Try.func88, by kernel_rfl, by kernel_rfl⟩
theorem ok_s_isCut : FunOK n_s_isCut f_s_isCut := ⟨Try.f89, Try.func89, by kernel_rfl, by kernel_rfl⟩
theorem ok_s_validPane : FunOK n_s_validPane f_s_validPane := ⟨Try.f90, Try.func90, by kernel_rfl, by kernel_rfl⟩
end Go.Proofs.Ytbodfpboklcgoaa
