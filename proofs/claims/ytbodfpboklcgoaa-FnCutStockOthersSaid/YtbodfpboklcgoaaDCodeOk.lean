/- The table of this seat's functions is true to the program. -/
import Derived.Test.YtbodfpboklcgoaaDCode
import Derived.KernelRfl
namespace Go.Proofs.Ytbodfpboklcgoaa
open Go Go.Abs

def FunOK (f : Nat) (cf : CFun) : Prop := ∃ fn, Try.prog.funcs[f]? = some fn ∧ (fn.name == "runtime.NumGoroutine") = false ∧ cFun Try.prog fn = some (stripF cf)

theorem ok_l_FnCutStockOthers : FunOK n_l_FnCutStockOthers f_l_FnCutStockOthers := ⟨Try.f5, Try.func5, by kernel_rfl, by kernel_rfl⟩
theorem ok_i_RemnantsOf : FunOK n_i_RemnantsOf f_i_RemnantsOf := ⟨Try.f8, Try.func8, by kernel_rfl, by kernel_rfl⟩
theorem ok_l_equalStock : FunOK n_l_equalStock f_l_equalStock := ⟨Try.f9, Try.func9, by kernel_rfl, by kernel_rfl⟩
theorem ok_i_ValidPiece : FunOK n_i_ValidPiece f_i_ValidPiece := ⟨Try.f11, Try.func11, by kernel_rfl, by kernel_rfl⟩
theorem ok_i_PlacesOf : FunOK n_i_PlacesOf f_i_PlacesOf := ⟨Try.f15, Try.func15, by kernel_rfl, by kernel_rfl⟩
theorem ok_i_GoodPlan : FunOK n_i_GoodPlan f_i_GoodPlan := ⟨Try.f17, Try.func17, by kernel_rfl, by kernel_rfl⟩
theorem ok_i_CutStock : FunOK n_i_CutStock f_i_CutStock := ⟨Try.f19, Try.func19, by kernel_rfl, by kernel_rfl⟩
theorem ok_i_WastesOf : FunOK n_i_WastesOf f_i_WastesOf := ⟨Try.f20, Try.func20, by kernel_rfl, by kernel_rfl⟩
theorem ok_s_DrawCutStock : FunOK n_s_DrawCutStock f_s_DrawCutStock := ⟨Try.f23, Try.func23, by kernel_rfl, by kernel_rfl⟩
theorem ok_s_CutStock : FunOK n_s_CutStock f_s_CutStock := ⟨Try.f24, Try.func24, by kernel_rfl, by kernel_rfl⟩
theorem ok_i_TakePiece : FunOK n_i_TakePiece f_i_TakePiece := ⟨Try.f25, Try.func25, by kernel_rfl, by kernel_rfl⟩
theorem ok_i_ValidStock : FunOK n_i_ValidStock f_i_ValidStock := ⟨Try.f26, Try.func26, by kernel_rfl, by kernel_rfl⟩
theorem ok_s_newReader : FunOK n_s_newReader f_s_newReader := ⟨Try.f27, Try.func27, by kernel_rfl, by kernel_rfl⟩
theorem ok_s_planPiece : FunOK n_s_planPiece f_s_planPiece := ⟨Try.f28, Try.func28, by kernel_rfl, by kernel_rfl⟩
theorem ok_s_reader_one : FunOK n_s_reader_one f_s_reader_one := ⟨Try.f29, Try.func29, by kernel_rfl, by kernel_rfl⟩
theorem ok_i_cutRemnants : FunOK n_i_cutRemnants f_i_cutRemnants := ⟨Try.f30, Try.func30, by kernel_rfl, by kernel_rfl⟩
theorem ok_l_equalPiece : FunOK n_l_equalPiece f_l_equalPiece := ⟨Try.f31, Try.func31, by kernel_rfl, by kernel_rfl⟩
theorem ok_s_validPiece : FunOK n_s_validPiece f_s_validPiece := ⟨Try.f32, Try.func32, by kernel_rfl, by kernel_rfl⟩
theorem ok_s_goodPlan : FunOK n_s_goodPlan f_s_goodPlan := ⟨Try.f33, Try.func33, by kernel_rfl, by kernel_rfl⟩
theorem ok_s_inRange : FunOK n_s_inRange f_s_inRange := ⟨Try.f34, Try.func34, by kernel_rfl, by kernel_rfl⟩
theorem ok_s_remnants : FunOK n_s_remnants f_s_remnants := ⟨Try.f35, Try.func35, by kernel_rfl, by kernel_rfl⟩
theorem ok_i_ValidBox : FunOK n_i_ValidBox f_i_ValidBox := ⟨Try.f36, Try.func36, by kernel_rfl, by kernel_rfl⟩
theorem ok_i_pieceBox : FunOK n_i_pieceBox f_i_pieceBox := ⟨Try.f37, Try.func37, by kernel_rfl, by kernel_rfl⟩
theorem ok_i_InsideOf : FunOK n_i_InsideOf f_i_InsideOf := ⟨Try.f38, Try.func38, by kernel_rfl, by kernel_rfl⟩
theorem ok_i_ValidPlan : FunOK n_i_ValidPlan f_i_ValidPlan := ⟨Try.f39, Try.func39, by kernel_rfl, by kernel_rfl⟩
theorem ok_i_partsOf : FunOK n_i_partsOf f_i_partsOf := ⟨Try.f41, Try.func41, by kernel_rfl, by kernel_rfl⟩
theorem ok_i_meetsFlaw : FunOK n_i_meetsFlaw f_i_meetsFlaw := ⟨Try.f42, Try.func42, by kernel_rfl, by kernel_rfl⟩
theorem ok_s_anyStock : FunOK n_s_anyStock f_s_anyStock := ⟨Try.f44, Try.func44, by kernel_rfl, by kernel_rfl⟩
theorem ok_s_reader_pick : FunOK n_s_reader_pick f_s_reader_pick := ⟨Try.f45, Try.func45, by kernel_rfl, by kernel_rfl⟩
theorem ok_s_validStock : FunOK n_s_validStock f_s_validStock := ⟨Try.f46, Try.func46, by kernel_rfl, by kernel_rfl⟩
theorem ok_s_findLabel : FunOK n_s_findLabel f_s_findLabel := ⟨Try.f47, Try.func47, by kernel_rfl, by kernel_rfl⟩
theorem ok_s_without : FunOK n_s_without f_s_without := ⟨Try.f48, Try.func48, by kernel_rfl, by kernel_rfl⟩
theorem ok_s_lastLabel : FunOK n_s_lastLabel f_s_lastLabel := ⟨Try.f49, Try.func49, by kernel_rfl, by kernel_rfl⟩
theorem ok_i_findLabel : FunOK n_i_findLabel f_i_findLabel := ⟨Try.f50, Try.func50, by kernel_rfl, by kernel_rfl⟩
theorem ok_i_copyStock : FunOK n_i_copyStock f_i_copyStock := ⟨Try.f51, Try.func51, by kernel_rfl, by kernel_rfl⟩
theorem ok_i_copyPiece : FunOK n_i_copyPiece f_i_copyPiece := ⟨Try.f52, Try.func52, by kernel_rfl, by kernel_rfl⟩
theorem ok_s_workPlan : FunOK n_s_workPlan f_s_workPlan := ⟨Try.f53, Try.func53, by kernel_rfl, by kernel_rfl⟩
theorem ok_s_wastesOf : FunOK n_s_wastesOf f_s_wastesOf := ⟨Try.f54, Try.func54, by kernel_rfl, by kernel_rfl⟩
theorem ok_s_someBox : FunOK n_s_someBox f_s_someBox := ⟨Try.f55, Try.func55, by kernel_rfl, by kernel_rfl⟩
theorem ok_i_keptWastes : FunOK n_i_keptWastes f_i_keptWastes := ⟨Try.f56, Try.func56, by kernel_rfl, by kernel_rfl⟩
theorem ok_i_CutOut : FunOK n_i_CutOut f_i_CutOut := ⟨Try.f57, Try.func57, by kernel_rfl, by kernel_rfl⟩
theorem ok_l_equalBoxes : FunOK n_l_equalBoxes f_l_equalBoxes := ⟨Try.f58, Try.func58, by kernel_rfl, by kernel_rfl⟩
theorem ok_s_validBox : FunOK n_s_validBox f_s_validBox := ⟨Try.f59, Try.func59, by kernel_rfl, by kernel_rfl⟩
theorem ok_s_insideOf : FunOK n_s_insideOf f_s_insideOf := ⟨Try.f60, Try.func60, by kernel_rfl, by kernel_rfl⟩
theorem ok_s_validPlan : FunOK n_s_validPlan f_s_validPlan := ⟨Try.f61, Try.func61, by kernel_rfl, by kernel_rfl⟩
theorem ok_s_placesOf : FunOK n_s_placesOf f_s_placesOf := ⟨Try.f62, Try.func62, by kernel_rfl, by kernel_rfl⟩
theorem ok_s_clearAt : FunOK n_s_clearAt f_s_clearAt := ⟨Try.f63, Try.func63, by kernel_rfl, by kernel_rfl⟩
theorem ok_s_isRemnant : FunOK n_s_isRemnant f_s_isRemnant := ⟨Try.f64, Try.func64, by kernel_rfl, by kernel_rfl⟩
theorem ok_s_cutOut : FunOK n_s_cutOut f_s_cutOut := ⟨Try.f65, Try.func65, by kernel_rfl, by kernel_rfl⟩
theorem ok_i_MeetOf : FunOK n_i_MeetOf f_i_MeetOf := ⟨Try.f66, Try.func66, by kernel_rfl, by kernel_rfl⟩
theorem ok_i_ValidWork : FunOK n_i_ValidWork f_i_ValidWork := ⟨Try.f67, Try.func67, by kernel_rfl, by kernel_rfl⟩
theorem ok_i_PlanSize : FunOK n_i_PlanSize f_i_PlanSize := ⟨Try.f68, Try.func68, by kernel_rfl, by kernel_rfl⟩
theorem ok_i_planFits : FunOK n_i_planFits f_i_planFits := ⟨Try.f69, Try.func69, by kernel_rfl, by kernel_rfl⟩
theorem ok_i_sheetOf : FunOK n_i_sheetOf f_i_sheetOf := ⟨Try.f70, Try.func70, by kernel_rfl, by kernel_rfl⟩
theorem ok_i_addParts : FunOK n_i_addParts f_i_addParts := ⟨Try.f71, Try.func71, by kernel_rfl, by kernel_rfl⟩
theorem ok_s_someStock : FunOK n_s_someStock f_s_someStock := ⟨Try.f72, Try.func72, by kernel_rfl, by kernel_rfl⟩
theorem ok_s_copyPiece : FunOK n_s_copyPiece f_s_copyPiece := ⟨Try.f73, Try.func73, by kernel_rfl, by kernel_rfl⟩
theorem ok_slices_IndexFunc_g : FunOK n_slices_IndexFunc_g f_slices_IndexFunc_g := ⟨Try.f74, Try.func74, by kernel_rfl, by kernel_rfl⟩
theorem ok_i_findLabel_1 : FunOK n_i_findLabel_1 f_i_findLabel_1 := ⟨Try.f75, Try.func75, by kernel_rfl, by kernel_rfl⟩
theorem ok_s_grow : FunOK n_s_grow f_s_grow := ⟨Try.f76, Try.func76, by kernel_rfl, by kernel_rfl⟩
theorem ok_s_spread : FunOK n_s_spread f_s_spread := ⟨Try.f77, Try.func77, by kernel_rfl, by kernel_rfl⟩
theorem ok_s_validWork : FunOK n_s_validWork f_s_validWork := ⟨Try.f78, Try.func78, by kernel_rfl, by kernel_rfl⟩
theorem ok_s_planSize : FunOK n_s_planSize f_s_planSize := ⟨Try.f79, Try.func79, by kernel_rfl, by kernel_rfl⟩
theorem ok_s_fitsPlan : FunOK n_s_fitsPlan f_s_fitsPlan := ⟨Try.f80, Try.func80, by kernel_rfl, by kernel_rfl⟩
theorem ok_s_meetOf : FunOK n_s_meetOf f_s_meetOf := ⟨Try.f81, Try.func81, by kernel_rfl, by kernel_rfl⟩
theorem ok_i_ValidPane : FunOK n_i_ValidPane f_i_ValidPane := ⟨Try.f82, Try.func82, by kernel_rfl, by kernel_rfl⟩
theorem ok_i_countParts : FunOK n_i_countParts f_i_countParts := ⟨Try.f83, Try.func83, by kernel_rfl, by kernel_rfl⟩
theorem ok_i_paneFills : FunOK n_i_paneFills f_i_paneFills := ⟨Try.f84, Try.func84, by kernel_rfl, by kernel_rfl⟩
theorem ok_i_splitBox : FunOK n_i_splitBox f_i_splitBox := ⟨Try.f85, Try.func85, by kernel_rfl, by kernel_rfl⟩
theorem ok_i_isCut : FunOK n_i_isCut f_i_isCut := ⟨Try.f86, Try.func86, by kernel_rfl, by kernel_rfl⟩
theorem ok_s_somePiece : FunOK n_s_somePiece f_s_somePiece := ⟨Try.f87, Try.func87, by kernel_rfl, by kernel_rfl⟩
theorem ok_s_validPanes : FunOK n_s_validPanes f_s_validPanes := ⟨Try.f88, Try.func88, by kernel_rfl, by kernel_rfl⟩
theorem ok_s_isCut : FunOK n_s_isCut f_s_isCut := ⟨Try.f89, Try.func89, by kernel_rfl, by kernel_rfl⟩
theorem ok_s_validPane : FunOK n_s_validPane f_s_validPane := ⟨Try.f90, Try.func90, by kernel_rfl, by kernel_rfl⟩
end Go.Proofs.Ytbodfpboklcgoaa
