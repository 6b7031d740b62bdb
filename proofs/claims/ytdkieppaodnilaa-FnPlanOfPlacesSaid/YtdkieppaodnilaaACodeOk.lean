/- The table of this seat's functions is true to the program. -/
import Derived.Test.YtdkieppaodnilaaACode
import Derived.KernelRfl
namespace Go.Proofs.Ytdkieppaodnilaa
open Go Go.Abs

def FunOK (f : Nat) (cf : CFun) : Prop := ∃ fn, Try.prog.funcs[f]? = some fn ∧ (fn.name == "runtime.NumGoroutine") = false ∧ cFun Try.prog fn = some (stripF cf)

theorem ok_l_FnPlanOfPlaces : FunOK n_l_FnPlanOfPlaces f_l_FnPlanOfPlaces := ⟨Try.f4, Try.func4, by kernel_rfl, by kernel_rfl⟩
theorem ok_i_PlacesOf : FunOK n_i_PlacesOf f_i_PlacesOf := ⟨Try.f16, Try.func16, by kernel_rfl, by kernel_rfl⟩
theorem ok_s_DrawPlanOfPlaces : FunOK n_s_DrawPlanOfPlaces f_s_DrawPlanOfPlaces := ⟨Try.f20, Try.func20, by kernel_rfl, by kernel_rfl⟩
theorem ok_i_PlanOfPlaces : FunOK n_i_PlanOfPlaces f_i_PlanOfPlaces := ⟨Try.f21, Try.func21, by kernel_rfl, by kernel_rfl⟩
theorem ok_s_PlanOfPlaces : FunOK n_s_PlanOfPlaces f_s_PlanOfPlaces := ⟨Try.f22, Try.func22, by kernel_rfl, by kernel_rfl⟩
theorem ok_l_equalPlan : FunOK n_l_equalPlan f_l_equalPlan := ⟨Try.f23, Try.func23, by kernel_rfl, by kernel_rfl⟩
theorem ok_i_PrunePlan : FunOK n_i_PrunePlan f_i_PrunePlan := ⟨Try.f24, Try.func24, by kernel_rfl, by kernel_rfl⟩
theorem ok_i_ValidPlan : FunOK n_i_ValidPlan f_i_ValidPlan := ⟨Try.f25, Try.func25, by kernel_rfl, by kernel_rfl⟩
theorem ok_s_newReader : FunOK n_s_newReader f_s_newReader := ⟨Try.f55, Try.func55, by kernel_rfl, by kernel_rfl⟩
theorem ok_s_reader_pick : FunOK n_s_reader_pick f_s_reader_pick := ⟨Try.f58, Try.func58, by kernel_rfl, by kernel_rfl⟩
theorem ok_i_partsOf : FunOK n_i_partsOf f_i_partsOf := ⟨Try.f59, Try.func59, by kernel_rfl, by kernel_rfl⟩
theorem ok_i_splitBox : FunOK n_i_splitBox f_i_splitBox := ⟨Try.f64, Try.func64, by kernel_rfl, by kernel_rfl⟩
theorem ok_s_placeIn : FunOK n_s_placeIn f_s_placeIn := ⟨Try.f68, Try.func68, by kernel_rfl, by kernel_rfl⟩
theorem ok_i_PlanSize : FunOK n_i_PlanSize f_i_PlanSize := ⟨Try.f71, Try.func71, by kernel_rfl, by kernel_rfl⟩
theorem ok_s_reader_one : FunOK n_s_reader_one f_s_reader_one := ⟨Try.f73, Try.func73, by kernel_rfl, by kernel_rfl⟩
theorem ok_s_DrawValidPlaces : FunOK n_s_DrawValidPlaces f_s_DrawValidPlaces := ⟨Try.f74, Try.func74, by kernel_rfl, by kernel_rfl⟩
theorem ok_s_somePlaces : FunOK n_s_somePlaces f_s_somePlaces := ⟨Try.f75, Try.func75, by kernel_rfl, by kernel_rfl⟩
theorem ok_i_ValidPlaces : FunOK n_i_ValidPlaces f_i_ValidPlaces := ⟨Try.f76, Try.func76, by kernel_rfl, by kernel_rfl⟩
theorem ok_i_planPlaces : FunOK n_i_planPlaces f_i_planPlaces := ⟨Try.f77, Try.func77, by kernel_rfl, by kernel_rfl⟩
theorem ok_i_sheetOf : FunOK n_i_sheetOf f_i_sheetOf := ⟨Try.f78, Try.func78, by kernel_rfl, by kernel_rfl⟩
theorem ok_s_validPlaces : FunOK n_s_validPlaces f_s_validPlaces := ⟨Try.f79, Try.func79, by kernel_rfl, by kernel_rfl⟩
theorem ok_s_planFor : FunOK n_s_planFor f_s_planFor := ⟨Try.f80, Try.func80, by kernel_rfl, by kernel_rfl⟩
theorem ok_i_pruned : FunOK n_i_pruned f_i_pruned := ⟨Try.f81, Try.func81, by kernel_rfl, by kernel_rfl⟩
theorem ok_i_ValidWork : FunOK n_i_ValidWork f_i_ValidWork := ⟨Try.f82, Try.func82, by kernel_rfl, by kernel_rfl⟩
theorem ok_i_planFits : FunOK n_i_planFits f_i_planFits := ⟨Try.f83, Try.func83, by kernel_rfl, by kernel_rfl⟩
theorem ok_s_validWork : FunOK n_s_validWork f_s_validWork := ⟨Try.f88, Try.func88, by kernel_rfl, by kernel_rfl⟩
theorem ok_s_workPlan : FunOK n_s_workPlan f_s_workPlan := ⟨Try.f112, Try.func112, by kernel_rfl, by kernel_rfl⟩
theorem ok_i_addParts : FunOK n_i_addParts f_i_addParts := ⟨Try.f116, Try.func116, by kernel_rfl, by kernel_rfl⟩
theorem ok_s_fitsPlan : FunOK n_s_fitsPlan f_s_fitsPlan := ⟨Try.f119, Try.func119, by kernel_rfl, by kernel_rfl⟩
theorem ok_i_countParts : FunOK n_i_countParts f_i_countParts := ⟨Try.f121, Try.func121, by kernel_rfl, by kernel_rfl⟩
theorem ok_i_isCut : FunOK n_i_isCut f_i_isCut := ⟨Try.f122, Try.func122, by kernel_rfl, by kernel_rfl⟩
theorem ok_s_placesOf : FunOK n_s_placesOf f_s_placesOf := ⟨Try.f123, Try.func123, by kernel_rfl, by kernel_rfl⟩
theorem ok_i_ValidBox : FunOK n_i_ValidBox f_i_ValidBox := ⟨Try.f124, Try.func124, by kernel_rfl, by kernel_rfl⟩
theorem ok_i_InsideOf : FunOK n_i_InsideOf f_i_InsideOf := ⟨Try.f125, Try.func125, by kernel_rfl, by kernel_rfl⟩
theorem ok_i_paneFills : FunOK n_i_paneFills f_i_paneFills := ⟨Try.f126, Try.func126, by kernel_rfl, by kernel_rfl⟩
theorem ok_i_ApartBoxes : FunOK n_i_ApartBoxes f_i_ApartBoxes := ⟨Try.f127, Try.func127, by kernel_rfl, by kernel_rfl⟩
theorem ok_i_cutPlaces : FunOK n_i_cutPlaces f_i_cutPlaces := ⟨Try.f128, Try.func128, by kernel_rfl, by kernel_rfl⟩
theorem ok_s_validBox : FunOK n_s_validBox f_s_validBox := ⟨Try.f129, Try.func129, by kernel_rfl, by kernel_rfl⟩
theorem ok_s_insideOf : FunOK n_s_insideOf f_s_insideOf := ⟨Try.f130, Try.func130, by kernel_rfl, by kernel_rfl⟩
theorem ok_s_apart : FunOK n_s_apart f_s_apart := ⟨Try.f131, Try.func131, by kernel_rfl, by kernel_rfl⟩
theorem ok_s_edges : FunOK n_s_edges f_s_edges := ⟨Try.f132, Try.func132, by kernel_rfl, by kernel_rfl⟩
theorem ok_s_part : FunOK n_s_part f_s_part := ⟨Try.f133, Try.func133, by kernel_rfl, by kernel_rfl⟩
theorem ok_s_bothSides : FunOK n_s_bothSides f_s_bothSides := ⟨Try.f134, Try.func134, by kernel_rfl, by kernel_rfl⟩
theorem ok_i_ValidPane : FunOK n_i_ValidPane f_i_ValidPane := ⟨Try.f135, Try.func135, by kernel_rfl, by kernel_rfl⟩
theorem ok_s_inRange : FunOK n_s_inRange f_s_inRange := ⟨Try.f140, Try.func140, by kernel_rfl, by kernel_rfl⟩
theorem ok_s_validPanes : FunOK n_s_validPanes f_s_validPanes := ⟨Try.f141, Try.func141, by kernel_rfl, by kernel_rfl⟩
theorem ok_s_grow : FunOK n_s_grow f_s_grow := ⟨Try.f151, Try.func151, by kernel_rfl, by kernel_rfl⟩
theorem ok_s_spread : FunOK n_s_spread f_s_spread := ⟨Try.f154, Try.func154, by kernel_rfl, by kernel_rfl⟩
theorem ok_i_MeetOf : FunOK n_i_MeetOf f_i_MeetOf := ⟨Try.f155, Try.func155, by kernel_rfl, by kernel_rfl⟩
theorem ok_i_validBoxes : FunOK n_i_validBoxes f_i_validBoxes := ⟨Try.f156, Try.func156, by kernel_rfl, by kernel_rfl⟩
theorem ok_i_firstCut : FunOK n_i_firstCut f_i_firstCut := ⟨Try.f157, Try.func157, by kernel_rfl, by kernel_rfl⟩
theorem ok_s_meetOf : FunOK n_s_meetOf f_s_meetOf := ⟨Try.f158, Try.func158, by kernel_rfl, by kernel_rfl⟩
theorem ok_s_validPane : FunOK n_s_validPane f_s_validPane := ⟨Try.f160, Try.func160, by kernel_rfl, by kernel_rfl⟩
theorem ok_i_spanOf : FunOK n_i_spanOf f_i_spanOf := ⟨Try.f174, Try.func174, by kernel_rfl, by kernel_rfl⟩
theorem ok_i_leastCut : FunOK n_i_leastCut f_i_leastCut := ⟨Try.f175, Try.func175, by kernel_rfl, by kernel_rfl⟩
end Go.Proofs.Ytdkieppaodnilaa
