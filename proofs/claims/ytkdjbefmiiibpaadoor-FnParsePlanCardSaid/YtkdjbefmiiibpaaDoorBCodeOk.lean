/- The table of this seat's functions is true to the program. -/
import Derived.Test.YtkdjbefmiiibpaaDoorBCode
import Derived.KernelRfl
namespace Go.Proofs.YtkdjbefmiiibpaaDoor
open Go Go.Abs

def FunOK (f : Nat) (cf : CFun) : Prop := ∃ fn, Tryd.prog.funcs[f]? = some fn ∧ (fn.name == "runtime.NumGoroutine") = false ∧ cFun Tryd.prog fn = some (stripF cf)

theorem ok_l_FnParsePlan : FunOK n_l_FnParsePlan f_l_FnParsePlan := ⟨Tryd.f4, Tryd.func4, by kernel_rfl, by kernel_rfl⟩
theorem ok_i_FormatPlan : FunOK n_i_FormatPlan f_i_FormatPlan := ⟨Tryd.f8, Tryd.func8, by kernel_rfl, by kernel_rfl⟩
theorem ok_i_ParsePlan : FunOK n_i_ParsePlan f_i_ParsePlan := ⟨Tryd.f10, Tryd.func10, by kernel_rfl, by kernel_rfl⟩
theorem ok_l_equalPlan : FunOK n_l_equalPlan f_l_equalPlan := ⟨Tryd.f11, Tryd.func11, by kernel_rfl, by kernel_rfl⟩
theorem ok_s_DrawParsePlan : FunOK n_s_DrawParsePlan f_s_DrawParsePlan := ⟨Tryd.f12, Tryd.func12, by kernel_rfl, by kernel_rfl⟩
theorem ok_s_ParsePlan : FunOK n_s_ParsePlan f_s_ParsePlan := ⟨Tryd.f13, Tryd.func13, by kernel_rfl, by kernel_rfl⟩
theorem ok_i_PlanSize : FunOK n_i_PlanSize f_i_PlanSize := ⟨Tryd.f14, Tryd.func14, by kernel_rfl, by kernel_rfl⟩
theorem ok_i_numbersFit : FunOK n_i_numbersFit f_i_numbersFit := ⟨Tryd.f25, Tryd.func25, by kernel_rfl, by kernel_rfl⟩
theorem ok_i_writePlan : FunOK n_i_writePlan f_i_writePlan := ⟨Tryd.f26, Tryd.func26, by kernel_rfl, by kernel_rfl⟩
theorem ok_s_planSize : FunOK n_s_planSize f_s_planSize := ⟨Tryd.f28, Tryd.func28, by kernel_rfl, by kernel_rfl⟩
theorem ok_s_countable : FunOK n_s_countable f_s_countable := ⟨Tryd.f29, Tryd.func29, by kernel_rfl, by kernel_rfl⟩
theorem ok_s_showPlan : FunOK n_s_showPlan f_s_showPlan := ⟨Tryd.f30, Tryd.func30, by kernel_rfl, by kernel_rfl⟩
theorem ok_i_takePlan : FunOK n_i_takePlan f_i_takePlan := ⟨Tryd.f31, Tryd.func31, by kernel_rfl, by kernel_rfl⟩
theorem ok_s_newReader : FunOK n_s_newReader f_s_newReader := ⟨Tryd.f32, Tryd.func32, by kernel_rfl, by kernel_rfl⟩
theorem ok_s_workPlan : FunOK n_s_workPlan f_s_workPlan := ⟨Tryd.f33, Tryd.func33, by kernel_rfl, by kernel_rfl⟩
theorem ok_s_reader_pick : FunOK n_s_reader_pick f_s_reader_pick := ⟨Tryd.f34, Tryd.func34, by kernel_rfl, by kernel_rfl⟩
theorem ok_s_mutate : FunOK n_s_mutate f_s_mutate := ⟨Tryd.f35, Tryd.func35, by kernel_rfl, by kernel_rfl⟩
theorem ok_s_parsePlan : FunOK n_s_parsePlan f_s_parsePlan := ⟨Tryd.f36, Tryd.func36, by kernel_rfl, by kernel_rfl⟩
theorem ok_i_countParts : FunOK n_i_countParts f_i_countParts := ⟨Tryd.f37, Tryd.func37, by kernel_rfl, by kernel_rfl⟩
theorem ok_s_isCut : FunOK n_s_isCut f_s_isCut := ⟨Tryd.f52, Tryd.func52, by kernel_rfl, by kernel_rfl⟩
theorem ok_s_inRange : FunOK n_s_inRange f_s_inRange := ⟨Tryd.f53, Tryd.func53, by kernel_rfl, by kernel_rfl⟩
theorem ok_s_number : FunOK n_s_number f_s_number := ⟨Tryd.f54, Tryd.func54, by kernel_rfl, by kernel_rfl⟩
theorem ok_i_takeNumber : FunOK n_i_takeNumber f_i_takeNumber := ⟨Tryd.f55, Tryd.func55, by kernel_rfl, by kernel_rfl⟩
theorem ok_strings_CutPrefix : FunOK n_strings_CutPrefix f_strings_CutPrefix := ⟨Tryd.f56, Tryd.func56, by kernel_rfl, by kernel_rfl⟩
theorem ok_s_reader_one : FunOK n_s_reader_one f_s_reader_one := ⟨Tryd.f57, Tryd.func57, by kernel_rfl, by kernel_rfl⟩
theorem ok_s_grow : FunOK n_s_grow f_s_grow := ⟨Tryd.f58, Tryd.func58, by kernel_rfl, by kernel_rfl⟩
theorem ok_s_reader_of : FunOK n_s_reader_of f_s_reader_of := ⟨Tryd.f59, Tryd.func59, by kernel_rfl, by kernel_rfl⟩
theorem ok_s_planText_plan : FunOK n_s_planText_plan f_s_planText_plan := ⟨Tryd.f60, Tryd.func60, by kernel_rfl, by kernel_rfl⟩
theorem ok_s_readNumber : FunOK n_s_readNumber f_s_readNumber := ⟨Tryd.f72, Tryd.func72, by kernel_rfl, by kernel_rfl⟩
theorem ok_i_readNumber : FunOK n_i_readNumber f_i_readNumber := ⟨Tryd.f74, Tryd.func74, by kernel_rfl, by kernel_rfl⟩
theorem ok_internal_stringslite_CutPrefix : FunOK n_internal_stringslite_CutPrefix f_internal_stringslite_CutPrefix := ⟨Tryd.f75, Tryd.func75, by kernel_rfl, by kernel_rfl⟩
theorem ok_s_fitsPlan : FunOK n_s_fitsPlan f_s_fitsPlan := ⟨Tryd.f76, Tryd.func76, by kernel_rfl, by kernel_rfl⟩
theorem ok_s_planText_next : FunOK n_s_planText_next f_s_planText_next := ⟨Tryd.f77, Tryd.func77, by kernel_rfl, by kernel_rfl⟩
theorem ok_s_planText_count : FunOK n_s_planText_count f_s_planText_count := ⟨Tryd.f78, Tryd.func78, by kernel_rfl, by kernel_rfl⟩
theorem ok_s_planText_skip : FunOK n_s_planText_skip f_s_planText_skip := ⟨Tryd.f79, Tryd.func79, by kernel_rfl, by kernel_rfl⟩
theorem ok_internal_stringslite_HasPrefix : FunOK n_internal_stringslite_HasPrefix f_internal_stringslite_HasPrefix := ⟨Tryd.f87, Tryd.func87, by kernel_rfl, by kernel_rfl⟩
end Go.Proofs.YtkdjbefmiiibpaaDoor
