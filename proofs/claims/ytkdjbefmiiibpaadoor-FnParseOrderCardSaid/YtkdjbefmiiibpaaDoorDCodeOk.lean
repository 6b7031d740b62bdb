/- The table of this seat's functions is true to the program. -/
import Derived.Test.YtkdjbefmiiibpaaDoorDCode
import Derived.KernelRfl
namespace Go.Proofs.YtkdjbefmiiibpaaDoor
open Go Go.Abs

def FunOK (f : Nat) (cf : CFun) : Prop := ∃ fn, Tryd.prog.funcs[f]? = some fn ∧ (fn.name == "runtime.NumGoroutine") = false ∧ cFun Tryd.prog fn = some (stripF cf)

theorem ok_l_FnParseOrder : FunOK n_l_FnParseOrder f_l_FnParseOrder := ⟨Tryd.f6, Tryd.func6, by kernel_rfl, by kernel_rfl⟩
theorem ok_i_FormatOrder : FunOK n_i_FormatOrder f_i_FormatOrder := ⟨Tryd.f16, Tryd.func16, by kernel_rfl, by kernel_rfl⟩
theorem ok_s_FormatOrder : FunOK n_s_FormatOrder f_s_FormatOrder := ⟨Tryd.f17, Tryd.func17, by kernel_rfl, by kernel_rfl⟩
theorem ok_i_ValidOrder : FunOK n_i_ValidOrder f_i_ValidOrder := ⟨Tryd.f18, Tryd.func18, by kernel_rfl, by kernel_rfl⟩
theorem ok_i_ParseOrder : FunOK n_i_ParseOrder f_i_ParseOrder := ⟨Tryd.f19, Tryd.func19, by kernel_rfl, by kernel_rfl⟩
theorem ok_l_equalOrder : FunOK n_l_equalOrder f_l_equalOrder := ⟨Tryd.f20, Tryd.func20, by kernel_rfl, by kernel_rfl⟩
theorem ok_s_DrawParseOrder : FunOK n_s_DrawParseOrder f_s_DrawParseOrder := ⟨Tryd.f22, Tryd.func22, by kernel_rfl, by kernel_rfl⟩
theorem ok_s_ParseOrder : FunOK n_s_ParseOrder f_s_ParseOrder := ⟨Tryd.f23, Tryd.func23, by kernel_rfl, by kernel_rfl⟩
theorem ok_s_newReader : FunOK n_s_newReader f_s_newReader := ⟨Tryd.f32, Tryd.func32, by kernel_rfl, by kernel_rfl⟩
theorem ok_s_reader_pick : FunOK n_s_reader_pick f_s_reader_pick := ⟨Tryd.f34, Tryd.func34, by kernel_rfl, by kernel_rfl⟩
theorem ok_s_mutate : FunOK n_s_mutate f_s_mutate := ⟨Tryd.f35, Tryd.func35, by kernel_rfl, by kernel_rfl⟩
theorem ok_s_anyOrder : FunOK n_s_anyOrder f_s_anyOrder := ⟨Tryd.f38, Tryd.func38, by kernel_rfl, by kernel_rfl⟩
theorem ok_i_lineText : FunOK n_i_lineText f_i_lineText := ⟨Tryd.f40, Tryd.func40, by kernel_rfl, by kernel_rfl⟩
theorem ok_s_validOrder : FunOK n_s_validOrder f_s_validOrder := ⟨Tryd.f42, Tryd.func42, by kernel_rfl, by kernel_rfl⟩
theorem ok_s_showOrder : FunOK n_s_showOrder f_s_showOrder := ⟨Tryd.f43, Tryd.func43, by kernel_rfl, by kernel_rfl⟩
theorem ok_i_ValidPane : FunOK n_i_ValidPane f_i_ValidPane := ⟨Tryd.f44, Tryd.func44, by kernel_rfl, by kernel_rfl⟩
theorem ok_i_findLine : FunOK n_i_findLine f_i_findLine := ⟨Tryd.f45, Tryd.func45, by kernel_rfl, by kernel_rfl⟩
theorem ok_strings_Cut : FunOK n_strings_Cut f_strings_Cut := ⟨Tryd.f46, Tryd.func46, by kernel_rfl, by kernel_rfl⟩
theorem ok_i_readLine : FunOK n_i_readLine f_i_readLine := ⟨Tryd.f47, Tryd.func47, by kernel_rfl, by kernel_rfl⟩
theorem ok_s_splitAt : FunOK n_s_splitAt f_s_splitAt := ⟨Tryd.f48, Tryd.func48, by kernel_rfl, by kernel_rfl⟩
theorem ok_s_readLine : FunOK n_s_readLine f_s_readLine := ⟨Tryd.f49, Tryd.func49, by kernel_rfl, by kernel_rfl⟩
theorem ok_s_inRange : FunOK n_s_inRange f_s_inRange := ⟨Tryd.f53, Tryd.func53, by kernel_rfl, by kernel_rfl⟩
theorem ok_s_number : FunOK n_s_number f_s_number := ⟨Tryd.f54, Tryd.func54, by kernel_rfl, by kernel_rfl⟩
theorem ok_s_reader_one : FunOK n_s_reader_one f_s_reader_one := ⟨Tryd.f57, Tryd.func57, by kernel_rfl, by kernel_rfl⟩
theorem ok_s_reader_of : FunOK n_s_reader_of f_s_reader_of := ⟨Tryd.f59, Tryd.func59, by kernel_rfl, by kernel_rfl⟩
theorem ok_s_someOrder : FunOK n_s_someOrder f_s_someOrder := ⟨Tryd.f61, Tryd.func61, by kernel_rfl, by kernel_rfl⟩
theorem ok_s_anyPane : FunOK n_s_anyPane f_s_anyPane := ⟨Tryd.f62, Tryd.func62, by kernel_rfl, by kernel_rfl⟩
theorem ok_s_validPane : FunOK n_s_validPane f_s_validPane := ⟨Tryd.f65, Tryd.func65, by kernel_rfl, by kernel_rfl⟩
theorem ok_s_showLine : FunOK n_s_showLine f_s_showLine := ⟨Tryd.f66, Tryd.func66, by kernel_rfl, by kernel_rfl⟩
theorem ok_slices_IndexFunc_g : FunOK n_slices_IndexFunc_g f_slices_IndexFunc_g := ⟨Tryd.f67, Tryd.func67, by kernel_rfl, by kernel_rfl⟩
theorem ok_i_findLine_1 : FunOK n_i_findLine_1 f_i_findLine_1 := ⟨Tryd.f68, Tryd.func68, by kernel_rfl, by kernel_rfl⟩
theorem ok_internal_stringslite_Cut : FunOK n_internal_stringslite_Cut f_internal_stringslite_Cut := ⟨Tryd.f69, Tryd.func69, by kernel_rfl, by kernel_rfl⟩
theorem ok_strings_Split : FunOK n_strings_Split f_strings_Split := ⟨Tryd.f70, Tryd.func70, by kernel_rfl, by kernel_rfl⟩
theorem ok_i_readNumbers : FunOK n_i_readNumbers f_i_readNumbers := ⟨Tryd.f71, Tryd.func71, by kernel_rfl, by kernel_rfl⟩
theorem ok_s_readNumber : FunOK n_s_readNumber f_s_readNumber := ⟨Tryd.f72, Tryd.func72, by kernel_rfl, by kernel_rfl⟩
theorem ok_i_readNumber : FunOK n_i_readNumber f_i_readNumber := ⟨Tryd.f74, Tryd.func74, by kernel_rfl, by kernel_rfl⟩
theorem ok_s_addPanes : FunOK n_s_addPanes f_s_addPanes := ⟨Tryd.f80, Tryd.func80, by kernel_rfl, by kernel_rfl⟩
theorem ok_s_somePane : FunOK n_s_somePane f_s_somePane := ⟨Tryd.f81, Tryd.func81, by kernel_rfl, by kernel_rfl⟩
theorem ok_strings_genSplit : FunOK n_strings_genSplit f_strings_genSplit := ⟨Tryd.f85, Tryd.func85, by kernel_rfl, by kernel_rfl⟩
theorem ok_strings_explode : FunOK n_strings_explode f_strings_explode := ⟨Tryd.f93, Tryd.func93, by kernel_rfl, by kernel_rfl⟩
theorem ok_strings_Index : FunOK n_strings_Index f_strings_Index := ⟨Tryd.f95, Tryd.func95, by kernel_rfl, by kernel_rfl⟩
theorem ok_unicode_utf8_RuneCountInString : FunOK n_unicode_utf8_RuneCountInString f_unicode_utf8_RuneCountInString := ⟨Tryd.f103, Tryd.func103, by kernel_rfl, by kernel_rfl⟩
theorem ok_unicode_utf8_DecodeRuneInString : FunOK n_unicode_utf8_DecodeRuneInString f_unicode_utf8_DecodeRuneInString := ⟨Tryd.f104, Tryd.func104, by kernel_rfl, by kernel_rfl⟩
theorem ok_unicode_utf8_decodeRuneInStringSlow : FunOK n_unicode_utf8_decodeRuneInStringSlow f_unicode_utf8_decodeRuneInStringSlow := ⟨Tryd.f111, Tryd.func111, by kernel_rfl, by kernel_rfl⟩
end Go.Proofs.YtkdjbefmiiibpaaDoor
