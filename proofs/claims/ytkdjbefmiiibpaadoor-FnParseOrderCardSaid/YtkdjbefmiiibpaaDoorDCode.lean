/- The functions of this seat, compiled for the abstract semantics. Printed by a program of the prover's. -/
import Derived.Test.YtkdjbefmiiibpaaDoorDCodeA
set_option maxRecDepth 20000
namespace Go.Proofs.YtkdjbefmiiibpaaDoor
open Go Go.Abs Go.Abs.Q
noncomputable section


def tbl : List (Nat × Go.Abs.Fn) := [(n_l_FnParseOrder, .text f_l_FnParseOrder), (n_i_FormatOrder, .text f_i_FormatOrder), (n_s_FormatOrder, .text f_s_FormatOrder), (n_i_ValidOrder, .text f_i_ValidOrder), (n_i_ParseOrder, .text f_i_ParseOrder), (n_l_equalOrder, .text f_l_equalOrder), (n_s_DrawParseOrder, .text f_s_DrawParseOrder), (n_s_ParseOrder, .text f_s_ParseOrder), (n_strings_Builder_String, .prim (bstrP TB 5)), (n_s_newReader, .text f_s_newReader), (n_s_reader_pick, .text f_s_reader_pick), (n_s_mutate, .text f_s_mutate), (n_s_anyOrder, .text f_s_anyOrder), (n_strings_Builder_WriteString, .prim (strP TB 5)), (n_i_lineText, .text f_i_lineText), (n_strings_Builder_WriteByte, .prim (byteP TB 5)), (n_s_validOrder, .text f_s_validOrder), (n_s_showOrder, .text f_s_showOrder), (n_i_ValidPane, .text f_i_ValidPane), (n_i_findLine, .text f_i_findLine), (n_strings_Cut, .text f_strings_Cut), (n_i_readLine, .text f_i_readLine), (n_s_splitAt, .text f_s_splitAt), (n_s_readLine, .text f_s_readLine), (n_strconv_Itoa, .prim (itoaP)), (n_s_inRange, .text f_s_inRange), (n_s_number, .text f_s_number), (n_s_reader_one, .text f_s_reader_one), (n_s_reader_of, .text f_s_reader_of), (n_s_someOrder, .text f_s_someOrder), (n_s_anyPane, .text f_s_anyPane), (n_strings_Join, .prim (joinP)), (n_s_validPane, .text f_s_validPane), (n_s_showLine, .text f_s_showLine), (n_slices_IndexFunc_g, .text f_slices_IndexFunc_g), (n_i_findLine_1, .text f_i_findLine_1), (n_internal_stringslite_Cut, .text f_internal_stringslite_Cut), (n_strings_Split, .text f_strings_Split), (n_i_readNumbers, .text f_i_readNumbers), (n_s_readNumber, .text f_s_readNumber), (n_i_readNumber, .text f_i_readNumber), (n_s_addPanes, .text f_s_addPanes), (n_s_somePane, .text f_s_somePane), (n_internal_stringslite_Index, .prim (idxP)), (n_strings_genSplit, .text f_strings_genSplit), (n_strings_explode, .text f_strings_explode), (n_strings_Count, .prim (cntP)), (n_strings_Index, .text f_strings_Index), (n_unicode_utf8_RuneCountInString, .text f_unicode_utf8_RuneCountInString), (n_unicode_utf8_DecodeRuneInString, .text f_unicode_utf8_DecodeRuneInString), (n_unicode_utf8_decodeRuneInStringSlow, .text f_unicode_utf8_decodeRuneInStringSlow)]
def Xs : Fns := fun f => lkp tbl f
def Ms : Modes := fun _ _ => false
theorem x_l_FnParseOrder : Xs n_l_FnParseOrder = some (.text f_l_FnParseOrder) := rfl
@[go_sem] theorem m_l_FnParseOrder (i : Nat) : Ms n_l_FnParseOrder i = false := rfl
theorem x_i_FormatOrder : Xs n_i_FormatOrder = some (.text f_i_FormatOrder) := rfl
@[go_sem] theorem m_i_FormatOrder (i : Nat) : Ms n_i_FormatOrder i = false := rfl
theorem x_s_FormatOrder : Xs n_s_FormatOrder = some (.text f_s_FormatOrder) := rfl
@[go_sem] theorem m_s_FormatOrder (i : Nat) : Ms n_s_FormatOrder i = false := rfl
theorem x_i_ValidOrder : Xs n_i_ValidOrder = some (.text f_i_ValidOrder) := rfl
@[go_sem] theorem m_i_ValidOrder (i : Nat) : Ms n_i_ValidOrder i = false := rfl
theorem x_i_ParseOrder : Xs n_i_ParseOrder = some (.text f_i_ParseOrder) := rfl
@[go_sem] theorem m_i_ParseOrder (i : Nat) : Ms n_i_ParseOrder i = false := rfl
theorem x_l_equalOrder : Xs n_l_equalOrder = some (.text f_l_equalOrder) := rfl
@[go_sem] theorem m_l_equalOrder (i : Nat) : Ms n_l_equalOrder i = false := rfl
theorem x_s_DrawParseOrder : Xs n_s_DrawParseOrder = some (.text f_s_DrawParseOrder) := rfl
@[go_sem] theorem m_s_DrawParseOrder (i : Nat) : Ms n_s_DrawParseOrder i = false := rfl
theorem x_s_ParseOrder : Xs n_s_ParseOrder = some (.text f_s_ParseOrder) := rfl
@[go_sem] theorem m_s_ParseOrder (i : Nat) : Ms n_s_ParseOrder i = false := rfl
theorem x_strings_Builder_String : Xs n_strings_Builder_String = some (.prim (bstrP TB 5)) := rfl
@[go_sem] theorem m_strings_Builder_String (i : Nat) : Ms n_strings_Builder_String i = false := rfl
theorem x_s_newReader : Xs n_s_newReader = some (.text f_s_newReader) := rfl
@[go_sem] theorem m_s_newReader (i : Nat) : Ms n_s_newReader i = false := rfl
theorem x_s_reader_pick : Xs n_s_reader_pick = some (.text f_s_reader_pick) := rfl
@[go_sem] theorem m_s_reader_pick (i : Nat) : Ms n_s_reader_pick i = false := rfl
theorem x_s_mutate : Xs n_s_mutate = some (.text f_s_mutate) := rfl
@[go_sem] theorem m_s_mutate (i : Nat) : Ms n_s_mutate i = false := rfl
theorem x_s_anyOrder : Xs n_s_anyOrder = some (.text f_s_anyOrder) := rfl
@[go_sem] theorem m_s_anyOrder (i : Nat) : Ms n_s_anyOrder i = false := rfl
theorem x_strings_Builder_WriteString : Xs n_strings_Builder_WriteString = some (.prim (strP TB 5)) := rfl
@[go_sem] theorem m_strings_Builder_WriteString (i : Nat) : Ms n_strings_Builder_WriteString i = false := rfl
theorem x_i_lineText : Xs n_i_lineText = some (.text f_i_lineText) := rfl
@[go_sem] theorem m_i_lineText (i : Nat) : Ms n_i_lineText i = false := rfl
theorem x_strings_Builder_WriteByte : Xs n_strings_Builder_WriteByte = some (.prim (byteP TB 5)) := rfl
@[go_sem] theorem m_strings_Builder_WriteByte (i : Nat) : Ms n_strings_Builder_WriteByte i = false := rfl
theorem x_s_validOrder : Xs n_s_validOrder = some (.text f_s_validOrder) := rfl
@[go_sem] theorem m_s_validOrder (i : Nat) : Ms n_s_validOrder i = false := rfl
theorem x_s_showOrder : Xs n_s_showOrder = some (.text f_s_showOrder) := rfl
@[go_sem] theorem m_s_showOrder (i : Nat) : Ms n_s_showOrder i = false := rfl
theorem x_i_ValidPane : Xs n_i_ValidPane = some (.text f_i_ValidPane) := rfl
@[go_sem] theorem m_i_ValidPane (i : Nat) : Ms n_i_ValidPane i = false := rfl
theorem x_i_findLine : Xs n_i_findLine = some (.text f_i_findLine) := rfl
@[go_sem] theorem m_i_findLine (i : Nat) : Ms n_i_findLine i = false := rfl
theorem x_strings_Cut : Xs n_strings_Cut = some (.text f_strings_Cut) := rfl
@[go_sem] theorem m_strings_Cut (i : Nat) : Ms n_strings_Cut i = false := rfl
theorem x_i_readLine : Xs n_i_readLine = some (.text f_i_readLine) := rfl
@[go_sem] theorem m_i_readLine (i : Nat) : Ms n_i_readLine i = false := rfl
theorem x_s_splitAt : Xs n_s_splitAt = some (.text f_s_splitAt) := rfl
@[go_sem] theorem m_s_splitAt (i : Nat) : Ms n_s_splitAt i = false := rfl
theorem x_s_readLine : Xs n_s_readLine = some (.text f_s_readLine) := rfl
@[go_sem] theorem m_s_readLine (i : Nat) : Ms n_s_readLine i = false := rfl
theorem x_strconv_Itoa : Xs n_strconv_Itoa = some (.prim (itoaP)) := rfl
@[go_sem] theorem m_strconv_Itoa (i : Nat) : Ms n_strconv_Itoa i = false := rfl
theorem x_s_inRange : Xs n_s_inRange = some (.text f_s_inRange) := rfl
@[go_sem] theorem m_s_inRange (i : Nat) : Ms n_s_inRange i = false := rfl
theorem x_s_number : Xs n_s_number = some (.text f_s_number) := rfl
@[go_sem] theorem m_s_number (i : Nat) : Ms n_s_number i = false := rfl
theorem x_s_reader_one : Xs n_s_reader_one = some (.text f_s_reader_one) := rfl
@[go_sem] theorem m_s_reader_one (i : Nat) : Ms n_s_reader_one i = false := rfl
theorem x_s_reader_of : Xs n_s_reader_of = some (.text f_s_reader_of) := rfl
@[go_sem] theorem m_s_reader_of (i : Nat) : Ms n_s_reader_of i = false := rfl
theorem x_s_someOrder : Xs n_s_someOrder = some (.text f_s_someOrder) := rfl
@[go_sem] theorem m_s_someOrder (i : Nat) : Ms n_s_someOrder i = false := rfl
theorem x_s_anyPane : Xs n_s_anyPane = some (.text f_s_anyPane) := rfl
@[go_sem] theorem m_s_anyPane (i : Nat) : Ms n_s_anyPane i = false := rfl
theorem x_strings_Join : Xs n_strings_Join = some (.prim (joinP)) := rfl
@[go_sem] theorem m_strings_Join (i : Nat) : Ms n_strings_Join i = false := rfl
theorem x_s_validPane : Xs n_s_validPane = some (.text f_s_validPane) := rfl
@[go_sem] theorem m_s_validPane (i : Nat) : Ms n_s_validPane i = false := rfl
theorem x_s_showLine : Xs n_s_showLine = some (.text f_s_showLine) := rfl
@[go_sem] theorem m_s_showLine (i : Nat) : Ms n_s_showLine i = false := rfl
theorem x_slices_IndexFunc_g : Xs n_slices_IndexFunc_g = some (.text f_slices_IndexFunc_g) := rfl
@[go_sem] theorem m_slices_IndexFunc_g (i : Nat) : Ms n_slices_IndexFunc_g i = false := rfl
theorem x_i_findLine_1 : Xs n_i_findLine_1 = some (.text f_i_findLine_1) := rfl
@[go_sem] theorem m_i_findLine_1 (i : Nat) : Ms n_i_findLine_1 i = false := rfl
theorem x_internal_stringslite_Cut : Xs n_internal_stringslite_Cut = some (.text f_internal_stringslite_Cut) := rfl
@[go_sem] theorem m_internal_stringslite_Cut (i : Nat) : Ms n_internal_stringslite_Cut i = false := rfl
theorem x_strings_Split : Xs n_strings_Split = some (.text f_strings_Split) := rfl
@[go_sem] theorem m_strings_Split (i : Nat) : Ms n_strings_Split i = false := rfl
theorem x_i_readNumbers : Xs n_i_readNumbers = some (.text f_i_readNumbers) := rfl
@[go_sem] theorem m_i_readNumbers (i : Nat) : Ms n_i_readNumbers i = false := rfl
theorem x_s_readNumber : Xs n_s_readNumber = some (.text f_s_readNumber) := rfl
@[go_sem] theorem m_s_readNumber (i : Nat) : Ms n_s_readNumber i = false := rfl
theorem x_i_readNumber : Xs n_i_readNumber = some (.text f_i_readNumber) := rfl
@[go_sem] theorem m_i_readNumber (i : Nat) : Ms n_i_readNumber i = false := rfl
theorem x_s_addPanes : Xs n_s_addPanes = some (.text f_s_addPanes) := rfl
@[go_sem] theorem m_s_addPanes (i : Nat) : Ms n_s_addPanes i = false := rfl
theorem x_s_somePane : Xs n_s_somePane = some (.text f_s_somePane) := rfl
@[go_sem] theorem m_s_somePane (i : Nat) : Ms n_s_somePane i = false := rfl
theorem x_internal_stringslite_Index : Xs n_internal_stringslite_Index = some (.prim (idxP)) := rfl
@[go_sem] theorem m_internal_stringslite_Index (i : Nat) : Ms n_internal_stringslite_Index i = false := rfl
theorem x_strings_genSplit : Xs n_strings_genSplit = some (.text f_strings_genSplit) := rfl
@[go_sem] theorem m_strings_genSplit (i : Nat) : Ms n_strings_genSplit i = false := rfl
theorem x_strings_explode : Xs n_strings_explode = some (.text f_strings_explode) := rfl
@[go_sem] theorem m_strings_explode (i : Nat) : Ms n_strings_explode i = false := rfl
theorem x_strings_Count : Xs n_strings_Count = some (.prim (cntP)) := rfl
@[go_sem] theorem m_strings_Count (i : Nat) : Ms n_strings_Count i = false := rfl
theorem x_strings_Index : Xs n_strings_Index = some (.text f_strings_Index) := rfl
@[go_sem] theorem m_strings_Index (i : Nat) : Ms n_strings_Index i = false := rfl
theorem x_unicode_utf8_RuneCountInString : Xs n_unicode_utf8_RuneCountInString = some (.text f_unicode_utf8_RuneCountInString) := rfl
@[go_sem] theorem m_unicode_utf8_RuneCountInString (i : Nat) : Ms n_unicode_utf8_RuneCountInString i = false := rfl
theorem x_unicode_utf8_DecodeRuneInString : Xs n_unicode_utf8_DecodeRuneInString = some (.text f_unicode_utf8_DecodeRuneInString) := rfl
@[go_sem] theorem m_unicode_utf8_DecodeRuneInString (i : Nat) : Ms n_unicode_utf8_DecodeRuneInString i = false := rfl
theorem x_unicode_utf8_decodeRuneInStringSlow : Xs n_unicode_utf8_decodeRuneInStringSlow = some (.text f_unicode_utf8_decodeRuneInStringSlow) := rfl
@[go_sem] theorem m_unicode_utf8_decodeRuneInStringSlow (i : Nat) : Ms n_unicode_utf8_decodeRuneInStringSlow i = false := rfl
end
end Go.Proofs.YtkdjbefmiiibpaaDoor
