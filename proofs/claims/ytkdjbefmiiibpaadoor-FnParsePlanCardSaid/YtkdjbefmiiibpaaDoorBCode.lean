/- The functions of this seat, compiled for the abstract semantics. Printed by a program of the prover's. -/
import Derived.Test.YtkdjbefmiiibpaaDoorBCodeA
set_option maxRecDepth 20000
namespace Go.Proofs.YtkdjbefmiiibpaaDoor
open Go Go.Abs Go.Abs.Q
noncomputable section


def tbl : List (Nat × Go.Abs.Fn) := [(n_l_FnParsePlan, .text f_l_FnParsePlan), (n_i_FormatPlan, .text f_i_FormatPlan), (n_i_ParsePlan, .text f_i_ParsePlan), (n_l_equalPlan, .text f_l_equalPlan), (n_s_DrawParsePlan, .text f_s_DrawParsePlan), (n_s_ParsePlan, .text f_s_ParsePlan), (n_i_PlanSize, .text f_i_PlanSize), (n_i_numbersFit, .text f_i_numbersFit), (n_i_writePlan, .text f_i_writePlan), (n_strings_Builder_String, .prim (bstrP TB 5)), (n_s_planSize, .text f_s_planSize), (n_s_countable, .text f_s_countable), (n_s_showPlan, .text f_s_showPlan), (n_i_takePlan, .text f_i_takePlan), (n_s_newReader, .text f_s_newReader), (n_s_workPlan, .text f_s_workPlan), (n_s_reader_pick, .text f_s_reader_pick), (n_s_mutate, .text f_s_mutate), (n_s_parsePlan, .text f_s_parsePlan), (n_i_countParts, .text f_i_countParts), (n_strings_Builder_WriteString, .prim (strP TB 5)), (n_strings_Builder_WriteByte, .prim (byteP TB 5)), (n_strconv_Itoa, .prim (itoaP)), (n_s_isCut, .text f_s_isCut), (n_s_inRange, .text f_s_inRange), (n_s_number, .text f_s_number), (n_i_takeNumber, .text f_i_takeNumber), (n_strings_CutPrefix, .text f_strings_CutPrefix), (n_s_reader_one, .text f_s_reader_one), (n_s_grow, .text f_s_grow), (n_s_reader_of, .text f_s_reader_of), (n_s_planText_plan, .text f_s_planText_plan), (n_s_readNumber, .text f_s_readNumber), (n_i_readNumber, .text f_i_readNumber), (n_internal_stringslite_CutPrefix, .text f_internal_stringslite_CutPrefix), (n_s_fitsPlan, .text f_s_fitsPlan), (n_s_planText_next, .text f_s_planText_next), (n_s_planText_count, .text f_s_planText_count), (n_s_planText_skip, .text f_s_planText_skip), (n_internal_stringslite_HasPrefix, .text f_internal_stringslite_HasPrefix)]
def Xs : Fns := fun f => lkp tbl f
def Ms : Modes := fun _ _ => false
theorem x_l_FnParsePlan : Xs n_l_FnParsePlan = some (.text f_l_FnParsePlan) := rfl
@[go_sem] theorem m_l_FnParsePlan (i : Nat) : Ms n_l_FnParsePlan i = false := rfl
theorem x_i_FormatPlan : Xs n_i_FormatPlan = some (.text f_i_FormatPlan) := rfl
@[go_sem] theorem m_i_FormatPlan (i : Nat) : Ms n_i_FormatPlan i = false := rfl
theorem x_i_ParsePlan : Xs n_i_ParsePlan = some (.text f_i_ParsePlan) := rfl
@[go_sem] theorem m_i_ParsePlan (i : Nat) : Ms n_i_ParsePlan i = false := rfl
theorem x_l_equalPlan : Xs n_l_equalPlan = some (.text f_l_equalPlan) := rfl
@[go_sem] theorem m_l_equalPlan (i : Nat) : Ms n_l_equalPlan i = false := rfl
theorem x_s_DrawParsePlan : Xs n_s_DrawParsePlan = some (.text f_s_DrawParsePlan) := rfl
@[go_sem] theorem m_s_DrawParsePlan (i : Nat) : Ms n_s_DrawParsePlan i = false := rfl
theorem x_s_ParsePlan : Xs n_s_ParsePlan = some (.text f_s_ParsePlan) := rfl
@[go_sem] theorem m_s_ParsePlan (i : Nat) : Ms n_s_ParsePlan i = false := rfl
theorem x_i_PlanSize : Xs n_i_PlanSize = some (.text f_i_PlanSize) := rfl
@[go_sem] theorem m_i_PlanSize (i : Nat) : Ms n_i_PlanSize i = false := rfl
theorem x_i_numbersFit : Xs n_i_numbersFit = some (.text f_i_numbersFit) := rfl
@[go_sem] theorem m_i_numbersFit (i : Nat) : Ms n_i_numbersFit i = false := rfl
theorem x_i_writePlan : Xs n_i_writePlan = some (.text f_i_writePlan) := rfl
@[go_sem] theorem m_i_writePlan (i : Nat) : Ms n_i_writePlan i = false := rfl
theorem x_strings_Builder_String : Xs n_strings_Builder_String = some (.prim (bstrP TB 5)) := rfl
@[go_sem] theorem m_strings_Builder_String (i : Nat) : Ms n_strings_Builder_String i = false := rfl
theorem x_s_planSize : Xs n_s_planSize = some (.text f_s_planSize) := rfl
@[go_sem] theorem m_s_planSize (i : Nat) : Ms n_s_planSize i = false := rfl
theorem x_s_countable : Xs n_s_countable = some (.text f_s_countable) := rfl
@[go_sem] theorem m_s_countable (i : Nat) : Ms n_s_countable i = false := rfl
theorem x_s_showPlan : Xs n_s_showPlan = some (.text f_s_showPlan) := rfl
@[go_sem] theorem m_s_showPlan (i : Nat) : Ms n_s_showPlan i = false := rfl
theorem x_i_takePlan : Xs n_i_takePlan = some (.text f_i_takePlan) := rfl
@[go_sem] theorem m_i_takePlan (i : Nat) : Ms n_i_takePlan i = false := rfl
theorem x_s_newReader : Xs n_s_newReader = some (.text f_s_newReader) := rfl
@[go_sem] theorem m_s_newReader (i : Nat) : Ms n_s_newReader i = false := rfl
theorem x_s_workPlan : Xs n_s_workPlan = some (.text f_s_workPlan) := rfl
@[go_sem] theorem m_s_workPlan (i : Nat) : Ms n_s_workPlan i = false := rfl
theorem x_s_reader_pick : Xs n_s_reader_pick = some (.text f_s_reader_pick) := rfl
@[go_sem] theorem m_s_reader_pick (i : Nat) : Ms n_s_reader_pick i = false := rfl
theorem x_s_mutate : Xs n_s_mutate = some (.text f_s_mutate) := rfl
@[go_sem] theorem m_s_mutate (i : Nat) : Ms n_s_mutate i = false := rfl
theorem x_s_parsePlan : Xs n_s_parsePlan = some (.text f_s_parsePlan) := rfl
@[go_sem] theorem m_s_parsePlan (i : Nat) : Ms n_s_parsePlan i = false := rfl
theorem x_i_countParts : Xs n_i_countParts = some (.text f_i_countParts) := rfl
@[go_sem] theorem m_i_countParts (i : Nat) : Ms n_i_countParts i = false := rfl
theorem x_strings_Builder_WriteString : Xs n_strings_Builder_WriteString = some (.prim (strP TB 5)) := rfl
@[go_sem] theorem m_strings_Builder_WriteString (i : Nat) : Ms n_strings_Builder_WriteString i = false := rfl
theorem x_strings_Builder_WriteByte : Xs n_strings_Builder_WriteByte = some (.prim (byteP TB 5)) := rfl
@[go_sem] theorem m_strings_Builder_WriteByte (i : Nat) : Ms n_strings_Builder_WriteByte i = false := rfl
theorem x_strconv_Itoa : Xs n_strconv_Itoa = some (.prim (itoaP)) := rfl
@[go_sem] theorem m_strconv_Itoa (i : Nat) : Ms n_strconv_Itoa i = false := rfl
theorem x_s_isCut : Xs n_s_isCut = some (.text f_s_isCut) := rfl
@[go_sem] theorem m_s_isCut (i : Nat) : Ms n_s_isCut i = false := rfl
theorem x_s_inRange : Xs n_s_inRange = some (.text f_s_inRange) := rfl
@[go_sem] theorem m_s_inRange (i : Nat) : Ms n_s_inRange i = false := rfl
theorem x_s_number : Xs n_s_number = some (.text f_s_number) := rfl
@[go_sem] theorem m_s_number (i : Nat) : Ms n_s_number i = false := rfl
theorem x_i_takeNumber : Xs n_i_takeNumber = some (.text f_i_takeNumber) := rfl
@[go_sem] theorem m_i_takeNumber (i : Nat) : Ms n_i_takeNumber i = false := rfl
theorem x_strings_CutPrefix : Xs n_strings_CutPrefix = some (.text f_strings_CutPrefix) := rfl
@[go_sem] theorem m_strings_CutPrefix (i : Nat) : Ms n_strings_CutPrefix i = false := rfl
theorem x_s_reader_one : Xs n_s_reader_one = some (.text f_s_reader_one) := rfl
@[go_sem] theorem m_s_reader_one (i : Nat) : Ms n_s_reader_one i = false := rfl
theorem x_s_grow : Xs n_s_grow = some (.text f_s_grow) := rfl
@[go_sem] theorem m_s_grow (i : Nat) : Ms n_s_grow i = false := rfl
theorem x_s_reader_of : Xs n_s_reader_of = some (.text f_s_reader_of) := rfl
@[go_sem] theorem m_s_reader_of (i : Nat) : Ms n_s_reader_of i = false := rfl
theorem x_s_planText_plan : Xs n_s_planText_plan = some (.text f_s_planText_plan) := rfl
@[go_sem] theorem m_s_planText_plan (i : Nat) : Ms n_s_planText_plan i = false := rfl
theorem x_s_readNumber : Xs n_s_readNumber = some (.text f_s_readNumber) := rfl
@[go_sem] theorem m_s_readNumber (i : Nat) : Ms n_s_readNumber i = false := rfl
theorem x_i_readNumber : Xs n_i_readNumber = some (.text f_i_readNumber) := rfl
@[go_sem] theorem m_i_readNumber (i : Nat) : Ms n_i_readNumber i = false := rfl
theorem x_internal_stringslite_CutPrefix : Xs n_internal_stringslite_CutPrefix = some (.text f_internal_stringslite_CutPrefix) := rfl
@[go_sem] theorem m_internal_stringslite_CutPrefix (i : Nat) : Ms n_internal_stringslite_CutPrefix i = false := rfl
theorem x_s_fitsPlan : Xs n_s_fitsPlan = some (.text f_s_fitsPlan) := rfl
@[go_sem] theorem m_s_fitsPlan (i : Nat) : Ms n_s_fitsPlan i = false := rfl
theorem x_s_planText_next : Xs n_s_planText_next = some (.text f_s_planText_next) := rfl
@[go_sem] theorem m_s_planText_next (i : Nat) : Ms n_s_planText_next i = false := rfl
theorem x_s_planText_count : Xs n_s_planText_count = some (.text f_s_planText_count) := rfl
@[go_sem] theorem m_s_planText_count (i : Nat) : Ms n_s_planText_count i = false := rfl
theorem x_s_planText_skip : Xs n_s_planText_skip = some (.text f_s_planText_skip) := rfl
@[go_sem] theorem m_s_planText_skip (i : Nat) : Ms n_s_planText_skip i = false := rfl
theorem x_internal_stringslite_HasPrefix : Xs n_internal_stringslite_HasPrefix = some (.text f_internal_stringslite_HasPrefix) := rfl
@[go_sem] theorem m_internal_stringslite_HasPrefix (i : Nat) : Ms n_internal_stringslite_HasPrefix i = false := rfl
end
end Go.Proofs.YtkdjbefmiiibpaaDoor
