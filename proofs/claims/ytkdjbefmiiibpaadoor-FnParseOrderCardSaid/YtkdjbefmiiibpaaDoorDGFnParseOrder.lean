/- The statement that the law FnParseOrder holds of every row of bytes, where the tables of the library hold what they hold: it answers true, and its argument reads as before; and its card. -/
import Derived.Test.YtkdjbefmiiibpaaDoorDC5
import Derived.Test.YtkdjbefmiiibpaaDoorDCodeOk
import Derived.Test.YtkdjbefmiiibpaaDoorDLays
import Derived.Test.YtkdjbefmiiibpaaDoorCards
import Derived.Test.YtkdjbefmiiibpaaDoorTie
import Derived.Test.YtkdjbefmiiibpaaDoorAbsLaw
import Derived.Deep.DeepHandedRow
import Derived.Lib.LaidTab
import Derived.Stop.LaidErr
namespace Go.Proofs.YtkdjbefmiiibpaaDoor
open Go Go.Proofs Go.Abs Go.Abs.L Go.ChangeShapes Go.WideShapes Go.ChangeAt Go.RowKit

def AllOK : List (Nat × Go.Abs.Fn) → Prop
  | [] => True
  | (f, .text cf) :: r => FunOK f cf ∧ AllOK r
  | (f, .prim p) :: r => PrimOK Tryd.prog f p ∧ AllOK r
theorem allOK_get : ∀ {l : List (Nat × Go.Abs.Fn)} {f : Nat} {x : Go.Abs.Fn}, AllOK l → lkp l f = some x → (∃ cf, x = .text cf ∧ FunOK f cf) ∨ ∃ p, x = .prim p ∧ PrimOK Tryd.prog f p
  | [], f, x, _, h => by cases h
  | (g, .text cf) :: r, f, x, ha, h => by
    simp only [lkp] at h
    split at h
    · rename_i e
      cases h
      subst e
      exact .inl ⟨cf, rfl, ha.1⟩
    · exact allOK_get ha.2 h
  | (g, .prim p) :: r, f, x, ha, h => by
    simp only [lkp] at h
    split at h
    · rename_i e
      cases h
      subst e
      exact .inr ⟨p, rfl, ha.1⟩
    · exact allOK_get ha.2 h
theorem draws (C : Orc) (M : Modes) (nt : Nat) (hC : SoundOrc Tryd.prog C) (hB : BoxOrc C) : DrawSound Tryd.prog C M nt := draw_sound (by kernel_rfl) hC hB
theorem itoaName : Tryd.laysM171_ren.f 171 = 51 := by kernel_rfl
set_option maxRecDepth 10000
theorem prim_strings_Builder_String : PrimOK Tryd.prog n_strings_Builder_String (bstrP TB 5) := bstrP_ok Tryd.lays169 Tryd.ext169 ⟨Tryd.f27, Tryd.func27, by kernel_rfl, by kernel_rfl⟩
theorem prim_strings_Builder_WriteString : PrimOK Tryd.prog n_strings_Builder_WriteString (strP TB 5) := strP_ok Tryd.lays166 Tryd.ext166 ⟨Tryd.f39, Tryd.func39, by kernel_rfl, by kernel_rfl⟩
theorem prim_strings_Builder_WriteByte : PrimOK Tryd.prog n_strings_Builder_WriteByte (byteP TB 5) := byteP_ok Tryd.lays167 Tryd.ext167 ⟨Tryd.f41, Tryd.func41, by kernel_rfl, by kernel_rfl⟩
theorem prim_strconv_Itoa : PrimOK Tryd.prog n_strconv_Itoa (itoaP) := by
  have h := itoa_ok Tryd.laysM171 (by rw [itoaName]; exact ⟨Tryd.f51, Tryd.func51, by kernel_rfl, by kernel_rfl⟩) (by kernel_rfl)
  rw [itoaName] at h
  exact h
theorem prim_strings_Join : PrimOK Tryd.prog n_strings_Join (joinP) := joinP_ok Tryd.lays156 Tryd.ext156 ⟨Tryd.f64, Tryd.func64, by kernel_rfl, by kernel_rfl⟩
theorem prim_internal_stringslite_Index : PrimOK Tryd.prog n_internal_stringslite_Index (idxP) := idxP_ok Tryd.lays219 ⟨Tryd.f84, Tryd.func84, by kernel_rfl, by kernel_rfl⟩
theorem prim_strings_Count : PrimOK Tryd.prog n_strings_Count (cntP) := cntP_ok Tryd.lays138 ⟨Tryd.f94, Tryd.func94, by kernel_rfl, by kernel_rfl⟩
theorem all_ok : AllOK tbl :=
  ⟨ok_l_FnParseOrder, ok_i_FormatOrder, ok_s_FormatOrder, ok_i_ValidOrder, ok_i_ParseOrder, ok_l_equalOrder, ok_s_DrawParseOrder, ok_s_ParseOrder, prim_strings_Builder_String, ok_s_newReader, ok_s_reader_pick, ok_s_mutate, ok_s_anyOrder, prim_strings_Builder_WriteString, ok_i_lineText, prim_strings_Builder_WriteByte, ok_s_validOrder, ok_s_showOrder, ok_i_ValidPane, ok_i_findLine, ok_strings_Cut, ok_i_readLine, ok_s_splitAt, ok_s_readLine, prim_strconv_Itoa, ok_s_inRange, ok_s_number, ok_s_reader_one, ok_s_reader_of, ok_s_someOrder, ok_s_anyPane, prim_strings_Join, ok_s_validPane, ok_s_showLine, ok_slices_IndexFunc_g, ok_i_findLine_1, ok_internal_stringslite_Cut, ok_strings_Split, ok_i_readNumbers, ok_s_readNumber, ok_i_readNumber, ok_s_addPanes, ok_s_somePane, prim_internal_stringslite_Index, ok_strings_genSplit, ok_strings_explode, prim_strings_Count, ok_strings_Index, ok_unicode_utf8_RuneCountInString, ok_unicode_utf8_DecodeRuneInString, ok_unicode_utf8_decodeRuneInStringSlow, trivial⟩
theorem table_ok : TableOK Tryd.prog Xs Ms where
  text := fun f cf h => by
    rcases allOK_get all_ok h with ⟨cf', e, h'⟩ | ⟨p, e, _⟩
    · cases e
      exact h'
    · cases e
  prim := fun f p h => by
    rcases allOK_get all_ok h with ⟨cf', e, _⟩ | ⟨p', e, h'⟩
    · cases e
    · cases e
      exact h'
theorem sound : SoundOrc Tryd.prog (vcall Xs Ms) := vcall_sound' (by kernel_rfl) table_ok

theorem own : ownKnob Tryd.prog.godebug = none := by kernel_rfl
theorem laidOut : laidOutB Tryd.prog = true := by kernel_rfl
theorem cells5 : Tryd.prog.cellsOf 5 = 1 := by kernel_rfl
theorem gPow : Tryd.prog.globalNamed "internal/strconv.uint64pow10" = some 1 := by kernel_rfl
theorem gPowType : (Tryd.prog.globals[1]?).map (·.type) = some 135 := by kernel_rfl

/-- The table of the powers of ten. -/
theorem powTab {W : World} (h : laidMetH Tryd.prog Rows.fnParseOrderRow.laid W) : GlobOK (fun b => b < W.heap.size) W := by
  have h0 : laidMet Tryd.prog Rows.fnParseOrderRow.laid W := by
    first | exact h | exact h.1 | (rw [MakeChecks.laidMetH_plain _ _ _ (by kernel_rfl)] at h; exact h)
  have h1 := Lib.tabIs_of_head (k := .u64) (zs := Lib.pow10Tab) (n := 20) gPow gPowType Tryd.underlying135 Tryd.underlying123 (by kernel_rfl) (by kernel_rfl) (laidMet.tail (laidMet.tail h0))
  unfold Lib.TabIs World.var? at h1
  rw [gPow] at h1
  simp only [Option.bind_some] at h1
  intro q hq
  simp only [gtabs, List.mem_singleton] at hq
  subst hq
  split at h1
  · rename_i cs e fr hc
    refine ⟨(Array.getElem?_eq_some_iff.1 hc).1, e, fr, ?_⟩
    rw [hc]
    simp only [Option.some.injEq] at h1
    rw [h1]
    simp [pow10L, Lib.pow10Tab]
  · cases h1

/-- What a table holds, as cells. -/
def cellsOf : DataW Unit → Array Value
  | .agg xs => (xs.map one).flatten.toArray
  | _ => #[]
where
  one : DataW Unit → List Value
  | .lit (.int k z) => [.int k z]
  | .agg xs => xs.map two
  | _ => []
  two : DataW Unit → Value
  | .lit (.int k z) => .int k z
  | _ => .int .u8 0
def lay (c : Array Value) : Obj → Obj
  | .cells _ t fr => .cells c t fr
  | o => o
noncomputable def laidWorld (os : Os) : World :=
  { World.holding Tryd.prog os ⟨#[], #[], []⟩ with heap := (World.holding Tryd.prog os ⟨#[], #[], []⟩).heap |>.modify 4 (lay (cellsOf (Rows.laid_math_bits_deBruijn32tab : DataW Unit))) |>.modify 5 (lay (cellsOf (Rows.laid_math_bits_deBruijn64tab : DataW Unit))) |>.modify 1 (lay (cellsOf (Rows.laid_internal_strconv_uint64pow10 : DataW Unit))) |>.modify 3 (lay (cellsOf (Rows.laid_unicode_utf8_acceptRanges : DataW Unit))) |>.modify 2 (lay (cellsOf (Rows.laid_unicode_utf8_first : DataW Unit))) }
theorem laid_met (os : Os) : laidMet Tryd.prog Rows.fnParseOrderRow.laid ((laidWorld os).forCall (fun _ _ => 0) ⟨#[], #[.slice none 0 0], []⟩).memory :=
  laidMet_of_run' 8 (by kernel_rfl) (by kernel_rfl)
theorem reads (os : Os) {H : Type} (enc : TypeId × Value → H) : ∃ d places, DataW.whole enc Tryd.prog ((laidWorld os).forCall (fun _ _ => 0) ⟨#[], #[.slice none 0 0], []⟩).memory Tryd.f6.params.toList Rows.fnParseOrderSpec.vars false #[Value.slice none 0 0].toList 8 = some (d, [], places) :=
  ⟨[.nil], [], by kernel_rfl⟩

set_option maxRecDepth 100000 in
theorem lifted (os : Os) (started : os.Started) (H : Type) (enc : TypeId × Value → H) (F : Stop.Interp) :
    ReturnsInHanded {} Tryd.checked os 6 .any ((OpenSpec.ofChange Rows.fnParseOrderSpec).preRow enc Tryd.prog Tryd.f6 Rows.fnParseOrderRow.domain false Rows.fnParseOrderRow.laid) (((OpenSpec.ofChange Rows.fnParseOrderSpec).at F).post enc Tryd.prog Tryd.f6 false true false false) := by
  obtain ⟨dd, places, hx⟩ := reads os enc
  refine returnsInHanded_of_row (C := Tryd.checked) (s := OpenSpec.ofChange Rows.fnParseOrderSpec) own started (by kernel_rfl) Tryd.func6
    (witness_row_at (enc := enc) (C := Tryd.checked) false (laidWorld os) #[.slice none 0 0] rfl (by kernel_rfl) (by kernel_rfl) (by kernel_rfl)
      (OpenSpec.preRow_of_cond 8 hx (by kernel_rfl) (fun k hk => by cases hk) (by kernel_rfl) (laid_met os))) ?_
  intro W base args ds gs before hval0 hW _ _ _ hL _ _
  have hval : ∀ (j : Nat) t v, Tryd.f6.params[j]? = some t → args[j]? = some v → Value.okWide Tryd.prog W .any base t v := hval0
  have hW' := hW
  obtain ⟨p, q, hA0, hV, rfl, _, _⟩ := hW
  have hA : DataW.TrodAll enc Tryd.prog W 0 (fun _ => true) true Tryd.f6.params.toList args.toList ds p := hA0
  rw [Tryd.params6] at hA hval
  obtain ⟨v0, d0, rfl, rfl, h0⟩ := trodAll_one hA
  obtain ⟨rfl, rfl⟩ := trodVars_none hV
  clear hA0 hval0
  simp only [List.append_nil] at hW'
  have hlt : ∀ x ∈ p, x.block < W.heap.size := fun x hx => by simpa using hW'.lt x hx
  have hargs : ∀ (W' : World), Below W.heap.size W W' → DataW.Trod enc Tryd.prog W' 0 (fun b => decide (b < W.heap.size)) true 22 v0 d0 p :=
    fun W' hn => Below.trod laidOut (by kernel_rfl) (of_decide_eq_true (by kernel_rfl)) h0 hn hlt
  obtain ⟨code, hrep⟩ := bytes_rep Tryd.underlying22 Tryd.underlying5 cells5 (hval 0 22 v0 rfl rfl) h0
  refine (law_calls sound l_FnParseOrder_ev (powTab hL) hrep).mono fun e W' ⟨he, hn⟩ => ?_
  subst he
  exact ⟨_, rfl, ⟨_, _, _, [], _, [], hW', trodAll_mk1 (shut_bool Tryd.underlying4 _), trodAll_mk1 (hargs _ hn), rfl, hn.frame _, fun h => by cases h⟩⟩

theorem said : Rows.FnParseOrderSaid :=
  OpenClaim.holds_of_cond 6 Tryd.f6 rfl rfl rfl rfl rfl rfl rfl ⟨rfl, rfl, rfl, rfl, rfl⟩ rfl rfl rfl rfl rfl (by kernel_rfl) Tryd.func6 (by kernel_rfl)
    (of_decide_eq_true (by kernel_rfl)) (by unfold Func.isWrapper; first | (rw [if_pos (by decide +kernel)]; kernel_rfl) | (rw [if_neg (by decide +kernel)]; exact ⟨rfl, rfl⟩))
    (fun os started H enc _ F => by rw [OpenClaim.pre_eq_preRow]; exact lifted os started H enc F)
theorem plain (f : FuncId) (fn : Func) (hf : Tryd.pinned.checked.prog.funcNamed "loop.example/panecutter/laws.FnParseOrder" = some f) (hfn : Tryd.pinned.checked.prog.funcs[f]? = some fn) :
    false = Tryd.pinned.checked.prog.looks [] ∧ ∀ (j : Nat) t, fn.params[j]? = some t → Tryd.pinned.checked.prog.wantsStandIn t = false := by
  obtain rfl : f = 6 := Option.some.inj ((show Tryd.prog.funcNamed "loop.example/panecutter/laws.FnParseOrder" = some 6 by kernel_rfl).symm.trans hf) |>.symm
  obtain rfl : fn = Tryd.f6 := (Option.some.inj (Tryd.func6.symm.trans hfn)).symm
  refine ⟨by kernel_rfl, fun j t ht => ?_⟩
  rw [Tryd.params6] at ht
  obtain rfl : t = 22 := by simpa using Array.mem_of_getElem? ht
  exact (show Tryd.prog.wantsStandIn 22 = false by kernel_rfl)
theorem fnParseOrder_holds : Rows.FnParseOrderCardSaid :=
  Claim7.holds_tied_plain_at .later [] _ _ _ _ said (fun _ h => by cases h) (by kernel_rfl) (fun _ h => by cases h) fnParseOrder_row_tie rfl ⟨rfl, rfl⟩ (by kernel_rfl) rfl plain (by kernel_rfl)
#print axioms fnParseOrder_holds
end Go.Proofs.YtkdjbefmiiibpaaDoor
