/-
  No cell of these rows narrows 'for every input' (looked for: loops, veiled, ifaces, maps, wideKeys, modest, calm, conditions, laid).
  DERIVED. THE GIVEN ROWS OF THIS SEAT. 9 by the template 'for every input the law returns true; each argument reads behind the call as it read before'; 0 by the template 'total and deterministic' (their statements: YtpobhkoombldlaaGreatTotals.lean).
  GIVEN WITH THE SEED: the statements are not yours to turn. If you find one false, say at which input.
  Laid BY PROGRAM, IN A SANDBOX (cutbox-rows.mjs): the forced cells as the released guide's own fill.sh prints them over the translation 53ca0fcd4a19f25e… (all of the seat's roots in one cut). By AI agents, Wed Nov 11 2026. No macro, syntax, notation, axiom, sorry.
-/
import Derived.Test.YtpobhkoombldlaaGreatChecked
import GoSem.Claim
import GoSem.ClaimJoined
import GoSem.ClaimMapViews
import Derived.JoinedTies
import Derived.KernelRfl
namespace Go.Proofs.YtpobhkoombldlaaGreat
/- THE CELL 'sum', in the pinned program and in every row, IS THE sha256 OF THE DUMP (.gsa) THAT YtpobhkoombldlaaGreatProg.lean LOADS. Nothing in Lean hashes anything: it is a label: what it is worth is what the hold of that sum in a sandbox is worth. -/
noncomputable def Tryz.pinned : Pinned := { name := "ytpobhkoombldlaagreat", sum := "53ca0fcd4a19f25ed9d90e061c13d4cf607e2ce1a2a43b6b9ba8100a44c278c1", checked := Tryz.checked }
namespace Rows
def none {H : Type} : Left H := { results := [], args := [] }

/-- 'laws.FnApplyEvent': WHATEVER THE INPUT: true; the input reads as it did. -/
def fnApplyEventSpec : ChangeSpec := { name := "fnApplyEvent", fn := fun _ => fun
  | [d] => { results := [.lit (.bool true)], args := [d] }
  | _ => none }
def fnApplyEventRow : OpenClaim := { program := "ytpobhkoombldlaagreat", sum := "53ca0fcd4a19f25ed9d90e061c13d4cf607e2ce1a2a43b6b9ba8100a44c278c1", func := "loop.example/panecutter/laws.FnApplyEvent", spec := "fnApplyEvent", unfollowed := true, recurses := true, apart := false }
def FnApplyEventSaid : Prop := fnApplyEventRow.holds Tryz.pinned (OpenSpec.ofChange fnApplyEventSpec)

/-- ITS FALSE NEIGHBOUR: 'it returns false'. Refute it at one input. -/
def fnApplyEventWrong : ChangeSpec := { name := "fnApplyEvent", fn := fun _ => fun
  | [d] => { results := [.lit (.bool false)], args := [d] }
  | _ => none }
def FnApplyEventWrongFalsely : Prop := fnApplyEventRow.holds Tryz.pinned (OpenSpec.ofChange fnApplyEventWrong)

/-- 'laws.FnApplyEventUndone': WHATEVER THE INPUT: true; the input reads as it did. -/
def fnApplyEventUndoneSpec : ChangeSpec := { name := "fnApplyEventUndone", fn := fun _ => fun
  | [d] => { results := [.lit (.bool true)], args := [d] }
  | _ => none }
def fnApplyEventUndoneRow : OpenClaim := { program := "ytpobhkoombldlaagreat", sum := "53ca0fcd4a19f25ed9d90e061c13d4cf607e2ce1a2a43b6b9ba8100a44c278c1", func := "loop.example/panecutter/laws.FnApplyEventUndone", spec := "fnApplyEventUndone", unfollowed := true, recurses := true, apart := false }
def FnApplyEventUndoneSaid : Prop := fnApplyEventUndoneRow.holds Tryz.pinned (OpenSpec.ofChange fnApplyEventUndoneSpec)

/-- ITS FALSE NEIGHBOUR: 'it returns false'. Refute it at one input. -/
def fnApplyEventUndoneWrong : ChangeSpec := { name := "fnApplyEventUndone", fn := fun _ => fun
  | [d] => { results := [.lit (.bool false)], args := [d] }
  | _ => none }
def FnApplyEventUndoneWrongFalsely : Prop := fnApplyEventUndoneRow.holds Tryz.pinned (OpenSpec.ofChange fnApplyEventUndoneWrong)

/-- 'laws.FnApplyEventPanes': WHATEVER THE INPUT: true; the input reads as it did. -/
def fnApplyEventPanesSpec : ChangeSpec := { name := "fnApplyEventPanes", fn := fun _ => fun
  | [d] => { results := [.lit (.bool true)], args := [d] }
  | _ => none }
def fnApplyEventPanesRow : OpenClaim := { program := "ytpobhkoombldlaagreat", sum := "53ca0fcd4a19f25ed9d90e061c13d4cf607e2ce1a2a43b6b9ba8100a44c278c1", func := "loop.example/panecutter/laws.FnApplyEventPanes", spec := "fnApplyEventPanes", unfollowed := true, recurses := true, apart := false }
def FnApplyEventPanesSaid : Prop := fnApplyEventPanesRow.holds Tryz.pinned (OpenSpec.ofChange fnApplyEventPanesSpec)

/-- ITS FALSE NEIGHBOUR: 'it returns false'. Refute it at one input. -/
def fnApplyEventPanesWrong : ChangeSpec := { name := "fnApplyEventPanes", fn := fun _ => fun
  | [d] => { results := [.lit (.bool false)], args := [d] }
  | _ => none }
def FnApplyEventPanesWrongFalsely : Prop := fnApplyEventPanesRow.holds Tryz.pinned (OpenSpec.ofChange fnApplyEventPanesWrong)

/-- 'laws.FnRunBook': WHATEVER THE INPUT: true; the input reads as it did. -/
def fnRunBookSpec : ChangeSpec := { name := "fnRunBook", fn := fun _ => fun
  | [d] => { results := [.lit (.bool true)], args := [d] }
  | _ => none }
def fnRunBookRow : OpenClaim := { program := "ytpobhkoombldlaagreat", sum := "53ca0fcd4a19f25ed9d90e061c13d4cf607e2ce1a2a43b6b9ba8100a44c278c1", func := "loop.example/panecutter/laws.FnRunBook", spec := "fnRunBook", unfollowed := true, recurses := true, apart := false }
def FnRunBookSaid : Prop := fnRunBookRow.holds Tryz.pinned (OpenSpec.ofChange fnRunBookSpec)

/-- ITS FALSE NEIGHBOUR: 'it returns false'. Refute it at one input. -/
def fnRunBookWrong : ChangeSpec := { name := "fnRunBook", fn := fun _ => fun
  | [d] => { results := [.lit (.bool false)], args := [d] }
  | _ => none }
def FnRunBookWrongFalsely : Prop := fnRunBookRow.holds Tryz.pinned (OpenSpec.ofChange fnRunBookWrong)

/-- 'laws.FnRunBookArea': WHATEVER THE INPUT: true; the input reads as it did. -/
def fnRunBookAreaSpec : ChangeSpec := { name := "fnRunBookArea", fn := fun _ => fun
  | [d] => { results := [.lit (.bool true)], args := [d] }
  | _ => none }
def fnRunBookAreaRow : OpenClaim := { program := "ytpobhkoombldlaagreat", sum := "53ca0fcd4a19f25ed9d90e061c13d4cf607e2ce1a2a43b6b9ba8100a44c278c1", func := "loop.example/panecutter/laws.FnRunBookArea", spec := "fnRunBookArea", unfollowed := true, recurses := true, apart := false }
def FnRunBookAreaSaid : Prop := fnRunBookAreaRow.holds Tryz.pinned (OpenSpec.ofChange fnRunBookAreaSpec)

/-- ITS FALSE NEIGHBOUR: 'it returns false'. Refute it at one input. -/
def fnRunBookAreaWrong : ChangeSpec := { name := "fnRunBookArea", fn := fun _ => fun
  | [d] => { results := [.lit (.bool false)], args := [d] }
  | _ => none }
def FnRunBookAreaWrongFalsely : Prop := fnRunBookAreaRow.holds Tryz.pinned (OpenSpec.ofChange fnRunBookAreaWrong)

/-- 'laws.FnNextCutPlan': WHATEVER THE INPUT: true; the input reads as it did. -/
def fnNextCutPlanSpec : ChangeSpec := { name := "fnNextCutPlan", fn := fun _ => fun
  | [d] => { results := [.lit (.bool true)], args := [d] }
  | _ => none }
def fnNextCutPlanRow : OpenClaim := { program := "ytpobhkoombldlaagreat", sum := "53ca0fcd4a19f25ed9d90e061c13d4cf607e2ce1a2a43b6b9ba8100a44c278c1", func := "loop.example/panecutter/laws.FnNextCutPlan", spec := "fnNextCutPlan", unfollowed := true, recurses := true, apart := false }
def FnNextCutPlanSaid : Prop := fnNextCutPlanRow.holds Tryz.pinned (OpenSpec.ofChange fnNextCutPlanSpec)

/-- ITS FALSE NEIGHBOUR: 'it returns false'. Refute it at one input. -/
def fnNextCutPlanWrong : ChangeSpec := { name := "fnNextCutPlan", fn := fun _ => fun
  | [d] => { results := [.lit (.bool false)], args := [d] }
  | _ => none }
def FnNextCutPlanWrongFalsely : Prop := fnNextCutPlanRow.holds Tryz.pinned (OpenSpec.ofChange fnNextCutPlanWrong)

/-- 'laws.FnNextCut': WHATEVER THE INPUT: true; the input reads as it did. -/
def fnNextCutSpec : ChangeSpec := { name := "fnNextCut", fn := fun _ => fun
  | [d] => { results := [.lit (.bool true)], args := [d] }
  | _ => none }
def fnNextCutRow : OpenClaim := { program := "ytpobhkoombldlaagreat", sum := "53ca0fcd4a19f25ed9d90e061c13d4cf607e2ce1a2a43b6b9ba8100a44c278c1", func := "loop.example/panecutter/laws.FnNextCut", spec := "fnNextCut", unfollowed := true, recurses := true, apart := false }
def FnNextCutSaid : Prop := fnNextCutRow.holds Tryz.pinned (OpenSpec.ofChange fnNextCutSpec)

/-- ITS FALSE NEIGHBOUR: 'it returns false'. Refute it at one input. -/
def fnNextCutWrong : ChangeSpec := { name := "fnNextCut", fn := fun _ => fun
  | [d] => { results := [.lit (.bool false)], args := [d] }
  | _ => none }
def FnNextCutWrongFalsely : Prop := fnNextCutRow.holds Tryz.pinned (OpenSpec.ofChange fnNextCutWrong)

/-- 'laws.FnWorkThrough': WHATEVER THE INPUT: true; the input reads as it did. -/
def fnWorkThroughSpec : ChangeSpec := { name := "fnWorkThrough", fn := fun _ => fun
  | [d] => { results := [.lit (.bool true)], args := [d] }
  | _ => none }
def fnWorkThroughRow : OpenClaim := { program := "ytpobhkoombldlaagreat", sum := "53ca0fcd4a19f25ed9d90e061c13d4cf607e2ce1a2a43b6b9ba8100a44c278c1", func := "loop.example/panecutter/laws.FnWorkThrough", spec := "fnWorkThrough", unfollowed := true, recurses := true, apart := false }
def FnWorkThroughSaid : Prop := fnWorkThroughRow.holds Tryz.pinned (OpenSpec.ofChange fnWorkThroughSpec)

/-- ITS FALSE NEIGHBOUR: 'it returns false'. Refute it at one input. -/
def fnWorkThroughWrong : ChangeSpec := { name := "fnWorkThrough", fn := fun _ => fun
  | [d] => { results := [.lit (.bool false)], args := [d] }
  | _ => none }
def FnWorkThroughWrongFalsely : Prop := fnWorkThroughRow.holds Tryz.pinned (OpenSpec.ofChange fnWorkThroughWrong)

/-- 'laws.FnWorkThroughGlass': WHATEVER THE INPUT: true; the input reads as it did. -/
def fnWorkThroughGlassSpec : ChangeSpec := { name := "fnWorkThroughGlass", fn := fun _ => fun
  | [d] => { results := [.lit (.bool true)], args := [d] }
  | _ => none }
def fnWorkThroughGlassRow : OpenClaim := { program := "ytpobhkoombldlaagreat", sum := "53ca0fcd4a19f25ed9d90e061c13d4cf607e2ce1a2a43b6b9ba8100a44c278c1", func := "loop.example/panecutter/laws.FnWorkThroughGlass", spec := "fnWorkThroughGlass", unfollowed := true, recurses := true, apart := false }
def FnWorkThroughGlassSaid : Prop := fnWorkThroughGlassRow.holds Tryz.pinned (OpenSpec.ofChange fnWorkThroughGlassSpec)

/-- ITS FALSE NEIGHBOUR: 'it returns false'. Refute it at one input. -/
def fnWorkThroughGlassWrong : ChangeSpec := { name := "fnWorkThroughGlass", fn := fun _ => fun
  | [d] => { results := [.lit (.bool false)], args := [d] }
  | _ => none }
def FnWorkThroughGlassWrongFalsely : Prop := fnWorkThroughGlassRow.holds Tryz.pinned (OpenSpec.ofChange fnWorkThroughGlassWrong)

/- THE SECOND FORM. 'bulk': how many values and letters a reading holds, each counted each time it is reached (what is shared counts as often as it is met; a slice's spare places count too). A statement '..UptoSaid' is the law's where the arguments, and the package variables that the reading takes, are together of bulk at most 1048576: NARROWER than '..Said'. Prove '..Said' where nothing that the law and all that it calls make is longer than what came in: it says more and counts as full. Else prove '..UptoSaid'. A law counts once. -/
mutual
def uptoBulk {H : Type} : DataW H → Nat
  | .lit (.string bytes) => bytes.length + 1
  | .lit _ => 1
  | .nil => 1
  | .ptr d => uptoBulk d + 1
  | .slice elems spare => uptoBulkAll elems + uptoBulkAll spare + 1
  | .agg parts => uptoBulkAll parts + 1
  | .iface _ d => uptoBulk d + 1
  | .map entries => uptoBulkEntries entries + 1
  | .held _ => 1
def uptoBulkAll {H : Type} : List (DataW H) → Nat
  | [] => 0
  | d :: r => uptoBulk d + uptoBulkAll r
def uptoBulkEntries {H : Type} : List (Lit × DataW H) → Nat
  | [] => 0
  | x :: r => uptoBulkEntry x + uptoBulkEntries r
def uptoBulkEntry {H : Type} : Lit × DataW H → Nat
  | (.string bytes, d) => bytes.length + uptoBulk d + 1
  | (_, d) => uptoBulk d + 1
 end
def uptoSmall : (H : Type) → List (DataW H) → Bool := fun _ ds => decide (uptoBulkAll ds ≤ 1048576)
def OpenSpec.upto (s : _root_.Go.ChangeSpec) : _root_.Go.OpenSpec := { _root_.Go.OpenSpec.ofChange s with cond := some uptoSmall }

/-- 'laws.FnApplyEvent', WHERE WHAT IT READS IS OF BULK AT MOST 1048576: true; the input reads as it did. -/
def fnApplyEventUptoRow : OpenClaim := { program := "ytpobhkoombldlaagreat", sum := "53ca0fcd4a19f25ed9d90e061c13d4cf607e2ce1a2a43b6b9ba8100a44c278c1", func := "loop.example/panecutter/laws.FnApplyEvent", spec := "fnApplyEvent", unfollowed := true, recurses := true, apart := false, narrowed := true }
def FnApplyEventUptoSaid : Prop := fnApplyEventUptoRow.holds Tryz.pinned (OpenSpec.upto fnApplyEventSpec)

/-- 'laws.FnApplyEventUndone', WHERE WHAT IT READS IS OF BULK AT MOST 1048576: true; the input reads as it did. -/
def fnApplyEventUndoneUptoRow : OpenClaim := { program := "ytpobhkoombldlaagreat", sum := "53ca0fcd4a19f25ed9d90e061c13d4cf607e2ce1a2a43b6b9ba8100a44c278c1", func := "loop.example/panecutter/laws.FnApplyEventUndone", spec := "fnApplyEventUndone", unfollowed := true, recurses := true, apart := false, narrowed := true }
def FnApplyEventUndoneUptoSaid : Prop := fnApplyEventUndoneUptoRow.holds Tryz.pinned (OpenSpec.upto fnApplyEventUndoneSpec)

/-- 'laws.FnApplyEventPanes', WHERE WHAT IT READS IS OF BULK AT MOST 1048576: true; the input reads as it did. -/
def fnApplyEventPanesUptoRow : OpenClaim := { program := "ytpobhkoombldlaagreat", sum := "53ca0fcd4a19f25ed9d90e061c13d4cf607e2ce1a2a43b6b9ba8100a44c278c1", func := "loop.example/panecutter/laws.FnApplyEventPanes", spec := "fnApplyEventPanes", unfollowed := true, recurses := true, apart := false, narrowed := true }
def FnApplyEventPanesUptoSaid : Prop := fnApplyEventPanesUptoRow.holds Tryz.pinned (OpenSpec.upto fnApplyEventPanesSpec)

/-- 'laws.FnRunBook', WHERE WHAT IT READS IS OF BULK AT MOST 1048576: true; the input reads as it did. -/
def fnRunBookUptoRow : OpenClaim := { program := "ytpobhkoombldlaagreat", sum := "53ca0fcd4a19f25ed9d90e061c13d4cf607e2ce1a2a43b6b9ba8100a44c278c1", func := "loop.example/panecutter/laws.FnRunBook", spec := "fnRunBook", unfollowed := true, recurses := true, apart := false, narrowed := true }
def FnRunBookUptoSaid : Prop := fnRunBookUptoRow.holds Tryz.pinned (OpenSpec.upto fnRunBookSpec)

/-- 'laws.FnRunBookArea', WHERE WHAT IT READS IS OF BULK AT MOST 1048576: true; the input reads as it did. -/
def fnRunBookAreaUptoRow : OpenClaim := { program := "ytpobhkoombldlaagreat", sum := "53ca0fcd4a19f25ed9d90e061c13d4cf607e2ce1a2a43b6b9ba8100a44c278c1", func := "loop.example/panecutter/laws.FnRunBookArea", spec := "fnRunBookArea", unfollowed := true, recurses := true, apart := false, narrowed := true }
def FnRunBookAreaUptoSaid : Prop := fnRunBookAreaUptoRow.holds Tryz.pinned (OpenSpec.upto fnRunBookAreaSpec)

/-- 'laws.FnNextCutPlan', WHERE WHAT IT READS IS OF BULK AT MOST 1048576: true; the input reads as it did. -/
def fnNextCutPlanUptoRow : OpenClaim := { program := "ytpobhkoombldlaagreat", sum := "53ca0fcd4a19f25ed9d90e061c13d4cf607e2ce1a2a43b6b9ba8100a44c278c1", func := "loop.example/panecutter/laws.FnNextCutPlan", spec := "fnNextCutPlan", unfollowed := true, recurses := true, apart := false, narrowed := true }
def FnNextCutPlanUptoSaid : Prop := fnNextCutPlanUptoRow.holds Tryz.pinned (OpenSpec.upto fnNextCutPlanSpec)

/-- 'laws.FnNextCut', WHERE WHAT IT READS IS OF BULK AT MOST 1048576: true; the input reads as it did. -/
def fnNextCutUptoRow : OpenClaim := { program := "ytpobhkoombldlaagreat", sum := "53ca0fcd4a19f25ed9d90e061c13d4cf607e2ce1a2a43b6b9ba8100a44c278c1", func := "loop.example/panecutter/laws.FnNextCut", spec := "fnNextCut", unfollowed := true, recurses := true, apart := false, narrowed := true }
def FnNextCutUptoSaid : Prop := fnNextCutUptoRow.holds Tryz.pinned (OpenSpec.upto fnNextCutSpec)

/-- 'laws.FnWorkThrough', WHERE WHAT IT READS IS OF BULK AT MOST 1048576: true; the input reads as it did. -/
def fnWorkThroughUptoRow : OpenClaim := { program := "ytpobhkoombldlaagreat", sum := "53ca0fcd4a19f25ed9d90e061c13d4cf607e2ce1a2a43b6b9ba8100a44c278c1", func := "loop.example/panecutter/laws.FnWorkThrough", spec := "fnWorkThrough", unfollowed := true, recurses := true, apart := false, narrowed := true }
def FnWorkThroughUptoSaid : Prop := fnWorkThroughUptoRow.holds Tryz.pinned (OpenSpec.upto fnWorkThroughSpec)

/-- 'laws.FnWorkThroughGlass', WHERE WHAT IT READS IS OF BULK AT MOST 1048576: true; the input reads as it did. -/
def fnWorkThroughGlassUptoRow : OpenClaim := { program := "ytpobhkoombldlaagreat", sum := "53ca0fcd4a19f25ed9d90e061c13d4cf607e2ce1a2a43b6b9ba8100a44c278c1", func := "loop.example/panecutter/laws.FnWorkThroughGlass", spec := "fnWorkThroughGlass", unfollowed := true, recurses := true, apart := false, narrowed := true }
def FnWorkThroughGlassUptoSaid : Prop := fnWorkThroughGlassUptoRow.holds Tryz.pinned (OpenSpec.upto fnWorkThroughGlassSpec)

end Rows
end Go.Proofs.YtpobhkoombldlaaGreat
