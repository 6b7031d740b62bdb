/-
  No cell of these rows narrows 'for every input' (looked for: loops, veiled, ifaces, maps, wideKeys, modest, calm, conditions, laid).
  DERIVED. THE GIVEN ROWS OF THIS SEAT. 3 by the template 'for every input the law returns true; each argument reads behind the call as it read before'; 0 by the template 'total and deterministic' (their statements: YtefabmohhbhlfaaTotals.lean).
  GIVEN WITH THE SEED: the statements are not yours to turn. If you find one false, say at which input.
  Laid BY PROGRAM, IN A SANDBOX (cutbox-rows.mjs): the forced cells as the released guide's own fill.sh prints them over the translation 0200fdefeceb8213… (all of the seat's roots in one cut). By AI agents, Wed Nov 11 2026. No macro, syntax, notation, axiom, sorry.
-/
import Derived.Test.YtefabmohhbhlfaaChecked
import GoSem.Claim
import GoSem.ClaimJoined
import GoSem.ClaimMapViews
import Derived.JoinedTies
import Derived.KernelRfl
namespace Go.Proofs.Ytefabmohhbhlfaa
/- THE CELL 'sum', in the pinned program and in every row, IS THE sha256 OF THE DUMP (.gsa) THAT YtefabmohhbhlfaaProg.lean LOADS. Nothing in Lean hashes anything: it is a label: what it is worth is what the hold of that sum in a sandbox is worth. -/
noncomputable def Try.pinned : Pinned := { name := "ytefabmohhbhlfaa", sum := "0200fdefeceb82136e44fe53e755f126e3e1f9cc6d74b6ef097b6d5ac3efcb62", checked := Try.checked }
namespace Rows
def none {H : Type} : Left H := { results := [], args := [] }

/-- 'laws.FnBestValue': WHATEVER THE INPUT: true; the input reads as it did. -/
def fnBestValueSpec : ChangeSpec := { name := "fnBestValue", fn := fun _ => fun
  | [d] => { results := [.lit (.bool true)], args := [d] }
  | _ => none }
def fnBestValueRow : OpenClaim := { program := "ytefabmohhbhlfaa", sum := "0200fdefeceb82136e44fe53e755f126e3e1f9cc6d74b6ef097b6d5ac3efcb62", func := "loop.example/panecutter/laws.FnBestValue", spec := "fnBestValue", unfollowed := true, recurses := true, apart := false }
def FnBestValueSaid : Prop := fnBestValueRow.holds Try.pinned (OpenSpec.ofChange fnBestValueSpec)

/-- ITS FALSE NEIGHBOUR: 'it returns false'. Refute it at one input. -/
def fnBestValueWrong : ChangeSpec := { name := "fnBestValue", fn := fun _ => fun
  | [d] => { results := [.lit (.bool false)], args := [d] }
  | _ => none }
def FnBestValueWrongFalsely : Prop := fnBestValueRow.holds Try.pinned (OpenSpec.ofChange fnBestValueWrong)

/-- 'laws.FnShelfPlansFound': WHATEVER THE INPUT: true; the input reads as it did. -/
def fnShelfPlansFoundSpec : ChangeSpec := { name := "fnShelfPlansFound", fn := fun _ => fun
  | [d] => { results := [.lit (.bool true)], args := [d] }
  | _ => none }
def fnShelfPlansFoundRow : OpenClaim := { program := "ytefabmohhbhlfaa", sum := "0200fdefeceb82136e44fe53e755f126e3e1f9cc6d74b6ef097b6d5ac3efcb62", func := "loop.example/panecutter/laws.FnShelfPlansFound", spec := "fnShelfPlansFound", unfollowed := true, recurses := true, apart := false }
def FnShelfPlansFoundSaid : Prop := fnShelfPlansFoundRow.holds Try.pinned (OpenSpec.ofChange fnShelfPlansFoundSpec)

/-- ITS FALSE NEIGHBOUR: 'it returns false'. Refute it at one input. -/
def fnShelfPlansFoundWrong : ChangeSpec := { name := "fnShelfPlansFound", fn := fun _ => fun
  | [d] => { results := [.lit (.bool false)], args := [d] }
  | _ => none }
def FnShelfPlansFoundWrongFalsely : Prop := fnShelfPlansFoundRow.holds Try.pinned (OpenSpec.ofChange fnShelfPlansFoundWrong)

/-- 'laws.FnBestPlanSteps': WHATEVER THE INPUT: true; the input reads as it did. -/
def fnBestPlanStepsSpec : ChangeSpec := { name := "fnBestPlanSteps", fn := fun _ => fun
  | [d] => { results := [.lit (.bool true)], args := [d] }
  | _ => none }
def fnBestPlanStepsRow : OpenClaim := { program := "ytefabmohhbhlfaa", sum := "0200fdefeceb82136e44fe53e755f126e3e1f9cc6d74b6ef097b6d5ac3efcb62", func := "loop.example/panecutter/laws.FnBestPlanSteps", spec := "fnBestPlanSteps", unfollowed := true, recurses := true, apart := false }
def FnBestPlanStepsSaid : Prop := fnBestPlanStepsRow.holds Try.pinned (OpenSpec.ofChange fnBestPlanStepsSpec)

/-- ITS FALSE NEIGHBOUR: 'it returns false'. Refute it at one input. -/
def fnBestPlanStepsWrong : ChangeSpec := { name := "fnBestPlanSteps", fn := fun _ => fun
  | [d] => { results := [.lit (.bool false)], args := [d] }
  | _ => none }
def FnBestPlanStepsWrongFalsely : Prop := fnBestPlanStepsRow.holds Try.pinned (OpenSpec.ofChange fnBestPlanStepsWrong)

/- THE SECOND FORM. 'bulk': how many values and letters a reading holds, each counted each time it is reached (what is shared counts as often as it is met; a slice's spare places count too). A statement '..UptoSaid' is the law's where the arguments, and the package variables that the reading takes, are together of bulk at most 1048576: NARROWER than '..Said'. Prove '..Said' where nothing that the law and all that it calls make is longer than what came in: it says more and counts as full. Else prove '..UptoSaid'. A law counts once. -/
mutual
def uptoBulk {H : Type} : DataW H → Nat
  | .lit (.string bytes) => bytes.length + 1
  | .lit _ => 1
  | .nil => 1
  | .ptr d => uptoBulk d + 1
  | .slice elems spare => uptoBulkAll elems + uptoBulkAll spare + 1
  | .agg parts => uptoBulkAll parts + 1
  | .iface _ d => uptoBulk d + 1
  | .map entries => uptoBulkEntries entries + 1
  | .held _ => 1
def uptoBulkAll {H : Type} : List (DataW H) → Nat
  | [] => 0
  | d :: r => uptoBulk d + uptoBulkAll r
def uptoBulkEntries {H : Type} : List (Lit × DataW H) → Nat
  | [] => 0
  | x :: r => uptoBulkEntry x + uptoBulkEntries r
def uptoBulkEntry {H : Type} : Lit × DataW H → Nat
  | (.string bytes, d) => bytes.length + uptoBulk d + 1
  | (_, d) => uptoBulk d + 1
 end
def uptoSmall : (H : Type) → List (DataW H) → Bool := fun _ ds => decide (uptoBulkAll ds ≤ 1048576)
def OpenSpec.upto (s : _root_.Go.ChangeSpec) : _root_.Go.OpenSpec := { _root_.Go.OpenSpec.ofChange s with cond := some uptoSmall }

/-- 'laws.FnBestValue', WHERE WHAT IT READS IS OF BULK AT MOST 1048576: true; the input reads as it did. -/
def fnBestValueUptoRow : OpenClaim := { program := "ytefabmohhbhlfaa", sum := "0200fdefeceb82136e44fe53e755f126e3e1f9cc6d74b6ef097b6d5ac3efcb62", func := "loop.example/panecutter/laws.FnBestValue", spec := "fnBestValue", unfollowed := true, recurses := true, apart := false, narrowed := true }
def FnBestValueUptoSaid : Prop := fnBestValueUptoRow.holds Try.pinned (OpenSpec.upto fnBestValueSpec)

/-- 'laws.FnShelfPlansFound', WHERE WHAT IT READS IS OF BULK AT MOST 1048576: true; the input reads as it did. -/
def fnShelfPlansFoundUptoRow : OpenClaim := { program := "ytefabmohhbhlfaa", sum := "0200fdefeceb82136e44fe53e755f126e3e1f9cc6d74b6ef097b6d5ac3efcb62", func := "loop.example/panecutter/laws.FnShelfPlansFound", spec := "fnShelfPlansFound", unfollowed := true, recurses := true, apart := false, narrowed := true }
def FnShelfPlansFoundUptoSaid : Prop := fnShelfPlansFoundUptoRow.holds Try.pinned (OpenSpec.upto fnShelfPlansFoundSpec)

/-- 'laws.FnBestPlanSteps', WHERE WHAT IT READS IS OF BULK AT MOST 1048576: true; the input reads as it did. -/
def fnBestPlanStepsUptoRow : OpenClaim := { program := "ytefabmohhbhlfaa", sum := "0200fdefeceb82136e44fe53e755f126e3e1f9cc6d74b6ef097b6d5ac3efcb62", func := "loop.example/panecutter/laws.FnBestPlanSteps", spec := "fnBestPlanSteps", unfollowed := true, recurses := true, apart := false, narrowed := true }
def FnBestPlanStepsUptoSaid : Prop := fnBestPlanStepsUptoRow.holds Try.pinned (OpenSpec.upto fnBestPlanStepsSpec)

end Rows
end Go.Proofs.Ytefabmohhbhlfaa
