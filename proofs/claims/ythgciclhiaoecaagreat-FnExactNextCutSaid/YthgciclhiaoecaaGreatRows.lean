/-
  No cell of these rows narrows 'for every input' (looked for: loops, veiled, ifaces, maps, wideKeys, modest, calm, conditions, laid).
  DERIVED. THE GIVEN ROWS OF THIS SEAT. 2 by the template 'for every input the law returns true; each argument reads behind the call as it read before'; 0 by the template 'total and deterministic' (their statements: YthgciclhiaoecaaGreatTotals.lean).
  GIVEN WITH THE SEED: the statements are not yours to turn. If you find one false, say at which input.
  Laid BY PROGRAM, IN A SANDBOX (cutbox-rows.mjs): the forced cells as the released guide's own fill.sh prints them over the translation 7e9b850662039adb… (all of the seat's roots in one cut). By AI agents, Wed Nov 11 2026. No macro, syntax, notation, axiom, sorry.
-/
import Derived.Test.YthgciclhiaoecaaGreatChecked
import GoSem.Claim
import GoSem.ClaimJoined
import GoSem.ClaimMapViews
import Derived.JoinedTies
import Derived.KernelRfl
namespace Go.Proofs.YthgciclhiaoecaaGreat
/- THE CELL 'sum', in the pinned program and in every row, IS THE sha256 OF THE DUMP (.gsa) THAT YthgciclhiaoecaaGreatProg.lean LOADS. Nothing in Lean hashes anything: it is a label: what it is worth is what the hold of that sum in a sandbox is worth. -/
noncomputable def Tryz.pinned : Pinned := { name := "ythgciclhiaoecaagreat", sum := "7e9b850662039adb4b46e736209fd6c1fb17fbd0069291a0f6ce78a0c1072d0e", checked := Tryz.checked }
namespace Rows
def none {H : Type} : Left H := { results := [], args := [] }

/-- 'laws.FnExactNextCut': WHATEVER THE INPUT: true; the input reads as it did. -/
def fnExactNextCutSpec : ChangeSpec := { name := "fnExactNextCut", fn := fun _ => fun
  | [d] => { results := [.lit (.bool true)], args := [d] }
  | _ => none }
def fnExactNextCutRow : OpenClaim := { program := "ythgciclhiaoecaagreat", sum := "7e9b850662039adb4b46e736209fd6c1fb17fbd0069291a0f6ce78a0c1072d0e", func := "loop.example/panecutter/laws.FnExactNextCut", spec := "fnExactNextCut", unfollowed := true, recurses := true, apart := false }
def FnExactNextCutSaid : Prop := fnExactNextCutRow.holds Tryz.pinned (OpenSpec.ofChange fnExactNextCutSpec)

/-- ITS FALSE NEIGHBOUR: 'it returns false'. Refute it at one input. -/
def fnExactNextCutWrong : ChangeSpec := { name := "fnExactNextCut", fn := fun _ => fun
  | [d] => { results := [.lit (.bool false)], args := [d] }
  | _ => none }
def FnExactNextCutWrongFalsely : Prop := fnExactNextCutRow.holds Tryz.pinned (OpenSpec.ofChange fnExactNextCutWrong)

/-- 'laws.FnExactWorkThrough': WHATEVER THE INPUT: true; the input reads as it did. -/
def fnExactWorkThroughSpec : ChangeSpec := { name := "fnExactWorkThrough", fn := fun _ => fun
  | [d1, d2] => { results := [.lit (.bool true)], args := [d1, d2] }
  | _ => none }
def fnExactWorkThroughRow : OpenClaim := { program := "ythgciclhiaoecaagreat", sum := "7e9b850662039adb4b46e736209fd6c1fb17fbd0069291a0f6ce78a0c1072d0e", func := "loop.example/panecutter/laws.FnExactWorkThrough", spec := "fnExactWorkThrough", unfollowed := true, recurses := true, apart := false }
def FnExactWorkThroughSaid : Prop := fnExactWorkThroughRow.holds Tryz.pinned (OpenSpec.ofChange fnExactWorkThroughSpec)

/-- ITS FALSE NEIGHBOUR: 'it returns false'. Refute it at one input. -/
def fnExactWorkThroughWrong : ChangeSpec := { name := "fnExactWorkThrough", fn := fun _ => fun
  | [d1, d2] => { results := [.lit (.bool false)], args := [d1, d2] }
  | _ => none }
def FnExactWorkThroughWrongFalsely : Prop := fnExactWorkThroughRow.holds Tryz.pinned (OpenSpec.ofChange fnExactWorkThroughWrong)

/- THE SECOND FORM. 'bulk': how many values and letters a reading holds, each counted each time it is reached (what is shared counts as often as it is met; a slice's spare places count too). A statement '..UptoSaid' is the law's where the arguments, and the package variables that the reading takes, are together of bulk at most 1048576: NARROWER than '..Said'. Prove '..Said' where nothing that the law and all that it calls make is longer than what came in: it says more and counts as full. Else prove '..UptoSaid'. A law counts once. -/
mutual
def uptoBulk {H : Type} : DataW H → Nat
  | .lit (.string bytes) => bytes.length + 1
  | .lit _ => 1
  | .nil => 1
  | .ptr d => uptoBulk d + 1
  | .slice elems spare => uptoBulkAll elems + uptoBulkAll spare + 1
  | .agg parts => uptoBulkAll parts + 1
  | .iface _ d => uptoBulk d + 1
  | .map entries => uptoBulkEntries entries + 1
  | .held _ => 1
def uptoBulkAll {H : Type} : List (DataW H) → Nat
  | [] => 0
  | d :: r => uptoBulk d + uptoBulkAll r
def uptoBulkEntries {H : Type} : List (Lit × DataW H) → Nat
  | [] => 0
  | x :: r => uptoBulkEntry x + uptoBulkEntries r
def uptoBulkEntry {H : Type} : Lit × DataW H → Nat
  | (.string bytes, d) => bytes.length + uptoBulk d + 1
  | (_, d) => uptoBulk d + 1
 end
def uptoSmall : (H : Type) → List (DataW H) → Bool := fun _ ds => decide (uptoBulkAll ds ≤ 1048576)
def OpenSpec.upto (s : _root_.Go.ChangeSpec) : _root_.Go.OpenSpec := { _root_.Go.OpenSpec.ofChange s with cond := some uptoSmall }

/-- 'laws.FnExactNextCut', WHERE WHAT IT READS IS OF BULK AT MOST 1048576: true; the input reads as it did. -/
def fnExactNextCutUptoRow : OpenClaim := { program := "ythgciclhiaoecaagreat", sum := "7e9b850662039adb4b46e736209fd6c1fb17fbd0069291a0f6ce78a0c1072d0e", func := "loop.example/panecutter/laws.FnExactNextCut", spec := "fnExactNextCut", unfollowed := true, recurses := true, apart := false, narrowed := true }
def FnExactNextCutUptoSaid : Prop := fnExactNextCutUptoRow.holds Tryz.pinned (OpenSpec.upto fnExactNextCutSpec)

/-- 'laws.FnExactWorkThrough', WHERE WHAT IT READS IS OF BULK AT MOST 1048576: true; the input reads as it did. -/
def fnExactWorkThroughUptoRow : OpenClaim := { program := "ythgciclhiaoecaagreat", sum := "7e9b850662039adb4b46e736209fd6c1fb17fbd0069291a0f6ce78a0c1072d0e", func := "loop.example/panecutter/laws.FnExactWorkThrough", spec := "fnExactWorkThrough", unfollowed := true, recurses := true, apart := false, narrowed := true }
def FnExactWorkThroughUptoSaid : Prop := fnExactWorkThroughUptoRow.holds Tryz.pinned (OpenSpec.upto fnExactWorkThroughSpec)

end Rows
end Go.Proofs.YthgciclhiaoecaaGreat
