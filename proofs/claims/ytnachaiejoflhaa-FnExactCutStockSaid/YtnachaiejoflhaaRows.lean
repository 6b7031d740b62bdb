/-
  NARROWER THAN 'FOR EVERY INPUT', by the rows' own cells (each row's printed sentence says how): FnExactRunSteps: loops · FnExactRemnantsOf: loops · FnExactCutStock: loops.
  DERIVED. THE GIVEN ROWS OF THIS SEAT. 5 by the template 'for every input the law returns true; each argument reads behind the call as it read before'; 0 by the template 'total and deterministic' (their statements: YtnachaiejoflhaaTotals.lean).
  GIVEN WITH THE SEED: the statements are not yours to turn. If you find one false, say at which input.
  Laid BY PROGRAM, IN A SANDBOX (cutbox-rows.mjs): the forced cells as the released guide's own fill.sh prints them over the translation 9ec7a5992cadbc63… (all of the seat's roots in one cut). By AI agents, Wed Nov 11 2026. No macro, syntax, notation, axiom, sorry.
-/
import Derived.Test.YtnachaiejoflhaaChecked
import GoSem.Claim
import GoSem.ClaimJoined
import GoSem.ClaimMapViews
import Derived.JoinedTies
import Derived.KernelRfl
namespace Go.Proofs.Ytnachaiejoflhaa
/- THE CELL 'sum', in the pinned program and in every row, IS THE sha256 OF THE DUMP (.gsa) THAT YtnachaiejoflhaaProg.lean LOADS. Nothing in Lean hashes anything: it is a label: what it is worth is what the hold of that sum in a sandbox is worth. -/
noncomputable def Try.pinned : Pinned := { name := "ytnachaiejoflhaa", sum := "9ec7a5992cadbc637081c3b7e558a36b59320490913c956a2045f47c932348a5", checked := Try.checked }
namespace Rows
def none {H : Type} : Left H := { results := [], args := [] }

/-- 'laws.FnExactWorkFor': WHATEVER THE INPUT: true; the input reads as it did. -/
def fnExactWorkForSpec : ChangeSpec := { name := "fnExactWorkFor", fn := fun _ => fun
  | [d1, d2] => { results := [.lit (.bool true)], args := [d1, d2] }
  | _ => none }
def fnExactWorkForRow : OpenClaim := { program := "ytnachaiejoflhaa", sum := "9ec7a5992cadbc637081c3b7e558a36b59320490913c956a2045f47c932348a5", func := "loop.example/panecutter/laws.FnExactWorkFor", spec := "fnExactWorkFor", unfollowed := true, recurses := true, apart := false }
def FnExactWorkForSaid : Prop := fnExactWorkForRow.holds Try.pinned (OpenSpec.ofChange fnExactWorkForSpec)

/-- ITS FALSE NEIGHBOUR: 'it returns false'. Refute it at one input. -/
def fnExactWorkForWrong : ChangeSpec := { name := "fnExactWorkFor", fn := fun _ => fun
  | [d1, d2] => { results := [.lit (.bool false)], args := [d1, d2] }
  | _ => none }
def FnExactWorkForWrongFalsely : Prop := fnExactWorkForRow.holds Try.pinned (OpenSpec.ofChange fnExactWorkForWrong)

/-- 'laws.FnExactRunSteps': WHATEVER THE INPUT: true; the input reads as it did. -/
def fnExactRunStepsSpec : ChangeSpec := { name := "fnExactRunSteps", fn := fun _ => fun
  | [d1, d2, d3] => { results := [.lit (.bool true)], args := [d1, d2, d3] }
  | _ => none }
def fnExactRunStepsRow : OpenClaim := { program := "ytnachaiejoflhaa", sum := "9ec7a5992cadbc637081c3b7e558a36b59320490913c956a2045f47c932348a5", func := "loop.example/panecutter/laws.FnExactRunSteps", spec := "fnExactRunSteps", unfollowed := true, recurses := true, loops := true, apart := false }
def FnExactRunStepsSaid : Prop := fnExactRunStepsRow.holds Try.pinned (OpenSpec.ofChange fnExactRunStepsSpec)

/-- ITS FALSE NEIGHBOUR: 'it returns false'. Refute it at one input. -/
def fnExactRunStepsWrong : ChangeSpec := { name := "fnExactRunSteps", fn := fun _ => fun
  | [d1, d2, d3] => { results := [.lit (.bool false)], args := [d1, d2, d3] }
  | _ => none }
def FnExactRunStepsWrongFalsely : Prop := fnExactRunStepsRow.holds Try.pinned (OpenSpec.ofChange fnExactRunStepsWrong)

/-- 'laws.FnExactPlanOfPlaces': WHATEVER THE INPUT: true; the input reads as it did. -/
def fnExactPlanOfPlacesSpec : ChangeSpec := { name := "fnExactPlanOfPlaces", fn := fun _ => fun
  | [d1, d2] => { results := [.lit (.bool true)], args := [d1, d2] }
  | _ => none }
def fnExactPlanOfPlacesRow : OpenClaim := { program := "ytnachaiejoflhaa", sum := "9ec7a5992cadbc637081c3b7e558a36b59320490913c956a2045f47c932348a5", func := "loop.example/panecutter/laws.FnExactPlanOfPlaces", spec := "fnExactPlanOfPlaces", recurses := true, apart := false }
def FnExactPlanOfPlacesSaid : Prop := fnExactPlanOfPlacesRow.holds Try.pinned (OpenSpec.ofChange fnExactPlanOfPlacesSpec)

/-- ITS FALSE NEIGHBOUR: 'it returns false'. Refute it at one input. -/
def fnExactPlanOfPlacesWrong : ChangeSpec := { name := "fnExactPlanOfPlaces", fn := fun _ => fun
  | [d1, d2] => { results := [.lit (.bool false)], args := [d1, d2] }
  | _ => none }
def FnExactPlanOfPlacesWrongFalsely : Prop := fnExactPlanOfPlacesRow.holds Try.pinned (OpenSpec.ofChange fnExactPlanOfPlacesWrong)

/-- 'laws.FnExactRemnantsOf': WHATEVER THE INPUT: true; the input reads as it did. -/
def fnExactRemnantsOfSpec : ChangeSpec := { name := "fnExactRemnantsOf", fn := fun _ => fun
  | [d1, d2, d3, d4, d5] => { results := [.lit (.bool true)], args := [d1, d2, d3, d4, d5] }
  | _ => none }
def fnExactRemnantsOfRow : OpenClaim := { program := "ytnachaiejoflhaa", sum := "9ec7a5992cadbc637081c3b7e558a36b59320490913c956a2045f47c932348a5", func := "loop.example/panecutter/laws.FnExactRemnantsOf", spec := "fnExactRemnantsOf", recurses := true, loops := true, apart := false }
def FnExactRemnantsOfSaid : Prop := fnExactRemnantsOfRow.holds Try.pinned (OpenSpec.ofChange fnExactRemnantsOfSpec)

/-- ITS FALSE NEIGHBOUR: 'it returns false'. Refute it at one input. -/
def fnExactRemnantsOfWrong : ChangeSpec := { name := "fnExactRemnantsOf", fn := fun _ => fun
  | [d1, d2, d3, d4, d5] => { results := [.lit (.bool false)], args := [d1, d2, d3, d4, d5] }
  | _ => none }
def FnExactRemnantsOfWrongFalsely : Prop := fnExactRemnantsOfRow.holds Try.pinned (OpenSpec.ofChange fnExactRemnantsOfWrong)

/-- 'laws.FnExactCutStock': WHATEVER THE INPUT: true; the input reads as it did. -/
def fnExactCutStockSpec : ChangeSpec := { name := "fnExactCutStock", fn := fun _ => fun
  | [d1, d2, d3, d4, d5] => { results := [.lit (.bool true)], args := [d1, d2, d3, d4, d5] }
  | _ => none }
def fnExactCutStockRow : OpenClaim := { program := "ytnachaiejoflhaa", sum := "9ec7a5992cadbc637081c3b7e558a36b59320490913c956a2045f47c932348a5", func := "loop.example/panecutter/laws.FnExactCutStock", spec := "fnExactCutStock", unfollowed := true, recurses := true, loops := true, apart := false }
def FnExactCutStockSaid : Prop := fnExactCutStockRow.holds Try.pinned (OpenSpec.ofChange fnExactCutStockSpec)

/-- ITS FALSE NEIGHBOUR: 'it returns false'. Refute it at one input. -/
def fnExactCutStockWrong : ChangeSpec := { name := "fnExactCutStock", fn := fun _ => fun
  | [d1, d2, d3, d4, d5] => { results := [.lit (.bool false)], args := [d1, d2, d3, d4, d5] }
  | _ => none }
def FnExactCutStockWrongFalsely : Prop := fnExactCutStockRow.holds Try.pinned (OpenSpec.ofChange fnExactCutStockWrong)

/- THE SECOND FORM. 'bulk': how many values and letters a reading holds, each counted each time it is reached (what is shared counts as often as it is met; a slice's spare places count too). A statement '..UptoSaid' is the law's where the arguments, and the package variables that the reading takes, are together of bulk at most 1048576: NARROWER than '..Said'. Prove '..Said' where nothing that the law and all that it calls make is longer than what came in: it says more and counts as full. Else prove '..UptoSaid'. A law counts once. -/
mutual
def uptoBulk {H : Type} : DataW H → Nat
  | .lit (.string bytes) => bytes.length + 1
  | .lit _ => 1
  | .nil => 1
  | .ptr d => uptoBulk d + 1
  | .slice elems spare => uptoBulkAll elems + uptoBulkAll spare + 1
  | .agg parts => uptoBulkAll parts + 1
  | .iface _ d => uptoBulk d + 1
  | .map entries => uptoBulkEntries entries + 1
  | .held _ => 1
def uptoBulkAll {H : Type} : List (DataW H) → Nat
  | [] => 0
  | d :: r => uptoBulk d + uptoBulkAll r
def uptoBulkEntries {H : Type} : List (Lit × DataW H) → Nat
  | [] => 0
  | x :: r => uptoBulkEntry x + uptoBulkEntries r
def uptoBulkEntry {H : Type} : Lit × DataW H → Nat
  | (.string bytes, d) => bytes.length + uptoBulk d + 1
  | (_, d) => uptoBulk d + 1
 end
def uptoSmall : (H : Type) → List (DataW H) → Bool := fun _ ds => decide (uptoBulkAll ds ≤ 1048576)
def OpenSpec.upto (s : _root_.Go.ChangeSpec) : _root_.Go.OpenSpec := { _root_.Go.OpenSpec.ofChange s with cond := some uptoSmall }

/-- 'laws.FnExactWorkFor', WHERE WHAT IT READS IS OF BULK AT MOST 1048576: true; the input reads as it did. -/
def fnExactWorkForUptoRow : OpenClaim := { program := "ytnachaiejoflhaa", sum := "9ec7a5992cadbc637081c3b7e558a36b59320490913c956a2045f47c932348a5", func := "loop.example/panecutter/laws.FnExactWorkFor", spec := "fnExactWorkFor", unfollowed := true, recurses := true, apart := false, narrowed := true }
def FnExactWorkForUptoSaid : Prop := fnExactWorkForUptoRow.holds Try.pinned (OpenSpec.upto fnExactWorkForSpec)

/-- 'laws.FnExactRunSteps', WHERE WHAT IT READS IS OF BULK AT MOST 1048576: true; the input reads as it did. -/
def fnExactRunStepsUptoRow : OpenClaim := { program := "ytnachaiejoflhaa", sum := "9ec7a5992cadbc637081c3b7e558a36b59320490913c956a2045f47c932348a5", func := "loop.example/panecutter/laws.FnExactRunSteps", spec := "fnExactRunSteps", unfollowed := true, recurses := true, loops := true, apart := false, narrowed := true }
def FnExactRunStepsUptoSaid : Prop := fnExactRunStepsUptoRow.holds Try.pinned (OpenSpec.upto fnExactRunStepsSpec)

/-- 'laws.FnExactPlanOfPlaces', WHERE WHAT IT READS IS OF BULK AT MOST 1048576: true; the input reads as it did. -/
def fnExactPlanOfPlacesUptoRow : OpenClaim := { program := "ytnachaiejoflhaa", sum := "9ec7a5992cadbc637081c3b7e558a36b59320490913c956a2045f47c932348a5", func := "loop.example/panecutter/laws.FnExactPlanOfPlaces", spec := "fnExactPlanOfPlaces", recurses := true, apart := false, narrowed := true }
def FnExactPlanOfPlacesUptoSaid : Prop := fnExactPlanOfPlacesUptoRow.holds Try.pinned (OpenSpec.upto fnExactPlanOfPlacesSpec)

/-- 'laws.FnExactRemnantsOf', WHERE WHAT IT READS IS OF BULK AT MOST 1048576: true; the input reads as it did. -/
def fnExactRemnantsOfUptoRow : OpenClaim := { program := "ytnachaiejoflhaa", sum := "9ec7a5992cadbc637081c3b7e558a36b59320490913c956a2045f47c932348a5", func := "loop.example/panecutter/laws.FnExactRemnantsOf", spec := "fnExactRemnantsOf", recurses := true, loops := true, apart := false, narrowed := true }
def FnExactRemnantsOfUptoSaid : Prop := fnExactRemnantsOfUptoRow.holds Try.pinned (OpenSpec.upto fnExactRemnantsOfSpec)

/-- 'laws.FnExactCutStock', WHERE WHAT IT READS IS OF BULK AT MOST 1048576: true; the input reads as it did. -/
def fnExactCutStockUptoRow : OpenClaim := { program := "ytnachaiejoflhaa", sum := "9ec7a5992cadbc637081c3b7e558a36b59320490913c956a2045f47c932348a5", func := "loop.example/panecutter/laws.FnExactCutStock", spec := "fnExactCutStock", unfollowed := true, recurses := true, loops := true, apart := false, narrowed := true }
def FnExactCutStockUptoSaid : Prop := fnExactCutStockUptoRow.holds Try.pinned (OpenSpec.upto fnExactCutStockSpec)

end Rows
end Go.Proofs.Ytnachaiejoflhaa
