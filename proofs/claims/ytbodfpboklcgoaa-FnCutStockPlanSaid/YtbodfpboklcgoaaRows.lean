/-
  No cell of these rows narrows 'for every input' (looked for: loops, veiled, ifaces, maps, wideKeys, modest, calm, conditions, laid).
  DERIVED. THE GIVEN ROWS OF THIS SEAT. 4 by the template 'for every input the law returns true; each argument reads behind the call as it read before'; 0 by the template 'total and deterministic' (their statements: YtbodfpboklcgoaaTotals.lean).
  GIVEN WITH THE SEED: the statements are not yours to turn. If you find one false, say at which input.
  Laid BY PROGRAM, IN A SANDBOX (cutbox-rows.mjs): the forced cells as the released guide's own fill.sh prints them over the translation 2fc21f93c7d34661… (all of the seat's roots in one cut). By AI agents, Wed Nov 11 2026. No macro, syntax, notation, axiom, sorry.
-/
import Derived.Test.YtbodfpboklcgoaaChecked
import GoSem.Claim
import GoSem.ClaimJoined
import GoSem.ClaimMapViews
import Derived.JoinedTies
import Derived.KernelRfl
namespace Go.Proofs.Ytbodfpboklcgoaa
/- THE CELL 'sum', in the pinned program and in every row, IS THE sha256 OF THE DUMP (.gsa) THAT YtbodfpboklcgoaaProg.lean LOADS. Nothing in Lean hashes anything: it is a label: what it is worth is what the hold of that sum in a sandbox is worth. -/
noncomputable def Try.pinned : Pinned := { name := "ytbodfpboklcgoaa", sum := "2fc21f93c7d34661f21a355189e1931cf8dcc34ab1b11f5b8d03068f0cd23ad6", checked := Try.checked }
namespace Rows
def none {H : Type} : Left H := { results := [], args := [] }

/-- 'laws.FnRemnantsOf': WHATEVER THE INPUT: true; the input reads as it did. -/
def fnRemnantsOfSpec : ChangeSpec := { name := "fnRemnantsOf", fn := fun _ => fun
  | [d] => { results := [.lit (.bool true)], args := [d] }
  | _ => none }
def fnRemnantsOfRow : OpenClaim := { program := "ytbodfpboklcgoaa", sum := "2fc21f93c7d34661f21a355189e1931cf8dcc34ab1b11f5b8d03068f0cd23ad6", func := "loop.example/panecutter/laws.FnRemnantsOf", spec := "fnRemnantsOf", recurses := true, apart := false }
def FnRemnantsOfSaid : Prop := fnRemnantsOfRow.holds Try.pinned (OpenSpec.ofChange fnRemnantsOfSpec)

/-- ITS FALSE NEIGHBOUR: 'it returns false'. Refute it at one input. -/
def fnRemnantsOfWrong : ChangeSpec := { name := "fnRemnantsOf", fn := fun _ => fun
  | [d] => { results := [.lit (.bool false)], args := [d] }
  | _ => none }
def FnRemnantsOfWrongFalsely : Prop := fnRemnantsOfRow.holds Try.pinned (OpenSpec.ofChange fnRemnantsOfWrong)

/-- 'laws.FnCutStockPlan': WHATEVER THE INPUT: true; the input reads as it did. -/
def fnCutStockPlanSpec : ChangeSpec := { name := "fnCutStockPlan", fn := fun _ => fun
  | [d] => { results := [.lit (.bool true)], args := [d] }
  | _ => none }
def fnCutStockPlanRow : OpenClaim := { program := "ytbodfpboklcgoaa", sum := "2fc21f93c7d34661f21a355189e1931cf8dcc34ab1b11f5b8d03068f0cd23ad6", func := "loop.example/panecutter/laws.FnCutStockPlan", spec := "fnCutStockPlan", unfollowed := true, recurses := true, apart := false }
def FnCutStockPlanSaid : Prop := fnCutStockPlanRow.holds Try.pinned (OpenSpec.ofChange fnCutStockPlanSpec)

/-- ITS FALSE NEIGHBOUR: 'it returns false'. Refute it at one input. -/
def fnCutStockPlanWrong : ChangeSpec := { name := "fnCutStockPlan", fn := fun _ => fun
  | [d] => { results := [.lit (.bool false)], args := [d] }
  | _ => none }
def FnCutStockPlanWrongFalsely : Prop := fnCutStockPlanRow.holds Try.pinned (OpenSpec.ofChange fnCutStockPlanWrong)

/-- 'laws.FnCutStockOthers': WHATEVER THE INPUT: true; the input reads as it did. -/
def fnCutStockOthersSpec : ChangeSpec := { name := "fnCutStockOthers", fn := fun _ => fun
  | [d] => { results := [.lit (.bool true)], args := [d] }
  | _ => none }
def fnCutStockOthersRow : OpenClaim := { program := "ytbodfpboklcgoaa", sum := "2fc21f93c7d34661f21a355189e1931cf8dcc34ab1b11f5b8d03068f0cd23ad6", func := "loop.example/panecutter/laws.FnCutStockOthers", spec := "fnCutStockOthers", unfollowed := true, recurses := true, apart := false }
def FnCutStockOthersSaid : Prop := fnCutStockOthersRow.holds Try.pinned (OpenSpec.ofChange fnCutStockOthersSpec)

/-- ITS FALSE NEIGHBOUR: 'it returns false'. Refute it at one input. -/
def fnCutStockOthersWrong : ChangeSpec := { name := "fnCutStockOthers", fn := fun _ => fun
  | [d] => { results := [.lit (.bool false)], args := [d] }
  | _ => none }
def FnCutStockOthersWrongFalsely : Prop := fnCutStockOthersRow.holds Try.pinned (OpenSpec.ofChange fnCutStockOthersWrong)

/-- 'laws.FnCutStock': WHATEVER THE INPUT: true; the input reads as it did. -/
def fnCutStockSpec : ChangeSpec := { name := "fnCutStock", fn := fun _ => fun
  | [d] => { results := [.lit (.bool true)], args := [d] }
  | _ => none }
def fnCutStockRow : OpenClaim := { program := "ytbodfpboklcgoaa", sum := "2fc21f93c7d34661f21a355189e1931cf8dcc34ab1b11f5b8d03068f0cd23ad6", func := "loop.example/panecutter/laws.FnCutStock", spec := "fnCutStock", unfollowed := true, recurses := true, apart := false }
def FnCutStockSaid : Prop := fnCutStockRow.holds Try.pinned (OpenSpec.ofChange fnCutStockSpec)

/-- ITS FALSE NEIGHBOUR: 'it returns false'. Refute it at one input. -/
def fnCutStockWrong : ChangeSpec := { name := "fnCutStock", fn := fun _ => fun
  | [d] => { results := [.lit (.bool false)], args := [d] }
  | _ => none }
def FnCutStockWrongFalsely : Prop := fnCutStockRow.holds Try.pinned (OpenSpec.ofChange fnCutStockWrong)

/- THE SECOND FORM. 'bulk': how many values and letters a reading holds, each counted each time it is reached (what is shared counts as often as it is met; a slice's spare places count too). A statement '..UptoSaid' is the law's where the arguments, and the package variables that the reading takes, are together of bulk at most 1048576: NARROWER than '..Said'. Prove '..Said' where nothing that the law and all that it calls make is longer than what came in: it says more and counts as full. Else prove '..UptoSaid'. A law counts once. -/
mutual
def uptoBulk {H : Type} : DataW H → Nat
  | .lit (.string bytes) => bytes.length + 1
  | .lit _ => 1
  | .nil => 1
  | .ptr d => uptoBulk d + 1
  | .slice elems spare => uptoBulkAll elems + uptoBulkAll spare + 1
  | .agg parts => uptoBulkAll parts + 1
  | .iface _ d => uptoBulk d + 1
  | .map entries => uptoBulkEntries entries + 1
  | .held _ => 1
def uptoBulkAll {H : Type} : List (DataW H) → Nat
  | [] => 0
  | d :: r => uptoBulk d + uptoBulkAll r
def uptoBulkEntries {H : Type} : List (Lit × DataW H) → Nat
  | [] => 0
  | x :: r => uptoBulkEntry x + uptoBulkEntries r
def uptoBulkEntry {H : Type} : Lit × DataW H → Nat
  | (.string bytes, d) => bytes.length + uptoBulk d + 1
  | (_, d) => uptoBulk d + 1
 end
def uptoSmall : (H : Type) → List (DataW H) → Bool := fun _ ds => decide (uptoBulkAll ds ≤ 1048576)
def OpenSpec.upto (s : _root_.Go.ChangeSpec) : _root_.Go.OpenSpec := { _root_.Go.OpenSpec.ofChange s with cond := some uptoSmall }

/-- 'laws.FnRemnantsOf', WHERE WHAT IT READS IS OF BULK AT MOST 1048576: true; the input reads as it did. -/
def fnRemnantsOfUptoRow : OpenClaim := { program := "ytbodfpboklcgoaa", sum := "2fc21f93c7d34661f21a355189e1931cf8dcc34ab1b11f5b8d03068f0cd23ad6", func := "loop.example/panecutter/laws.FnRemnantsOf", spec := "fnRemnantsOf", recurses := true, apart := false, narrowed := true }
def FnRemnantsOfUptoSaid : Prop := fnRemnantsOfUptoRow.holds Try.pinned (OpenSpec.upto fnRemnantsOfSpec)

/-- 'laws.FnCutStockPlan', WHERE WHAT IT READS IS OF BULK AT MOST 1048576: true; the input reads as it did. -/
def fnCutStockPlanUptoRow : OpenClaim := { program := "ytbodfpboklcgoaa", sum := "2fc21f93c7d34661f21a355189e1931cf8dcc34ab1b11f5b8d03068f0cd23ad6", func := "loop.example/panecutter/laws.FnCutStockPlan", spec := "fnCutStockPlan", unfollowed := true, recurses := true, apart := false, narrowed := true }
def FnCutStockPlanUptoSaid : Prop := fnCutStockPlanUptoRow.holds Try.pinned (OpenSpec.upto fnCutStockPlanSpec)

/-- 'laws.FnCutStockOthers', WHERE WHAT IT READS IS OF BULK AT MOST 1048576: true; the input reads as it did. -/
def fnCutStockOthersUptoRow : OpenClaim := { program := "ytbodfpboklcgoaa", sum := "2fc21f93c7d34661f21a355189e1931cf8dcc34ab1b11f5b8d03068f0cd23ad6", func := "loop.example/panecutter/laws.FnCutStockOthers", spec := "fnCutStockOthers", unfollowed := true, recurses := true, apart := false, narrowed := true }
def FnCutStockOthersUptoSaid : Prop := fnCutStockOthersUptoRow.holds Try.pinned (OpenSpec.upto fnCutStockOthersSpec)

/-- 'laws.FnCutStock', WHERE WHAT IT READS IS OF BULK AT MOST 1048576: true; the input reads as it did. -/
def fnCutStockUptoRow : OpenClaim := { program := "ytbodfpboklcgoaa", sum := "2fc21f93c7d34661f21a355189e1931cf8dcc34ab1b11f5b8d03068f0cd23ad6", func := "loop.example/panecutter/laws.FnCutStock", spec := "fnCutStock", unfollowed := true, recurses := true, apart := false, narrowed := true }
def FnCutStockUptoSaid : Prop := fnCutStockUptoRow.holds Try.pinned (OpenSpec.upto fnCutStockSpec)

end Rows
end Go.Proofs.Ytbodfpboklcgoaa
