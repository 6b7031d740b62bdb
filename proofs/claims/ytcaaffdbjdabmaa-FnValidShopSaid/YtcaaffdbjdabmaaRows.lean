/-
  No cell of these rows narrows 'for every input' (looked for: loops, veiled, ifaces, maps, wideKeys, modest, calm, conditions, laid).
  DERIVED. THE GIVEN ROWS OF THIS SEAT. 3 by the template 'for every input the law returns true; each argument reads behind the call as it read before'; 0 by the template 'total and deterministic' (their statements: YtcaaffdbjdabmaaTotals.lean).
  GIVEN WITH THE SEED: the statements are not yours to turn. If you find one false, say at which input.
  Laid BY PROGRAM, IN A SANDBOX (cutbox-rows.mjs): the forced cells as the released guide's own fill.sh prints them over the translation 1ee59e6a08ae5716… (all of the seat's roots in one cut). By AI agents, Wed Nov 11 2026. No macro, syntax, notation, axiom, sorry.
-/
import Derived.Test.YtcaaffdbjdabmaaChecked
import GoSem.Claim
import GoSem.ClaimJoined
import GoSem.ClaimMapViews
import Derived.JoinedTies
import Derived.KernelRfl
namespace Go.Proofs.Ytcaaffdbjdabmaa
/- THE CELL 'sum', in the pinned program and in every row, IS THE sha256 OF THE DUMP (.gsa) THAT YtcaaffdbjdabmaaProg.lean LOADS. Nothing in Lean hashes anything: it is a label: what it is worth is what the hold of that sum in a sandbox is worth. -/
noncomputable def Try.pinned : Pinned := { name := "ytcaaffdbjdabmaa", sum := "1ee59e6a08ae5716a08a41035754f9e9233a7ca1e142b16483408dc8de6be114", checked := Try.checked }
namespace Rows
def none {H : Type} : Left H := { results := [], args := [] }

/-- 'laws.FnShopArea': WHATEVER THE INPUT: true; the input reads as it did. -/
def fnShopAreaSpec : ChangeSpec := { name := "fnShopArea", fn := fun _ => fun
  | [d] => { results := [.lit (.bool true)], args := [d] }
  | _ => none }
def fnShopAreaRow : OpenClaim := { program := "ytcaaffdbjdabmaa", sum := "1ee59e6a08ae5716a08a41035754f9e9233a7ca1e142b16483408dc8de6be114", func := "loop.example/panecutter/laws.FnShopArea", spec := "fnShopArea", unfollowed := true, recurses := true, apart := false }
def FnShopAreaSaid : Prop := fnShopAreaRow.holds Try.pinned (OpenSpec.ofChange fnShopAreaSpec)

/-- ITS FALSE NEIGHBOUR: 'it returns false'. Refute it at one input. -/
def fnShopAreaWrong : ChangeSpec := { name := "fnShopArea", fn := fun _ => fun
  | [d] => { results := [.lit (.bool false)], args := [d] }
  | _ => none }
def FnShopAreaWrongFalsely : Prop := fnShopAreaRow.holds Try.pinned (OpenSpec.ofChange fnShopAreaWrong)

/-- 'laws.FnValidShop': WHATEVER THE INPUT: true; the input reads as it did. -/
def fnValidShopSpec : ChangeSpec := { name := "fnValidShop", fn := fun _ => fun
  | [d] => { results := [.lit (.bool true)], args := [d] }
  | _ => none }
def fnValidShopRow : OpenClaim := { program := "ytcaaffdbjdabmaa", sum := "1ee59e6a08ae5716a08a41035754f9e9233a7ca1e142b16483408dc8de6be114", func := "loop.example/panecutter/laws.FnValidShop", spec := "fnValidShop", unfollowed := true, recurses := true, apart := false }
def FnValidShopSaid : Prop := fnValidShopRow.holds Try.pinned (OpenSpec.ofChange fnValidShopSpec)

/-- ITS FALSE NEIGHBOUR: 'it returns false'. Refute it at one input. -/
def fnValidShopWrong : ChangeSpec := { name := "fnValidShop", fn := fun _ => fun
  | [d] => { results := [.lit (.bool false)], args := [d] }
  | _ => none }
def FnValidShopWrongFalsely : Prop := fnValidShopRow.holds Try.pinned (OpenSpec.ofChange fnValidShopWrong)

/-- 'laws.FnWorkFor': WHATEVER THE INPUT: true; the input reads as it did. -/
def fnWorkForSpec : ChangeSpec := { name := "fnWorkFor", fn := fun _ => fun
  | [d] => { results := [.lit (.bool true)], args := [d] }
  | _ => none }
def fnWorkForRow : OpenClaim := { program := "ytcaaffdbjdabmaa", sum := "1ee59e6a08ae5716a08a41035754f9e9233a7ca1e142b16483408dc8de6be114", func := "loop.example/panecutter/laws.FnWorkFor", spec := "fnWorkFor", unfollowed := true, recurses := true, apart := false }
def FnWorkForSaid : Prop := fnWorkForRow.holds Try.pinned (OpenSpec.ofChange fnWorkForSpec)

/-- ITS FALSE NEIGHBOUR: 'it returns false'. Refute it at one input. -/
def fnWorkForWrong : ChangeSpec := { name := "fnWorkFor", fn := fun _ => fun
  | [d] => { results := [.lit (.bool false)], args := [d] }
  | _ => none }
def FnWorkForWrongFalsely : Prop := fnWorkForRow.holds Try.pinned (OpenSpec.ofChange fnWorkForWrong)

/- THE SECOND FORM. 'bulk': how many values and letters a reading holds, each counted each time it is reached (what is shared counts as often as it is met; a slice's spare places count too). A statement '..UptoSaid' is the law's where the arguments, and the package variables that the reading takes, are together of bulk at most 1048576: NARROWER than '..Said'. Prove '..Said' where nothing that the law and all that it calls make is longer than what came in: it says more and counts as full. Else prove '..UptoSaid'. A law counts once. -/
mutual
def uptoBulk {H : Type} : DataW H → Nat
  | .lit (.string bytes) => bytes.length + 1
  | .lit _ => 1
  | .nil => 1
  | .ptr d => uptoBulk d + 1
  | .slice elems spare => uptoBulkAll elems + uptoBulkAll spare + 1
  | .agg parts => uptoBulkAll parts + 1
  | .iface _ d => uptoBulk d + 1
  | .map entries => uptoBulkEntries entries + 1
  | .held _ => 1
def uptoBulkAll {H : Type} : List (DataW H) → Nat
  | [] => 0
  | d :: r => uptoBulk d + uptoBulkAll r
def uptoBulkEntries {H : Type} : List (Lit × DataW H) → Nat
  | [] => 0
  | x :: r => uptoBulkEntry x + uptoBulkEntries r
def uptoBulkEntry {H : Type} : Lit × DataW H → Nat
  | (.string bytes, d) => bytes.length + uptoBulk d + 1
  | (_, d) => uptoBulk d + 1
 end
def uptoSmall : (H : Type) → List (DataW H) → Bool := fun _ ds => decide (uptoBulkAll ds ≤ 1048576)
def OpenSpec.upto (s : _root_.Go.ChangeSpec) : _root_.Go.OpenSpec := { _root_.Go.OpenSpec.ofChange s with cond := some uptoSmall }

/-- 'laws.FnShopArea', WHERE WHAT IT READS IS OF BULK AT MOST 1048576: true; the input reads as it did. -/
def fnShopAreaUptoRow : OpenClaim := { program := "ytcaaffdbjdabmaa", sum := "1ee59e6a08ae5716a08a41035754f9e9233a7ca1e142b16483408dc8de6be114", func := "loop.example/panecutter/laws.FnShopArea", spec := "fnShopArea", unfollowed := true, recurses := true, apart := false, narrowed := true }
def FnShopAreaUptoSaid : Prop := fnShopAreaUptoRow.holds Try.pinned (OpenSpec.upto fnShopAreaSpec)

/-- 'laws.FnValidShop', WHERE WHAT IT READS IS OF BULK AT MOST 1048576: true; the input reads as it did. -/
def fnValidShopUptoRow : OpenClaim := { program := "ytcaaffdbjdabmaa", sum := "1ee59e6a08ae5716a08a41035754f9e9233a7ca1e142b16483408dc8de6be114", func := "loop.example/panecutter/laws.FnValidShop", spec := "fnValidShop", unfollowed := true, recurses := true, apart := false, narrowed := true }
def FnValidShopUptoSaid : Prop := fnValidShopUptoRow.holds Try.pinned (OpenSpec.upto fnValidShopSpec)

/-- 'laws.FnWorkFor', WHERE WHAT IT READS IS OF BULK AT MOST 1048576: true; the input reads as it did. -/
def fnWorkForUptoRow : OpenClaim := { program := "ytcaaffdbjdabmaa", sum := "1ee59e6a08ae5716a08a41035754f9e9233a7ca1e142b16483408dc8de6be114", func := "loop.example/panecutter/laws.FnWorkFor", spec := "fnWorkFor", unfollowed := true, recurses := true, apart := false, narrowed := true }
def FnWorkForUptoSaid : Prop := fnWorkForUptoRow.holds Try.pinned (OpenSpec.upto fnWorkForSpec)

end Rows
end Go.Proofs.Ytcaaffdbjdabmaa
