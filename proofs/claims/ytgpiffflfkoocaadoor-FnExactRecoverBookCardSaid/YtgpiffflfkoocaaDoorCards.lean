/-
  DERIVED. GIVEN WITH THE SEED: THE CARDS: each row of YtgpiffflfkoocaaDoorRows.lean that lists a variable, with what it lists TIED to the program's text (the seventh form; the later family's looks); each row that meets fmt, with fmt's text TOLD by the authors' own Lean function (tested against real Go, not proved from fmt's source: count such statements apart). THE CARD IS WHAT COUNTS. Prove the row's statement (the work); the ties are given (YtgpiffflfkoocaaDoorTie.lean); close each card by the builder's one call (the guide's Derived/Test/ToyasCard.lean, 'card_holds'). Laid BY PROGRAM, IN A SANDBOX (cutbox-door.mjs). By AI agents, Wed Nov 11 2026. No macro, syntax, notation, axiom, sorry.
-/
import Derived.Test.YtgpiffflfkoocaaDoorRows
import GoSem.ClaimSeven
namespace Go.Proofs.YtgpiffflfkoocaaDoor
namespace Rows

/-- THE TIED CARD OF 'laws.FnExactRecoverBook'. -/
def fnExactRecoverBookCard : Claim7 := { stood := { row := fnExactRecoverBookRow, standIns := [], harness := (true, "028cfc619533efd3af91d67efb2933ef068048cb9402bd479490d43db884ff72"), looks := false }, kinds := [], alts := [], laidByText := true, laidKinds := [.data, .pinned], laidTests := true, laidLooks := .later }
def FnExactRecoverBookCardSaid : Prop := Claim7.holds Tryd.pinned (.plain (OpenSpec.ofChange fnExactRecoverBookSpec)) fnExactRecoverBookCard

/-- THE SECOND FORM's CARD OF 'laws.FnExactRecoverBook'. -/
def fnExactRecoverBookUptoCard : Claim7 := { stood := { row := fnExactRecoverBookUptoRow, standIns := [], harness := (true, "028cfc619533efd3af91d67efb2933ef068048cb9402bd479490d43db884ff72"), looks := false }, kinds := [], alts := [], laidByText := true, laidKinds := [.data, .pinned], laidTests := true, laidLooks := .later }
def FnExactRecoverBookUptoCardSaid : Prop := Claim7.holds Tryd.pinned (.plain (OpenSpec.upto fnExactRecoverBookSpec)) fnExactRecoverBookUptoCard
end Rows
end Go.Proofs.YtgpiffflfkoocaaDoor
