/-
  DERIVED. GIVEN WITH THE SEED: THE CARDS: each row of YtemkonmgcoceaaaDoorRows.lean that lists a variable, with what it lists TIED to the program's text (the seventh form; the later family's looks); each row that meets fmt, with fmt's text TOLD by the authors' own Lean function (tested against real Go, not proved from fmt's source: count such statements apart). THE CARD IS WHAT COUNTS. Prove the row's statement (the work); the ties are given (YtemkonmgcoceaaaDoorTie.lean); close each card by the builder's one call (the guide's Derived/Test/ToyasCard.lean, 'card_holds'). Laid BY PROGRAM, IN A SANDBOX (cutbox-door.mjs). By AI agents, Wed Nov 11 2026. No macro, syntax, notation, axiom, sorry.
-/
import Derived.Test.YtemkonmgcoceaaaDoorRows
import GoSem.ClaimSeven
namespace Go.Proofs.YtemkonmgcoceaaaDoor
namespace Rows

/-- THE TIED CARD OF 'laws.FnExactFormatEvent'. -/
def fnExactFormatEventCard : Claim7 := { stood := { row := fnExactFormatEventRow, standIns := [], harness := (true, "5b37c74f78666bf16cfd21162ca7aa8e33f34d1d7c62b4b8ddb9d512bb120d39"), looks := false }, kinds := [], alts := [], laidByText := true, laidKinds := [.data, .data, .data], laidTests := true, laidLooks := .later }
def FnExactFormatEventCardSaid : Prop := Claim7.holds Tryd.pinned (.plain (OpenSpec.ofChange fnExactFormatEventSpec)) fnExactFormatEventCard

/-- THE TIED CARD OF 'laws.FnExactFormatBook'. -/
def fnExactFormatBookCard : Claim7 := { stood := { row := fnExactFormatBookRow, standIns := [], harness := (true, "5b37c74f78666bf16cfd21162ca7aa8e33f34d1d7c62b4b8ddb9d512bb120d39"), looks := false }, kinds := [], alts := [], laidByText := true, laidKinds := [.data, .data, .data], laidTests := true, laidLooks := .later }
def FnExactFormatBookCardSaid : Prop := Claim7.holds Tryd.pinned (.plain (OpenSpec.ofChange fnExactFormatBookSpec)) fnExactFormatBookCard

/-- THE TIED CARD OF 'laws.FnExactParseEvent'. -/
def fnExactParseEventCard : Claim7 := { stood := { row := fnExactParseEventRow, standIns := [], harness := (true, "5b37c74f78666bf16cfd21162ca7aa8e33f34d1d7c62b4b8ddb9d512bb120d39"), looks := false }, kinds := [], alts := [], laidByText := true, laidKinds := [.data, .pinned], laidTests := true, laidLooks := .later }
def FnExactParseEventCardSaid : Prop := Claim7.holds Tryd.pinned (.plain (OpenSpec.ofChange fnExactParseEventSpec)) fnExactParseEventCard

/-- THE TIED CARD OF 'laws.FnExactRecoverBook'. -/
def fnExactRecoverBookCard : Claim7 := { stood := { row := fnExactRecoverBookRow, standIns := [], harness := (true, "5b37c74f78666bf16cfd21162ca7aa8e33f34d1d7c62b4b8ddb9d512bb120d39"), looks := false }, kinds := [], alts := [], laidByText := true, laidKinds := [.data, .pinned], laidTests := true, laidLooks := .later }
def FnExactRecoverBookCardSaid : Prop := Claim7.holds Tryd.pinned (.plain (OpenSpec.ofChange fnExactRecoverBookSpec)) fnExactRecoverBookCard

/-- THE SECOND FORM's CARD OF 'laws.FnExactFormatEvent'. -/
def fnExactFormatEventUptoCard : Claim7 := { stood := { row := fnExactFormatEventUptoRow, standIns := [], harness := (true, "5b37c74f78666bf16cfd21162ca7aa8e33f34d1d7c62b4b8ddb9d512bb120d39"), looks := false }, kinds := [], alts := [], laidByText := true, laidKinds := [.data, .data, .data], laidTests := true, laidLooks := .later }
def FnExactFormatEventUptoCardSaid : Prop := Claim7.holds Tryd.pinned (.plain (OpenSpec.upto fnExactFormatEventSpec)) fnExactFormatEventUptoCard

/-- THE SECOND FORM's CARD OF 'laws.FnExactFormatBook'. -/
def fnExactFormatBookUptoCard : Claim7 := { stood := { row := fnExactFormatBookUptoRow, standIns := [], harness := (true, "5b37c74f78666bf16cfd21162ca7aa8e33f34d1d7c62b4b8ddb9d512bb120d39"), looks := false }, kinds := [], alts := [], laidByText := true, laidKinds := [.data, .data, .data], laidTests := true, laidLooks := .later }
def FnExactFormatBookUptoCardSaid : Prop := Claim7.holds Tryd.pinned (.plain (OpenSpec.upto fnExactFormatBookSpec)) fnExactFormatBookUptoCard

/-- THE SECOND FORM's CARD OF 'laws.FnExactParseEvent'. -/
def fnExactParseEventUptoCard : Claim7 := { stood := { row := fnExactParseEventUptoRow, standIns := [], harness := (true, "5b37c74f78666bf16cfd21162ca7aa8e33f34d1d7c62b4b8ddb9d512bb120d39"), looks := false }, kinds := [], alts := [], laidByText := true, laidKinds := [.data, .pinned], laidTests := true, laidLooks := .later }
def FnExactParseEventUptoCardSaid : Prop := Claim7.holds Tryd.pinned (.plain (OpenSpec.upto fnExactParseEventSpec)) fnExactParseEventUptoCard

/-- THE SECOND FORM's CARD OF 'laws.FnExactRecoverBook'. -/
def fnExactRecoverBookUptoCard : Claim7 := { stood := { row := fnExactRecoverBookUptoRow, standIns := [], harness := (true, "5b37c74f78666bf16cfd21162ca7aa8e33f34d1d7c62b4b8ddb9d512bb120d39"), looks := false }, kinds := [], alts := [], laidByText := true, laidKinds := [.data, .pinned], laidTests := true, laidLooks := .later }
def FnExactRecoverBookUptoCardSaid : Prop := Claim7.holds Tryd.pinned (.plain (OpenSpec.upto fnExactRecoverBookSpec)) fnExactRecoverBookUptoCard
end Rows
end Go.Proofs.YtemkonmgcoceaaaDoor
