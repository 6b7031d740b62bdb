/-
  DERIVED. GIVEN WITH THE SEED: THE CARDS: each row of YtkdjbefmiiibpaaGreatDoorRows.lean that lists a variable, with what it lists TIED to the program's text (the seventh form; the later family's looks); each row that meets fmt, with fmt's text TOLD by the authors' own Lean function (tested against real Go, not proved from fmt's source: count such statements apart). THE CARD IS WHAT COUNTS. Prove the row's statement (the work); the ties are given (YtkdjbefmiiibpaaGreatDoorTie.lean); close each card by the builder's one call (the guide's Derived/Test/ToyasCard.lean, 'card_holds'). Laid BY PROGRAM, IN A SANDBOX (cutbox-door.mjs). By AI agents, Wed Nov 11 2026. No macro, syntax, notation, axiom, sorry.
-/
import Derived.Test.YtkdjbefmiiibpaaGreatDoorRows
import GoSem.ClaimSeven
namespace Go.Proofs.YtkdjbefmiiibpaaGreatDoor
namespace Rows

/-- THE TIED CARD OF 'laws.FnFormatEvent'. -/
def fnFormatEventCard : Claim7 := { stood := { row := fnFormatEventRow, standIns := [], harness := (true, "9464cf85e02160f4acea7bb1f885683ba57a4ffc0f04aff10526d5f526fe4cf7"), looks := false }, kinds := [], alts := [], laidByText := true, laidKinds := [.data, .data, .data, .data, .pinned], laidTests := true, laidLooks := .later }
def FnFormatEventCardSaid : Prop := Claim7.holds Tryz.pinned (.plain (OpenSpec.ofChange fnFormatEventSpec)) fnFormatEventCard

/-- THE TIED CARD OF 'laws.FnParseEvent'. -/
def fnParseEventCard : Claim7 := { stood := { row := fnParseEventRow, standIns := [], harness := (true, "9464cf85e02160f4acea7bb1f885683ba57a4ffc0f04aff10526d5f526fe4cf7"), looks := false }, kinds := [], alts := [], laidByText := true, laidKinds := [.data, .data, .data, .data, .pinned], laidTests := true, laidLooks := .later }
def FnParseEventCardSaid : Prop := Claim7.holds Tryz.pinned (.plain (OpenSpec.ofChange fnParseEventSpec)) fnParseEventCard

/-- THE TIED CARD OF 'laws.FnRecoverBookTorn'. -/
def fnRecoverBookTornCard : Claim7 := { stood := { row := fnRecoverBookTornRow, standIns := [], harness := (true, "9464cf85e02160f4acea7bb1f885683ba57a4ffc0f04aff10526d5f526fe4cf7"), looks := false }, kinds := [], alts := [], laidByText := true, laidKinds := [.data, .data, .data, .data, .pinned], laidTests := true, laidLooks := .later }
def FnRecoverBookTornCardSaid : Prop := Claim7.holds Tryz.pinned (.plain (OpenSpec.ofChange fnRecoverBookTornSpec)) fnRecoverBookTornCard

/-- THE TIED CARD OF 'laws.FnRecoverBook'. -/
def fnRecoverBookCard : Claim7 := { stood := { row := fnRecoverBookRow, standIns := [], harness := (true, "9464cf85e02160f4acea7bb1f885683ba57a4ffc0f04aff10526d5f526fe4cf7"), looks := false }, kinds := [], alts := [], laidByText := true, laidKinds := [.data, .data, .data, .data, .pinned], laidTests := true, laidLooks := .later }
def FnRecoverBookCardSaid : Prop := Claim7.holds Tryz.pinned (.plain (OpenSpec.ofChange fnRecoverBookSpec)) fnRecoverBookCard

/-- THE SECOND FORM's CARD OF 'laws.FnFormatEvent'. -/
def fnFormatEventUptoCard : Claim7 := { stood := { row := fnFormatEventUptoRow, standIns := [], harness := (true, "9464cf85e02160f4acea7bb1f885683ba57a4ffc0f04aff10526d5f526fe4cf7"), looks := false }, kinds := [], alts := [], laidByText := true, laidKinds := [.data, .data, .data, .data, .pinned], laidTests := true, laidLooks := .later }
def FnFormatEventUptoCardSaid : Prop := Claim7.holds Tryz.pinned (.plain (OpenSpec.upto fnFormatEventSpec)) fnFormatEventUptoCard

/-- THE SECOND FORM's CARD OF 'laws.FnParseEvent'. -/
def fnParseEventUptoCard : Claim7 := { stood := { row := fnParseEventUptoRow, standIns := [], harness := (true, "9464cf85e02160f4acea7bb1f885683ba57a4ffc0f04aff10526d5f526fe4cf7"), looks := false }, kinds := [], alts := [], laidByText := true, laidKinds := [.data, .data, .data, .data, .pinned], laidTests := true, laidLooks := .later }
def FnParseEventUptoCardSaid : Prop := Claim7.holds Tryz.pinned (.plain (OpenSpec.upto fnParseEventSpec)) fnParseEventUptoCard

/-- THE SECOND FORM's CARD OF 'laws.FnRecoverBookTorn'. -/
def fnRecoverBookTornUptoCard : Claim7 := { stood := { row := fnRecoverBookTornUptoRow, standIns := [], harness := (true, "9464cf85e02160f4acea7bb1f885683ba57a4ffc0f04aff10526d5f526fe4cf7"), looks := false }, kinds := [], alts := [], laidByText := true, laidKinds := [.data, .data, .data, .data, .pinned], laidTests := true, laidLooks := .later }
def FnRecoverBookTornUptoCardSaid : Prop := Claim7.holds Tryz.pinned (.plain (OpenSpec.upto fnRecoverBookTornSpec)) fnRecoverBookTornUptoCard

/-- THE SECOND FORM's CARD OF 'laws.FnRecoverBook'. -/
def fnRecoverBookUptoCard : Claim7 := { stood := { row := fnRecoverBookUptoRow, standIns := [], harness := (true, "9464cf85e02160f4acea7bb1f885683ba57a4ffc0f04aff10526d5f526fe4cf7"), looks := false }, kinds := [], alts := [], laidByText := true, laidKinds := [.data, .data, .data, .data, .pinned], laidTests := true, laidLooks := .later }
def FnRecoverBookUptoCardSaid : Prop := Claim7.holds Tryz.pinned (.plain (OpenSpec.upto fnRecoverBookSpec)) fnRecoverBookUptoCard
end Rows
end Go.Proofs.YtkdjbefmiiibpaaGreatDoor
