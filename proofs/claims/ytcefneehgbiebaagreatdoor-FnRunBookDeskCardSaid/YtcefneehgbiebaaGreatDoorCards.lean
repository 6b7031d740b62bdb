/-
  DERIVED. GIVEN WITH THE SEED: THE CARDS: each row of YtcefneehgbiebaaGreatDoorRows.lean that lists a variable, with what it lists TIED to the program's text (the seventh form; the later family's looks); each row that meets fmt, with fmt's text TOLD by the authors' own Lean function (tested against real Go, not proved from fmt's source: count such statements apart). THE CARD IS WHAT COUNTS. Prove the row's statement (the work); the ties are given (YtcefneehgbiebaaGreatDoorTie.lean); close each card by the builder's one call (the guide's Derived/Test/ToyasCard.lean, 'card_holds'). Laid BY PROGRAM, IN A SANDBOX (cutbox-door.mjs). By AI agents, Wed Nov 11 2026. No macro, syntax, notation, axiom, sorry.
-/
import Derived.Test.YtcefneehgbiebaaGreatDoorRows
import GoSem.ClaimSeven
namespace Go.Proofs.YtcefneehgbiebaaGreatDoor
namespace Rows

/-- THE TIED CARD OF 'laws.FnFormatEventSame'. -/
def fnFormatEventSameCard : Claim7 := { stood := { row := fnFormatEventSameRow, standIns := [], harness := (true, "29f1a374b0cbfe96416bff4bfac0e13d99929c0f15c4a38d42a860a864e54391"), looks := false }, kinds := [], alts := [], laidByText := true, laidKinds := [.data, .data, .data, .data, .pinned], laidTests := true, laidLooks := .later }
def FnFormatEventSameCardSaid : Prop := Claim7.holds Tryz.pinned (.plain (OpenSpec.ofChange fnFormatEventSameSpec)) fnFormatEventSameCard

/-- THE TIED CARD OF 'laws.FnFormatBook'. -/
def fnFormatBookCard : Claim7 := { stood := { row := fnFormatBookRow, standIns := [], harness := (true, "29f1a374b0cbfe96416bff4bfac0e13d99929c0f15c4a38d42a860a864e54391"), looks := false }, kinds := [], alts := [], laidByText := true, laidKinds := [.data, .data, .data, .data, .pinned], laidTests := true, laidLooks := .later }
def FnFormatBookCardSaid : Prop := Claim7.holds Tryz.pinned (.plain (OpenSpec.ofChange fnFormatBookSpec)) fnFormatBookCard

/-- THE TIED CARD OF 'laws.FnFormatBookCrash'. -/
def fnFormatBookCrashCard : Claim7 := { stood := { row := fnFormatBookCrashRow, standIns := [], harness := (true, "29f1a374b0cbfe96416bff4bfac0e13d99929c0f15c4a38d42a860a864e54391"), looks := false }, kinds := [], alts := [], laidByText := true, laidKinds := [.data, .data, .data, .data, .pinned], laidTests := true, laidLooks := .later }
def FnFormatBookCrashCardSaid : Prop := Claim7.holds Tryz.pinned (.plain (OpenSpec.ofChange fnFormatBookCrashSpec)) fnFormatBookCrashCard

/-- THE TIED CARD OF 'laws.FnRunBookDesk'. -/
def fnRunBookDeskCard : Claim7 := { stood := { row := fnRunBookDeskRow, standIns := [], harness := (true, "29f1a374b0cbfe96416bff4bfac0e13d99929c0f15c4a38d42a860a864e54391"), looks := false }, kinds := [], alts := [], laidByText := true, laidKinds := [.data, .data, .data, .data, .pinned], laidTests := true, laidLooks := .later }
def FnRunBookDeskCardSaid : Prop := Claim7.holds Tryz.pinned (.plain (OpenSpec.ofChange fnRunBookDeskSpec)) fnRunBookDeskCard

/-- THE TIED CARD OF 'laws.FnWorkThroughBook'. -/
def fnWorkThroughBookCard : Claim7 := { stood := { row := fnWorkThroughBookRow, standIns := [], harness := (true, "29f1a374b0cbfe96416bff4bfac0e13d99929c0f15c4a38d42a860a864e54391"), looks := false }, kinds := [], alts := [], laidByText := true, laidKinds := [.data, .data, .data, .data, .pinned], laidTests := true, laidLooks := .later }
def FnWorkThroughBookCardSaid : Prop := Claim7.holds Tryz.pinned (.plain (OpenSpec.ofChange fnWorkThroughBookSpec)) fnWorkThroughBookCard

/-- THE SECOND FORM's CARD OF 'laws.FnFormatEventSame'. -/
def fnFormatEventSameUptoCard : Claim7 := { stood := { row := fnFormatEventSameUptoRow, standIns := [], harness := (true, "29f1a374b0cbfe96416bff4bfac0e13d99929c0f15c4a38d42a860a864e54391"), looks := false }, kinds := [], alts := [], laidByText := true, laidKinds := [.data, .data, .data, .data, .pinned], laidTests := true, laidLooks := .later }
def FnFormatEventSameUptoCardSaid : Prop := Claim7.holds Tryz.pinned (.plain (OpenSpec.upto fnFormatEventSameSpec)) fnFormatEventSameUptoCard

/-- THE SECOND FORM's CARD OF 'laws.FnFormatBook'. -/
def fnFormatBookUptoCard : Claim7 := { stood := { row := fnFormatBookUptoRow, standIns := [], harness := (true, "29f1a374b0cbfe96416bff4bfac0e13d99929c0f15c4a38d42a860a864e54391"), looks := false }, kinds := [], alts := [], laidByText := true, laidKinds := [.data, .data, .data, .data, .pinned], laidTests := true, laidLooks := .later }
def FnFormatBookUptoCardSaid : Prop := Claim7.holds Tryz.pinned (.plain (OpenSpec.upto fnFormatBookSpec)) fnFormatBookUptoCard

/-- THE SECOND FORM's CARD OF 'laws.FnFormatBookCrash'. -/
def fnFormatBookCrashUptoCard : Claim7 := { stood := { row := fnFormatBookCrashUptoRow, standIns := [], harness := (true, "29f1a374b0cbfe96416bff4bfac0e13d99929c0f15c4a38d42a860a864e54391"), looks := false }, kinds := [], alts := [], laidByText := true, laidKinds := [.data, .data, .data, .data, .pinned], laidTests := true, laidLooks := .later }
def FnFormatBookCrashUptoCardSaid : Prop := Claim7.holds Tryz.pinned (.plain (OpenSpec.upto fnFormatBookCrashSpec)) fnFormatBookCrashUptoCard

/-- THE SECOND FORM's CARD OF 'laws.FnRunBookDesk'. -/
def fnRunBookDeskUptoCard : Claim7 := { stood := { row := fnRunBookDeskUptoRow, standIns := [], harness := (true, "29f1a374b0cbfe96416bff4bfac0e13d99929c0f15c4a38d42a860a864e54391"), looks := false }, kinds := [], alts := [], laidByText := true, laidKinds := [.data, .data, .data, .data, .pinned], laidTests := true, laidLooks := .later }
def FnRunBookDeskUptoCardSaid : Prop := Claim7.holds Tryz.pinned (.plain (OpenSpec.upto fnRunBookDeskSpec)) fnRunBookDeskUptoCard

/-- THE SECOND FORM's CARD OF 'laws.FnWorkThroughBook'. -/
def fnWorkThroughBookUptoCard : Claim7 := { stood := { row := fnWorkThroughBookUptoRow, standIns := [], harness := (true, "29f1a374b0cbfe96416bff4bfac0e13d99929c0f15c4a38d42a860a864e54391"), looks := false }, kinds := [], alts := [], laidByText := true, laidKinds := [.data, .data, .data, .data, .pinned], laidTests := true, laidLooks := .later }
def FnWorkThroughBookUptoCardSaid : Prop := Claim7.holds Tryz.pinned (.plain (OpenSpec.upto fnWorkThroughBookSpec)) fnWorkThroughBookUptoCard
end Rows
end Go.Proofs.YtcefneehgbiebaaGreatDoor
