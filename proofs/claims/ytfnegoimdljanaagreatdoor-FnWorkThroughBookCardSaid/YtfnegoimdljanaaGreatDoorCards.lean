/-
  DERIVED. GIVEN WITH THE SEED: THE CARDS: each row of YtfnegoimdljanaaGreatDoorRows.lean that lists a variable, with what it lists TIED to the program's text (the seventh form; the later family's looks); each row that meets fmt, with fmt's text TOLD by the authors' own Lean function (tested against real Go, not proved from fmt's source: count such statements apart). THE CARD IS WHAT COUNTS. Prove the row's statement (the work); the ties are given (YtfnegoimdljanaaGreatDoorTie.lean); close each card by the builder's one call (the guide's Derived/Test/ToyasCard.lean, 'card_holds'). Laid BY PROGRAM, IN A SANDBOX (cutbox-door.mjs). By AI agents, Wed Nov 11 2026. No macro, syntax, notation, axiom, sorry.
-/
import Derived.Test.YtfnegoimdljanaaGreatDoorRows
import GoSem.ClaimSeven
namespace Go.Proofs.YtfnegoimdljanaaGreatDoor
namespace Rows

/-- THE TIED CARD OF 'laws.FnExactRunDesk'. -/
def fnExactRunDeskCard : Claim7 := { stood := { row := fnExactRunDeskRow, standIns := [], harness := (true, "e200e41eb57435c65d0f690be82f8a9844d3c3f9da28f010944224746500a08b"), looks := false }, kinds := [], alts := [], laidByText := true, laidKinds := [.data, .data, .data, .data, .pinned], laidTests := true, laidLooks := .later }
def FnExactRunDeskCardSaid : Prop := Claim7.holds Tryz.pinned (.plain (OpenSpec.ofChange fnExactRunDeskSpec)) fnExactRunDeskCard

/-- THE TIED CARD OF 'laws.FnRunDeskNext'. -/
def fnRunDeskNextCard : Claim7 := { stood := { row := fnRunDeskNextRow, standIns := [], harness := (true, "e200e41eb57435c65d0f690be82f8a9844d3c3f9da28f010944224746500a08b"), looks := false }, kinds := [], alts := [], laidByText := true, laidKinds := [.data, .data, .data, .data, .pinned], laidTests := true, laidLooks := .later }
def FnRunDeskNextCardSaid : Prop := Claim7.holds Tryz.pinned (.plain (OpenSpec.ofChange fnRunDeskNextSpec)) fnRunDeskNextCard

/-- THE TIED CARD OF 'laws.FnRunDesk'. -/
def fnRunDeskCard : Claim7 := { stood := { row := fnRunDeskRow, standIns := [], harness := (true, "e200e41eb57435c65d0f690be82f8a9844d3c3f9da28f010944224746500a08b"), looks := false }, kinds := [], alts := [], laidByText := true, laidKinds := [.data, .data, .data, .data, .pinned], laidTests := true, laidLooks := .later }
def FnRunDeskCardSaid : Prop := Claim7.holds Tryz.pinned (.plain (OpenSpec.ofChange fnRunDeskSpec)) fnRunDeskCard

/-- THE TIED CARD OF 'laws.FnWorkThroughBook'. -/
def fnWorkThroughBookCard : Claim7 := { stood := { row := fnWorkThroughBookRow, standIns := [], harness := (true, "e200e41eb57435c65d0f690be82f8a9844d3c3f9da28f010944224746500a08b"), looks := false }, kinds := [], alts := [], laidByText := true, laidKinds := [.data, .data, .data, .data, .pinned], laidTests := true, laidLooks := .later }
def FnWorkThroughBookCardSaid : Prop := Claim7.holds Tryz.pinned (.plain (OpenSpec.ofChange fnWorkThroughBookSpec)) fnWorkThroughBookCard

/-- THE SECOND FORM's CARD OF 'laws.FnExactRunDesk'. -/
def fnExactRunDeskUptoCard : Claim7 := { stood := { row := fnExactRunDeskUptoRow, standIns := [], harness := (true, "e200e41eb57435c65d0f690be82f8a9844d3c3f9da28f010944224746500a08b"), looks := false }, kinds := [], alts := [], laidByText := true, laidKinds := [.data, .data, .data, .data, .pinned], laidTests := true, laidLooks := .later }
def FnExactRunDeskUptoCardSaid : Prop := Claim7.holds Tryz.pinned (.plain (OpenSpec.upto fnExactRunDeskSpec)) fnExactRunDeskUptoCard

/-- THE SECOND FORM's CARD OF 'laws.FnRunDeskNext'. -/
def fnRunDeskNextUptoCard : Claim7 := { stood := { row := fnRunDeskNextUptoRow, standIns := [], harness := (true, "e200e41eb57435c65d0f690be82f8a9844d3c3f9da28f010944224746500a08b"), looks := false }, kinds := [], alts := [], laidByText := true, laidKinds := [.data, .data, .data, .data, .pinned], laidTests := true, laidLooks := .later }
def FnRunDeskNextUptoCardSaid : Prop := Claim7.holds Tryz.pinned (.plain (OpenSpec.upto fnRunDeskNextSpec)) fnRunDeskNextUptoCard

/-- THE SECOND FORM's CARD OF 'laws.FnRunDesk'. -/
def fnRunDeskUptoCard : Claim7 := { stood := { row := fnRunDeskUptoRow, standIns := [], harness := (true, "e200e41eb57435c65d0f690be82f8a9844d3c3f9da28f010944224746500a08b"), looks := false }, kinds := [], alts := [], laidByText := true, laidKinds := [.data, .data, .data, .data, .pinned], laidTests := true, laidLooks := .later }
def FnRunDeskUptoCardSaid : Prop := Claim7.holds Tryz.pinned (.plain (OpenSpec.upto fnRunDeskSpec)) fnRunDeskUptoCard

/-- THE SECOND FORM's CARD OF 'laws.FnWorkThroughBook'. -/
def fnWorkThroughBookUptoCard : Claim7 := { stood := { row := fnWorkThroughBookUptoRow, standIns := [], harness := (true, "e200e41eb57435c65d0f690be82f8a9844d3c3f9da28f010944224746500a08b"), looks := false }, kinds := [], alts := [], laidByText := true, laidKinds := [.data, .data, .data, .data, .pinned], laidTests := true, laidLooks := .later }
def FnWorkThroughBookUptoCardSaid : Prop := Claim7.holds Tryz.pinned (.plain (OpenSpec.upto fnWorkThroughBookSpec)) fnWorkThroughBookUptoCard
end Rows
end Go.Proofs.YtfnegoimdljanaaGreatDoor
