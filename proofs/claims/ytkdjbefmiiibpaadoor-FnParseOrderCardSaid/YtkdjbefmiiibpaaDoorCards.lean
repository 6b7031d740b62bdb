/-
  DERIVED. GIVEN WITH THE SEED: THE CARDS: each row of YtkdjbefmiiibpaaDoorRows.lean that lists a variable, with what it lists TIED to the program's text (the seventh form; the later family's looks); each row that meets fmt, with fmt's text TOLD by the authors' own Lean function (tested against real Go, not proved from fmt's source: count such statements apart). THE CARD IS WHAT COUNTS. Prove the row's statement (the work); the ties are given (YtkdjbefmiiibpaaDoorTie.lean); close each card by the builder's one call (the guide's Derived/Test/ToyasCard.lean, 'card_holds'). Laid BY PROGRAM, IN A SANDBOX (cutbox-door.mjs). By AI agents, Wed Nov 11 2026. No macro, syntax, notation, axiom, sorry.
-/
import Derived.Test.YtkdjbefmiiibpaaDoorRows
import GoSem.ClaimSeven
namespace Go.Proofs.YtkdjbefmiiibpaaDoor
namespace Rows

/-- THE TIED CARD OF 'laws.FnFormatPlan'. -/
def fnFormatPlanCard : Claim7 := { stood := { row := fnFormatPlanRow, standIns := [], harness := (true, "53213c733246b10743a38a0745bd19fe72b32f6d9e485631221ba701fb72b3f9"), looks := false }, kinds := [], alts := [], laidByText := true, laidKinds := [.data, .data, .data], laidTests := true, laidLooks := .later }
def FnFormatPlanCardSaid : Prop := Claim7.holds Tryd.pinned (.plain (OpenSpec.ofChange fnFormatPlanSpec)) fnFormatPlanCard

/-- THE TIED CARD OF 'laws.FnParsePlan'. -/
def fnParsePlanCard : Claim7 := { stood := { row := fnParsePlanRow, standIns := [], harness := (true, "53213c733246b10743a38a0745bd19fe72b32f6d9e485631221ba701fb72b3f9"), looks := false }, kinds := [], alts := [], laidByText := true, laidKinds := [.data, .data, .data], laidTests := true, laidLooks := .later }
def FnParsePlanCardSaid : Prop := Claim7.holds Tryd.pinned (.plain (OpenSpec.ofChange fnParsePlanSpec)) fnParsePlanCard

/-- THE TIED CARD OF 'laws.FnFormatOrder'. -/
def fnFormatOrderCard : Claim7 := { stood := { row := fnFormatOrderRow, standIns := [], harness := (true, "53213c733246b10743a38a0745bd19fe72b32f6d9e485631221ba701fb72b3f9"), looks := false }, kinds := [], alts := [], laidByText := true, laidKinds := [.data, .data, .data, .data, .pinned], laidTests := true, laidLooks := .later }
def FnFormatOrderCardSaid : Prop := Claim7.holds Tryd.pinned (.plain (OpenSpec.ofChange fnFormatOrderSpec)) fnFormatOrderCard

/-- THE TIED CARD OF 'laws.FnParseOrder'. -/
def fnParseOrderCard : Claim7 := { stood := { row := fnParseOrderRow, standIns := [], harness := (true, "53213c733246b10743a38a0745bd19fe72b32f6d9e485631221ba701fb72b3f9"), looks := false }, kinds := [], alts := [], laidByText := true, laidKinds := [.data, .data, .data, .data, .pinned], laidTests := true, laidLooks := .later }
def FnParseOrderCardSaid : Prop := Claim7.holds Tryd.pinned (.plain (OpenSpec.ofChange fnParseOrderSpec)) fnParseOrderCard

/-- THE SECOND FORM's CARD OF 'laws.FnFormatPlan'. -/
def fnFormatPlanUptoCard : Claim7 := { stood := { row := fnFormatPlanUptoRow, standIns := [], harness := (true, "53213c733246b10743a38a0745bd19fe72b32f6d9e485631221ba701fb72b3f9"), looks := false }, kinds := [], alts := [], laidByText := true, laidKinds := [.data, .data, .data], laidTests := true, laidLooks := .later }
def FnFormatPlanUptoCardSaid : Prop := Claim7.holds Tryd.pinned (.plain (OpenSpec.upto fnFormatPlanSpec)) fnFormatPlanUptoCard

/-- THE SECOND FORM's CARD OF 'laws.FnParsePlan'. -/
def fnParsePlanUptoCard : Claim7 := { stood := { row := fnParsePlanUptoRow, standIns := [], harness := (true, "53213c733246b10743a38a0745bd19fe72b32f6d9e485631221ba701fb72b3f9"), looks := false }, kinds := [], alts := [], laidByText := true, laidKinds := [.data, .data, .data], laidTests := true, laidLooks := .later }
def FnParsePlanUptoCardSaid : Prop := Claim7.holds Tryd.pinned (.plain (OpenSpec.upto fnParsePlanSpec)) fnParsePlanUptoCard

/-- THE SECOND FORM's CARD OF 'laws.FnFormatOrder'. -/
def fnFormatOrderUptoCard : Claim7 := { stood := { row := fnFormatOrderUptoRow, standIns := [], harness := (true, "53213c733246b10743a38a0745bd19fe72b32f6d9e485631221ba701fb72b3f9"), looks := false }, kinds := [], alts := [], laidByText := true, laidKinds := [.data, .data, .data, .data, .pinned], laidTests := true, laidLooks := .later }
def FnFormatOrderUptoCardSaid : Prop := Claim7.holds Tryd.pinned (.plain (OpenSpec.upto fnFormatOrderSpec)) fnFormatOrderUptoCard

/-- THE SECOND FORM's CARD OF 'laws.FnParseOrder'. -/
def fnParseOrderUptoCard : Claim7 := { stood := { row := fnParseOrderUptoRow, standIns := [], harness := (true, "53213c733246b10743a38a0745bd19fe72b32f6d9e485631221ba701fb72b3f9"), looks := false }, kinds := [], alts := [], laidByText := true, laidKinds := [.data, .data, .data, .data, .pinned], laidTests := true, laidLooks := .later }
def FnParseOrderUptoCardSaid : Prop := Claim7.holds Tryd.pinned (.plain (OpenSpec.upto fnParseOrderSpec)) fnParseOrderUptoCard
end Rows
end Go.Proofs.YtkdjbefmiiibpaaDoor
