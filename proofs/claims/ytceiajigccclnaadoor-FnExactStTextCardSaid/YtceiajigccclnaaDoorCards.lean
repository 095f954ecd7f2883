/-
  DERIVED. GIVEN WITH THE SEED: THE CARDS: each row of YtceiajigccclnaaDoorRows.lean that lists a variable, with what it lists TIED to the program's text (the seventh form; the later family's looks); each row that meets fmt, with fmt's text TOLD by the authors' own Lean function (tested against real Go, not proved from fmt's source: count such statements apart). THE CARD IS WHAT COUNTS. Prove the row's statement (the work); the ties are given (YtceiajigccclnaaDoorTie.lean); close each card by the builder's one call (the guide's Derived/Test/ToyasCard.lean, 'card_holds'). Laid BY PROGRAM, IN A SANDBOX (cutbox-door.mjs). By AI agents, Wed Nov 11 2026. No macro, syntax, notation, axiom, sorry.
-/
import Derived.Test.YtceiajigccclnaaDoorRows
import GoSem.ClaimSeven
namespace Go.Proofs.YtceiajigccclnaaDoor
namespace Rows

/-- THE TIED CARD OF 'laws.FnExactStText'. -/
def fnExactStTextCard : Claim7 := { stood := { row := fnExactStTextRow, standIns := [], harness := (true, "9348295afea4820c6b51c4c96a088c3cf616413b24c015a9ed9beec4c9b68d73"), looks := true }, kinds := [], alts := [], laidByText := true, laidKinds := [.data, .data, .data], laidTests := true, laidLooks := .later }
def FnExactStTextCardSaid : Prop := Claim7.holds Tryd.pinned (.plain (OpenSpec.ofChange fnExactStTextSpec)) fnExactStTextCard

/-- THE TIED CARD OF 'laws.FnExactPlanText'. -/
def fnExactPlanTextCard : Claim7 := { stood := { row := fnExactPlanTextRow, standIns := [], harness := (true, "9348295afea4820c6b51c4c96a088c3cf616413b24c015a9ed9beec4c9b68d73"), looks := true }, kinds := [], alts := [], laidByText := true, laidKinds := [.data, .data, .data], laidTests := true, laidLooks := .later }
def FnExactPlanTextCardSaid : Prop := Claim7.holds Tryd.pinned (.plain (OpenSpec.ofChange fnExactPlanTextSpec)) fnExactPlanTextCard

/-- THE TIED CARD OF 'laws.FnExactTyped'. -/
def fnExactTypedCard : Claim7 := { stood := { row := fnExactTypedRow, standIns := [], harness := (true, "9348295afea4820c6b51c4c96a088c3cf616413b24c015a9ed9beec4c9b68d73"), looks := true }, kinds := [], alts := [], laidByText := true, laidKinds := [.data, .data, .data, .sentinel, .sentinel], laidTests := true, laidLooks := .later }
def FnExactTypedCardSaid : Prop := Claim7.holds Tryd.pinned (.plain (OpenSpec.ofChange fnExactTypedSpec)) fnExactTypedCard

/-- THE SECOND FORM's CARD OF 'laws.FnExactStText'. -/
def fnExactStTextUptoCard : Claim7 := { stood := { row := fnExactStTextUptoRow, standIns := [], harness := (true, "9348295afea4820c6b51c4c96a088c3cf616413b24c015a9ed9beec4c9b68d73"), looks := true }, kinds := [], alts := [], laidByText := true, laidKinds := [.data, .data, .data], laidTests := true, laidLooks := .later }
def FnExactStTextUptoCardSaid : Prop := Claim7.holds Tryd.pinned (.plain (OpenSpec.upto fnExactStTextSpec)) fnExactStTextUptoCard

/-- THE SECOND FORM's CARD OF 'laws.FnExactPlanText'. -/
def fnExactPlanTextUptoCard : Claim7 := { stood := { row := fnExactPlanTextUptoRow, standIns := [], harness := (true, "9348295afea4820c6b51c4c96a088c3cf616413b24c015a9ed9beec4c9b68d73"), looks := true }, kinds := [], alts := [], laidByText := true, laidKinds := [.data, .data, .data], laidTests := true, laidLooks := .later }
def FnExactPlanTextUptoCardSaid : Prop := Claim7.holds Tryd.pinned (.plain (OpenSpec.upto fnExactPlanTextSpec)) fnExactPlanTextUptoCard

/-- THE SECOND FORM's CARD OF 'laws.FnExactTyped'. -/
def fnExactTypedUptoCard : Claim7 := { stood := { row := fnExactTypedUptoRow, standIns := [], harness := (true, "9348295afea4820c6b51c4c96a088c3cf616413b24c015a9ed9beec4c9b68d73"), looks := true }, kinds := [], alts := [], laidByText := true, laidKinds := [.data, .data, .data, .sentinel, .sentinel], laidTests := true, laidLooks := .later }
def FnExactTypedUptoCardSaid : Prop := Claim7.holds Tryd.pinned (.plain (OpenSpec.upto fnExactTypedSpec)) fnExactTypedUptoCard
end Rows
end Go.Proofs.YtceiajigccclnaaDoor
