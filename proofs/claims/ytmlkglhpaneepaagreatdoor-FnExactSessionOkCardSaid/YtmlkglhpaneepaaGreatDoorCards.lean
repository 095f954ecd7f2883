/-
  DERIVED. GIVEN WITH THE SEED: THE CARDS: each row of YtmlkglhpaneepaaGreatDoorRows.lean that lists a variable, with what it lists TIED to the program's text (the seventh form; the later family's looks); each row that meets fmt, with fmt's text TOLD by the authors' own Lean function (tested against real Go, not proved from fmt's source: count such statements apart). THE CARD IS WHAT COUNTS. Prove the row's statement (the work); the ties are given (YtmlkglhpaneepaaGreatDoorTie.lean); close each card by the builder's one call (the guide's Derived/Test/ToyasCard.lean, 'card_holds'). Laid BY PROGRAM, IN A SANDBOX (cutbox-door.mjs). By AI agents, Wed Nov 11 2026. No macro, syntax, notation, axiom, sorry.
-/
import Derived.Test.YtmlkglhpaneepaaGreatDoorRows
import GoSem.ClaimSeven
namespace Go.Proofs.YtmlkglhpaneepaaGreatDoor
namespace Rows

/-- THE TIED CARD OF 'laws.FnExactSessionOk'. -/
def fnExactSessionOkCard : Claim7 := { stood := { row := fnExactSessionOkRow, standIns := [], harness := (true, "444b336d705b8cfd9bdea9c54493e144e7f12fcec7ee9923572175aed12d5eb5"), looks := false }, kinds := [], alts := [], laidByText := true, laidKinds := [.listed, .data], laidTests := true, laidLooks := .later }
def FnExactSessionOkCardSaid : Prop := Claim7.holds Tryz.pinned (.plain (OpenSpec.ofChange fnExactSessionOkSpec)) fnExactSessionOkCard

/-- THE SECOND FORM's CARD OF 'laws.FnExactSessionOk'. -/
def fnExactSessionOkUptoCard : Claim7 := { stood := { row := fnExactSessionOkUptoRow, standIns := [], harness := (true, "444b336d705b8cfd9bdea9c54493e144e7f12fcec7ee9923572175aed12d5eb5"), looks := false }, kinds := [], alts := [], laidByText := true, laidKinds := [.listed, .data], laidTests := true, laidLooks := .later }
def FnExactSessionOkUptoCardSaid : Prop := Claim7.holds Tryz.pinned (.plain (OpenSpec.upto fnExactSessionOkSpec)) fnExactSessionOkUptoCard
end Rows
end Go.Proofs.YtmlkglhpaneepaaGreatDoor
