/-
  DERIVED. GIVEN WITH THE SEED: THE CARDS: each row of YtofjeimkphojaaaGreatDoorRows.lean that lists a variable, with what it lists TIED to the program's text (the seventh form; the later family's looks); each row that meets fmt, with fmt's text TOLD by the authors' own Lean function (tested against real Go, not proved from fmt's source: count such statements apart). THE CARD IS WHAT COUNTS. Prove the row's statement (the work); the ties are given (YtofjeimkphojaaaGreatDoorTie.lean); close each card by the builder's one call (the guide's Derived/Test/ToyasCard.lean, 'card_holds'). Laid BY PROGRAM, IN A SANDBOX (cutbox-door.mjs). By AI agents, Wed Nov 11 2026. No macro, syntax, notation, axiom, sorry.
-/
import Derived.Test.YtofjeimkphojaaaGreatDoorRows
import GoSem.ClaimSeven
namespace Go.Proofs.YtofjeimkphojaaaGreatDoor
namespace Rows

/-- THE TIED CARD OF 'laws.FnFalls'. -/
def fnFallsCard : Claim7 := { stood := { row := fnFallsRow, standIns := [], harness := (true, "6eb6d195f0a7e84a41bf0938ef526b0bf786089905329c3c2f790265bfd10ccc"), looks := false }, kinds := [], alts := [], laidByText := true, laidKinds := [.data, .data, .data, .listed, .data], laidTests := true, laidLooks := .later }
def FnFallsCardSaid : Prop := Claim7.holds Tryz.pinned (.plain (OpenSpec.ofChange fnFallsSpec)) fnFallsCard

/-- THE TIED CARD OF 'laws.FnExactRunTo'. -/
def fnExactRunToCard : Claim7 := { stood := { row := fnExactRunToRow, standIns := [], harness := (true, "6eb6d195f0a7e84a41bf0938ef526b0bf786089905329c3c2f790265bfd10ccc"), looks := false }, kinds := [], alts := [], laidByText := true, laidKinds := [.data, .data, .data, .listed, .data], laidTests := true, laidLooks := .later }
def FnExactRunToCardSaid : Prop := Claim7.holds Tryz.pinned (.plain (OpenSpec.ofChange fnExactRunToSpec)) fnExactRunToCard

/-- THE TIED CARD OF 'laws.FnProfile'. -/
def fnProfileCard : Claim7 := { stood := { row := fnProfileRow, standIns := [], harness := (true, "6eb6d195f0a7e84a41bf0938ef526b0bf786089905329c3c2f790265bfd10ccc"), looks := false }, kinds := [], alts := [], laidByText := true, laidKinds := [.data, .data, .data, .listed, .data], laidTests := true, laidLooks := .later }
def FnProfileCardSaid : Prop := Claim7.holds Tryz.pinned (.plain (OpenSpec.ofChange fnProfileSpec)) fnProfileCard

/-- THE TIED CARD OF 'laws.FnRunTo'. -/
def fnRunToCard : Claim7 := { stood := { row := fnRunToRow, standIns := [], harness := (true, "6eb6d195f0a7e84a41bf0938ef526b0bf786089905329c3c2f790265bfd10ccc"), looks := false }, kinds := [], alts := [], laidByText := true, laidKinds := [.data, .data, .data, .listed, .data], laidTests := true, laidLooks := .later }
def FnRunToCardSaid : Prop := Claim7.holds Tryz.pinned (.plain (OpenSpec.ofChange fnRunToSpec)) fnRunToCard

/-- THE TIED CARD OF 'laws.FnTrace'. -/
def fnTraceCard : Claim7 := { stood := { row := fnTraceRow, standIns := [], harness := (true, "6eb6d195f0a7e84a41bf0938ef526b0bf786089905329c3c2f790265bfd10ccc"), looks := false }, kinds := [], alts := [], laidByText := true, laidKinds := [.data, .data, .data, .listed, .data], laidTests := true, laidLooks := .later }
def FnTraceCardSaid : Prop := Claim7.holds Tryz.pinned (.plain (OpenSpec.ofChange fnTraceSpec)) fnTraceCard

/-- THE SECOND FORM's CARD OF 'laws.FnFalls'. -/
def fnFallsUptoCard : Claim7 := { stood := { row := fnFallsUptoRow, standIns := [], harness := (true, "6eb6d195f0a7e84a41bf0938ef526b0bf786089905329c3c2f790265bfd10ccc"), looks := false }, kinds := [], alts := [], laidByText := true, laidKinds := [.data, .data, .data, .listed, .data], laidTests := true, laidLooks := .later }
def FnFallsUptoCardSaid : Prop := Claim7.holds Tryz.pinned (.plain (OpenSpec.upto fnFallsSpec)) fnFallsUptoCard

/-- THE SECOND FORM's CARD OF 'laws.FnExactRunTo'. -/
def fnExactRunToUptoCard : Claim7 := { stood := { row := fnExactRunToUptoRow, standIns := [], harness := (true, "6eb6d195f0a7e84a41bf0938ef526b0bf786089905329c3c2f790265bfd10ccc"), looks := false }, kinds := [], alts := [], laidByText := true, laidKinds := [.data, .data, .data, .listed, .data], laidTests := true, laidLooks := .later }
def FnExactRunToUptoCardSaid : Prop := Claim7.holds Tryz.pinned (.plain (OpenSpec.upto fnExactRunToSpec)) fnExactRunToUptoCard

/-- THE SECOND FORM's CARD OF 'laws.FnProfile'. -/
def fnProfileUptoCard : Claim7 := { stood := { row := fnProfileUptoRow, standIns := [], harness := (true, "6eb6d195f0a7e84a41bf0938ef526b0bf786089905329c3c2f790265bfd10ccc"), looks := false }, kinds := [], alts := [], laidByText := true, laidKinds := [.data, .data, .data, .listed, .data], laidTests := true, laidLooks := .later }
def FnProfileUptoCardSaid : Prop := Claim7.holds Tryz.pinned (.plain (OpenSpec.upto fnProfileSpec)) fnProfileUptoCard

/-- THE SECOND FORM's CARD OF 'laws.FnRunTo'. -/
def fnRunToUptoCard : Claim7 := { stood := { row := fnRunToUptoRow, standIns := [], harness := (true, "6eb6d195f0a7e84a41bf0938ef526b0bf786089905329c3c2f790265bfd10ccc"), looks := false }, kinds := [], alts := [], laidByText := true, laidKinds := [.data, .data, .data, .listed, .data], laidTests := true, laidLooks := .later }
def FnRunToUptoCardSaid : Prop := Claim7.holds Tryz.pinned (.plain (OpenSpec.upto fnRunToSpec)) fnRunToUptoCard

/-- THE SECOND FORM's CARD OF 'laws.FnTrace'. -/
def fnTraceUptoCard : Claim7 := { stood := { row := fnTraceUptoRow, standIns := [], harness := (true, "6eb6d195f0a7e84a41bf0938ef526b0bf786089905329c3c2f790265bfd10ccc"), looks := false }, kinds := [], alts := [], laidByText := true, laidKinds := [.data, .data, .data, .listed, .data], laidTests := true, laidLooks := .later }
def FnTraceUptoCardSaid : Prop := Claim7.holds Tryz.pinned (.plain (OpenSpec.upto fnTraceSpec)) fnTraceUptoCard
end Rows
end Go.Proofs.YtofjeimkphojaaaGreatDoor
