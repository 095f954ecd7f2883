/-
  DERIVED. GIVEN WITH THE SEED: THE CARDS: each row of YtceiajigccclnaaGreatDoorRows.lean that lists a variable, with what it lists TIED to the program's text (the seventh form; the later family's looks); each row that meets fmt, with fmt's text TOLD by the authors' own Lean function (tested against real Go, not proved from fmt's source: count such statements apart). THE CARD IS WHAT COUNTS. Prove the row's statement (the work); the ties are given (YtceiajigccclnaaGreatDoorTie.lean); close each card by the builder's one call (the guide's Derived/Test/ToyasCard.lean, 'card_holds'). Laid BY PROGRAM, IN A SANDBOX (cutbox-door.mjs). By AI agents, Wed Nov 11 2026. No macro, syntax, notation, axiom, sorry.
-/
import Derived.Test.YtceiajigccclnaaGreatDoorRows
import GoSem.ClaimSeven
namespace Go.Proofs.YtceiajigccclnaaGreatDoor
namespace Rows

/-- THE TIED CARD OF 'laws.FnExactTypeText'. -/
def fnExactTypeTextCard : Claim7 := { stood := { row := fnExactTypeTextRow, standIns := [], harness := (true, "dc60e447482b08308ea4a1fae6274e39b7c87ea610a32cb35d8af7a101d9d4bc"), looks := true }, kinds := [], alts := [], laidByText := true, laidKinds := [.data, .data, .data, .sentinel, .sentinel], laidTests := true, laidLooks := .later }
def FnExactTypeTextCardSaid : Prop := Claim7.holds Tryz.pinned (.plain (OpenSpec.ofChange fnExactTypeTextSpec)) fnExactTypeTextCard

/-- THE TIED CARD OF 'laws.FnExactProfile'. -/
def fnExactProfileCard : Claim7 := { stood := { row := fnExactProfileRow, standIns := [], harness := (true, "dc60e447482b08308ea4a1fae6274e39b7c87ea610a32cb35d8af7a101d9d4bc"), looks := true }, kinds := [], alts := [], laidByText := true, laidKinds := [.data, .data, .data, .listed, .data], laidTests := true, laidLooks := .later }
def FnExactProfileCardSaid : Prop := Claim7.holds Tryz.pinned (.plain (OpenSpec.ofChange fnExactProfileSpec)) fnExactProfileCard

/-- THE TIED CARD OF 'laws.FnExactTrace'. -/
def fnExactTraceCard : Claim7 := { stood := { row := fnExactTraceRow, standIns := [], harness := (true, "dc60e447482b08308ea4a1fae6274e39b7c87ea610a32cb35d8af7a101d9d4bc"), looks := true }, kinds := [], alts := [], laidByText := true, laidKinds := [.data, .data, .data, .listed, .data], laidTests := true, laidLooks := .later }
def FnExactTraceCardSaid : Prop := Claim7.holds Tryz.pinned (.plain (OpenSpec.ofChange fnExactTraceSpec)) fnExactTraceCard

/-- THE SECOND FORM's CARD OF 'laws.FnExactTypeText'. -/
def fnExactTypeTextUptoCard : Claim7 := { stood := { row := fnExactTypeTextUptoRow, standIns := [], harness := (true, "dc60e447482b08308ea4a1fae6274e39b7c87ea610a32cb35d8af7a101d9d4bc"), looks := true }, kinds := [], alts := [], laidByText := true, laidKinds := [.data, .data, .data, .sentinel, .sentinel], laidTests := true, laidLooks := .later }
def FnExactTypeTextUptoCardSaid : Prop := Claim7.holds Tryz.pinned (.plain (OpenSpec.upto fnExactTypeTextSpec)) fnExactTypeTextUptoCard

/-- THE SECOND FORM's CARD OF 'laws.FnExactProfile'. -/
def fnExactProfileUptoCard : Claim7 := { stood := { row := fnExactProfileUptoRow, standIns := [], harness := (true, "dc60e447482b08308ea4a1fae6274e39b7c87ea610a32cb35d8af7a101d9d4bc"), looks := true }, kinds := [], alts := [], laidByText := true, laidKinds := [.data, .data, .data, .listed, .data], laidTests := true, laidLooks := .later }
def FnExactProfileUptoCardSaid : Prop := Claim7.holds Tryz.pinned (.plain (OpenSpec.upto fnExactProfileSpec)) fnExactProfileUptoCard

/-- THE SECOND FORM's CARD OF 'laws.FnExactTrace'. -/
def fnExactTraceUptoCard : Claim7 := { stood := { row := fnExactTraceUptoRow, standIns := [], harness := (true, "dc60e447482b08308ea4a1fae6274e39b7c87ea610a32cb35d8af7a101d9d4bc"), looks := true }, kinds := [], alts := [], laidByText := true, laidKinds := [.data, .data, .data, .listed, .data], laidTests := true, laidLooks := .later }
def FnExactTraceUptoCardSaid : Prop := Claim7.holds Tryz.pinned (.plain (OpenSpec.upto fnExactTraceSpec)) fnExactTraceUptoCard
end Rows
end Go.Proofs.YtceiajigccclnaaGreatDoor
