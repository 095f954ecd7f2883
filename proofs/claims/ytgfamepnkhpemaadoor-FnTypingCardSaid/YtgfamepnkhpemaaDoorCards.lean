/-
  DERIVED. GIVEN WITH THE SEED: THE CARDS: each row of YtgfamepnkhpemaaDoorRows.lean that lists a variable, with what it lists TIED to the program's text (the seventh form; the later family's looks); each row that meets fmt, with fmt's text TOLD by the authors' own Lean function (tested against real Go, not proved from fmt's source: count such statements apart). THE CARD IS WHAT COUNTS. Prove the row's statement (the work); the ties are given (YtgfamepnkhpemaaDoorTie.lean); close each card by the builder's one call (the guide's Derived/Test/ToyasCard.lean, 'card_holds'). Laid BY PROGRAM, IN A SANDBOX (cutbox-door.mjs). By AI agents, Wed Nov 11 2026. No macro, syntax, notation, axiom, sorry.
-/
import Derived.Test.YtgfamepnkhpemaaDoorRows
import GoSem.ClaimSeven
namespace Go.Proofs.YtgfamepnkhpemaaDoor
namespace Rows

/-- THE TIED CARD OF 'laws.FnTyping'. -/
def fnTypingCard : Claim7 := { stood := { row := fnTypingRow, standIns := [], harness := (true, "278cd89a8c1bc5757b7dcfce6c42c797e8a887f3398159756e0a0c4a79f0d965"), looks := true }, kinds := [], alts := [], laidByText := true, laidKinds := [.data, .data, .data, .sentinel, .sentinel], laidTests := true, laidLooks := .later }
def FnTypingCardSaid : Prop := Claim7.holds Tryd.pinned (.plain (OpenSpec.ofChange fnTypingSpec)) fnTypingCard

/-- THE TIED CARD OF 'laws.FnExactTyped'. -/
def fnExactTypedCard : Claim7 := { stood := { row := fnExactTypedRow, standIns := [], harness := (true, "278cd89a8c1bc5757b7dcfce6c42c797e8a887f3398159756e0a0c4a79f0d965"), looks := true }, kinds := [], alts := [], laidByText := true, laidKinds := [.data, .data, .data, .sentinel, .sentinel], laidTests := true, laidLooks := .later }
def FnExactTypedCardSaid : Prop := Claim7.holds Tryd.pinned (.plain (OpenSpec.ofChange fnExactTypedSpec)) fnExactTypedCard

/-- THE SECOND FORM's CARD OF 'laws.FnTyping'. -/
def fnTypingUptoCard : Claim7 := { stood := { row := fnTypingUptoRow, standIns := [], harness := (true, "278cd89a8c1bc5757b7dcfce6c42c797e8a887f3398159756e0a0c4a79f0d965"), looks := true }, kinds := [], alts := [], laidByText := true, laidKinds := [.data, .data, .data, .sentinel, .sentinel], laidTests := true, laidLooks := .later }
def FnTypingUptoCardSaid : Prop := Claim7.holds Tryd.pinned (.plain (OpenSpec.upto fnTypingSpec)) fnTypingUptoCard

/-- THE SECOND FORM's CARD OF 'laws.FnExactTyped'. -/
def fnExactTypedUptoCard : Claim7 := { stood := { row := fnExactTypedUptoRow, standIns := [], harness := (true, "278cd89a8c1bc5757b7dcfce6c42c797e8a887f3398159756e0a0c4a79f0d965"), looks := true }, kinds := [], alts := [], laidByText := true, laidKinds := [.data, .data, .data, .sentinel, .sentinel], laidTests := true, laidLooks := .later }
def FnExactTypedUptoCardSaid : Prop := Claim7.holds Tryd.pinned (.plain (OpenSpec.upto fnExactTypedSpec)) fnExactTypedUptoCard
end Rows
end Go.Proofs.YtgfamepnkhpemaaDoor
