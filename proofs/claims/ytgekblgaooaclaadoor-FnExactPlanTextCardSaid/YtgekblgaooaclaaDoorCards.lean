/-
  DERIVED. GIVEN WITH THE SEED: THE CARDS: each row of YtgekblgaooaclaaDoorRows.lean that lists a variable, with what it lists TIED to the program's text (the seventh form; the later family's looks); each row that meets fmt, with fmt's text TOLD by the authors' own Lean function (tested against real Go, not proved from fmt's source: count such statements apart). THE CARD IS WHAT COUNTS. Prove the row's statement (the work); the ties are given (YtgekblgaooaclaaDoorTie.lean); close each card by the builder's one call (the guide's Derived/Test/ToyasCard.lean, 'card_holds'). Laid BY PROGRAM, IN A SANDBOX (cutbox-door.mjs). By AI agents, Wed Nov 11 2026. No macro, syntax, notation, axiom, sorry.
-/
import Derived.Test.YtgekblgaooaclaaDoorRows
import GoSem.ClaimSeven
namespace Go.Proofs.YtgekblgaooaclaaDoor
namespace Rows

/-- THE TIED CARD OF 'laws.FnExactPlanText'. -/
def fnExactPlanTextCard : Claim7 := { stood := { row := fnExactPlanTextRow, standIns := [], harness := (true, "a30c06f081a41fd507098c029b2e5f2a8b6c97907ac848f9daac95ec77c1e1f5"), looks := true }, kinds := [], alts := [], laidByText := true, laidKinds := [.data, .data, .data], laidTests := true, laidLooks := .later }
def FnExactPlanTextCardSaid : Prop := Claim7.holds Tryd.pinned (.plain (OpenSpec.ofChange fnExactPlanTextSpec)) fnExactPlanTextCard

/-- THE TIED CARD OF 'laws.FnTyping'. -/
def fnTypingCard : Claim7 := { stood := { row := fnTypingRow, standIns := [], harness := (true, "a30c06f081a41fd507098c029b2e5f2a8b6c97907ac848f9daac95ec77c1e1f5"), looks := true }, kinds := [], alts := [], laidByText := true, laidKinds := [.data, .data, .data, .sentinel, .sentinel], laidTests := true, laidLooks := .later }
def FnTypingCardSaid : Prop := Claim7.holds Tryd.pinned (.plain (OpenSpec.ofChange fnTypingSpec)) fnTypingCard

/-- THE TIED CARD OF 'laws.FnExactTyped'. -/
def fnExactTypedCard : Claim7 := { stood := { row := fnExactTypedRow, standIns := [], harness := (true, "a30c06f081a41fd507098c029b2e5f2a8b6c97907ac848f9daac95ec77c1e1f5"), looks := true }, kinds := [], alts := [], laidByText := true, laidKinds := [.data, .data, .data, .sentinel, .sentinel], laidTests := true, laidLooks := .later }
def FnExactTypedCardSaid : Prop := Claim7.holds Tryd.pinned (.plain (OpenSpec.ofChange fnExactTypedSpec)) fnExactTypedCard

/-- THE SECOND FORM's CARD OF 'laws.FnExactPlanText'. -/
def fnExactPlanTextUptoCard : Claim7 := { stood := { row := fnExactPlanTextUptoRow, standIns := [], harness := (true, "a30c06f081a41fd507098c029b2e5f2a8b6c97907ac848f9daac95ec77c1e1f5"), looks := true }, kinds := [], alts := [], laidByText := true, laidKinds := [.data, .data, .data], laidTests := true, laidLooks := .later }
def FnExactPlanTextUptoCardSaid : Prop := Claim7.holds Tryd.pinned (.plain (OpenSpec.upto fnExactPlanTextSpec)) fnExactPlanTextUptoCard

/-- THE SECOND FORM's CARD OF 'laws.FnTyping'. -/
def fnTypingUptoCard : Claim7 := { stood := { row := fnTypingUptoRow, standIns := [], harness := (true, "a30c06f081a41fd507098c029b2e5f2a8b6c97907ac848f9daac95ec77c1e1f5"), looks := true }, kinds := [], alts := [], laidByText := true, laidKinds := [.data, .data, .data, .sentinel, .sentinel], laidTests := true, laidLooks := .later }
def FnTypingUptoCardSaid : Prop := Claim7.holds Tryd.pinned (.plain (OpenSpec.upto fnTypingSpec)) fnTypingUptoCard

/-- THE SECOND FORM's CARD OF 'laws.FnExactTyped'. -/
def fnExactTypedUptoCard : Claim7 := { stood := { row := fnExactTypedUptoRow, standIns := [], harness := (true, "a30c06f081a41fd507098c029b2e5f2a8b6c97907ac848f9daac95ec77c1e1f5"), looks := true }, kinds := [], alts := [], laidByText := true, laidKinds := [.data, .data, .data, .sentinel, .sentinel], laidTests := true, laidLooks := .later }
def FnExactTypedUptoCardSaid : Prop := Claim7.holds Tryd.pinned (.plain (OpenSpec.upto fnExactTypedSpec)) fnExactTypedUptoCard
end Rows
end Go.Proofs.YtgekblgaooaclaaDoor
