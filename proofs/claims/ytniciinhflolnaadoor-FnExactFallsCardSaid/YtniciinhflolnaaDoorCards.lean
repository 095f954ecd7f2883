/-
  DERIVED. GIVEN WITH THE SEED: THE CARDS: each row of YtniciinhflolnaaDoorRows.lean that lists a variable, with what it lists TIED to the program's text (the seventh form; the later family's looks); each row that meets fmt, with fmt's text TOLD by the authors' own Lean function (tested against real Go, not proved from fmt's source: count such statements apart). THE CARD IS WHAT COUNTS. Prove the row's statement (the work); the ties are given (YtniciinhflolnaaDoorTie.lean); close each card by the builder's one call (the guide's Derived/Test/ToyasCard.lean, 'card_holds'). Laid BY PROGRAM, IN A SANDBOX (cutbox-door.mjs). By AI agents, Wed Nov 11 2026. No macro, syntax, notation, axiom, sorry.
-/
import Derived.Test.YtniciinhflolnaaDoorRows
import GoSem.ClaimSeven
namespace Go.Proofs.YtniciinhflolnaaDoor
namespace Rows

/-- THE TIED CARD OF 'laws.FnExactFalls'. -/
def fnExactFallsCard : Claim7 := { stood := { row := fnExactFallsRow, standIns := [], harness := (true, "89589e9da610bc7f23f6881022ea09026161511bcdcb0298931880dd455fae6d"), looks := false }, kinds := [], alts := [], laidByText := true, laidKinds := [.listed, .data], laidTests := true, laidLooks := .later }
def FnExactFallsCardSaid : Prop := Claim7.holds Tryd.pinned (.plain (OpenSpec.ofChange fnExactFallsSpec)) fnExactFallsCard

/-- THE SECOND FORM's CARD OF 'laws.FnExactFalls'. -/
def fnExactFallsUptoCard : Claim7 := { stood := { row := fnExactFallsUptoRow, standIns := [], harness := (true, "89589e9da610bc7f23f6881022ea09026161511bcdcb0298931880dd455fae6d"), looks := false }, kinds := [], alts := [], laidByText := true, laidKinds := [.listed, .data], laidTests := true, laidLooks := .later }
def FnExactFallsUptoCardSaid : Prop := Claim7.holds Tryd.pinned (.plain (OpenSpec.upto fnExactFallsSpec)) fnExactFallsUptoCard
end Rows
end Go.Proofs.YtniciinhflolnaaDoor
