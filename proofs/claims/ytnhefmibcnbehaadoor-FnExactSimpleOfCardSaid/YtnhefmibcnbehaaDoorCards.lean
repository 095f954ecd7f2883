/-
  DERIVED. GIVEN WITH THE SEED: THE CARDS: each row of YtnhefmibcnbehaaDoorRows.lean that lists a variable, with what it lists TIED to the program's text (the seventh form; the later family's looks); each row that meets fmt, with fmt's text TOLD by the authors' own Lean function (tested against real Go, not proved from fmt's source: count such statements apart). THE CARD IS WHAT COUNTS. Prove the row's statement (the work); the ties are given (YtnhefmibcnbehaaDoorTie.lean); close each card by the builder's one call (the guide's Derived/Test/ToyasCard.lean, 'card_holds'). Laid BY PROGRAM, IN A SANDBOX (cutbox-door.mjs). By AI agents, Wed Nov 11 2026. No macro, syntax, notation, axiom, sorry.
-/
import Derived.Test.YtnhefmibcnbehaaDoorRows
import GoSem.ClaimSeven
namespace Go.Proofs.YtnhefmibcnbehaaDoor
namespace Rows

/-- THE TIED CARD OF 'laws.FnExactReach'. -/
def fnExactReachCard : Claim7 := { stood := { row := fnExactReachRow, standIns := [], harness := (true, "c822201da68ed3cc7f208da1e748a3aa8138cd220c751693673981d13ca13514"), looks := false }, kinds := [], alts := [], laidByText := true, laidKinds := [.listed, .data], laidTests := true, laidLooks := .later }
def FnExactReachCardSaid : Prop := Claim7.holds Tryd.pinned (.plain (OpenSpec.ofChange fnExactReachSpec)) fnExactReachCard

/-- THE TIED CARD OF 'laws.FnExactShake'. -/
def fnExactShakeCard : Claim7 := { stood := { row := fnExactShakeRow, standIns := [], harness := (true, "c822201da68ed3cc7f208da1e748a3aa8138cd220c751693673981d13ca13514"), looks := false }, kinds := [], alts := [], laidByText := true, laidKinds := [.listed, .data], laidTests := true, laidLooks := .later }
def FnExactShakeCardSaid : Prop := Claim7.holds Tryd.pinned (.plain (OpenSpec.ofChange fnExactShakeSpec)) fnExactShakeCard

/-- THE TIED CARD OF 'laws.FnExactSimpleOf'. -/
def fnExactSimpleOfCard : Claim7 := { stood := { row := fnExactSimpleOfRow, standIns := [], harness := (true, "c822201da68ed3cc7f208da1e748a3aa8138cd220c751693673981d13ca13514"), looks := false }, kinds := [], alts := [], laidByText := true, laidKinds := [.listed, .data], laidTests := true, laidLooks := .later }
def FnExactSimpleOfCardSaid : Prop := Claim7.holds Tryd.pinned (.plain (OpenSpec.ofChange fnExactSimpleOfSpec)) fnExactSimpleOfCard

/-- THE SECOND FORM's CARD OF 'laws.FnExactReach'. -/
def fnExactReachUptoCard : Claim7 := { stood := { row := fnExactReachUptoRow, standIns := [], harness := (true, "c822201da68ed3cc7f208da1e748a3aa8138cd220c751693673981d13ca13514"), looks := false }, kinds := [], alts := [], laidByText := true, laidKinds := [.listed, .data], laidTests := true, laidLooks := .later }
def FnExactReachUptoCardSaid : Prop := Claim7.holds Tryd.pinned (.plain (OpenSpec.upto fnExactReachSpec)) fnExactReachUptoCard

/-- THE SECOND FORM's CARD OF 'laws.FnExactShake'. -/
def fnExactShakeUptoCard : Claim7 := { stood := { row := fnExactShakeUptoRow, standIns := [], harness := (true, "c822201da68ed3cc7f208da1e748a3aa8138cd220c751693673981d13ca13514"), looks := false }, kinds := [], alts := [], laidByText := true, laidKinds := [.listed, .data], laidTests := true, laidLooks := .later }
def FnExactShakeUptoCardSaid : Prop := Claim7.holds Tryd.pinned (.plain (OpenSpec.upto fnExactShakeSpec)) fnExactShakeUptoCard

/-- THE SECOND FORM's CARD OF 'laws.FnExactSimpleOf'. -/
def fnExactSimpleOfUptoCard : Claim7 := { stood := { row := fnExactSimpleOfUptoRow, standIns := [], harness := (true, "c822201da68ed3cc7f208da1e748a3aa8138cd220c751693673981d13ca13514"), looks := false }, kinds := [], alts := [], laidByText := true, laidKinds := [.listed, .data], laidTests := true, laidLooks := .later }
def FnExactSimpleOfUptoCardSaid : Prop := Claim7.holds Tryd.pinned (.plain (OpenSpec.upto fnExactSimpleOfSpec)) fnExactSimpleOfUptoCard
end Rows
end Go.Proofs.YtnhefmibcnbehaaDoor
