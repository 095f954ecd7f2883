/-
  DERIVED. GIVEN WITH THE SEED: THE CARDS: each row of YtmedombacbpofaaGreatDoorRows.lean that lists a variable, with what it lists TIED to the program's text (the seventh form; the later family's looks); each row that meets fmt, with fmt's text TOLD by the authors' own Lean function (tested against real Go, not proved from fmt's source: count such statements apart). THE CARD IS WHAT COUNTS. Prove the row's statement (the work); the ties are given (YtmedombacbpofaaGreatDoorTie.lean); close each card by the builder's one call (the guide's Derived/Test/ToyasCard.lean, 'card_holds'). Laid BY PROGRAM, IN A SANDBOX (cutbox-door.mjs). By AI agents, Wed Nov 11 2026. No macro, syntax, notation, axiom, sorry.
-/
import Derived.Test.YtmedombacbpofaaGreatDoorRows
import GoSem.ClaimSeven
namespace Go.Proofs.YtmedombacbpofaaGreatDoor
namespace Rows

/-- THE TIED CARD OF 'laws.FnSimple'. -/
def fnSimpleCard : Claim7 := { stood := { row := fnSimpleRow, standIns := [], harness := (true, "e65c76fe9de554d4a66572c0dc647ad811d781b28887b4db851134c4420650ee"), looks := false }, kinds := [], alts := [], laidByText := true, laidKinds := [.data, .data, .data, .listed, .data], laidTests := true, laidLooks := .later }
def FnSimpleCardSaid : Prop := Claim7.holds Tryz.pinned (.plain (OpenSpec.ofChange fnSimpleSpec)) fnSimpleCard

/-- THE TIED CARD OF 'laws.FnOnce'. -/
def fnOnceCard : Claim7 := { stood := { row := fnOnceRow, standIns := [], harness := (true, "e65c76fe9de554d4a66572c0dc647ad811d781b28887b4db851134c4420650ee"), looks := false }, kinds := [], alts := [], laidByText := true, laidKinds := [.data, .data, .data, .listed, .data], laidTests := true, laidLooks := .later }
def FnOnceCardSaid : Prop := Claim7.holds Tryz.pinned (.plain (OpenSpec.ofChange fnOnceSpec)) fnOnceCard

/-- THE TIED CARD OF 'laws.FnShake'. -/
def fnShakeCard : Claim7 := { stood := { row := fnShakeRow, standIns := [], harness := (true, "e65c76fe9de554d4a66572c0dc647ad811d781b28887b4db851134c4420650ee"), looks := false }, kinds := [], alts := [], laidByText := true, laidKinds := [.data, .data, .data, .listed, .data], laidTests := true, laidLooks := .later }
def FnShakeCardSaid : Prop := Claim7.holds Tryz.pinned (.plain (OpenSpec.ofChange fnShakeSpec)) fnShakeCard

/-- THE SECOND FORM's CARD OF 'laws.FnSimple'. -/
def fnSimpleUptoCard : Claim7 := { stood := { row := fnSimpleUptoRow, standIns := [], harness := (true, "e65c76fe9de554d4a66572c0dc647ad811d781b28887b4db851134c4420650ee"), looks := false }, kinds := [], alts := [], laidByText := true, laidKinds := [.data, .data, .data, .listed, .data], laidTests := true, laidLooks := .later }
def FnSimpleUptoCardSaid : Prop := Claim7.holds Tryz.pinned (.plain (OpenSpec.upto fnSimpleSpec)) fnSimpleUptoCard

/-- THE SECOND FORM's CARD OF 'laws.FnOnce'. -/
def fnOnceUptoCard : Claim7 := { stood := { row := fnOnceUptoRow, standIns := [], harness := (true, "e65c76fe9de554d4a66572c0dc647ad811d781b28887b4db851134c4420650ee"), looks := false }, kinds := [], alts := [], laidByText := true, laidKinds := [.data, .data, .data, .listed, .data], laidTests := true, laidLooks := .later }
def FnOnceUptoCardSaid : Prop := Claim7.holds Tryz.pinned (.plain (OpenSpec.upto fnOnceSpec)) fnOnceUptoCard

/-- THE SECOND FORM's CARD OF 'laws.FnShake'. -/
def fnShakeUptoCard : Claim7 := { stood := { row := fnShakeUptoRow, standIns := [], harness := (true, "e65c76fe9de554d4a66572c0dc647ad811d781b28887b4db851134c4420650ee"), looks := false }, kinds := [], alts := [], laidByText := true, laidKinds := [.data, .data, .data, .listed, .data], laidTests := true, laidLooks := .later }
def FnShakeUptoCardSaid : Prop := Claim7.holds Tryz.pinned (.plain (OpenSpec.upto fnShakeSpec)) fnShakeUptoCard
end Rows
end Go.Proofs.YtmedombacbpofaaGreatDoor
