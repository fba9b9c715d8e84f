/-
  DERIVED. GIVEN WITH THE SEED: THE CARDS: each row of YtmdkimnlbaahbaaGreatDoorRows.lean that lists a variable, with what it lists TIED to the program's text (the seventh form; the later family's looks); each row that meets fmt, with fmt's text TOLD by the authors' own Lean function (tested against real Go, not proved from fmt's source: count such statements apart). THE CARD IS WHAT COUNTS. Prove the row's statement (the work); the ties are given (YtmdkimnlbaahbaaGreatDoorTie.lean); close each card by the builder's one call (the guide's Derived/Test/ToyasCard.lean, 'card_holds'). Laid BY PROGRAM, IN A SANDBOX (cutbox-door.mjs). By AI agents, Wed Nov 11 2026. No macro, syntax, notation, axiom, sorry.
-/
import Derived.Test.YtmdkimnlbaahbaaGreatDoorRows
import GoSem.ClaimSeven
namespace Go.Proofs.YtmdkimnlbaahbaaGreatDoor
namespace Rows

/-- THE TIED CARD OF 'laws.FnCompose'. -/
def fnComposeCard : Claim7 := { stood := { row := fnComposeRow, standIns := [], harness := (true, "0db9f099191cd70f0cd65a2de2970b4671b0d9045446ebab5327e24affeeadb5"), looks := false }, kinds := [], alts := [], laidByText := true, laidKinds := [.data, .data, .data], laidTests := true, laidLooks := .later }
def FnComposeCardSaid : Prop := Claim7.holds Tryz.pinned (.plain (OpenSpec.ofChange fnComposeSpec)) fnComposeCard

/-- THE SECOND FORM's CARD OF 'laws.FnCompose'. -/
def fnComposeUptoCard : Claim7 := { stood := { row := fnComposeUptoRow, standIns := [], harness := (true, "0db9f099191cd70f0cd65a2de2970b4671b0d9045446ebab5327e24affeeadb5"), looks := false }, kinds := [], alts := [], laidByText := true, laidKinds := [.data, .data, .data], laidTests := true, laidLooks := .later }
def FnComposeUptoCardSaid : Prop := Claim7.holds Tryz.pinned (.plain (OpenSpec.upto fnComposeSpec)) fnComposeUptoCard
end Rows
end Go.Proofs.YtmdkimnlbaahbaaGreatDoor
