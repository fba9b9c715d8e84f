/-
  DERIVED. GIVEN WITH THE SEED: THE CARDS: each row of YtkigoajepohkaaaGreatDoorRows.lean that lists a variable, with what it lists TIED to the program's text (the seventh form; the later family's looks); each row that meets fmt, with fmt's text TOLD by the authors' own Lean function (tested against real Go, not proved from fmt's source: count such statements apart). THE CARD IS WHAT COUNTS. Prove the row's statement (the work); the ties are given (YtkigoajepohkaaaGreatDoorTie.lean); close each card by the builder's one call (the guide's Derived/Test/ToyasCard.lean, 'card_holds'). Laid BY PROGRAM, IN A SANDBOX (cutbox-door.mjs). By AI agents, Wed Nov 11 2026. No macro, syntax, notation, axiom, sorry.
-/
import Derived.Test.YtkigoajepohkaaaGreatDoorRows
import GoSem.ClaimSeven
namespace Go.Proofs.YtkigoajepohkaaaGreatDoor
namespace Rows

/-- THE TIED CARD OF 'laws.FnExactReferenceMatches'. -/
def fnExactReferenceMatchesCard : Claim7 := { stood := { row := fnExactReferenceMatchesRow, standIns := [], harness := (true, "6ecada7545ba1599da77667813c902735641e93b3c2c1a6ec4e9e56761082dd5"), looks := false }, kinds := [], alts := [], laidByText := true, laidKinds := [.data, .data, .data], laidTests := true, laidLooks := .later }
def FnExactReferenceMatchesCardSaid : Prop := Claim7.holds Tryz.pinned (.plain (OpenSpec.ofChange fnExactReferenceMatchesSpec)) fnExactReferenceMatchesCard

/-- THE SECOND FORM's CARD OF 'laws.FnExactReferenceMatches'. -/
def fnExactReferenceMatchesUptoCard : Claim7 := { stood := { row := fnExactReferenceMatchesUptoRow, standIns := [], harness := (true, "6ecada7545ba1599da77667813c902735641e93b3c2c1a6ec4e9e56761082dd5"), looks := false }, kinds := [], alts := [], laidByText := true, laidKinds := [.data, .data, .data], laidTests := true, laidLooks := .later }
def FnExactReferenceMatchesUptoCardSaid : Prop := Claim7.holds Tryz.pinned (.plain (OpenSpec.upto fnExactReferenceMatchesSpec)) fnExactReferenceMatchesUptoCard
end Rows
end Go.Proofs.YtkigoajepohkaaaGreatDoor
