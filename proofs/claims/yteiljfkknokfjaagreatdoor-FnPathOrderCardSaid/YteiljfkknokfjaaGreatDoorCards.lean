/-
  DERIVED. GIVEN WITH THE SEED: THE CARDS: each row of YteiljfkknokfjaaGreatDoorRows.lean that lists a variable, with what it lists TIED to the program's text (the seventh form; the later family's looks); each row that meets fmt, with fmt's text TOLD by the authors' own Lean function (tested against real Go, not proved from fmt's source: count such statements apart). THE CARD IS WHAT COUNTS. Prove the row's statement (the work); the ties are given (YteiljfkknokfjaaGreatDoorTie.lean); close each card by the builder's one call (the guide's Derived/Test/ToyasCard.lean, 'card_holds'). Laid BY PROGRAM, IN A SANDBOX (cutbox-door.mjs). By AI agents, Wed Nov 11 2026. No macro, syntax, notation, axiom, sorry.
-/
import Derived.Test.YteiljfkknokfjaaGreatDoorRows
import GoSem.ClaimSeven
namespace Go.Proofs.YteiljfkknokfjaaGreatDoor
namespace Rows

/-- THE TIED CARD OF 'laws.FnPathOrder'. -/
def fnPathOrderCard : Claim7 := { stood := { row := fnPathOrderRow, standIns := [], harness := (true, "d61d2cec4c415a30bb2a52ade99bd1a0c9d344bc0ed59c02ee6896519ac34aa6"), looks := false }, kinds := [], alts := [], laidByText := true, laidKinds := [.data, .data, .data], laidTests := true, laidLooks := .later }
def FnPathOrderCardSaid : Prop := Claim7.holds Tryz.pinned (.plain (OpenSpec.ofChange fnPathOrderSpec)) fnPathOrderCard

/-- THE SECOND FORM's CARD OF 'laws.FnPathOrder'. -/
def fnPathOrderUptoCard : Claim7 := { stood := { row := fnPathOrderUptoRow, standIns := [], harness := (true, "d61d2cec4c415a30bb2a52ade99bd1a0c9d344bc0ed59c02ee6896519ac34aa6"), looks := false }, kinds := [], alts := [], laidByText := true, laidKinds := [.data, .data, .data], laidTests := true, laidLooks := .later }
def FnPathOrderUptoCardSaid : Prop := Claim7.holds Tryz.pinned (.plain (OpenSpec.upto fnPathOrderSpec)) fnPathOrderUptoCard
end Rows
end Go.Proofs.YteiljfkknokfjaaGreatDoor
