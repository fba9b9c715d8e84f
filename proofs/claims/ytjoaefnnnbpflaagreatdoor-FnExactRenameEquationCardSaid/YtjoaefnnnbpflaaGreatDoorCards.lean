/-
  DERIVED. GIVEN WITH THE SEED: THE CARDS: each row of YtjoaefnnnbpflaaGreatDoorRows.lean that lists a variable, with what it lists TIED to the program's text (the seventh form; the later family's looks); each row that meets fmt, with fmt's text TOLD by the authors' own Lean function (tested against real Go, not proved from fmt's source: count such statements apart). THE CARD IS WHAT COUNTS. Prove the row's statement (the work); the ties are given (YtjoaefnnnbpflaaGreatDoorTie.lean); close each card by the builder's one call (the guide's Derived/Test/ToyasCard.lean, 'card_holds'). Laid BY PROGRAM, IN A SANDBOX (cutbox-door.mjs). By AI agents, Wed Nov 11 2026. No macro, syntax, notation, axiom, sorry.
-/
import Derived.Test.YtjoaefnnnbpflaaGreatDoorRows
import GoSem.ClaimSeven
namespace Go.Proofs.YtjoaefnnnbpflaaGreatDoor
namespace Rows

/-- THE TIED CARD OF 'laws.FnExactRenameEquation'. -/
def fnExactRenameEquationCard : Claim7 := { stood := { row := fnExactRenameEquationRow, standIns := [], harness := (true, "4834339c275275a2531432e2e4aec017a1807f2f4d61a82dfd4db9b090759de5"), looks := false }, kinds := [], alts := [], laidByText := true, laidKinds := [.data, .data, .data], laidTests := true, laidLooks := .later }
def FnExactRenameEquationCardSaid : Prop := Claim7.holds Tryz.pinned (.plain (OpenSpec.ofChange fnExactRenameEquationSpec)) fnExactRenameEquationCard

/-- THE SECOND FORM's CARD OF 'laws.FnExactRenameEquation'. -/
def fnExactRenameEquationUptoCard : Claim7 := { stood := { row := fnExactRenameEquationUptoRow, standIns := [], harness := (true, "4834339c275275a2531432e2e4aec017a1807f2f4d61a82dfd4db9b090759de5"), looks := false }, kinds := [], alts := [], laidByText := true, laidKinds := [.data, .data, .data], laidTests := true, laidLooks := .later }
def FnExactRenameEquationUptoCardSaid : Prop := Claim7.holds Tryz.pinned (.plain (OpenSpec.upto fnExactRenameEquationSpec)) fnExactRenameEquationUptoCard
end Rows
end Go.Proofs.YtjoaefnnnbpflaaGreatDoor
