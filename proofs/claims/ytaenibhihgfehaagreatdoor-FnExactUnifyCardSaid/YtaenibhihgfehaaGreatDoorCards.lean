/-
  DERIVED. GIVEN WITH THE SEED: THE CARDS: each row of YtaenibhihgfehaaGreatDoorRows.lean that lists a variable, with what it lists TIED to the program's text (the seventh form; the later family's looks); each row that meets fmt, with fmt's text TOLD by the authors' own Lean function (tested against real Go, not proved from fmt's source: count such statements apart). THE CARD IS WHAT COUNTS. Prove the row's statement (the work); the ties are given (YtaenibhihgfehaaGreatDoorTie.lean); close each card by the builder's one call (the guide's Derived/Test/ToyasCard.lean, 'card_holds'). Laid BY PROGRAM, IN A SANDBOX (cutbox-door.mjs). By AI agents, Wed Nov 11 2026. No macro, syntax, notation, axiom, sorry.
-/
import Derived.Test.YtaenibhihgfehaaGreatDoorRows
import GoSem.ClaimSeven
namespace Go.Proofs.YtaenibhihgfehaaGreatDoor
namespace Rows

/-- THE TIED CARD OF 'laws.FnExactUnify'. -/
def fnExactUnifyCard : Claim7 := { stood := { row := fnExactUnifyRow, standIns := [], harness := (true, "af757ec575429c8b40af87e8e5740eb18da84b9ddb4c77d6edc431bb540bd4e9"), looks := false }, kinds := [], alts := [], laidByText := true, laidKinds := [.data, .data, .data], laidTests := true, laidLooks := .later }
def FnExactUnifyCardSaid : Prop := Claim7.holds Tryz.pinned (.plain (OpenSpec.ofChange fnExactUnifySpec)) fnExactUnifyCard

/-- THE SECOND FORM's CARD OF 'laws.FnExactUnify'. -/
def fnExactUnifyUptoCard : Claim7 := { stood := { row := fnExactUnifyUptoRow, standIns := [], harness := (true, "af757ec575429c8b40af87e8e5740eb18da84b9ddb4c77d6edc431bb540bd4e9"), looks := false }, kinds := [], alts := [], laidByText := true, laidKinds := [.data, .data, .data], laidTests := true, laidLooks := .later }
def FnExactUnifyUptoCardSaid : Prop := Claim7.holds Tryz.pinned (.plain (OpenSpec.upto fnExactUnifySpec)) fnExactUnifyUptoCard
end Rows
end Go.Proofs.YtaenibhihgfehaaGreatDoor
