/-
  DERIVED. GIVEN WITH THE SEED: THE CARDS: each row of YtbecmfjokofihaaGreatDoorRows.lean that lists a variable, with what it lists TIED to the program's text (the seventh form; the later family's looks); each row that meets fmt, with fmt's text TOLD by the authors' own Lean function (tested against real Go, not proved from fmt's source: count such statements apart). THE CARD IS WHAT COUNTS. Prove the row's statement (the work); the ties are given (YtbecmfjokofihaaGreatDoorTie.lean); close each card by the builder's one call (the guide's Derived/Test/ToyasCard.lean, 'card_holds'). Laid BY PROGRAM, IN A SANDBOX (cutbox-door.mjs). By AI agents, Wed Nov 11 2026. No macro, syntax, notation, axiom, sorry.
-/
import Derived.Test.YtbecmfjokofihaaGreatDoorRows
import GoSem.ClaimSeven
namespace Go.Proofs.YtbecmfjokofihaaGreatDoor
namespace Rows

/-- THE TIED CARD OF 'laws.FnExactChainTerms'. -/
def fnExactChainTermsCard : Claim7 := { stood := { row := fnExactChainTermsRow, standIns := [], harness := (true, "b39e05738a3b5a43dc36672dedf5398a719ebeb4dac4ad206a062078ffcfce96"), looks := false }, kinds := [], alts := [], laidByText := true, laidKinds := [.data, .data, .data], laidTests := true, laidLooks := .later }
def FnExactChainTermsCardSaid : Prop := Claim7.holds Tryz.pinned (.plain (OpenSpec.ofChange fnExactChainTermsSpec)) fnExactChainTermsCard

/-- THE TIED CARD OF 'laws.FnExactUnify'. -/
def fnExactUnifyCard : Claim7 := { stood := { row := fnExactUnifyRow, standIns := [], harness := (true, "b39e05738a3b5a43dc36672dedf5398a719ebeb4dac4ad206a062078ffcfce96"), looks := false }, kinds := [], alts := [], laidByText := true, laidKinds := [.data, .data, .data], laidTests := true, laidLooks := .later }
def FnExactUnifyCardSaid : Prop := Claim7.holds Tryz.pinned (.plain (OpenSpec.ofChange fnExactUnifySpec)) fnExactUnifyCard

/-- THE TIED CARD OF 'laws.FnUnifiers'. -/
def fnUnifiersCard : Claim7 := { stood := { row := fnUnifiersRow, standIns := [], harness := (true, "b39e05738a3b5a43dc36672dedf5398a719ebeb4dac4ad206a062078ffcfce96"), looks := false }, kinds := [], alts := [], laidByText := true, laidKinds := [.data, .data, .data], laidTests := true, laidLooks := .later }
def FnUnifiersCardSaid : Prop := Claim7.holds Tryz.pinned (.plain (OpenSpec.ofChange fnUnifiersSpec)) fnUnifiersCard

/-- THE SECOND FORM's CARD OF 'laws.FnExactChainTerms'. -/
def fnExactChainTermsUptoCard : Claim7 := { stood := { row := fnExactChainTermsUptoRow, standIns := [], harness := (true, "b39e05738a3b5a43dc36672dedf5398a719ebeb4dac4ad206a062078ffcfce96"), looks := false }, kinds := [], alts := [], laidByText := true, laidKinds := [.data, .data, .data], laidTests := true, laidLooks := .later }
def FnExactChainTermsUptoCardSaid : Prop := Claim7.holds Tryz.pinned (.plain (OpenSpec.upto fnExactChainTermsSpec)) fnExactChainTermsUptoCard

/-- THE SECOND FORM's CARD OF 'laws.FnExactUnify'. -/
def fnExactUnifyUptoCard : Claim7 := { stood := { row := fnExactUnifyUptoRow, standIns := [], harness := (true, "b39e05738a3b5a43dc36672dedf5398a719ebeb4dac4ad206a062078ffcfce96"), looks := false }, kinds := [], alts := [], laidByText := true, laidKinds := [.data, .data, .data], laidTests := true, laidLooks := .later }
def FnExactUnifyUptoCardSaid : Prop := Claim7.holds Tryz.pinned (.plain (OpenSpec.upto fnExactUnifySpec)) fnExactUnifyUptoCard

/-- THE SECOND FORM's CARD OF 'laws.FnUnifiers'. -/
def fnUnifiersUptoCard : Claim7 := { stood := { row := fnUnifiersUptoRow, standIns := [], harness := (true, "b39e05738a3b5a43dc36672dedf5398a719ebeb4dac4ad206a062078ffcfce96"), looks := false }, kinds := [], alts := [], laidByText := true, laidKinds := [.data, .data, .data], laidTests := true, laidLooks := .later }
def FnUnifiersUptoCardSaid : Prop := Claim7.holds Tryz.pinned (.plain (OpenSpec.upto fnUnifiersSpec)) fnUnifiersUptoCard
end Rows
end Go.Proofs.YtbecmfjokofihaaGreatDoor
