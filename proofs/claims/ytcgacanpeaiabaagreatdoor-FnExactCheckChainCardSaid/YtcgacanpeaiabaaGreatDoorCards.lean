/-
  DERIVED. GIVEN WITH THE SEED: THE CARDS: each row of YtcgacanpeaiabaaGreatDoorRows.lean that lists a variable, with what it lists TIED to the program's text (the seventh form; the later family's looks); each row that meets fmt, with fmt's text TOLD by the authors' own Lean function (tested against real Go, not proved from fmt's source: count such statements apart). THE CARD IS WHAT COUNTS. Prove the row's statement (the work); the ties are given (YtcgacanpeaiabaaGreatDoorTie.lean); close each card by the builder's one call (the guide's Derived/Test/ToyasCard.lean, 'card_holds'). Laid BY PROGRAM, IN A SANDBOX (cutbox-door.mjs). By AI agents, Wed Nov 11 2026. No macro, syntax, notation, axiom, sorry.
-/
import Derived.Test.YtcgacanpeaiabaaGreatDoorRows
import GoSem.ClaimSeven
namespace Go.Proofs.YtcgacanpeaiabaaGreatDoor
namespace Rows

/-- THE TIED CARD OF 'laws.FnExactPathGreater'. -/
def fnExactPathGreaterCard : Claim7 := { stood := { row := fnExactPathGreaterRow, standIns := [], harness := (true, "0e8af4746656ed7704ec6415cfcccaf16ee18e1b10b38e539557a2b78d2a6743"), looks := false }, kinds := [], alts := [], laidByText := true, laidKinds := [.data, .data, .data], laidTests := true, laidLooks := .later }
def FnExactPathGreaterCardSaid : Prop := Claim7.holds Tryz.pinned (.plain (OpenSpec.ofChange fnExactPathGreaterSpec)) fnExactPathGreaterCard

/-- THE TIED CARD OF 'laws.FnExactRenameEquation'. -/
def fnExactRenameEquationCard : Claim7 := { stood := { row := fnExactRenameEquationRow, standIns := [], harness := (true, "0e8af4746656ed7704ec6415cfcccaf16ee18e1b10b38e539557a2b78d2a6743"), looks := false }, kinds := [], alts := [], laidByText := true, laidKinds := [.data, .data, .data], laidTests := true, laidLooks := .later }
def FnExactRenameEquationCardSaid : Prop := Claim7.holds Tryz.pinned (.plain (OpenSpec.ofChange fnExactRenameEquationSpec)) fnExactRenameEquationCard

/-- THE TIED CARD OF 'laws.FnExactCheckChain'. -/
def fnExactCheckChainCard : Claim7 := { stood := { row := fnExactCheckChainRow, standIns := [], harness := (true, "0e8af4746656ed7704ec6415cfcccaf16ee18e1b10b38e539557a2b78d2a6743"), looks := false }, kinds := [], alts := [], laidByText := true, laidKinds := [.data, .data, .data], laidTests := true, laidLooks := .later }
def FnExactCheckChainCardSaid : Prop := Claim7.holds Tryz.pinned (.plain (OpenSpec.ofChange fnExactCheckChainSpec)) fnExactCheckChainCard

/-- THE TIED CARD OF 'laws.FnExactChainTerms'. -/
def fnExactChainTermsCard : Claim7 := { stood := { row := fnExactChainTermsRow, standIns := [], harness := (true, "0e8af4746656ed7704ec6415cfcccaf16ee18e1b10b38e539557a2b78d2a6743"), looks := false }, kinds := [], alts := [], laidByText := true, laidKinds := [.data, .data, .data], laidTests := true, laidLooks := .later }
def FnExactChainTermsCardSaid : Prop := Claim7.holds Tryz.pinned (.plain (OpenSpec.ofChange fnExactChainTermsSpec)) fnExactChainTermsCard

/-- THE TIED CARD OF 'laws.FnExactReferenceMatches'. -/
def fnExactReferenceMatchesCard : Claim7 := { stood := { row := fnExactReferenceMatchesRow, standIns := [], harness := (true, "0e8af4746656ed7704ec6415cfcccaf16ee18e1b10b38e539557a2b78d2a6743"), looks := false }, kinds := [], alts := [], laidByText := true, laidKinds := [.data, .data, .data], laidTests := true, laidLooks := .later }
def FnExactReferenceMatchesCardSaid : Prop := Claim7.holds Tryz.pinned (.plain (OpenSpec.ofChange fnExactReferenceMatchesSpec)) fnExactReferenceMatchesCard

/-- THE SECOND FORM's CARD OF 'laws.FnExactPathGreater'. -/
def fnExactPathGreaterUptoCard : Claim7 := { stood := { row := fnExactPathGreaterUptoRow, standIns := [], harness := (true, "0e8af4746656ed7704ec6415cfcccaf16ee18e1b10b38e539557a2b78d2a6743"), looks := false }, kinds := [], alts := [], laidByText := true, laidKinds := [.data, .data, .data], laidTests := true, laidLooks := .later }
def FnExactPathGreaterUptoCardSaid : Prop := Claim7.holds Tryz.pinned (.plain (OpenSpec.upto fnExactPathGreaterSpec)) fnExactPathGreaterUptoCard

/-- THE SECOND FORM's CARD OF 'laws.FnExactRenameEquation'. -/
def fnExactRenameEquationUptoCard : Claim7 := { stood := { row := fnExactRenameEquationUptoRow, standIns := [], harness := (true, "0e8af4746656ed7704ec6415cfcccaf16ee18e1b10b38e539557a2b78d2a6743"), looks := false }, kinds := [], alts := [], laidByText := true, laidKinds := [.data, .data, .data], laidTests := true, laidLooks := .later }
def FnExactRenameEquationUptoCardSaid : Prop := Claim7.holds Tryz.pinned (.plain (OpenSpec.upto fnExactRenameEquationSpec)) fnExactRenameEquationUptoCard

/-- THE SECOND FORM's CARD OF 'laws.FnExactCheckChain'. -/
def fnExactCheckChainUptoCard : Claim7 := { stood := { row := fnExactCheckChainUptoRow, standIns := [], harness := (true, "0e8af4746656ed7704ec6415cfcccaf16ee18e1b10b38e539557a2b78d2a6743"), looks := false }, kinds := [], alts := [], laidByText := true, laidKinds := [.data, .data, .data], laidTests := true, laidLooks := .later }
def FnExactCheckChainUptoCardSaid : Prop := Claim7.holds Tryz.pinned (.plain (OpenSpec.upto fnExactCheckChainSpec)) fnExactCheckChainUptoCard

/-- THE SECOND FORM's CARD OF 'laws.FnExactChainTerms'. -/
def fnExactChainTermsUptoCard : Claim7 := { stood := { row := fnExactChainTermsUptoRow, standIns := [], harness := (true, "0e8af4746656ed7704ec6415cfcccaf16ee18e1b10b38e539557a2b78d2a6743"), looks := false }, kinds := [], alts := [], laidByText := true, laidKinds := [.data, .data, .data], laidTests := true, laidLooks := .later }
def FnExactChainTermsUptoCardSaid : Prop := Claim7.holds Tryz.pinned (.plain (OpenSpec.upto fnExactChainTermsSpec)) fnExactChainTermsUptoCard

/-- THE SECOND FORM's CARD OF 'laws.FnExactReferenceMatches'. -/
def fnExactReferenceMatchesUptoCard : Claim7 := { stood := { row := fnExactReferenceMatchesUptoRow, standIns := [], harness := (true, "0e8af4746656ed7704ec6415cfcccaf16ee18e1b10b38e539557a2b78d2a6743"), looks := false }, kinds := [], alts := [], laidByText := true, laidKinds := [.data, .data, .data], laidTests := true, laidLooks := .later }
def FnExactReferenceMatchesUptoCardSaid : Prop := Claim7.holds Tryz.pinned (.plain (OpenSpec.upto fnExactReferenceMatchesSpec)) fnExactReferenceMatchesUptoCard
end Rows
end Go.Proofs.YtcgacanpeaiabaaGreatDoor
