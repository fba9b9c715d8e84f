/-
  DERIVED. GIVEN WITH THE SEED: THE CARDS: each row of YtffmjghcpgpfpaaGreatDoorRows.lean that lists a variable, with what it lists TIED to the program's text (the seventh form; the later family's looks); each row that meets fmt, with fmt's text TOLD by the authors' own Lean function (tested against real Go, not proved from fmt's source: count such statements apart). THE CARD IS WHAT COUNTS. Prove the row's statement (the work); the ties are given (YtffmjghcpgpfpaaGreatDoorTie.lean); close each card by the builder's one call (the guide's Derived/Test/ToyasCard.lean, 'card_holds'). Laid BY PROGRAM, IN A SANDBOX (cutbox-door.mjs). By AI agents, Wed Nov 11 2026. No macro, syntax, notation, axiom, sorry.
-/
import Derived.Test.YtffmjghcpgpfpaaGreatDoorRows
import GoSem.ClaimSeven
namespace Go.Proofs.YtffmjghcpgpfpaaGreatDoor
namespace Rows

/-- THE TIED CARD OF 'laws.FnExactPathGreater'. -/
def fnExactPathGreaterCard : Claim7 := { stood := { row := fnExactPathGreaterRow, standIns := [], harness := (true, "b90c3e6e7a6fd3dcdafdad91bc1b8218f0dd38b00ad30e788f60f3e4d78303a1"), looks := false }, kinds := [], alts := [], laidByText := true, laidKinds := [.data, .data, .data], laidTests := true, laidLooks := .later }
def FnExactPathGreaterCardSaid : Prop := Claim7.holds Tryz.pinned (.plain (OpenSpec.ofChange fnExactPathGreaterSpec)) fnExactPathGreaterCard

/-- THE TIED CARD OF 'laws.FnExactIsUnifier'. -/
def fnExactIsUnifierCard : Claim7 := { stood := { row := fnExactIsUnifierRow, standIns := [], harness := (true, "b90c3e6e7a6fd3dcdafdad91bc1b8218f0dd38b00ad30e788f60f3e4d78303a1"), looks := false }, kinds := [], alts := [], laidByText := true, laidKinds := [.data, .data, .data], laidTests := true, laidLooks := .later }
def FnExactIsUnifierCardSaid : Prop := Claim7.holds Tryz.pinned (.plain (OpenSpec.ofChange fnExactIsUnifierSpec)) fnExactIsUnifierCard

/-- THE TIED CARD OF 'laws.FnExactApplySubstitution'. -/
def fnExactApplySubstitutionCard : Claim7 := { stood := { row := fnExactApplySubstitutionRow, standIns := [], harness := (true, "b90c3e6e7a6fd3dcdafdad91bc1b8218f0dd38b00ad30e788f60f3e4d78303a1"), looks := false }, kinds := [], alts := [], laidByText := true, laidKinds := [.data, .data, .data], laidTests := true, laidLooks := .later }
def FnExactApplySubstitutionCardSaid : Prop := Claim7.holds Tryz.pinned (.plain (OpenSpec.ofChange fnExactApplySubstitutionSpec)) fnExactApplySubstitutionCard

/-- THE TIED CARD OF 'laws.FnExactIsMatch'. -/
def fnExactIsMatchCard : Claim7 := { stood := { row := fnExactIsMatchRow, standIns := [], harness := (true, "b90c3e6e7a6fd3dcdafdad91bc1b8218f0dd38b00ad30e788f60f3e4d78303a1"), looks := false }, kinds := [], alts := [], laidByText := true, laidKinds := [.data, .data, .data], laidTests := true, laidLooks := .later }
def FnExactIsMatchCardSaid : Prop := Claim7.holds Tryz.pinned (.plain (OpenSpec.ofChange fnExactIsMatchSpec)) fnExactIsMatchCard

/-- THE TIED CARD OF 'laws.FnExactComposeSubstitutions'. -/
def fnExactComposeSubstitutionsCard : Claim7 := { stood := { row := fnExactComposeSubstitutionsRow, standIns := [], harness := (true, "b90c3e6e7a6fd3dcdafdad91bc1b8218f0dd38b00ad30e788f60f3e4d78303a1"), looks := false }, kinds := [], alts := [], laidByText := true, laidKinds := [.data, .data, .data], laidTests := true, laidLooks := .later }
def FnExactComposeSubstitutionsCardSaid : Prop := Claim7.holds Tryz.pinned (.plain (OpenSpec.ofChange fnExactComposeSubstitutionsSpec)) fnExactComposeSubstitutionsCard

/-- THE TIED CARD OF 'laws.FnExactIsSortDecreasing'. -/
def fnExactIsSortDecreasingCard : Claim7 := { stood := { row := fnExactIsSortDecreasingRow, standIns := [], harness := (true, "b90c3e6e7a6fd3dcdafdad91bc1b8218f0dd38b00ad30e788f60f3e4d78303a1"), looks := false }, kinds := [], alts := [], laidByText := true, laidKinds := [.data, .data, .data], laidTests := true, laidLooks := .later }
def FnExactIsSortDecreasingCardSaid : Prop := Claim7.holds Tryz.pinned (.plain (OpenSpec.ofChange fnExactIsSortDecreasingSpec)) fnExactIsSortDecreasingCard

/-- THE SECOND FORM's CARD OF 'laws.FnExactPathGreater'. -/
def fnExactPathGreaterUptoCard : Claim7 := { stood := { row := fnExactPathGreaterUptoRow, standIns := [], harness := (true, "b90c3e6e7a6fd3dcdafdad91bc1b8218f0dd38b00ad30e788f60f3e4d78303a1"), looks := false }, kinds := [], alts := [], laidByText := true, laidKinds := [.data, .data, .data], laidTests := true, laidLooks := .later }
def FnExactPathGreaterUptoCardSaid : Prop := Claim7.holds Tryz.pinned (.plain (OpenSpec.upto fnExactPathGreaterSpec)) fnExactPathGreaterUptoCard

/-- THE SECOND FORM's CARD OF 'laws.FnExactIsUnifier'. -/
def fnExactIsUnifierUptoCard : Claim7 := { stood := { row := fnExactIsUnifierUptoRow, standIns := [], harness := (true, "b90c3e6e7a6fd3dcdafdad91bc1b8218f0dd38b00ad30e788f60f3e4d78303a1"), looks := false }, kinds := [], alts := [], laidByText := true, laidKinds := [.data, .data, .data], laidTests := true, laidLooks := .later }
def FnExactIsUnifierUptoCardSaid : Prop := Claim7.holds Tryz.pinned (.plain (OpenSpec.upto fnExactIsUnifierSpec)) fnExactIsUnifierUptoCard

/-- THE SECOND FORM's CARD OF 'laws.FnExactApplySubstitution'. -/
def fnExactApplySubstitutionUptoCard : Claim7 := { stood := { row := fnExactApplySubstitutionUptoRow, standIns := [], harness := (true, "b90c3e6e7a6fd3dcdafdad91bc1b8218f0dd38b00ad30e788f60f3e4d78303a1"), looks := false }, kinds := [], alts := [], laidByText := true, laidKinds := [.data, .data, .data], laidTests := true, laidLooks := .later }
def FnExactApplySubstitutionUptoCardSaid : Prop := Claim7.holds Tryz.pinned (.plain (OpenSpec.upto fnExactApplySubstitutionSpec)) fnExactApplySubstitutionUptoCard

/-- THE SECOND FORM's CARD OF 'laws.FnExactIsMatch'. -/
def fnExactIsMatchUptoCard : Claim7 := { stood := { row := fnExactIsMatchUptoRow, standIns := [], harness := (true, "b90c3e6e7a6fd3dcdafdad91bc1b8218f0dd38b00ad30e788f60f3e4d78303a1"), looks := false }, kinds := [], alts := [], laidByText := true, laidKinds := [.data, .data, .data], laidTests := true, laidLooks := .later }
def FnExactIsMatchUptoCardSaid : Prop := Claim7.holds Tryz.pinned (.plain (OpenSpec.upto fnExactIsMatchSpec)) fnExactIsMatchUptoCard

/-- THE SECOND FORM's CARD OF 'laws.FnExactComposeSubstitutions'. -/
def fnExactComposeSubstitutionsUptoCard : Claim7 := { stood := { row := fnExactComposeSubstitutionsUptoRow, standIns := [], harness := (true, "b90c3e6e7a6fd3dcdafdad91bc1b8218f0dd38b00ad30e788f60f3e4d78303a1"), looks := false }, kinds := [], alts := [], laidByText := true, laidKinds := [.data, .data, .data], laidTests := true, laidLooks := .later }
def FnExactComposeSubstitutionsUptoCardSaid : Prop := Claim7.holds Tryz.pinned (.plain (OpenSpec.upto fnExactComposeSubstitutionsSpec)) fnExactComposeSubstitutionsUptoCard

/-- THE SECOND FORM's CARD OF 'laws.FnExactIsSortDecreasing'. -/
def fnExactIsSortDecreasingUptoCard : Claim7 := { stood := { row := fnExactIsSortDecreasingUptoRow, standIns := [], harness := (true, "b90c3e6e7a6fd3dcdafdad91bc1b8218f0dd38b00ad30e788f60f3e4d78303a1"), looks := false }, kinds := [], alts := [], laidByText := true, laidKinds := [.data, .data, .data], laidTests := true, laidLooks := .later }
def FnExactIsSortDecreasingUptoCardSaid : Prop := Claim7.holds Tryz.pinned (.plain (OpenSpec.upto fnExactIsSortDecreasingSpec)) fnExactIsSortDecreasingUptoCard
end Rows
end Go.Proofs.YtffmjghcpgpfpaaGreatDoor
