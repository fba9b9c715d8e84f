/-
  NARROWER THAN 'FOR EVERY INPUT', by the rows' own cells (each row's printed sentence says how): FnExactIsModel: loops · FnExactDecreases: loops · FnExactIsPlain: loops · FnExactWeightForm: loops · FnExactFormatEquation: loops · FnExactCandidateTerms: loops · FnExactTakenAt: loops.
  DERIVED. THE GIVEN ROWS OF THIS SEAT. 7 by the template 'for every input the law returns true; each argument reads behind the call as it read before'; 0 by the template 'total and deterministic' (their statements: YtofklmbljbkdaaaGreatTotals.lean).
  GIVEN WITH THE SEED: the statements are not yours to turn. If you find one false, say at which input.
  Laid BY PROGRAM, IN A SANDBOX (cutbox-rows.mjs): the forced cells as the released guide's own fill.sh prints them over the translation efcb84933214f44a… (all of the seat's roots in one cut). By AI agents, Wed Nov 11 2026. No macro, syntax, notation, axiom, sorry.
-/
import Derived.Test.YtofklmbljbkdaaaGreatChecked
import GoSem.Claim
import GoSem.ClaimJoined
import GoSem.ClaimMapViews
import Derived.JoinedTies
import Derived.KernelRfl
namespace Go.Proofs.YtofklmbljbkdaaaGreat
/- THE CELL 'sum', in the pinned program and in every row, IS THE sha256 OF THE DUMP (.gsa) THAT YtofklmbljbkdaaaGreatProg.lean LOADS. Nothing in Lean hashes anything: it is a label: what it is worth is what the hold of that sum in a sandbox is worth. -/
noncomputable def Tryz.pinned : Pinned := { name := "ytofklmbljbkdaaagreat", sum := "efcb84933214f44a5ad2fe6093f63123946a617b79f88782a6458d2fb5010397", checked := Tryz.checked }
namespace Rows
def none {H : Type} : Left H := { results := [], args := [] }

/-- 'laws.FnExactIsModel': WHATEVER THE INPUT: true; the input reads as it did. -/
def fnExactIsModelSpec : ChangeSpec := { name := "fnExactIsModel", fn := fun _ => fun
  | [d1, d2] => { results := [.lit (.bool true)], args := [d1, d2] }
  | _ => none }
def fnExactIsModelRow : OpenClaim := { program := "ytofklmbljbkdaaagreat", sum := "efcb84933214f44a5ad2fe6093f63123946a617b79f88782a6458d2fb5010397", func := "loop.example/g03107/laws.FnExactIsModel", spec := "fnExactIsModel", inPlace := ["internal/bytealg.abigen_runtime_cmpstring"], unfollowed := true, recurses := true, loops := true, apart := false }
def FnExactIsModelSaid : Prop := fnExactIsModelRow.holds Tryz.pinned (OpenSpec.ofChange fnExactIsModelSpec)

/-- ITS FALSE NEIGHBOUR: 'it returns false'. Refute it at one input. -/
def fnExactIsModelWrong : ChangeSpec := { name := "fnExactIsModel", fn := fun _ => fun
  | [d1, d2] => { results := [.lit (.bool false)], args := [d1, d2] }
  | _ => none }
def FnExactIsModelWrongFalsely : Prop := fnExactIsModelRow.holds Tryz.pinned (OpenSpec.ofChange fnExactIsModelWrong)

/-- 'laws.FnExactDecreases': WHATEVER THE INPUT: true; the input reads as it did. -/
def fnExactDecreasesSpec : ChangeSpec := { name := "fnExactDecreases", fn := fun _ => fun
  | [d1, d2] => { results := [.lit (.bool true)], args := [d1, d2] }
  | _ => none }
def fnExactDecreasesRow : OpenClaim := { program := "ytofklmbljbkdaaagreat", sum := "efcb84933214f44a5ad2fe6093f63123946a617b79f88782a6458d2fb5010397", func := "loop.example/g03107/laws.FnExactDecreases", spec := "fnExactDecreases", inPlace := ["internal/bytealg.abigen_runtime_cmpstring"], unfollowed := true, recurses := true, loops := true, apart := false }
def FnExactDecreasesSaid : Prop := fnExactDecreasesRow.holds Tryz.pinned (OpenSpec.ofChange fnExactDecreasesSpec)

/-- ITS FALSE NEIGHBOUR: 'it returns false'. Refute it at one input. -/
def fnExactDecreasesWrong : ChangeSpec := { name := "fnExactDecreases", fn := fun _ => fun
  | [d1, d2] => { results := [.lit (.bool false)], args := [d1, d2] }
  | _ => none }
def FnExactDecreasesWrongFalsely : Prop := fnExactDecreasesRow.holds Tryz.pinned (OpenSpec.ofChange fnExactDecreasesWrong)

/-- 'laws.FnExactIsPlain': WHATEVER THE INPUT: true; the input reads as it did. -/
def fnExactIsPlainSpec : ChangeSpec := { name := "fnExactIsPlain", fn := fun _ => fun
  | [d] => { results := [.lit (.bool true)], args := [d] }
  | _ => none }
def fnExactIsPlainRow : OpenClaim := { program := "ytofklmbljbkdaaagreat", sum := "efcb84933214f44a5ad2fe6093f63123946a617b79f88782a6458d2fb5010397", func := "loop.example/g03107/laws.FnExactIsPlain", spec := "fnExactIsPlain", inPlace := ["internal/bytealg.abigen_runtime_cmpstring", "internal/bytealg.IndexByteString"], unfollowed := true, recurses := true, loops := true, apart := false }
def FnExactIsPlainSaid : Prop := fnExactIsPlainRow.holds Tryz.pinned (OpenSpec.ofChange fnExactIsPlainSpec)

/-- ITS FALSE NEIGHBOUR: 'it returns false'. Refute it at one input. -/
def fnExactIsPlainWrong : ChangeSpec := { name := "fnExactIsPlain", fn := fun _ => fun
  | [d] => { results := [.lit (.bool false)], args := [d] }
  | _ => none }
def FnExactIsPlainWrongFalsely : Prop := fnExactIsPlainRow.holds Tryz.pinned (OpenSpec.ofChange fnExactIsPlainWrong)

/-- 'laws.FnExactWeightForm': WHATEVER THE INPUT: true; the input reads as it did. -/
def fnExactWeightFormSpec : ChangeSpec := { name := "fnExactWeightForm", fn := fun _ => fun
  | [d1, d2, d3] => { results := [.lit (.bool true)], args := [d1, d2, d3] }
  | _ => none }
def fnExactWeightFormRow : OpenClaim := { program := "ytofklmbljbkdaaagreat", sum := "efcb84933214f44a5ad2fe6093f63123946a617b79f88782a6458d2fb5010397", func := "loop.example/g03107/laws.FnExactWeightForm", spec := "fnExactWeightForm", inPlace := ["internal/bytealg.abigen_runtime_cmpstring"], unfollowed := true, recurses := true, loops := true, apart := false }
def FnExactWeightFormSaid : Prop := fnExactWeightFormRow.holds Tryz.pinned (OpenSpec.ofChange fnExactWeightFormSpec)

/-- ITS FALSE NEIGHBOUR: 'it returns false'. Refute it at one input. -/
def fnExactWeightFormWrong : ChangeSpec := { name := "fnExactWeightForm", fn := fun _ => fun
  | [d1, d2, d3] => { results := [.lit (.bool false)], args := [d1, d2, d3] }
  | _ => none }
def FnExactWeightFormWrongFalsely : Prop := fnExactWeightFormRow.holds Tryz.pinned (OpenSpec.ofChange fnExactWeightFormWrong)

/-- 'laws.FnExactFormatEquation': WHATEVER THE INPUT: true; the input reads as it did. -/
def fnExactFormatEquationSpec : ChangeSpec := { name := "fnExactFormatEquation", fn := fun _ => fun
  | [d1, d2] => { results := [.lit (.bool true)], args := [d1, d2] }
  | _ => none }
def fnExactFormatEquationRow : OpenClaim := { program := "ytofklmbljbkdaaagreat", sum := "efcb84933214f44a5ad2fe6093f63123946a617b79f88782a6458d2fb5010397", func := "loop.example/g03107/laws.FnExactFormatEquation", spec := "fnExactFormatEquation", inPlace := ["internal/bytealg.abigen_runtime_cmpstring", "internal/abi.NoEscape", "internal/bytealg.MakeNoZero"], unfollowed := true, recurses := true, loops := true, apart := false }
def FnExactFormatEquationSaid : Prop := fnExactFormatEquationRow.holds Tryz.pinned (OpenSpec.ofChange fnExactFormatEquationSpec)

/-- ITS FALSE NEIGHBOUR: 'it returns false'. Refute it at one input. -/
def fnExactFormatEquationWrong : ChangeSpec := { name := "fnExactFormatEquation", fn := fun _ => fun
  | [d1, d2] => { results := [.lit (.bool false)], args := [d1, d2] }
  | _ => none }
def FnExactFormatEquationWrongFalsely : Prop := fnExactFormatEquationRow.holds Tryz.pinned (OpenSpec.ofChange fnExactFormatEquationWrong)

/-- 'laws.FnExactCandidateTerms': WHATEVER THE INPUT: true; the input reads as it did. -/
def fnExactCandidateTermsSpec : ChangeSpec := { name := "fnExactCandidateTerms", fn := fun _ => fun
  | [d1, d2] => { results := [.lit (.bool true)], args := [d1, d2] }
  | _ => none }
def fnExactCandidateTermsRow : OpenClaim := { program := "ytofklmbljbkdaaagreat", sum := "efcb84933214f44a5ad2fe6093f63123946a617b79f88782a6458d2fb5010397", func := "loop.example/g03107/laws.FnExactCandidateTerms", spec := "fnExactCandidateTerms", inPlace := ["internal/bytealg.abigen_runtime_cmpstring"], unfollowed := true, recurses := true, loops := true, apart := false }
def FnExactCandidateTermsSaid : Prop := fnExactCandidateTermsRow.holds Tryz.pinned (OpenSpec.ofChange fnExactCandidateTermsSpec)

/-- ITS FALSE NEIGHBOUR: 'it returns false'. Refute it at one input. -/
def fnExactCandidateTermsWrong : ChangeSpec := { name := "fnExactCandidateTerms", fn := fun _ => fun
  | [d1, d2] => { results := [.lit (.bool false)], args := [d1, d2] }
  | _ => none }
def FnExactCandidateTermsWrongFalsely : Prop := fnExactCandidateTermsRow.holds Tryz.pinned (OpenSpec.ofChange fnExactCandidateTermsWrong)

/-- 'laws.FnExactTakenAt': WHATEVER THE INPUT: true; the input reads as it did. -/
def fnExactTakenAtSpec : ChangeSpec := { name := "fnExactTakenAt", fn := fun _ => fun
  | [d1, d2, d3] => { results := [.lit (.bool true)], args := [d1, d2, d3] }
  | _ => none }
def fnExactTakenAtRow : OpenClaim := { program := "ytofklmbljbkdaaagreat", sum := "efcb84933214f44a5ad2fe6093f63123946a617b79f88782a6458d2fb5010397", func := "loop.example/g03107/laws.FnExactTakenAt", spec := "fnExactTakenAt", inPlace := ["internal/bytealg.abigen_runtime_cmpstring"], unfollowed := true, recurses := true, loops := true, apart := false }
def FnExactTakenAtSaid : Prop := fnExactTakenAtRow.holds Tryz.pinned (OpenSpec.ofChange fnExactTakenAtSpec)

/-- ITS FALSE NEIGHBOUR: 'it returns false'. Refute it at one input. -/
def fnExactTakenAtWrong : ChangeSpec := { name := "fnExactTakenAt", fn := fun _ => fun
  | [d1, d2, d3] => { results := [.lit (.bool false)], args := [d1, d2, d3] }
  | _ => none }
def FnExactTakenAtWrongFalsely : Prop := fnExactTakenAtRow.holds Tryz.pinned (OpenSpec.ofChange fnExactTakenAtWrong)

/- THE SECOND FORM. 'bulk': how many values and letters a reading holds, each counted each time it is reached (what is shared counts as often as it is met; a slice's spare places count too). A statement '..UptoSaid' is the law's where the arguments, and the package variables that the reading takes, are together of bulk at most 1048576: NARROWER than '..Said'. Prove '..Said' where nothing that the law and all that it calls make is longer than what came in: it says more and counts as full. Else prove '..UptoSaid'. A law counts once. -/
mutual
def uptoBulk {H : Type} : DataW H → Nat
  | .lit (.string bytes) => bytes.length + 1
  | .lit _ => 1
  | .nil => 1
  | .ptr d => uptoBulk d + 1
  | .slice elems spare => uptoBulkAll elems + uptoBulkAll spare + 1
  | .agg parts => uptoBulkAll parts + 1
  | .iface _ d => uptoBulk d + 1
  | .map entries => uptoBulkEntries entries + 1
  | .held _ => 1
def uptoBulkAll {H : Type} : List (DataW H) → Nat
  | [] => 0
  | d :: r => uptoBulk d + uptoBulkAll r
def uptoBulkEntries {H : Type} : List (Lit × DataW H) → Nat
  | [] => 0
  | x :: r => uptoBulkEntry x + uptoBulkEntries r
def uptoBulkEntry {H : Type} : Lit × DataW H → Nat
  | (.string bytes, d) => bytes.length + uptoBulk d + 1
  | (_, d) => uptoBulk d + 1
 end
def uptoSmall : (H : Type) → List (DataW H) → Bool := fun _ ds => decide (uptoBulkAll ds ≤ 1048576)
def OpenSpec.upto (s : _root_.Go.ChangeSpec) : _root_.Go.OpenSpec := { _root_.Go.OpenSpec.ofChange s with cond := some uptoSmall }

/-- 'laws.FnExactIsModel', WHERE WHAT IT READS IS OF BULK AT MOST 1048576: true; the input reads as it did. -/
def fnExactIsModelUptoRow : OpenClaim := { program := "ytofklmbljbkdaaagreat", sum := "efcb84933214f44a5ad2fe6093f63123946a617b79f88782a6458d2fb5010397", func := "loop.example/g03107/laws.FnExactIsModel", spec := "fnExactIsModel", inPlace := ["internal/bytealg.abigen_runtime_cmpstring"], unfollowed := true, recurses := true, loops := true, apart := false, narrowed := true }
def FnExactIsModelUptoSaid : Prop := fnExactIsModelUptoRow.holds Tryz.pinned (OpenSpec.upto fnExactIsModelSpec)

/-- 'laws.FnExactDecreases', WHERE WHAT IT READS IS OF BULK AT MOST 1048576: true; the input reads as it did. -/
def fnExactDecreasesUptoRow : OpenClaim := { program := "ytofklmbljbkdaaagreat", sum := "efcb84933214f44a5ad2fe6093f63123946a617b79f88782a6458d2fb5010397", func := "loop.example/g03107/laws.FnExactDecreases", spec := "fnExactDecreases", inPlace := ["internal/bytealg.abigen_runtime_cmpstring"], unfollowed := true, recurses := true, loops := true, apart := false, narrowed := true }
def FnExactDecreasesUptoSaid : Prop := fnExactDecreasesUptoRow.holds Tryz.pinned (OpenSpec.upto fnExactDecreasesSpec)

/-- 'laws.FnExactIsPlain', WHERE WHAT IT READS IS OF BULK AT MOST 1048576: true; the input reads as it did. -/
def fnExactIsPlainUptoRow : OpenClaim := { program := "ytofklmbljbkdaaagreat", sum := "efcb84933214f44a5ad2fe6093f63123946a617b79f88782a6458d2fb5010397", func := "loop.example/g03107/laws.FnExactIsPlain", spec := "fnExactIsPlain", inPlace := ["internal/bytealg.abigen_runtime_cmpstring", "internal/bytealg.IndexByteString"], unfollowed := true, recurses := true, loops := true, apart := false, narrowed := true }
def FnExactIsPlainUptoSaid : Prop := fnExactIsPlainUptoRow.holds Tryz.pinned (OpenSpec.upto fnExactIsPlainSpec)

/-- 'laws.FnExactWeightForm', WHERE WHAT IT READS IS OF BULK AT MOST 1048576: true; the input reads as it did. -/
def fnExactWeightFormUptoRow : OpenClaim := { program := "ytofklmbljbkdaaagreat", sum := "efcb84933214f44a5ad2fe6093f63123946a617b79f88782a6458d2fb5010397", func := "loop.example/g03107/laws.FnExactWeightForm", spec := "fnExactWeightForm", inPlace := ["internal/bytealg.abigen_runtime_cmpstring"], unfollowed := true, recurses := true, loops := true, apart := false, narrowed := true }
def FnExactWeightFormUptoSaid : Prop := fnExactWeightFormUptoRow.holds Tryz.pinned (OpenSpec.upto fnExactWeightFormSpec)

/-- 'laws.FnExactFormatEquation', WHERE WHAT IT READS IS OF BULK AT MOST 1048576: true; the input reads as it did. -/
def fnExactFormatEquationUptoRow : OpenClaim := { program := "ytofklmbljbkdaaagreat", sum := "efcb84933214f44a5ad2fe6093f63123946a617b79f88782a6458d2fb5010397", func := "loop.example/g03107/laws.FnExactFormatEquation", spec := "fnExactFormatEquation", inPlace := ["internal/bytealg.abigen_runtime_cmpstring", "internal/abi.NoEscape", "internal/bytealg.MakeNoZero"], unfollowed := true, recurses := true, loops := true, apart := false, narrowed := true }
def FnExactFormatEquationUptoSaid : Prop := fnExactFormatEquationUptoRow.holds Tryz.pinned (OpenSpec.upto fnExactFormatEquationSpec)

/-- 'laws.FnExactCandidateTerms', WHERE WHAT IT READS IS OF BULK AT MOST 1048576: true; the input reads as it did. -/
def fnExactCandidateTermsUptoRow : OpenClaim := { program := "ytofklmbljbkdaaagreat", sum := "efcb84933214f44a5ad2fe6093f63123946a617b79f88782a6458d2fb5010397", func := "loop.example/g03107/laws.FnExactCandidateTerms", spec := "fnExactCandidateTerms", inPlace := ["internal/bytealg.abigen_runtime_cmpstring"], unfollowed := true, recurses := true, loops := true, apart := false, narrowed := true }
def FnExactCandidateTermsUptoSaid : Prop := fnExactCandidateTermsUptoRow.holds Tryz.pinned (OpenSpec.upto fnExactCandidateTermsSpec)

/-- 'laws.FnExactTakenAt', WHERE WHAT IT READS IS OF BULK AT MOST 1048576: true; the input reads as it did. -/
def fnExactTakenAtUptoRow : OpenClaim := { program := "ytofklmbljbkdaaagreat", sum := "efcb84933214f44a5ad2fe6093f63123946a617b79f88782a6458d2fb5010397", func := "loop.example/g03107/laws.FnExactTakenAt", spec := "fnExactTakenAt", inPlace := ["internal/bytealg.abigen_runtime_cmpstring"], unfollowed := true, recurses := true, loops := true, apart := false, narrowed := true }
def FnExactTakenAtUptoSaid : Prop := fnExactTakenAtUptoRow.holds Tryz.pinned (OpenSpec.upto fnExactTakenAtSpec)

end Rows
end Go.Proofs.YtofklmbljbkdaaaGreat
