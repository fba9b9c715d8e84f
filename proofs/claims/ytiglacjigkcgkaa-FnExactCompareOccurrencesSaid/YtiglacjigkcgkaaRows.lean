/-
  NARROWER THAN 'FOR EVERY INPUT', by the rows' own cells (each row's printed sentence says how): FnExactSubtermAt: loops · FnExactChainSize: loops · FnExactCompareOccurrences: loops.
  DERIVED. THE GIVEN ROWS OF THIS SEAT. 3 by the template 'for every input the law returns true; each argument reads behind the call as it read before'; 0 by the template 'total and deterministic' (their statements: YtiglacjigkcgkaaTotals.lean).
  GIVEN WITH THE SEED: the statements are not yours to turn. If you find one false, say at which input.
  Laid BY PROGRAM, IN A SANDBOX (cutbox-rows.mjs): the forced cells as the released guide's own fill.sh prints them over the translation a663448be1683b5e… (all of the seat's roots in one cut). By AI agents, Wed Nov 11 2026. No macro, syntax, notation, axiom, sorry.
-/
import Derived.Test.YtiglacjigkcgkaaChecked
import GoSem.Claim
import GoSem.ClaimJoined
import GoSem.ClaimMapViews
import Derived.JoinedTies
import Derived.KernelRfl
namespace Go.Proofs.Ytiglacjigkcgkaa
/- THE CELL 'sum', in the pinned program and in every row, IS THE sha256 OF THE DUMP (.gsa) THAT YtiglacjigkcgkaaProg.lean LOADS. Nothing in Lean hashes anything: it is a label: what it is worth is what the hold of that sum in a sandbox is worth. -/
noncomputable def Try.pinned : Pinned := { name := "ytiglacjigkcgkaa", sum := "a663448be1683b5ef12bcec6334e74bc9f3a15e6441d9fd86228e6f94f1c5bd4", checked := Try.checked }
namespace Rows
def none {H : Type} : Left H := { results := [], args := [] }

/-- 'laws.FnExactSubtermAt': WHATEVER THE INPUT: true; the input reads as it did. -/
def fnExactSubtermAtSpec : ChangeSpec := { name := "fnExactSubtermAt", fn := fun _ => fun
  | [d1, d2] => { results := [.lit (.bool true)], args := [d1, d2] }
  | _ => none }
def fnExactSubtermAtRow : OpenClaim := { program := "ytiglacjigkcgkaa", sum := "a663448be1683b5ef12bcec6334e74bc9f3a15e6441d9fd86228e6f94f1c5bd4", func := "loop.example/g03107/laws.FnExactSubtermAt", spec := "fnExactSubtermAt", recurses := true, loops := true, apart := false }
def FnExactSubtermAtSaid : Prop := fnExactSubtermAtRow.holds Try.pinned (OpenSpec.ofChange fnExactSubtermAtSpec)

/-- ITS FALSE NEIGHBOUR: 'it returns false'. Refute it at one input. -/
def fnExactSubtermAtWrong : ChangeSpec := { name := "fnExactSubtermAt", fn := fun _ => fun
  | [d1, d2] => { results := [.lit (.bool false)], args := [d1, d2] }
  | _ => none }
def FnExactSubtermAtWrongFalsely : Prop := fnExactSubtermAtRow.holds Try.pinned (OpenSpec.ofChange fnExactSubtermAtWrong)

/-- 'laws.FnExactChainSize': WHATEVER THE INPUT: true; the input reads as it did. -/
def fnExactChainSizeSpec : ChangeSpec := { name := "fnExactChainSize", fn := fun _ => fun
  | [d] => { results := [.lit (.bool true)], args := [d] }
  | _ => none }
def fnExactChainSizeRow : OpenClaim := { program := "ytiglacjigkcgkaa", sum := "a663448be1683b5ef12bcec6334e74bc9f3a15e6441d9fd86228e6f94f1c5bd4", func := "loop.example/g03107/laws.FnExactChainSize", spec := "fnExactChainSize", recurses := true, loops := true, apart := false }
def FnExactChainSizeSaid : Prop := fnExactChainSizeRow.holds Try.pinned (OpenSpec.ofChange fnExactChainSizeSpec)

/-- ITS FALSE NEIGHBOUR: 'it returns false'. Refute it at one input. -/
def fnExactChainSizeWrong : ChangeSpec := { name := "fnExactChainSize", fn := fun _ => fun
  | [d] => { results := [.lit (.bool false)], args := [d] }
  | _ => none }
def FnExactChainSizeWrongFalsely : Prop := fnExactChainSizeRow.holds Try.pinned (OpenSpec.ofChange fnExactChainSizeWrong)

/-- 'laws.FnExactCompareOccurrences': WHATEVER THE INPUT: true; the input reads as it did. -/
def fnExactCompareOccurrencesSpec : ChangeSpec := { name := "fnExactCompareOccurrences", fn := fun _ => fun
  | [d1, d2] => { results := [.lit (.bool true)], args := [d1, d2] }
  | _ => none }
def fnExactCompareOccurrencesRow : OpenClaim := { program := "ytiglacjigkcgkaa", sum := "a663448be1683b5ef12bcec6334e74bc9f3a15e6441d9fd86228e6f94f1c5bd4", func := "loop.example/g03107/laws.FnExactCompareOccurrences", spec := "fnExactCompareOccurrences", inPlace := ["internal/bytealg.abigen_runtime_cmpstring"], unfollowed := true, recurses := true, loops := true, apart := false }
def FnExactCompareOccurrencesSaid : Prop := fnExactCompareOccurrencesRow.holds Try.pinned (OpenSpec.ofChange fnExactCompareOccurrencesSpec)

/-- ITS FALSE NEIGHBOUR: 'it returns false'. Refute it at one input. -/
def fnExactCompareOccurrencesWrong : ChangeSpec := { name := "fnExactCompareOccurrences", fn := fun _ => fun
  | [d1, d2] => { results := [.lit (.bool false)], args := [d1, d2] }
  | _ => none }
def FnExactCompareOccurrencesWrongFalsely : Prop := fnExactCompareOccurrencesRow.holds Try.pinned (OpenSpec.ofChange fnExactCompareOccurrencesWrong)

/- THE SECOND FORM. 'bulk': how many values and letters a reading holds, each counted each time it is reached (what is shared counts as often as it is met; a slice's spare places count too). A statement '..UptoSaid' is the law's where the arguments, and the package variables that the reading takes, are together of bulk at most 1048576: NARROWER than '..Said'. Prove '..Said' where nothing that the law and all that it calls make is longer than what came in: it says more and counts as full. Else prove '..UptoSaid'. A law counts once. -/
mutual
def uptoBulk {H : Type} : DataW H → Nat
  | .lit (.string bytes) => bytes.length + 1
  | .lit _ => 1
  | .nil => 1
  | .ptr d => uptoBulk d + 1
  | .slice elems spare => uptoBulkAll elems + uptoBulkAll spare + 1
  | .agg parts => uptoBulkAll parts + 1
  | .iface _ d => uptoBulk d + 1
  | .map entries => uptoBulkEntries entries + 1
  | .held _ => 1
def uptoBulkAll {H : Type} : List (DataW H) → Nat
  | [] => 0
  | d :: r => uptoBulk d + uptoBulkAll r
def uptoBulkEntries {H : Type} : List (Lit × DataW H) → Nat
  | [] => 0
  | x :: r => uptoBulkEntry x + uptoBulkEntries r
def uptoBulkEntry {H : Type} : Lit × DataW H → Nat
  | (.string bytes, d) => bytes.length + uptoBulk d + 1
  | (_, d) => uptoBulk d + 1
 end
def uptoSmall : (H : Type) → List (DataW H) → Bool := fun _ ds => decide (uptoBulkAll ds ≤ 1048576)
def OpenSpec.upto (s : _root_.Go.ChangeSpec) : _root_.Go.OpenSpec := { _root_.Go.OpenSpec.ofChange s with cond := some uptoSmall }

/-- 'laws.FnExactSubtermAt', WHERE WHAT IT READS IS OF BULK AT MOST 1048576: true; the input reads as it did. -/
def fnExactSubtermAtUptoRow : OpenClaim := { program := "ytiglacjigkcgkaa", sum := "a663448be1683b5ef12bcec6334e74bc9f3a15e6441d9fd86228e6f94f1c5bd4", func := "loop.example/g03107/laws.FnExactSubtermAt", spec := "fnExactSubtermAt", recurses := true, loops := true, apart := false, narrowed := true }
def FnExactSubtermAtUptoSaid : Prop := fnExactSubtermAtUptoRow.holds Try.pinned (OpenSpec.upto fnExactSubtermAtSpec)

/-- 'laws.FnExactChainSize', WHERE WHAT IT READS IS OF BULK AT MOST 1048576: true; the input reads as it did. -/
def fnExactChainSizeUptoRow : OpenClaim := { program := "ytiglacjigkcgkaa", sum := "a663448be1683b5ef12bcec6334e74bc9f3a15e6441d9fd86228e6f94f1c5bd4", func := "loop.example/g03107/laws.FnExactChainSize", spec := "fnExactChainSize", recurses := true, loops := true, apart := false, narrowed := true }
def FnExactChainSizeUptoSaid : Prop := fnExactChainSizeUptoRow.holds Try.pinned (OpenSpec.upto fnExactChainSizeSpec)

/-- 'laws.FnExactCompareOccurrences', WHERE WHAT IT READS IS OF BULK AT MOST 1048576: true; the input reads as it did. -/
def fnExactCompareOccurrencesUptoRow : OpenClaim := { program := "ytiglacjigkcgkaa", sum := "a663448be1683b5ef12bcec6334e74bc9f3a15e6441d9fd86228e6f94f1c5bd4", func := "loop.example/g03107/laws.FnExactCompareOccurrences", spec := "fnExactCompareOccurrences", inPlace := ["internal/bytealg.abigen_runtime_cmpstring"], unfollowed := true, recurses := true, loops := true, apart := false, narrowed := true }
def FnExactCompareOccurrencesUptoSaid : Prop := fnExactCompareOccurrencesUptoRow.holds Try.pinned (OpenSpec.upto fnExactCompareOccurrencesSpec)

end Rows
end Go.Proofs.Ytiglacjigkcgkaa
