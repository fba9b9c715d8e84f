/-
  NARROWER THAN 'FOR EVERY INPUT', by the rows' own cells (each row's printed sentence says how): FnExactTakenAt: loops · FnExactReplaceOccurrence: loops · FnExactFormatModule: loops.
  DERIVED. THE GIVEN ROWS OF THIS SEAT. 3 by the template 'for every input the law returns true; each argument reads behind the call as it read before'; 0 by the template 'total and deterministic' (their statements: YtohilkmdjdfljaaGreatTotals.lean).
  GIVEN WITH THE SEED: the statements are not yours to turn. If you find one false, say at which input.
  Laid BY PROGRAM, IN A SANDBOX (cutbox-rows.mjs): the forced cells as the released guide's own fill.sh prints them over the translation b576094a8bacc755… (all of the seat's roots in one cut). By AI agents, Wed Nov 11 2026. No macro, syntax, notation, axiom, sorry.
-/
import Derived.Test.YtohilkmdjdfljaaGreatChecked
import GoSem.Claim
import GoSem.ClaimJoined
import GoSem.ClaimMapViews
import Derived.JoinedTies
import Derived.KernelRfl
namespace Go.Proofs.YtohilkmdjdfljaaGreat
/- THE CELL 'sum', in the pinned program and in every row, IS THE sha256 OF THE DUMP (.gsa) THAT YtohilkmdjdfljaaGreatProg.lean LOADS. Nothing in Lean hashes anything: it is a label: what it is worth is what the hold of that sum in a sandbox is worth. -/
noncomputable def Tryz.pinned : Pinned := { name := "ytohilkmdjdfljaagreat", sum := "b576094a8bacc755d00fb5fc7b8595d347746eb96bb79bba6d07a938c59f561b", checked := Tryz.checked }
namespace Rows
def none {H : Type} : Left H := { results := [], args := [] }

/-- 'laws.FnExactTakenAt': WHATEVER THE INPUT: true; the input reads as it did. -/
def fnExactTakenAtSpec : ChangeSpec := { name := "fnExactTakenAt", fn := fun _ => fun
  | [d1, d2, d3] => { results := [.lit (.bool true)], args := [d1, d2, d3] }
  | _ => none }
def fnExactTakenAtRow : OpenClaim := { program := "ytohilkmdjdfljaagreat", sum := "b576094a8bacc755d00fb5fc7b8595d347746eb96bb79bba6d07a938c59f561b", func := "loop.example/g03107/laws.FnExactTakenAt", spec := "fnExactTakenAt", inPlace := ["internal/bytealg.abigen_runtime_cmpstring"], unfollowed := true, recurses := true, loops := true, apart := false }
def FnExactTakenAtSaid : Prop := fnExactTakenAtRow.holds Tryz.pinned (OpenSpec.ofChange fnExactTakenAtSpec)

/-- ITS FALSE NEIGHBOUR: 'it returns false'. Refute it at one input. -/
def fnExactTakenAtWrong : ChangeSpec := { name := "fnExactTakenAt", fn := fun _ => fun
  | [d1, d2, d3] => { results := [.lit (.bool false)], args := [d1, d2, d3] }
  | _ => none }
def FnExactTakenAtWrongFalsely : Prop := fnExactTakenAtRow.holds Tryz.pinned (OpenSpec.ofChange fnExactTakenAtWrong)

/-- 'laws.FnExactReplaceOccurrence': WHATEVER THE INPUT: true; the input reads as it did. -/
def fnExactReplaceOccurrenceSpec : ChangeSpec := { name := "fnExactReplaceOccurrence", fn := fun _ => fun
  | [d1, d2, d3, d4] => { results := [.lit (.bool true)], args := [d1, d2, d3, d4] }
  | _ => none }
def fnExactReplaceOccurrenceRow : OpenClaim := { program := "ytohilkmdjdfljaagreat", sum := "b576094a8bacc755d00fb5fc7b8595d347746eb96bb79bba6d07a938c59f561b", func := "loop.example/g03107/laws.FnExactReplaceOccurrence", spec := "fnExactReplaceOccurrence", inPlace := ["internal/bytealg.abigen_runtime_cmpstring"], unfollowed := true, recurses := true, loops := true, apart := false }
def FnExactReplaceOccurrenceSaid : Prop := fnExactReplaceOccurrenceRow.holds Tryz.pinned (OpenSpec.ofChange fnExactReplaceOccurrenceSpec)

/-- ITS FALSE NEIGHBOUR: 'it returns false'. Refute it at one input. -/
def fnExactReplaceOccurrenceWrong : ChangeSpec := { name := "fnExactReplaceOccurrence", fn := fun _ => fun
  | [d1, d2, d3, d4] => { results := [.lit (.bool false)], args := [d1, d2, d3, d4] }
  | _ => none }
def FnExactReplaceOccurrenceWrongFalsely : Prop := fnExactReplaceOccurrenceRow.holds Tryz.pinned (OpenSpec.ofChange fnExactReplaceOccurrenceWrong)

/-- 'laws.FnExactFormatModule': WHATEVER THE INPUT: true; the input reads as it did. -/
def fnExactFormatModuleSpec : ChangeSpec := { name := "fnExactFormatModule", fn := fun _ => fun
  | [d] => { results := [.lit (.bool true)], args := [d] }
  | _ => none }
def fnExactFormatModuleRow : OpenClaim := { program := "ytohilkmdjdfljaagreat", sum := "b576094a8bacc755d00fb5fc7b8595d347746eb96bb79bba6d07a938c59f561b", func := "loop.example/g03107/laws.FnExactFormatModule", spec := "fnExactFormatModule", inPlace := ["internal/bytealg.abigen_runtime_cmpstring", "internal/abi.NoEscape", "internal/bytealg.MakeNoZero"], unfollowed := true, recurses := true, loops := true, apart := false }
def FnExactFormatModuleSaid : Prop := fnExactFormatModuleRow.holds Tryz.pinned (OpenSpec.ofChange fnExactFormatModuleSpec)

/-- ITS FALSE NEIGHBOUR: 'it returns false'. Refute it at one input. -/
def fnExactFormatModuleWrong : ChangeSpec := { name := "fnExactFormatModule", fn := fun _ => fun
  | [d] => { results := [.lit (.bool false)], args := [d] }
  | _ => none }
def FnExactFormatModuleWrongFalsely : Prop := fnExactFormatModuleRow.holds Tryz.pinned (OpenSpec.ofChange fnExactFormatModuleWrong)

/- THE SECOND FORM. 'bulk': how many values and letters a reading holds, each counted each time it is reached (what is shared counts as often as it is met; a slice's spare places count too). A statement '..UptoSaid' is the law's where the arguments, and the package variables that the reading takes, are together of bulk at most 1048576: NARROWER than '..Said'. Prove '..Said' where nothing that the law and all that it calls make is longer than what came in: it says more and counts as full. Else prove '..UptoSaid'. A law counts once. -/
mutual
def uptoBulk {H : Type} : DataW H → Nat
  | .lit (.string bytes) => bytes.length + 1
  | .lit _ => 1
  | .nil => 1
  | .ptr d => uptoBulk d + 1
  | .slice elems spare => uptoBulkAll elems + uptoBulkAll spare + 1
  | .agg parts => uptoBulkAll parts + 1
  | .iface _ d => uptoBulk d + 1
  | .map entries => uptoBulkEntries entries + 1
  | .held _ => 1
def uptoBulkAll {H : Type} : List (DataW H) → Nat
  | [] => 0
  | d :: r => uptoBulk d + uptoBulkAll r
def uptoBulkEntries {H : Type} : List (Lit × DataW H) → Nat
  | [] => 0
  | x :: r => uptoBulkEntry x + uptoBulkEntries r
def uptoBulkEntry {H : Type} : Lit × DataW H → Nat
  | (.string bytes, d) => bytes.length + uptoBulk d + 1
  | (_, d) => uptoBulk d + 1
 end
def uptoSmall : (H : Type) → List (DataW H) → Bool := fun _ ds => decide (uptoBulkAll ds ≤ 1048576)
def OpenSpec.upto (s : _root_.Go.ChangeSpec) : _root_.Go.OpenSpec := { _root_.Go.OpenSpec.ofChange s with cond := some uptoSmall }

/-- 'laws.FnExactTakenAt', WHERE WHAT IT READS IS OF BULK AT MOST 1048576: true; the input reads as it did. -/
def fnExactTakenAtUptoRow : OpenClaim := { program := "ytohilkmdjdfljaagreat", sum := "b576094a8bacc755d00fb5fc7b8595d347746eb96bb79bba6d07a938c59f561b", func := "loop.example/g03107/laws.FnExactTakenAt", spec := "fnExactTakenAt", inPlace := ["internal/bytealg.abigen_runtime_cmpstring"], unfollowed := true, recurses := true, loops := true, apart := false, narrowed := true }
def FnExactTakenAtUptoSaid : Prop := fnExactTakenAtUptoRow.holds Tryz.pinned (OpenSpec.upto fnExactTakenAtSpec)

/-- 'laws.FnExactReplaceOccurrence', WHERE WHAT IT READS IS OF BULK AT MOST 1048576: true; the input reads as it did. -/
def fnExactReplaceOccurrenceUptoRow : OpenClaim := { program := "ytohilkmdjdfljaagreat", sum := "b576094a8bacc755d00fb5fc7b8595d347746eb96bb79bba6d07a938c59f561b", func := "loop.example/g03107/laws.FnExactReplaceOccurrence", spec := "fnExactReplaceOccurrence", inPlace := ["internal/bytealg.abigen_runtime_cmpstring"], unfollowed := true, recurses := true, loops := true, apart := false, narrowed := true }
def FnExactReplaceOccurrenceUptoSaid : Prop := fnExactReplaceOccurrenceUptoRow.holds Tryz.pinned (OpenSpec.upto fnExactReplaceOccurrenceSpec)

/-- 'laws.FnExactFormatModule', WHERE WHAT IT READS IS OF BULK AT MOST 1048576: true; the input reads as it did. -/
def fnExactFormatModuleUptoRow : OpenClaim := { program := "ytohilkmdjdfljaagreat", sum := "b576094a8bacc755d00fb5fc7b8595d347746eb96bb79bba6d07a938c59f561b", func := "loop.example/g03107/laws.FnExactFormatModule", spec := "fnExactFormatModule", inPlace := ["internal/bytealg.abigen_runtime_cmpstring", "internal/abi.NoEscape", "internal/bytealg.MakeNoZero"], unfollowed := true, recurses := true, loops := true, apart := false, narrowed := true }
def FnExactFormatModuleUptoSaid : Prop := fnExactFormatModuleUptoRow.holds Tryz.pinned (OpenSpec.upto fnExactFormatModuleSpec)

end Rows
end Go.Proofs.YtohilkmdjdfljaaGreat
