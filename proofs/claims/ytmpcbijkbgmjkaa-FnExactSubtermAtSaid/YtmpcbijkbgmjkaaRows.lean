/-
  NARROWER THAN 'FOR EVERY INPUT', by the rows' own cells (each row's printed sentence says how): FnExactSubtermAt: loops · FnExactJoinChains: loops · FnExactMayMatch: loops.
  DERIVED. THE GIVEN ROWS OF THIS SEAT. 4 by the template 'for every input the law returns true; each argument reads behind the call as it read before'; 0 by the template 'total and deterministic' (their statements: YtmpcbijkbgmjkaaTotals.lean).
  GIVEN WITH THE SEED: the statements are not yours to turn. If you find one false, say at which input.
  Laid BY PROGRAM, IN A SANDBOX (cutbox-rows.mjs): the forced cells as the released guide's own fill.sh prints them over the translation bb2d14f92aec4e9f… (all of the seat's roots in one cut). By AI agents, Wed Nov 11 2026. No macro, syntax, notation, axiom, sorry.
-/
import Derived.Test.YtmpcbijkbgmjkaaChecked
import GoSem.Claim
import GoSem.ClaimJoined
import GoSem.ClaimMapViews
import Derived.JoinedTies
import Derived.KernelRfl
namespace Go.Proofs.Ytmpcbijkbgmjkaa
/- THE CELL 'sum', in the pinned program and in every row, IS THE sha256 OF THE DUMP (.gsa) THAT YtmpcbijkbgmjkaaProg.lean LOADS. Nothing in Lean hashes anything: it is a label: what it is worth is what the hold of that sum in a sandbox is worth. -/
noncomputable def Try.pinned : Pinned := { name := "ytmpcbijkbgmjkaa", sum := "bb2d14f92aec4e9ff465184211e7f327fe40cd98a95050b067975bec1d03149b", checked := Try.checked }
namespace Rows
def none {H : Type} : Left H := { results := [], args := [] }

/-- 'laws.FnExactSubtermAt': WHATEVER THE INPUT: true; the input reads as it did. -/
def fnExactSubtermAtSpec : ChangeSpec := { name := "fnExactSubtermAt", fn := fun _ => fun
  | [d1, d2] => { results := [.lit (.bool true)], args := [d1, d2] }
  | _ => none }
def fnExactSubtermAtRow : OpenClaim := { program := "ytmpcbijkbgmjkaa", sum := "bb2d14f92aec4e9ff465184211e7f327fe40cd98a95050b067975bec1d03149b", func := "loop.example/g03107/laws.FnExactSubtermAt", spec := "fnExactSubtermAt", recurses := true, loops := true, apart := false }
def FnExactSubtermAtSaid : Prop := fnExactSubtermAtRow.holds Try.pinned (OpenSpec.ofChange fnExactSubtermAtSpec)

/-- ITS FALSE NEIGHBOUR: 'it returns false'. Refute it at one input. -/
def fnExactSubtermAtWrong : ChangeSpec := { name := "fnExactSubtermAt", fn := fun _ => fun
  | [d1, d2] => { results := [.lit (.bool false)], args := [d1, d2] }
  | _ => none }
def FnExactSubtermAtWrongFalsely : Prop := fnExactSubtermAtRow.holds Try.pinned (OpenSpec.ofChange fnExactSubtermAtWrong)

/-- 'laws.FnExactObeysAxioms': WHATEVER THE INPUT: true; the input reads as it did. -/
def fnExactObeysAxiomsSpec : ChangeSpec := { name := "fnExactObeysAxioms", fn := fun _ => fun
  | [d1, d2] => { results := [.lit (.bool true)], args := [d1, d2] }
  | _ => none }
def fnExactObeysAxiomsRow : OpenClaim := { program := "ytmpcbijkbgmjkaa", sum := "bb2d14f92aec4e9ff465184211e7f327fe40cd98a95050b067975bec1d03149b", func := "loop.example/g03107/laws.FnExactObeysAxioms", spec := "fnExactObeysAxioms", unfollowed := true, recurses := true, apart := false }
def FnExactObeysAxiomsSaid : Prop := fnExactObeysAxiomsRow.holds Try.pinned (OpenSpec.ofChange fnExactObeysAxiomsSpec)

/-- ITS FALSE NEIGHBOUR: 'it returns false'. Refute it at one input. -/
def fnExactObeysAxiomsWrong : ChangeSpec := { name := "fnExactObeysAxioms", fn := fun _ => fun
  | [d1, d2] => { results := [.lit (.bool false)], args := [d1, d2] }
  | _ => none }
def FnExactObeysAxiomsWrongFalsely : Prop := fnExactObeysAxiomsRow.holds Try.pinned (OpenSpec.ofChange fnExactObeysAxiomsWrong)

/-- 'laws.FnExactJoinChains': WHATEVER THE INPUT: true; the input reads as it did. -/
def fnExactJoinChainsSpec : ChangeSpec := { name := "fnExactJoinChains", fn := fun _ => fun
  | [d1, d2] => { results := [.lit (.bool true)], args := [d1, d2] }
  | _ => none }
def fnExactJoinChainsRow : OpenClaim := { program := "ytmpcbijkbgmjkaa", sum := "bb2d14f92aec4e9ff465184211e7f327fe40cd98a95050b067975bec1d03149b", func := "loop.example/g03107/laws.FnExactJoinChains", spec := "fnExactJoinChains", inPlace := ["internal/bytealg.abigen_runtime_cmpstring"], unfollowed := true, recurses := true, loops := true, apart := false }
def FnExactJoinChainsSaid : Prop := fnExactJoinChainsRow.holds Try.pinned (OpenSpec.ofChange fnExactJoinChainsSpec)

/-- ITS FALSE NEIGHBOUR: 'it returns false'. Refute it at one input. -/
def fnExactJoinChainsWrong : ChangeSpec := { name := "fnExactJoinChains", fn := fun _ => fun
  | [d1, d2] => { results := [.lit (.bool false)], args := [d1, d2] }
  | _ => none }
def FnExactJoinChainsWrongFalsely : Prop := fnExactJoinChainsRow.holds Try.pinned (OpenSpec.ofChange fnExactJoinChainsWrong)

/-- 'laws.FnExactMayMatch': WHATEVER THE INPUT: true; the input reads as it did. -/
def fnExactMayMatchSpec : ChangeSpec := { name := "fnExactMayMatch", fn := fun _ => fun
  | [d1, d2, d3] => { results := [.lit (.bool true)], args := [d1, d2, d3] }
  | _ => none }
def fnExactMayMatchRow : OpenClaim := { program := "ytmpcbijkbgmjkaa", sum := "bb2d14f92aec4e9ff465184211e7f327fe40cd98a95050b067975bec1d03149b", func := "loop.example/g03107/laws.FnExactMayMatch", spec := "fnExactMayMatch", inPlace := ["internal/bytealg.abigen_runtime_cmpstring"], unfollowed := true, recurses := true, loops := true, apart := false }
def FnExactMayMatchSaid : Prop := fnExactMayMatchRow.holds Try.pinned (OpenSpec.ofChange fnExactMayMatchSpec)

/-- ITS FALSE NEIGHBOUR: 'it returns false'. Refute it at one input. -/
def fnExactMayMatchWrong : ChangeSpec := { name := "fnExactMayMatch", fn := fun _ => fun
  | [d1, d2, d3] => { results := [.lit (.bool false)], args := [d1, d2, d3] }
  | _ => none }
def FnExactMayMatchWrongFalsely : Prop := fnExactMayMatchRow.holds Try.pinned (OpenSpec.ofChange fnExactMayMatchWrong)

/- THE SECOND FORM. 'bulk': how many values and letters a reading holds, each counted each time it is reached (what is shared counts as often as it is met; a slice's spare places count too). A statement '..UptoSaid' is the law's where the arguments, and the package variables that the reading takes, are together of bulk at most 1048576: NARROWER than '..Said'. Prove '..Said' where nothing that the law and all that it calls make is longer than what came in: it says more and counts as full. Else prove '..UptoSaid'. A law counts once. -/
mutual
def uptoBulk {H : Type} : DataW H → Nat
  | .lit (.string bytes) => bytes.length + 1
  | .lit _ => 1
  | .nil => 1
  | .ptr d => uptoBulk d + 1
  | .slice elems spare => uptoBulkAll elems + uptoBulkAll spare + 1
  | .agg parts => uptoBulkAll parts + 1
  | .iface _ d => uptoBulk d + 1
  | .map entries => uptoBulkEntries entries + 1
  | .held _ => 1
def uptoBulkAll {H : Type} : List (DataW H) → Nat
  | [] => 0
  | d :: r => uptoBulk d + uptoBulkAll r
def uptoBulkEntries {H : Type} : List (Lit × DataW H) → Nat
  | [] => 0
  | x :: r => uptoBulkEntry x + uptoBulkEntries r
def uptoBulkEntry {H : Type} : Lit × DataW H → Nat
  | (.string bytes, d) => bytes.length + uptoBulk d + 1
  | (_, d) => uptoBulk d + 1
 end
def uptoSmall : (H : Type) → List (DataW H) → Bool := fun _ ds => decide (uptoBulkAll ds ≤ 1048576)
def OpenSpec.upto (s : _root_.Go.ChangeSpec) : _root_.Go.OpenSpec := { _root_.Go.OpenSpec.ofChange s with cond := some uptoSmall }

/-- 'laws.FnExactSubtermAt', WHERE WHAT IT READS IS OF BULK AT MOST 1048576: true; the input reads as it did. -/
def fnExactSubtermAtUptoRow : OpenClaim := { program := "ytmpcbijkbgmjkaa", sum := "bb2d14f92aec4e9ff465184211e7f327fe40cd98a95050b067975bec1d03149b", func := "loop.example/g03107/laws.FnExactSubtermAt", spec := "fnExactSubtermAt", recurses := true, loops := true, apart := false, narrowed := true }
def FnExactSubtermAtUptoSaid : Prop := fnExactSubtermAtUptoRow.holds Try.pinned (OpenSpec.upto fnExactSubtermAtSpec)

/-- 'laws.FnExactObeysAxioms', WHERE WHAT IT READS IS OF BULK AT MOST 1048576: true; the input reads as it did. -/
def fnExactObeysAxiomsUptoRow : OpenClaim := { program := "ytmpcbijkbgmjkaa", sum := "bb2d14f92aec4e9ff465184211e7f327fe40cd98a95050b067975bec1d03149b", func := "loop.example/g03107/laws.FnExactObeysAxioms", spec := "fnExactObeysAxioms", unfollowed := true, recurses := true, apart := false, narrowed := true }
def FnExactObeysAxiomsUptoSaid : Prop := fnExactObeysAxiomsUptoRow.holds Try.pinned (OpenSpec.upto fnExactObeysAxiomsSpec)

/-- 'laws.FnExactJoinChains', WHERE WHAT IT READS IS OF BULK AT MOST 1048576: true; the input reads as it did. -/
def fnExactJoinChainsUptoRow : OpenClaim := { program := "ytmpcbijkbgmjkaa", sum := "bb2d14f92aec4e9ff465184211e7f327fe40cd98a95050b067975bec1d03149b", func := "loop.example/g03107/laws.FnExactJoinChains", spec := "fnExactJoinChains", inPlace := ["internal/bytealg.abigen_runtime_cmpstring"], unfollowed := true, recurses := true, loops := true, apart := false, narrowed := true }
def FnExactJoinChainsUptoSaid : Prop := fnExactJoinChainsUptoRow.holds Try.pinned (OpenSpec.upto fnExactJoinChainsSpec)

/-- 'laws.FnExactMayMatch', WHERE WHAT IT READS IS OF BULK AT MOST 1048576: true; the input reads as it did. -/
def fnExactMayMatchUptoRow : OpenClaim := { program := "ytmpcbijkbgmjkaa", sum := "bb2d14f92aec4e9ff465184211e7f327fe40cd98a95050b067975bec1d03149b", func := "loop.example/g03107/laws.FnExactMayMatch", spec := "fnExactMayMatch", inPlace := ["internal/bytealg.abigen_runtime_cmpstring"], unfollowed := true, recurses := true, loops := true, apart := false, narrowed := true }
def FnExactMayMatchUptoSaid : Prop := fnExactMayMatchUptoRow.holds Try.pinned (OpenSpec.upto fnExactMayMatchSpec)

end Rows
end Go.Proofs.Ytmpcbijkbgmjkaa
