/-
  No cell of these rows narrows 'for every input' (looked for: loops, veiled, ifaces, maps, wideKeys, modest, calm, conditions, laid).
  DERIVED. THE GIVEN ROWS OF THIS SEAT. 3 by the template 'for every input the law returns true; each argument reads behind the call as it read before'; 0 by the template 'total and deterministic' (their statements: YtlhbdhdaecchoaaTotals.lean).
  GIVEN WITH THE SEED: the statements are not yours to turn. If you find one false, say at which input.
  Laid BY PROGRAM, IN A SANDBOX (cutbox-rows.mjs): the forced cells as the released guide's own fill.sh prints them over the translation 75552da9a64f69be… (all of the seat's roots in one cut). By AI agents, Wed Nov 11 2026. No macro, syntax, notation, axiom, sorry.
-/
import Derived.Test.YtlhbdhdaecchoaaChecked
import GoSem.Claim
import GoSem.ClaimJoined
import GoSem.ClaimMapViews
import Derived.JoinedTies
import Derived.KernelRfl
namespace Go.Proofs.Ytlhbdhdaecchoaa
/- THE CELL 'sum', in the pinned program and in every row, IS THE sha256 OF THE DUMP (.gsa) THAT YtlhbdhdaecchoaaProg.lean LOADS. Nothing in Lean hashes anything: it is a label: what it is worth is what the hold of that sum in a sandbox is worth. -/
noncomputable def Try.pinned : Pinned := { name := "ytlhbdhdaecchoaa", sum := "75552da9a64f69bede2c5ddffb748d394f993a25d561b06e8e6d6941c77fbb26", checked := Try.checked }
namespace Rows
def none {H : Type} : Left H := { results := [], args := [] }

/-- 'laws.FnExactIsAlgebra': WHATEVER THE INPUT: true; the input reads as it did. -/
def fnExactIsAlgebraSpec : ChangeSpec := { name := "fnExactIsAlgebra", fn := fun _ => fun
  | [d1, d2] => { results := [.lit (.bool true)], args := [d1, d2] }
  | _ => none }
def fnExactIsAlgebraRow : OpenClaim := { program := "ytlhbdhdaecchoaa", sum := "75552da9a64f69bede2c5ddffb748d394f993a25d561b06e8e6d6941c77fbb26", func := "loop.example/g03107/laws.FnExactIsAlgebra", spec := "fnExactIsAlgebra", apart := false }
def FnExactIsAlgebraSaid : Prop := fnExactIsAlgebraRow.holds Try.pinned (OpenSpec.ofChange fnExactIsAlgebraSpec)

/-- ITS FALSE NEIGHBOUR: 'it returns false'. Refute it at one input. -/
def fnExactIsAlgebraWrong : ChangeSpec := { name := "fnExactIsAlgebra", fn := fun _ => fun
  | [d1, d2] => { results := [.lit (.bool false)], args := [d1, d2] }
  | _ => none }
def FnExactIsAlgebraWrongFalsely : Prop := fnExactIsAlgebraRow.holds Try.pinned (OpenSpec.ofChange fnExactIsAlgebraWrong)

/-- 'laws.FnExactIsInterpretation': WHATEVER THE INPUT: true; the input reads as it did. -/
def fnExactIsInterpretationSpec : ChangeSpec := { name := "fnExactIsInterpretation", fn := fun _ => fun
  | [d1, d2] => { results := [.lit (.bool true)], args := [d1, d2] }
  | _ => none }
def fnExactIsInterpretationRow : OpenClaim := { program := "ytlhbdhdaecchoaa", sum := "75552da9a64f69bede2c5ddffb748d394f993a25d561b06e8e6d6941c77fbb26", func := "loop.example/g03107/laws.FnExactIsInterpretation", spec := "fnExactIsInterpretation", apart := false }
def FnExactIsInterpretationSaid : Prop := fnExactIsInterpretationRow.holds Try.pinned (OpenSpec.ofChange fnExactIsInterpretationSpec)

/-- ITS FALSE NEIGHBOUR: 'it returns false'. Refute it at one input. -/
def fnExactIsInterpretationWrong : ChangeSpec := { name := "fnExactIsInterpretation", fn := fun _ => fun
  | [d1, d2] => { results := [.lit (.bool false)], args := [d1, d2] }
  | _ => none }
def FnExactIsInterpretationWrongFalsely : Prop := fnExactIsInterpretationRow.holds Try.pinned (OpenSpec.ofChange fnExactIsInterpretationWrong)

/-- 'laws.FnExactObeysAxioms': WHATEVER THE INPUT: true; the input reads as it did. -/
def fnExactObeysAxiomsSpec : ChangeSpec := { name := "fnExactObeysAxioms", fn := fun _ => fun
  | [d1, d2] => { results := [.lit (.bool true)], args := [d1, d2] }
  | _ => none }
def fnExactObeysAxiomsRow : OpenClaim := { program := "ytlhbdhdaecchoaa", sum := "75552da9a64f69bede2c5ddffb748d394f993a25d561b06e8e6d6941c77fbb26", func := "loop.example/g03107/laws.FnExactObeysAxioms", spec := "fnExactObeysAxioms", unfollowed := true, recurses := true, apart := false }
def FnExactObeysAxiomsSaid : Prop := fnExactObeysAxiomsRow.holds Try.pinned (OpenSpec.ofChange fnExactObeysAxiomsSpec)

/-- ITS FALSE NEIGHBOUR: 'it returns false'. Refute it at one input. -/
def fnExactObeysAxiomsWrong : ChangeSpec := { name := "fnExactObeysAxioms", fn := fun _ => fun
  | [d1, d2] => { results := [.lit (.bool false)], args := [d1, d2] }
  | _ => none }
def FnExactObeysAxiomsWrongFalsely : Prop := fnExactObeysAxiomsRow.holds Try.pinned (OpenSpec.ofChange fnExactObeysAxiomsWrong)

/- THE SECOND FORM. 'bulk': how many values and letters a reading holds, each counted each time it is reached (what is shared counts as often as it is met; a slice's spare places count too). A statement '..UptoSaid' is the law's where the arguments, and the package variables that the reading takes, are together of bulk at most 1048576: NARROWER than '..Said'. Prove '..Said' where nothing that the law and all that it calls make is longer than what came in: it says more and counts as full. Else prove '..UptoSaid'. A law counts once. -/
mutual
def uptoBulk {H : Type} : DataW H → Nat
  | .lit (.string bytes) => bytes.length + 1
  | .lit _ => 1
  | .nil => 1
  | .ptr d => uptoBulk d + 1
  | .slice elems spare => uptoBulkAll elems + uptoBulkAll spare + 1
  | .agg parts => uptoBulkAll parts + 1
  | .iface _ d => uptoBulk d + 1
  | .map entries => uptoBulkEntries entries + 1
  | .held _ => 1
def uptoBulkAll {H : Type} : List (DataW H) → Nat
  | [] => 0
  | d :: r => uptoBulk d + uptoBulkAll r
def uptoBulkEntries {H : Type} : List (Lit × DataW H) → Nat
  | [] => 0
  | x :: r => uptoBulkEntry x + uptoBulkEntries r
def uptoBulkEntry {H : Type} : Lit × DataW H → Nat
  | (.string bytes, d) => bytes.length + uptoBulk d + 1
  | (_, d) => uptoBulk d + 1
 end
def uptoSmall : (H : Type) → List (DataW H) → Bool := fun _ ds => decide (uptoBulkAll ds ≤ 1048576)
def OpenSpec.upto (s : _root_.Go.ChangeSpec) : _root_.Go.OpenSpec := { _root_.Go.OpenSpec.ofChange s with cond := some uptoSmall }

/-- 'laws.FnExactIsAlgebra', WHERE WHAT IT READS IS OF BULK AT MOST 1048576: true; the input reads as it did. -/
def fnExactIsAlgebraUptoRow : OpenClaim := { program := "ytlhbdhdaecchoaa", sum := "75552da9a64f69bede2c5ddffb748d394f993a25d561b06e8e6d6941c77fbb26", func := "loop.example/g03107/laws.FnExactIsAlgebra", spec := "fnExactIsAlgebra", apart := false, narrowed := true }
def FnExactIsAlgebraUptoSaid : Prop := fnExactIsAlgebraUptoRow.holds Try.pinned (OpenSpec.upto fnExactIsAlgebraSpec)

/-- 'laws.FnExactIsInterpretation', WHERE WHAT IT READS IS OF BULK AT MOST 1048576: true; the input reads as it did. -/
def fnExactIsInterpretationUptoRow : OpenClaim := { program := "ytlhbdhdaecchoaa", sum := "75552da9a64f69bede2c5ddffb748d394f993a25d561b06e8e6d6941c77fbb26", func := "loop.example/g03107/laws.FnExactIsInterpretation", spec := "fnExactIsInterpretation", apart := false, narrowed := true }
def FnExactIsInterpretationUptoSaid : Prop := fnExactIsInterpretationUptoRow.holds Try.pinned (OpenSpec.upto fnExactIsInterpretationSpec)

/-- 'laws.FnExactObeysAxioms', WHERE WHAT IT READS IS OF BULK AT MOST 1048576: true; the input reads as it did. -/
def fnExactObeysAxiomsUptoRow : OpenClaim := { program := "ytlhbdhdaecchoaa", sum := "75552da9a64f69bede2c5ddffb748d394f993a25d561b06e8e6d6941c77fbb26", func := "loop.example/g03107/laws.FnExactObeysAxioms", spec := "fnExactObeysAxioms", unfollowed := true, recurses := true, apart := false, narrowed := true }
def FnExactObeysAxiomsUptoSaid : Prop := fnExactObeysAxiomsUptoRow.holds Try.pinned (OpenSpec.upto fnExactObeysAxiomsSpec)

end Rows
end Go.Proofs.Ytlhbdhdaecchoaa
