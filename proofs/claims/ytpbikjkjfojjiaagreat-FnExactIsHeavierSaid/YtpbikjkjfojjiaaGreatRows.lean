/-
  NARROWER THAN 'FOR EVERY INPUT', by the rows' own cells (each row's printed sentence says how): FnExactIsEquation: loops · FnExactIsModule: loops · FnExactValueIn: loops · FnExactHoldsIn: loops · FnExactIsModel: loops · FnExactIsHeavier: loops.
  DERIVED. THE GIVEN ROWS OF THIS SEAT. 6 by the template 'for every input the law returns true; each argument reads behind the call as it read before'; 0 by the template 'total and deterministic' (their statements: YtpbikjkjfojjiaaGreatTotals.lean).
  GIVEN WITH THE SEED: the statements are not yours to turn. If you find one false, say at which input.
  Laid BY PROGRAM, IN A SANDBOX (cutbox-rows.mjs): the forced cells as the released guide's own fill.sh prints them over the translation be532df71d0046c0… (all of the seat's roots in one cut). By AI agents, Wed Nov 11 2026. No macro, syntax, notation, axiom, sorry.
-/
import Derived.Test.YtpbikjkjfojjiaaGreatChecked
import GoSem.Claim
import GoSem.ClaimJoined
import GoSem.ClaimMapViews
import Derived.JoinedTies
import Derived.KernelRfl
namespace Go.Proofs.YtpbikjkjfojjiaaGreat
/- THE CELL 'sum', in the pinned program and in every row, IS THE sha256 OF THE DUMP (.gsa) THAT YtpbikjkjfojjiaaGreatProg.lean LOADS. Nothing in Lean hashes anything: it is a label: what it is worth is what the hold of that sum in a sandbox is worth. -/
noncomputable def Tryz.pinned : Pinned := { name := "ytpbikjkjfojjiaagreat", sum := "be532df71d0046c08bc3946c099b5f1250c87be39cfd7809d8681daee8b4f031", checked := Tryz.checked }
namespace Rows
def none {H : Type} : Left H := { results := [], args := [] }

/-- 'laws.FnExactIsEquation': WHATEVER THE INPUT: true; the input reads as it did. -/
def fnExactIsEquationSpec : ChangeSpec := { name := "fnExactIsEquation", fn := fun _ => fun
  | [d1, d2] => { results := [.lit (.bool true)], args := [d1, d2] }
  | _ => none }
def fnExactIsEquationRow : OpenClaim := { program := "ytpbikjkjfojjiaagreat", sum := "be532df71d0046c08bc3946c099b5f1250c87be39cfd7809d8681daee8b4f031", func := "loop.example/g03107/laws.FnExactIsEquation", spec := "fnExactIsEquation", inPlace := ["internal/bytealg.abigen_runtime_cmpstring"], unfollowed := true, recurses := true, loops := true, apart := false }
def FnExactIsEquationSaid : Prop := fnExactIsEquationRow.holds Tryz.pinned (OpenSpec.ofChange fnExactIsEquationSpec)

/-- ITS FALSE NEIGHBOUR: 'it returns false'. Refute it at one input. -/
def fnExactIsEquationWrong : ChangeSpec := { name := "fnExactIsEquation", fn := fun _ => fun
  | [d1, d2] => { results := [.lit (.bool false)], args := [d1, d2] }
  | _ => none }
def FnExactIsEquationWrongFalsely : Prop := fnExactIsEquationRow.holds Tryz.pinned (OpenSpec.ofChange fnExactIsEquationWrong)

/-- 'laws.FnExactIsModule': WHATEVER THE INPUT: true; the input reads as it did. -/
def fnExactIsModuleSpec : ChangeSpec := { name := "fnExactIsModule", fn := fun _ => fun
  | [d] => { results := [.lit (.bool true)], args := [d] }
  | _ => none }
def fnExactIsModuleRow : OpenClaim := { program := "ytpbikjkjfojjiaagreat", sum := "be532df71d0046c08bc3946c099b5f1250c87be39cfd7809d8681daee8b4f031", func := "loop.example/g03107/laws.FnExactIsModule", spec := "fnExactIsModule", inPlace := ["internal/bytealg.abigen_runtime_cmpstring"], unfollowed := true, recurses := true, loops := true, apart := false }
def FnExactIsModuleSaid : Prop := fnExactIsModuleRow.holds Tryz.pinned (OpenSpec.ofChange fnExactIsModuleSpec)

/-- ITS FALSE NEIGHBOUR: 'it returns false'. Refute it at one input. -/
def fnExactIsModuleWrong : ChangeSpec := { name := "fnExactIsModule", fn := fun _ => fun
  | [d] => { results := [.lit (.bool false)], args := [d] }
  | _ => none }
def FnExactIsModuleWrongFalsely : Prop := fnExactIsModuleRow.holds Tryz.pinned (OpenSpec.ofChange fnExactIsModuleWrong)

/-- 'laws.FnExactValueIn': WHATEVER THE INPUT: true; the input reads as it did. -/
def fnExactValueInSpec : ChangeSpec := { name := "fnExactValueIn", fn := fun _ => fun
  | [d1, d2, d3, d4] => { results := [.lit (.bool true)], args := [d1, d2, d3, d4] }
  | _ => none }
def fnExactValueInRow : OpenClaim := { program := "ytpbikjkjfojjiaagreat", sum := "be532df71d0046c08bc3946c099b5f1250c87be39cfd7809d8681daee8b4f031", func := "loop.example/g03107/laws.FnExactValueIn", spec := "fnExactValueIn", inPlace := ["internal/bytealg.abigen_runtime_cmpstring"], unfollowed := true, recurses := true, loops := true, apart := false }
def FnExactValueInSaid : Prop := fnExactValueInRow.holds Tryz.pinned (OpenSpec.ofChange fnExactValueInSpec)

/-- ITS FALSE NEIGHBOUR: 'it returns false'. Refute it at one input. -/
def fnExactValueInWrong : ChangeSpec := { name := "fnExactValueIn", fn := fun _ => fun
  | [d1, d2, d3, d4] => { results := [.lit (.bool false)], args := [d1, d2, d3, d4] }
  | _ => none }
def FnExactValueInWrongFalsely : Prop := fnExactValueInRow.holds Tryz.pinned (OpenSpec.ofChange fnExactValueInWrong)

/-- 'laws.FnExactHoldsIn': WHATEVER THE INPUT: true; the input reads as it did. -/
def fnExactHoldsInSpec : ChangeSpec := { name := "fnExactHoldsIn", fn := fun _ => fun
  | [d1, d2, d3, d4] => { results := [.lit (.bool true)], args := [d1, d2, d3, d4] }
  | _ => none }
def fnExactHoldsInRow : OpenClaim := { program := "ytpbikjkjfojjiaagreat", sum := "be532df71d0046c08bc3946c099b5f1250c87be39cfd7809d8681daee8b4f031", func := "loop.example/g03107/laws.FnExactHoldsIn", spec := "fnExactHoldsIn", inPlace := ["internal/bytealg.abigen_runtime_cmpstring"], unfollowed := true, recurses := true, loops := true, apart := false }
def FnExactHoldsInSaid : Prop := fnExactHoldsInRow.holds Tryz.pinned (OpenSpec.ofChange fnExactHoldsInSpec)

/-- ITS FALSE NEIGHBOUR: 'it returns false'. Refute it at one input. -/
def fnExactHoldsInWrong : ChangeSpec := { name := "fnExactHoldsIn", fn := fun _ => fun
  | [d1, d2, d3, d4] => { results := [.lit (.bool false)], args := [d1, d2, d3, d4] }
  | _ => none }
def FnExactHoldsInWrongFalsely : Prop := fnExactHoldsInRow.holds Tryz.pinned (OpenSpec.ofChange fnExactHoldsInWrong)

/-- 'laws.FnExactIsModel': WHATEVER THE INPUT: true; the input reads as it did. -/
def fnExactIsModelSpec : ChangeSpec := { name := "fnExactIsModel", fn := fun _ => fun
  | [d1, d2] => { results := [.lit (.bool true)], args := [d1, d2] }
  | _ => none }
def fnExactIsModelRow : OpenClaim := { program := "ytpbikjkjfojjiaagreat", sum := "be532df71d0046c08bc3946c099b5f1250c87be39cfd7809d8681daee8b4f031", func := "loop.example/g03107/laws.FnExactIsModel", spec := "fnExactIsModel", inPlace := ["internal/bytealg.abigen_runtime_cmpstring"], unfollowed := true, recurses := true, loops := true, apart := false }
def FnExactIsModelSaid : Prop := fnExactIsModelRow.holds Tryz.pinned (OpenSpec.ofChange fnExactIsModelSpec)

/-- ITS FALSE NEIGHBOUR: 'it returns false'. Refute it at one input. -/
def fnExactIsModelWrong : ChangeSpec := { name := "fnExactIsModel", fn := fun _ => fun
  | [d1, d2] => { results := [.lit (.bool false)], args := [d1, d2] }
  | _ => none }
def FnExactIsModelWrongFalsely : Prop := fnExactIsModelRow.holds Tryz.pinned (OpenSpec.ofChange fnExactIsModelWrong)

/-- 'laws.FnExactIsHeavier': WHATEVER THE INPUT: true; the input reads as it did. -/
def fnExactIsHeavierSpec : ChangeSpec := { name := "fnExactIsHeavier", fn := fun _ => fun
  | [d1, d2, d3, d4] => { results := [.lit (.bool true)], args := [d1, d2, d3, d4] }
  | _ => none }
def fnExactIsHeavierRow : OpenClaim := { program := "ytpbikjkjfojjiaagreat", sum := "be532df71d0046c08bc3946c099b5f1250c87be39cfd7809d8681daee8b4f031", func := "loop.example/g03107/laws.FnExactIsHeavier", spec := "fnExactIsHeavier", inPlace := ["internal/bytealg.abigen_runtime_cmpstring"], unfollowed := true, recurses := true, loops := true, apart := false }
def FnExactIsHeavierSaid : Prop := fnExactIsHeavierRow.holds Tryz.pinned (OpenSpec.ofChange fnExactIsHeavierSpec)

/-- ITS FALSE NEIGHBOUR: 'it returns false'. Refute it at one input. -/
def fnExactIsHeavierWrong : ChangeSpec := { name := "fnExactIsHeavier", fn := fun _ => fun
  | [d1, d2, d3, d4] => { results := [.lit (.bool false)], args := [d1, d2, d3, d4] }
  | _ => none }
def FnExactIsHeavierWrongFalsely : Prop := fnExactIsHeavierRow.holds Tryz.pinned (OpenSpec.ofChange fnExactIsHeavierWrong)

/- THE SECOND FORM. 'bulk': how many values and letters a reading holds, each counted each time it is reached (what is shared counts as often as it is met; a slice's spare places count too). A statement '..UptoSaid' is the law's where the arguments, and the package variables that the reading takes, are together of bulk at most 1048576: NARROWER than '..Said'. Prove '..Said' where nothing that the law and all that it calls make is longer than what came in: it says more and counts as full. Else prove '..UptoSaid'. A law counts once. -/
mutual
def uptoBulk {H : Type} : DataW H → Nat
  | .lit (.string bytes) => bytes.length + 1
  | .lit _ => 1
  | .nil => 1
  | .ptr d => uptoBulk d + 1
  | .slice elems spare => uptoBulkAll elems + uptoBulkAll spare + 1
  | .agg parts => uptoBulkAll parts + 1
  | .iface _ d => uptoBulk d + 1
  | .map entries => uptoBulkEntries entries + 1
  | .held _ => 1
def uptoBulkAll {H : Type} : List (DataW H) → Nat
  | [] => 0
  | d :: r => uptoBulk d + uptoBulkAll r
def uptoBulkEntries {H : Type} : List (Lit × DataW H) → Nat
  | [] => 0
  | x :: r => uptoBulkEntry x + uptoBulkEntries r
def uptoBulkEntry {H : Type} : Lit × DataW H → Nat
  | (.string bytes, d) => bytes.length + uptoBulk d + 1
  | (_, d) => uptoBulk d + 1
 end
def uptoSmall : (H : Type) → List (DataW H) → Bool := fun _ ds => decide (uptoBulkAll ds ≤ 1048576)
def OpenSpec.upto (s : _root_.Go.ChangeSpec) : _root_.Go.OpenSpec := { _root_.Go.OpenSpec.ofChange s with cond := some uptoSmall }

/-- 'laws.FnExactIsEquation', WHERE WHAT IT READS IS OF BULK AT MOST 1048576: true; the input reads as it did. -/
def fnExactIsEquationUptoRow : OpenClaim := { program := "ytpbikjkjfojjiaagreat", sum := "be532df71d0046c08bc3946c099b5f1250c87be39cfd7809d8681daee8b4f031", func := "loop.example/g03107/laws.FnExactIsEquation", spec := "fnExactIsEquation", inPlace := ["internal/bytealg.abigen_runtime_cmpstring"], unfollowed := true, recurses := true, loops := true, apart := false, narrowed := true }
def FnExactIsEquationUptoSaid : Prop := fnExactIsEquationUptoRow.holds Tryz.pinned (OpenSpec.upto fnExactIsEquationSpec)

/-- 'laws.FnExactIsModule', WHERE WHAT IT READS IS OF BULK AT MOST 1048576: true; the input reads as it did. -/
def fnExactIsModuleUptoRow : OpenClaim := { program := "ytpbikjkjfojjiaagreat", sum := "be532df71d0046c08bc3946c099b5f1250c87be39cfd7809d8681daee8b4f031", func := "loop.example/g03107/laws.FnExactIsModule", spec := "fnExactIsModule", inPlace := ["internal/bytealg.abigen_runtime_cmpstring"], unfollowed := true, recurses := true, loops := true, apart := false, narrowed := true }
def FnExactIsModuleUptoSaid : Prop := fnExactIsModuleUptoRow.holds Tryz.pinned (OpenSpec.upto fnExactIsModuleSpec)

/-- 'laws.FnExactValueIn', WHERE WHAT IT READS IS OF BULK AT MOST 1048576: true; the input reads as it did. -/
def fnExactValueInUptoRow : OpenClaim := { program := "ytpbikjkjfojjiaagreat", sum := "be532df71d0046c08bc3946c099b5f1250c87be39cfd7809d8681daee8b4f031", func := "loop.example/g03107/laws.FnExactValueIn", spec := "fnExactValueIn", inPlace := ["internal/bytealg.abigen_runtime_cmpstring"], unfollowed := true, recurses := true, loops := true, apart := false, narrowed := true }
def FnExactValueInUptoSaid : Prop := fnExactValueInUptoRow.holds Tryz.pinned (OpenSpec.upto fnExactValueInSpec)

/-- 'laws.FnExactHoldsIn', WHERE WHAT IT READS IS OF BULK AT MOST 1048576: true; the input reads as it did. -/
def fnExactHoldsInUptoRow : OpenClaim := { program := "ytpbikjkjfojjiaagreat", sum := "be532df71d0046c08bc3946c099b5f1250c87be39cfd7809d8681daee8b4f031", func := "loop.example/g03107/laws.FnExactHoldsIn", spec := "fnExactHoldsIn", inPlace := ["internal/bytealg.abigen_runtime_cmpstring"], unfollowed := true, recurses := true, loops := true, apart := false, narrowed := true }
def FnExactHoldsInUptoSaid : Prop := fnExactHoldsInUptoRow.holds Tryz.pinned (OpenSpec.upto fnExactHoldsInSpec)

/-- 'laws.FnExactIsModel', WHERE WHAT IT READS IS OF BULK AT MOST 1048576: true; the input reads as it did. -/
def fnExactIsModelUptoRow : OpenClaim := { program := "ytpbikjkjfojjiaagreat", sum := "be532df71d0046c08bc3946c099b5f1250c87be39cfd7809d8681daee8b4f031", func := "loop.example/g03107/laws.FnExactIsModel", spec := "fnExactIsModel", inPlace := ["internal/bytealg.abigen_runtime_cmpstring"], unfollowed := true, recurses := true, loops := true, apart := false, narrowed := true }
def FnExactIsModelUptoSaid : Prop := fnExactIsModelUptoRow.holds Tryz.pinned (OpenSpec.upto fnExactIsModelSpec)

/-- 'laws.FnExactIsHeavier', WHERE WHAT IT READS IS OF BULK AT MOST 1048576: true; the input reads as it did. -/
def fnExactIsHeavierUptoRow : OpenClaim := { program := "ytpbikjkjfojjiaagreat", sum := "be532df71d0046c08bc3946c099b5f1250c87be39cfd7809d8681daee8b4f031", func := "loop.example/g03107/laws.FnExactIsHeavier", spec := "fnExactIsHeavier", inPlace := ["internal/bytealg.abigen_runtime_cmpstring"], unfollowed := true, recurses := true, loops := true, apart := false, narrowed := true }
def FnExactIsHeavierUptoSaid : Prop := fnExactIsHeavierUptoRow.holds Tryz.pinned (OpenSpec.upto fnExactIsHeavierSpec)

end Rows
end Go.Proofs.YtpbikjkjfojjiaaGreat
