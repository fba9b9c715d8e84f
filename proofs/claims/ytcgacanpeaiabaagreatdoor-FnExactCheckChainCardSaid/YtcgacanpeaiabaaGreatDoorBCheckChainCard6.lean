/-
  Part of a proof.
-/
import Derived.Test.YtcgacanpeaiabaaGreatDoorBCheckChainCard5
import Derived.Test.YtcgacanpeaiabaaGreatDoorTie
import Derived.Test.YtcgacanpeaiabaaGreatDoorCards
set_option linter.unusedSimpArgs false
set_option linter.unusedVariables false
set_option maxHeartbeats 400000000
set_option maxRecDepth 100000
namespace Go.Proofs.YtcgacanpeaiabaaGreatDoor
open Go.ChangeShapes Go.WideShapes Go.ChangeAt Go.RowKit Go.Deep
theorem ZhI:joinedFacts Tryz.checked.prog 5 Tryz.f5 Rows.fnExactCheckChainSpec Rows.fnExactCheckChainRow=true:=by
 unfold joinedFacts;simp only [Tar]
 and_intros
 all_goals as_aux_lemma=>kernel_rfl
theorem Zfe:Tryz.checked.prog.funcNamed Rows.fnExactCheckChainRow.func=some 5:=by kernel_rfl
end Go.Proofs.YtcgacanpeaiabaaGreatDoor
