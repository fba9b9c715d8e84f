/-
  Part of a proof.
-/
import Derived.Test.YtbecmfjokofihaaGreatDoorBChainTermsCard5
import Derived.Test.YtbecmfjokofihaaGreatDoorTie
import Derived.Test.YtbecmfjokofihaaGreatDoorCards
set_option linter.unusedSimpArgs false
set_option linter.unusedVariables false
set_option maxHeartbeats 400000000
set_option maxRecDepth 100000
namespace Go.Proofs.YtbecmfjokofihaaGreatDoor
open Go.RowKit
section
open Go.ChangeShapes Go.WideShapes Go.ChangeAt Go.Deep
theorem ZiB:joinedFacts Tryz.checked.prog 3 Tryz.f3 Rows.fnExactChainTermsSpec Rows.fnExactChainTermsRow=true:=by
 unfold joinedFacts;simp only [Tar]
 and_intros
 all_goals as_aux_lemma=>kernel_rfl
theorem Zf2:Tryz.checked.prog.funcNamed Rows.fnExactChainTermsRow.func=some 3:=by kernel_rfl
end
end Go.Proofs.YtbecmfjokofihaaGreatDoor
