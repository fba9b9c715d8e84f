/-
  Part of a proof: Qw, Cf.
-/
import Derived.Test.YtffmjghcpgpfpaaGreatDoorBBase0
import Derived.Test.YtffmjghcpgpfpaaGreatDoorBBase1
import Derived.Test.YtffmjghcpgpfpaaGreatDoorBBase2
import Derived.Test.YtffmjghcpgpfpaaGreatDoorBBase3
import Derived.Test.YtffmjghcpgpfpaaGreatDoorBBase4
set_option linter.unusedSimpArgs false
set_option linter.unusedVariables false
set_option maxHeartbeats 400000000
namespace Go.Proofs.YtffmjghcpgpfpaaGreatDoor
open Go.RowKit
theorem Kept.all1 {D:Prop} {B:Nat} {w w':World} (h:Kept D e1.E B w w') (h1:e1.G w) (h2:e1.G w'):Kept D (fun _=>False) B w w':=⟨h.os,h.tape,h.output,h.drawn,h.size,fun k hk _=>by
 by_cases e:k=2
 ·have k1:ZcX w:=h1
  have k2:ZcX w':=h2
  subst e
  unfold ZcX at k1 k2
  exact k2.trans k1.symm
 ·exact h.block k hk e⟩
end Go.Proofs.YtffmjghcpgpfpaaGreatDoor
