/-
  The program; nothing is known ahead.
-/
import Derived.Test.YtilefhlamdiomaaGreatAXF
import Derived.Test.YtilefhlamdiomaaGreatProg
set_option linter.unusedVariables false
namespace Go.Proofs.YtilefhlamdiomaaGreat
open Go Go.AX

noncomputable abbrev P : Program := Tryz.prog

def X : Ext := fun _ => none

theorem x_ok [Quiet] : ExtOk P X := fun f g hg => by cases hg
theorem x_adds : ExtAdds X := fun f g hg => by cases hg

end Go.Proofs.YtilefhlamdiomaaGreat
