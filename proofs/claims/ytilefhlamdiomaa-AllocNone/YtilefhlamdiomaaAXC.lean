/-
  The program; nothing is known ahead.
-/
import Derived.Test.YtilefhlamdiomaaAXF
import Derived.Test.YtilefhlamdiomaaProg
set_option linter.unusedVariables false
namespace Go.Proofs.Ytilefhlamdiomaa
open Go Go.AX

noncomputable abbrev P : Program := Try.prog

def X : Ext := fun _ => none

theorem x_ok [Quiet] : ExtOk P X := fun f g hg => by cases hg
theorem x_adds : ExtAdds X := fun f g hg => by cases hg

end Go.Proofs.Ytilefhlamdiomaa
