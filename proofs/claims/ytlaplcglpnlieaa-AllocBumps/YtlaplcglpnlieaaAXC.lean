/-
  The program; nothing is known ahead.
-/
import Derived.Test.YtlaplcglpnlieaaAXF
import Derived.Test.YtlaplcglpnlieaaProg
set_option linter.unusedVariables false
namespace Go.Proofs.Ytlaplcglpnlieaa
open Go Go.AX

noncomputable abbrev P : Program := Try.prog

def X : Ext := fun _ => none

theorem x_ok [Quiet] : ExtOk P X := fun f g hg => by cases hg
theorem x_adds : ExtAdds X := fun f g hg => by cases hg

end Go.Proofs.Ytlaplcglpnlieaa
