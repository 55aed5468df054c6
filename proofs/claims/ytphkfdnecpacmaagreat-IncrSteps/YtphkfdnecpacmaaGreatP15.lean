/-
 PRINTED BY A PROGRAM OF THIS SESSION'S OWN (gen2.py): the unfolding equations.
-/
import Derived.Test.YtphkfdnecpacmaaGreatP10
set_option maxRecDepth 100000
set_option linter.unusedVariables false
set_option linter.unusedSimpArgs false
set_option linter.unusedSectionVars false
namespace Go.Proofs.YtphkfdnecpacmaaGreat
open Go Go.AX
section
variable [AA] [Kn]
theorem Qy (k n:Nat):FX k (n+1)=JM k (D4 k) (FX k n):=by
 funext _ _ _ _; simp only[D4,FX,Ab,JM,sw,Ad,Af,Ae]; kernel_rfl
end
end Go.Proofs.YtphkfdnecpacmaaGreat
