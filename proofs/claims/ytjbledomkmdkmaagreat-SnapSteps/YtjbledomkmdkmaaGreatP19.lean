/-
 PRINTED BY A PROGRAM OF THIS SESSION'S OWN (gen2.py): the unfolding equations.
-/
import Derived.Test.YtjbledomkmdkmaaGreatP12
import Derived.Test.YtjbledomkmdkmaaGreatP13
import Derived.Test.YtjbledomkmdkmaaGreatP14
import Derived.Test.YtjbledomkmdkmaaGreatP15
import Derived.Test.YtjbledomkmdkmaaGreatP16
import Derived.Test.YtjbledomkmdkmaaGreatP17
import Derived.Test.YtjbledomkmdkmaaGreatP18
set_option maxRecDepth 100000
set_option linter.unusedVariables false
set_option linter.unusedSimpArgs false
set_option linter.unusedSectionVars false
namespace Go.Proofs.YtjbledomkmdkmaaGreat
open Go Go.AX
section
variable [A9] [Kn]
end
theorem jX [A9] (k:Nat) (σ:Aa):@GN _ ⟨true⟩ (k+1) σ=some (.bool true,σ):=by
 simp only[GN,Ab]; kernel_rfl
theorem oC (a:Addr):Od P Hd (.pointer (some a)) (.pointer none)=some false∧Od P Hd (.pointer none) (.pointer none)=some true∧Od P HG (.pointer (some a)) (.pointer none)=some false∧Od P HG (.pointer none) (.pointer none)=some true∧Od P FM (.pointer (some a)) (.pointer none)=some false∧Od P FM (.pointer none) (.pointer none)=some true∧Od P LM (.pointer (some a)) (.pointer none)=some false∧Od P LM (.pointer none) (.pointer none)=some true∧Od P FL (.pointer (some a)) (.pointer none)=some false∧Od P FL (.pointer none) (.pointer none)=some true∧Od P He (.pointer (some a)) (.pointer none)=some false∧Od P He (.pointer none) (.pointer none)=some true∧Od P HH (.pointer (some a)) (.pointer none)=some false∧Od P HH (.pointer none) (.pointer none)=some true∧Od P WQ (.pointer (some a)) (.pointer none)=some false∧Od P WQ (.pointer none) (.pointer none)=some true∧Od P tQ (.pointer (some a)) (.pointer none)=some false∧Od P tQ (.pointer none) (.pointer none)=some true∧Od P Of (.pointer (some a)) (.pointer none)=some false∧Od P Of (.pointer none) (.pointer none)=some true∧Od P Pj (.pointer (some a)) (.pointer none)=some false∧Od P Pj (.pointer none) (.pointer none)=some true:=by
 refine ⟨?_, ?_, ?_, ?_, ?_, ?_, ?_, ?_, ?_, ?_, ?_, ?_, ?_, ?_, ?_, ?_, ?_, ?_, ?_, ?_, ?_, ?_⟩ <;> kernel_rfl
abbrev R2:FuncId:=285
section
local instance kn0:Kn:=⟨false⟩
variable [A9]
theorem bW (k:Nat):GN (k+1)=Xq k (JA k) (D6 k) (HN k) (Du k) (EF k) (Ei k) (Ej k) (EG k) (BU k) (BE k) (BF k) (Bl k) (EH k) (Lb k):=by
 funext  _; simp only[JA,D6,GN,HN,Du,EF,Ei,Ej,EG,BU,BE,BF,Bl,EH,Lb,Ab,Xq,sw,Ad,Af,Ae]; kernel_rfl
end
end Go.Proofs.YtjbledomkmdkmaaGreat
