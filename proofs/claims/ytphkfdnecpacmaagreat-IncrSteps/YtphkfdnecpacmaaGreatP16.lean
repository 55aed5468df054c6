/-
 PRINTED BY A PROGRAM OF THIS SESSION'S OWN (gen2.py): the unfolding equations.
-/
import Derived.Test.YtphkfdnecpacmaaGreatP11
import Derived.Test.YtphkfdnecpacmaaGreatP12
import Derived.Test.YtphkfdnecpacmaaGreatP13
import Derived.Test.YtphkfdnecpacmaaGreatP14
import Derived.Test.YtphkfdnecpacmaaGreatP15
set_option maxRecDepth 100000
set_option linter.unusedVariables false
set_option linter.unusedSimpArgs false
set_option linter.unusedSectionVars false
namespace Go.Proofs.YtphkfdnecpacmaaGreat
open Go Go.AX
section
variable [AA] [Kn]
end
theorem jM [AA] (k:Nat) (σ:Aa):@GG _ ⟨true⟩ (k+1) σ=some (.bool true,σ):=by
 simp only[GG,Ab]; kernel_rfl
theorem ow (a:Addr):NW P GY (.pointer (some a)) (.pointer none)=some false∧NW P GY (.pointer none) (.pointer none)=some true∧NW P HA (.pointer (some a)) (.pointer none)=some false∧NW P HA (.pointer none) (.pointer none)=some true∧NW P FL (.pointer (some a)) (.pointer none)=some false∧NW P FL (.pointer none) (.pointer none)=some true∧NW P LD (.pointer (some a)) (.pointer none)=some false∧NW P LD (.pointer none) (.pointer none)=some true∧NW P FK (.pointer (some a)) (.pointer none)=some false∧NW P FK (.pointer none) (.pointer none)=some true∧NW P GZ (.pointer (some a)) (.pointer none)=some false∧NW P GZ (.pointer none) (.pointer none)=some true∧NW P HB (.pointer (some a)) (.pointer none)=some false∧NW P HB (.pointer none) (.pointer none)=some true∧NW P WC (.pointer (some a)) (.pointer none)=some false∧NW P WC (.pointer none) (.pointer none)=some true∧NW P NY (.pointer (some a)) (.pointer none)=some false∧NW P NY (.pointer none) (.pointer none)=some true∧NW P tD (.pointer (some a)) (.pointer none)=some false∧NW P tD (.pointer none) (.pointer none)=some true∧NW P Pc (.pointer (some a)) (.pointer none)=some false∧NW P Pc (.pointer none) (.pointer none)=some true:=by
 refine ⟨?_, ?_, ?_, ?_, ?_, ?_, ?_, ?_, ?_, ?_, ?_, ?_, ?_, ?_, ?_, ?_, ?_, ?_, ?_, ?_, ?_, ?_⟩ <;> kernel_rfl
abbrev Rv:FuncId:=278
section
local instance kn0:Kn:=⟨false⟩
variable [AA]
theorem bL (k:Nat):GG (k+1)=Xe k (J5 k) (EB k) (Ee k) (Eg k) (EC k) (BS k) (BA k) (BB k) (Bk k) (ED k) (KV k) (D4 k) (HF k) (Ds k):=by
 funext  _; simp only[J5,EB,Ee,Eg,EC,BS,BA,BB,Bk,ED,KV,D4,GG,HF,Ds,Ab,Xe,sw,Ad,Af,Ae]; kernel_rfl
end
end Go.Proofs.YtphkfdnecpacmaaGreat
