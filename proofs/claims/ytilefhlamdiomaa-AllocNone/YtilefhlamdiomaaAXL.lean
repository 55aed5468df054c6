/-
  The chapter's example, run once; known from here on.
-/
import Derived.Test.YtilefhlamdiomaaAD
set_option maxRecDepth 100000
set_option linter.unusedVariables false
namespace Go.Proofs.Ytilefhlamdiomaa
open Go Go.AX

theorem alive_run : isTrue1 (@Al.d_law05_alive boolQuiet 300 []) = true := by kernel_rfl

def X2 : Ext := fun f => if f = 10 then some trueA else X f

theorem x2_ok (hmix : P.follows .mixedOrders = true) : ExtOk P X2 := by
  have hrun : isTrue1 (@fn boolQuiet P X Al.H 300 10 [] []) = true := by
    have := alive_run
    rw [← @Al.law05_alive_is boolQuiet] at this
    exact this
  intro f g hg
  unfold X2 at hg
  split at hg
  · rename_i hf
    subst hf
    cases hg
    exact known_true (@fn_ok P boolQuiet hmix X (@x_ok boolQuiet) x_adds Al.H 300) hrun
  · exact @x_ok boolQuiet f g hg

theorem x2_adds : ExtAdds X2 := by
  intro f g hg args σ v σ' h
  unfold X2 at hg
  split at hg
  · cases hg
    unfold trueA at h
    split at h
    · cases h; exact List.prefix_rfl
    · cases h
  · exact x_adds f g hg args σ v σ' h

end Go.Proofs.Ytilefhlamdiomaa
