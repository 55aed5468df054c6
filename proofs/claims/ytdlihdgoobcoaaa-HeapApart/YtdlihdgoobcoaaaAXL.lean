/-
  The chapters' examples, each run once; known from here on.
-/
import Derived.Test.YtdlihdgoobcoaaaAD
set_option maxRecDepth 100000
set_option linter.unusedVariables false
namespace Go.Proofs.Ytdlihdgoobcoaaa
open Go Go.AX

theorem law02_alive_run : isTrue1 (@Al.d_law02_alive boolQuiet 300 []) = true := by kernel_rfl

def X2 : Ext := fun f => if f = 15 then some trueA else X f

theorem known_is (hmix : P.follows .mixedOrders = true) {a : FuncId} (hrun : isTrue1 (@fn boolQuiet P X Al.H 300 a [] []) = true) : CallOk P (fun f args σ => if f = a then trueA args σ else none) :=
  known_true (@fn_ok P boolQuiet hmix X (@x_ok boolQuiet) x_adds Al.H 300) hrun

theorem law02_alive_known : isTrue1 (@fn boolQuiet P X Al.H 300 15 [] []) = true := by
  have := law02_alive_run
  rw [← @Al.law02_alive_is boolQuiet] at this
  exact this

theorem x2_ok (hmix : P.follows .mixedOrders = true) : ExtOk P X2 := by
  intro f g hg
  unfold X2 at hg
  split at hg
  · rename_i hf; subst hf; cases hg; exact known_is hmix law02_alive_known
  exact @x_ok boolQuiet f g hg

theorem x2_adds : ExtAdds X2 := by
  have ht : ∀ args σ v σ', trueA args σ = some (v, σ') → σ <+: σ' := by
    intro args σ v σ' h
    unfold trueA at h
    split at h
    · cases h; exact List.prefix_rfl
    · cases h
  intro f g hg args σ v σ' h
  unfold X2 at hg
  split at hg
  · cases hg; exact ht _ _ _ _ h
  exact x_adds f g hg args σ v σ' h

end Go.Proofs.Ytdlihdgoobcoaaa
