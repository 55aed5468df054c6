/-
  The chapters' examples, each run once; known from here on.
-/
import Derived.Test.YtilefhlamdiomaaGreatSAD
set_option maxRecDepth 100000
set_option linter.unusedVariables false
namespace Go.Proofs.YtilefhlamdiomaaGreat
open Go Go.AX

section
local instance : Quiet := boolQuiet
theorem law08_alive_run : isTrue1 (s_law08_alive 300 []) = true := by kernel_rfl
end

abbrev X2 : Ext := XK true

theorem xf_ok [Quiet] : ExtOk P (XK false) := by
  intro f g hg
  unfold XK at hg
  split at hg
  · exact x_ok f g hg
  exact x_ok f g hg
theorem xf_adds : ExtAdds (XK false) := by
  intro f g hg
  unfold XK at hg
  split at hg
  · exact x_adds f g hg
  exact x_adds f g hg

theorem known_is (hmix : P.follows .mixedOrders = true) {a : FuncId} (ha : a ≠ YF) (hrun : isTrue1 (@fn boolQuiet P (XK false) H 300 a [] []) = true) : CallOk P (fun f args σ => if f = a then trueA args σ else none) :=
  known_true (@fn_ok P boolQuiet hmix (XK false) (@xf_ok boolQuiet) xf_adds H 300) ha hrun

theorem law08_alive_known : isTrue1 (@fn boolQuiet P (XK false) H 300 22 [] []) = true := by
  have := law08_alive_run
  rw [← @law08_alive_is boolQuiet] at this
  simp only [d_law08_alive, hide_eq] at this
  exact this

theorem x2_ok (hmix : P.follows .mixedOrders = true) : ExtOk P X2 := by
  intro f g hg
  unfold X2 XK at hg
  split at hg
  · rename_i hf; subst hf; cases hg; exact known_is hmix (by decide) law08_alive_known
  exact @x_ok boolQuiet f g hg

theorem x2_adds : ExtAdds X2 := by
  have ht : ∀ args σ v σ', trueA args σ = some (v, σ') → σ <+: σ' := by
    intro args σ v σ' h
    unfold trueA at h
    split at h
    · cases h; exact List.prefix_rfl
    · cases h
  intro f g hg args σ v σ' h
  unfold X2 XK at hg
  split at hg
  · cases hg; exact ht _ _ _ _ h
  exact x_adds f g hg args σ v σ' h

end Go.Proofs.YtilefhlamdiomaaGreat
