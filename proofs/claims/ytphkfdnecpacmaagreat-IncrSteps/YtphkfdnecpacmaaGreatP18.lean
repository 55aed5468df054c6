/-
 The chapters' examples, each run once; known from here on.
-/
import Derived.Test.YtphkfdnecpacmaaGreatP17
set_option maxRecDepth 100000
set_option linter.unusedVariables false
namespace Go.Proofs.YtphkfdnecpacmaaGreat
open Go Go.AX
section
local instance:AA:=RP
theorem mz:dv (fk 300 [])=true:=by kernel_rfl
end
abbrev X2:Ext:=XK true
theorem Akh [AA]:yh P (XK false):=by
 intro f g hg
 unfold XK at hg
 split at hg
 ·exact Ai7 f g hg
 exact Ai7 f g hg
theorem Aha:gT (XK false):=by
 intro f g hg
 unfold XK at hg
 split at hg
 ·exact yf f g hg
 exact yf f g hg
theorem Adm (hmix:P.follows .mixedOrders=true) {a:FuncId} (ha:a≠YF) (hrun:dv (@fn RP P (XK false) H 300 a [] [])=true):WX P (fun f args σ=>if f=a then sA args σ else none):=
 xw (@Ade P RP hmix (XK false) (@Akh RP) Aha H 300) ha hrun
theorem iJ:dv (@fn RP P (XK false) H 300 19 [] [])=true:=by
 have:=mz
 rw[← @oL RP] at this
 simp only[GG,Ab] at this
 exact this
theorem Akg (hmix:P.follows .mixedOrders=true):yh P X2:=by
 intro f g hg
 unfold X2 XK at hg
 split at hg
 ·rename_i hf; subst hf; cases hg; exact Adm hmix (by decide) iJ
 exact @Ai7 RP f g hg
theorem Ag9:gT X2:=by
 have ht:∀ args σ v σ',sA args σ=some (v,σ')→σ <+: σ':=by
  intro args σ v σ' h
  unfold sA at h
  split at h
  ·cases h; exact List.prefix_rfl
  ·cases h
 intro f g hg args σ v σ' h
 unfold X2 XK at hg
 split at hg
 ·cases hg; exact ht _ _ _ _ h
 exact yf f g hg args σ v σ' h
end Go.Proofs.YtphkfdnecpacmaaGreat
