/-
 The chapters' examples, each run once; known from here on.
-/
import Derived.Test.YtjbledomkmdkmaaGreatP20
set_option maxRecDepth 100000
set_option linter.unusedVariables false
namespace Go.Proofs.YtjbledomkmdkmaaGreat
open Go Go.AX
section
local instance:A9:=RY
theorem mL:dG (fK 300 [])=true:=by kernel_rfl
end
abbrev X2:Ext:=XK true
theorem Ak1 [A9]:yz P (XK false):=by
 intro f g hg
 unfold XK at hg
 split at hg
 ·exact Ajs f g hg
 exact Ajs f g hg
theorem Aht:ia (XK false):=by
 intro f g hg
 unfold XK at hg
 split at hg
 ·exact yx f g hg
 exact yx f g hg
theorem Ad7 (hmix:P.follows .mixedOrders=true) {a:FuncId} (ha:a≠YF) (hrun:dG (@fn RY P (XK false) H 300 a [] [])=true):Xj P (fun f args σ=>if f=a then sL args σ else none):=
 xO (@Ady P RY hmix (XK false) (@Ak1 RY) Aht H 300) ha hrun
theorem iW:dG (@fn RY P (XK false) H 300 20 [] [])=true:=by
 have:=mL
 rw[← @oV RY] at this
 simp only[GN,Ab] at this
 exact this
theorem Ak0 (hmix:P.follows .mixedOrders=true):yz P X2:=by
 intro f g hg
 unfold X2 XK at hg
 split at hg
 ·rename_i hf; subst hf; cases hg; exact Ad7 hmix (by decide) iW
 exact @Ajs RY f g hg
theorem Ahs:ia X2:=by
 have ht:∀ args σ v σ',sL args σ=some (v,σ')→σ <+: σ':=by
  intro args σ v σ' h
  unfold sL at h
  split at h
  ·cases h; exact List.prefix_rfl
  ·cases h
 intro f g hg args σ v σ' h
 unfold X2 XK at hg
 split at hg
 ·cases hg; exact ht _ _ _ _ h
 exact yx f g hg args σ v σ' h
end Go.Proofs.YtjbledomkmdkmaaGreat
