/-
 SnapRoots returns true for every input. No condition.
-/
import Derived.Test.YtjbledomkmdkmaaGreatP36
import Derived.Test.YtjbledomkmdkmaaGreatP33
set_option linter.unusedVariables false
set_option linter.unusedSimpArgs false
set_option linter.unusedSectionVars false
namespace Go.Proofs.YtjbledomkmdkmaaGreat
open Go Go.AX Go.RowKit Go.ChangeShapes Go.WideShapes Go.ChangeAt
noncomputable section
set_option maxRecDepth 100000 in
theorem oV (H':Type) (enc:TypeId × Value->H') (W:World) (base:Nat) (args:Array Value) (ds gs:List (DataW H')) (before:List MemPlace)
  (hval:∀ (j:Nat) t v,Tryz.f4.params[j]?=some t->args[j]?=some v->Value.okWide Tryz.prog W .any base t v)
  (hW:DataW.Whole enc Tryz.prog Tryz.f4.params.toList Rows.snapRootsSpec.vars false W args.toList ds gs before):
  Calls Tryz.prog 4 args W fun e W'=>∃ v,e = .returned v/\Rows.snapRootsSpec.post enc Tryz.prog Tryz.f4 false true false false W args v W':=by
 have hW':=hW;obtain ⟨p,q,hA,hV,rfl,hfz,hnd⟩:=hW;rw[show Tryz.f4.params = #[27,24] from by kernel_rfl] at hA hval;obtain ⟨v0,vs0,d0,ds0,p0,q0,hargs0,rfl,rfl,h0,r0⟩:=trodAll_cons hA;obtain ⟨v1,vs1,d1,ds1,p1,q1,hargs1,rfl,rfl,h1,r1⟩:=trodAll_cons r0;obtain ⟨rfl,rfl,rfl⟩:=trodAll_nil r1;obtain ⟨rfl,rfl⟩:=trodVars_none hV;obtain rfl:args = #[v0,v1]:=by cases args; simp_all
 obtain ⟨b0,m0,vo0,vd0,vl0,vp0,vq0,rfl,hb0,hm0,hw0,s20,s30,s40,s50,s60⟩:=gZ (hval 0 27 v0 rfl rfl) h0;obtain ⟨B0,τ0,Z0_,A0,O0,M0,V0⟩:=lK (Ow.nil W) hb0 hm0 hw0 s20 s30 s40 s50 s60;obtain ⟨l1,o1⟩:=uN YV (ST:=24) Tryz.underlying24 (hval 1 24 v1 rfl rfl) h1;obtain ⟨pt1,c1,τ1,Z1_,O1,S1,V1,M1,_⟩:=Ow.add O0 o1;have ht:=bU 1000000 (by decide) B0 (A0.app τ1) (by simp) ((S1).u8 o1 c1);refine (jz (f:=4) (by decide) (gs:=[.agg #[.int .u8 b0,.int .u8 m0,vo0,vd0,vl0,vp0,vq0],v1]) ht O1 (.cons (M1 _ _ V0) (.cons V1 .nil))).mono fun x W' ⟨he,hg⟩=>?_;subst he;exact ⟨_,rfl,mW hW' laidOut (by kernel_rfl) rfl (fun _ _ _=>trodAll_mk1 (shut_bool (by kernel_rfl) _)) rfl rfl hg⟩
set_option maxRecDepth 100000 in
theorem lifted (os:Os) (started:os.Started) (H':Type) (enc:TypeId × Value->H'):
  ReturnsInHanded {} Tryz.checked os 4 .any (Rows.snapRootsSpec.pre6 enc Tryz.prog Tryz.f4 Rows.snapRootsRow.domain false) (Rows.snapRootsSpec.post enc Tryz.prog Tryz.f4 false true false false):=by
 refine returnsInHanded_of_change (C:=Tryz.checked) own started (by kernel_rfl) Tryz.func4
  (ChangeSpec.witness6 (enc:=enc) (C:=Tryz.checked) false ⟨#[],#[.agg #[.int .u8 0,.int .u8 0,.slice none 0 0,.slice none 0 0,.slice none 0 0,.slice none 0 0,.slice none 0 0],.slice none 0 0],[]⟩ 8 (by kernel_rfl) (by kernel_rfl) (by kernel_rfl) (by kernel_rfl)) ?_;intro W base args ds gs before hval hW hcnd _;exact oV H' enc W base args ds gs before hval hW
theorem snapRoots_holds:Rows.SnapRootsSaid:=
 OpenClaim.holds_of_wide 4 Tryz.f4 rfl rfl rfl rfl rfl rfl rfl ⟨rfl,rfl,rfl,rfl,rfl⟩ rfl rfl rfl rfl rfl (by kernel_rfl) Tryz.func4 (by kernel_rfl)
  (of_decide_eq_true (by kernel_rfl)) (by unfold Func.isWrapper; first | (rw[yk (by decide +kernel)]; kernel_rfl) | (rw[ym (by decide +kernel)]; exact ⟨rfl,rfl⟩))
  (fun os started H enc _=>lifted os started H enc)
#print axioms snapRoots_holds
end
end Go.Proofs.YtjbledomkmdkmaaGreat
