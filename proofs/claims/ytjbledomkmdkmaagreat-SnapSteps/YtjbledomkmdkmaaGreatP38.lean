/-
 SnapSteps returns true for every input. No condition.
-/
import Derived.Test.YtjbledomkmdkmaaGreatP34
import Derived.Test.YtjbledomkmdkmaaGreatP37
set_option linter.unusedVariables false
namespace Go.Proofs.YtjbledomkmdkmaaGreat
open Go Go.AX Go.RowKit Go.ChangeShapes Go.WideShapes Go.ChangeAt
set_option maxRecDepth 100000 in
theorem Adr (H':Type) (enc:TypeId × Value→H') (W:World) (base:Nat) (args:Array Value) (ds gs:List (DataW H')) (before:List MemPlace)
  (hval:∀ (j:Nat) t v,Tryz.f3.params[j]?=some t→args[j]?=some v→Value.okWide Tryz.prog W .any base t v)
  (hW:DataW.Whole enc Tryz.prog Tryz.f3.params.toList Rows.snapStepsSpec.vars false W args.toList ds gs before):
  Calls Tryz.prog 3 args W fun e W'=>∃ v,e = .returned v∧Rows.snapStepsSpec.post enc Tryz.prog Tryz.f3 false true false false W args v W':=by
 have hW':=hW
 obtain ⟨p,q,hA,hV,rfl,hfz,hnd⟩:=hW
 rw[show Tryz.f3.params = #[27,5,5,5] from by kernel_rfl] at hA hval
 obtain ⟨v0,vs0,d0,ds0,p0,q0,hargs0,rfl,rfl,h0,r0⟩:=trodAll_cons hA
 obtain ⟨v1,vs1,d1,ds1,p1,q1,hargs1,rfl,rfl,h1,r1⟩:=trodAll_cons r0
 obtain ⟨v2,vs2,d2,ds2,p2,q2,hargs2,rfl,rfl,h2,r2⟩:=trodAll_cons r1
 obtain ⟨v3,vs3,d3,ds3,p3,q3,hargs3,rfl,rfl,h3,r3⟩:=trodAll_cons r2
 obtain ⟨rfl,rfl,rfl⟩:=trodAll_nil r3
 obtain ⟨rfl,rfl⟩:=trodVars_none hV
 obtain rfl:args = #[v0,v1,v2,v3]:=by cases args; simp_all
 obtain ⟨b0,m0,vo0,vd0,vl0,vp0,vq0,rfl,hb0,hm0,hw0,s20,s30,s40,s50,s60⟩:=xk (hval 0 27 v0 rfl rfl) h0
 obtain ⟨B0,τ0,μ0,A0,O0,M0,V0⟩:=Aae (Zb.nil W) hb0 hm0 hw0 s20 s30 s40 s50 s60
 obtain ⟨a1,rfl,rfl,rfl,w1⟩:=open_int (k:=.u8) (by kernel_rfl) (hval 1 5 v1 rfl rfl) h1
 obtain ⟨a2,rfl,rfl,rfl,w2⟩:=open_int (k:=.u8) (by kernel_rfl) (hval 2 5 v2 rfl rfl) h2
 obtain ⟨a3,rfl,rfl,rfl,w3⟩:=open_int (k:=.u8) (by kernel_rfl) (hval 3 5 v3 rfl rfl) h3
 have ht:=sS 1000000 (by decide) B0 A0 (by simp) a1 (sM w1) a2 (sM w2) a3 (sM w3)
 refine (yr (f:=3) (by decide) (gs:=[.agg #[.int .u8 b0,.int .u8 m0,vo0,vd0,vl0,vp0,vq0],.int .u8 a1,.int .u8 a2,.int .u8 a3]) ht O0 (.cons V0 (.cons (.int _ _) (.cons (.int _ _) (.cons (.int _ _) .nil))))).mono fun x W' ⟨he,hg⟩=>?_
 subst he
 exact ⟨_,rfl,Abl hW' laidOut (by kernel_rfl) rfl (fun _ _ _=>trodAll_mk1 (shut_bool (by kernel_rfl) _)) rfl rfl hg⟩
set_option maxRecDepth 100000 in
theorem lifted (os:Os) (started:os.Started) (H':Type) (enc:TypeId × Value→H'):
  ReturnsInHanded {} Tryz.checked os 3 .any (Rows.snapStepsSpec.pre6 enc Tryz.prog Tryz.f3 Rows.snapStepsRow.domain false) (Rows.snapStepsSpec.post enc Tryz.prog Tryz.f3 false true false false):=by
 refine returnsInHanded_of_change (C:=Tryz.checked) own started (by kernel_rfl) Tryz.func3
  (ChangeSpec.witness6 (enc:=enc) (C:=Tryz.checked) false ⟨#[],#[.agg #[.int .u8 0,.int .u8 0,.slice none 0 0,.slice none 0 0,.slice none 0 0,.slice none 0 0,.slice none 0 0],.int .u8 0,.int .u8 0,.int .u8 0],[]⟩ 8 (by kernel_rfl) (by kernel_rfl) (by kernel_rfl) (by kernel_rfl)) ?_
 intro W base args ds gs before hval hW hcnd _
 exact Adr H' enc W base args ds gs before hval hW
theorem snapSteps_holds:Rows.SnapStepsSaid:=
 OpenClaim.holds_of_wide 3 Tryz.f3 rfl rfl rfl rfl rfl rfl rfl ⟨rfl,rfl,rfl,rfl,rfl⟩ rfl rfl rfl rfl rfl (by kernel_rfl) Tryz.func3 (by kernel_rfl)
  (of_decide_eq_true (by kernel_rfl)) (by unfold Func.isWrapper; first | (rw[if_pos (by decide +kernel)]; kernel_rfl) | (rw[if_neg (by decide +kernel)]; exact ⟨rfl,rfl⟩))
  (fun os started H enc _=>lifted os started H enc)
#print axioms snapSteps_holds
end Go.Proofs.YtjbledomkmdkmaaGreat
