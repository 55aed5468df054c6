/-
 SnapTwo returns true for every input. No condition.
-/
import Derived.Test.YtjbledomkmdkmaaGreatP12
import Derived.Test.YtjbledomkmdkmaaGreatP11
set_option linter.unusedVariables false
set_option linter.unusedSimpArgs false
set_option linter.unusedSectionVars false
namespace Go.Proofs.YtjbledomkmdkmaaGreat
open Go Go.AX Go.RowKit Go.ChangeShapes Go.WideShapes Go.ChangeAt
noncomputable section
set_option maxRecDepth 100000 in
theorem uE (z:Type) (enc:TypeId × Value->z) (W:World) (base:Nat) (args:Array Value) (K gs:List (DataW z)) (before:List MemPlace)
  (a:∀ (j:Nat) t v,Tryz.f8.params[j]?=some t->args[j]?=some v->Value.okWide Tryz.prog W .any base t v)
  (C:DataW.Whole enc Tryz.prog Tryz.f8.params.toList Rows.snapTwoSpec.vars false W args.toList K gs before):
  Calls Tryz.prog 8 args W fun e A=>∃ v,e = .returned v/\Rows.snapTwoSpec.post enc Tryz.prog Tryz.f8 false true false false W args v A:=by
 have d:=C;obtain ⟨p,q,B,N,rfl,O,Q⟩:=C;rw[show Tryz.f8.params = #[27,59] from by kernel_rfl] at B a;obtain ⟨v0,Y,d0,L,p0,q0,b,rfl,rfl,h0,V⟩:=trodAll_cons B;obtain ⟨v1,Z,d1,M,p1,q1,c,rfl,rfl,h1,X⟩:=trodAll_cons V;obtain ⟨rfl,rfl,rfl⟩:=trodAll_nil X;obtain ⟨rfl,rfl⟩:=trodVars_none N;obtain rfl:args = #[v0,v1]:=by cases args; simp_all
 obtain ⟨I,T,u,r,s,w,y,rfl,g,h,i,k,l,m,n,o⟩:=ni (a 0 27 v0 rfl rfl) h0;obtain ⟨B0,τ0,Z0_,A0,E,M0,G⟩:=rD (Qh.nil W) g h i k l m n o;obtain ⟨l1,D⟩:=Aag Ww (ST:=59) Tryz.underlying59 (a 1 59 v1 rfl rfl) h1;obtain ⟨U,J,τ1,Z1_,F,S1,H,M1,_⟩:=Qh.add E D;have S:=mX 1000000 (by decide) B0 (A0.app τ1) (by simp) ((S1).u8 D J);refine (oR (f:=8) (by decide) (gs:=[.agg #[.int .u8 I,.int .u8 T,u,r,s,w,y],v1]) S F (.cons (M1 _ _ G) (.cons H .nil))).mono fun x A ⟨he,P⟩=>?_;subst he;exact ⟨_,rfl,sO d laidOut (by kernel_rfl) rfl (fun _ _ _=>trodAll_mk1 (shut_bool (by kernel_rfl) _)) rfl rfl P⟩
set_option maxRecDepth 100000 in
theorem lifted (os:Os) (started:os.Started) (b:Type) (enc:TypeId × Value->b):
  ReturnsInHanded {} Tryz.checked os 8 .any (Rows.snapTwoSpec.pre6 enc Tryz.prog Tryz.f8 Rows.snapTwoRow.domain false) (Rows.snapTwoSpec.post enc Tryz.prog Tryz.f8 false true false false):=by
 refine returnsInHanded_of_change (C:=Tryz.checked) own started (by kernel_rfl) Tryz.func8
  (ChangeSpec.witness6 (enc:=enc) (C:=Tryz.checked) false ⟨#[],#[.agg #[.int .u8 0,.int .u8 0,.slice none 0 0,.slice none 0 0,.slice none 0 0,.slice none 0 0,.slice none 0 0],.slice none 0 0],[]⟩ 8 (by kernel_rfl) (by kernel_rfl) (by kernel_rfl) (by kernel_rfl)) ?_;intro W base args d gs before a e c _;exact uE b enc W base args d gs before a e
theorem zP:joinedFacts Tryz.checked.prog 8 Tryz.f8 Rows.snapTwoSpec Rows.snapTwoRow=true:=by kernel_rfl
theorem snapTwo_holds:Rows.SnapTwoSaid:=
 OpenClaim.holds_of_wide 8 Tryz.f8 rfl rfl rfl rfl rfl rfl rfl ⟨rfl,rfl,rfl,rfl,rfl⟩ rfl rfl rfl rfl rfl (by kernel_rfl) Tryz.func8 zP
  (of_decide_eq_true (by kernel_rfl)) (by unfold Func.isWrapper; first | (rw[Aay (by decide +kernel)]; kernel_rfl) | (rw[Aaz (by decide +kernel)]; exact ⟨rfl,rfl⟩))
  (fun os started H enc _=>lifted os started H enc)
#print axioms snapTwo_holds
end
end Go.Proofs.YtjbledomkmdkmaaGreat
