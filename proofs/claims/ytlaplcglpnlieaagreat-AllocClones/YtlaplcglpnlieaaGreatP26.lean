/-
 AllocClones returns true for every input. No condition.
-/
import Derived.Test.YtlaplcglpnlieaaGreatP25
import Derived.Test.YtlaplcglpnlieaaGreatP24
set_option linter.unusedVariables false
namespace Go.Proofs.YtlaplcglpnlieaaGreat
open Go Go.AX Go.RowKit Go.ChangeShapes Go.WideShapes Go.ChangeAt
set_option maxRecDepth 100000 in
theorem oE (H':Type) (enc:TypeId × Value→H') (W:World) (base:Nat) (args:Array Value) (ds gs:List (DataW H')) (before:List MemPlace)
  (hval:∀ (j:Nat) t v,Tryz.f8.params[j]?=some t→args[j]?=some v→Value.okWide Tryz.prog W .any base t v)
  (hW:DataW.Whole enc Tryz.prog Tryz.f8.params.toList Rows.allocClonesSpec.vars false W args.toList ds gs before):
  Calls Tryz.prog 8 args W fun e W'=>∃ v,e = .returned v∧Rows.allocClonesSpec.post enc Tryz.prog Tryz.f8 false true false false W args v W':=by
 have hW':=hW
 obtain ⟨p,q,hA,hV,rfl,hfz,hnd⟩:=hW
 rw[show Tryz.f8.params = #[3,3,3,41,68] from by kernel_rfl] at hA hval
 obtain ⟨v0,vs0,d0,ds0,p0,q0,hargs0,rfl,rfl,h0,r0⟩:=trodAll_cons hA
 obtain ⟨v1,vs1,d1,ds1,p1,q1,hargs1,rfl,rfl,h1,r1⟩:=trodAll_cons r0
 obtain ⟨v2,vs2,d2,ds2,p2,q2,hargs2,rfl,rfl,h2,r2⟩:=trodAll_cons r1
 obtain ⟨v3,vs3,d3,ds3,p3,q3,hargs3,rfl,rfl,h3,r3⟩:=trodAll_cons r2
 obtain ⟨v4,vs4,d4,ds4,p4,q4,hargs4,rfl,rfl,h4,r4⟩:=trodAll_cons r3
 obtain ⟨rfl,rfl,rfl⟩:=trodAll_nil r4
 obtain ⟨rfl,rfl⟩:=trodVars_none hV
 obtain rfl:args = #[v0,v1,v2,v3,v4]:=by cases args; simp_all
 obtain ⟨a0,rfl,rfl,rfl,w0⟩:=open_int ay (hval 0 3 v0 rfl rfl) h0
 obtain ⟨a1,rfl,rfl,rfl,w1⟩:=open_int ay (hval 1 3 v1 rfl rfl) h1
 obtain ⟨a2,rfl,rfl,rfl,w2⟩:=open_int ay (hval 2 3 v2 rfl rfl) h2
 obtain ⟨l3,o3⟩:=pU ij (ST:=41) Tryz.underlying41 (hval 3 41 v3 rfl rfl) h3
 obtain ⟨l4,o4⟩:=pU fK (ST:=68) Tryz.underlying68 (hval 4 68 v4 rfl rfl) h4
 obtain ⟨pt3,c3,τ3,μ3,O3,S3,V3,M3,L3⟩:=Tu.add (Tu.nil W) o3
 obtain ⟨pt4,c4,τ4,μ4,O4,S4,V4,M4,L4⟩:=Tu.add O3 o4
 have ht:=aO 1000000 (Nat.le_refl _) (σ:=([]:Aa)++τ3++τ4) a0 (PC w0) a1 (PC w1) a2 (PC w2) pt3 c3 l3 o3.1 (S3.app τ4) pt4 c4 l4 o4.1 S4
 refine (lC (gs:=[.int .i64 a0,.int .i64 a1,.int .i64 a2,v3,v4]) ht O4 (.cons (.int _ _) (.cons (.int _ _) (.cons (.int _ _) (.cons (M4 _ _ V3) (.cons V4 .nil)))))).mono fun x W' ⟨he,hg⟩=>?_
 subst he
 exact ⟨_,rfl,nE hW' laidOut (by kernel_rfl) rfl (fun _ _ _=>trodAll_mk1 (shut_bool (by kernel_rfl) _)) rfl rfl hg⟩
set_option maxRecDepth 100000 in
theorem lifted (os:Os) (started:os.Started) (H':Type) (enc:TypeId × Value→H'):
  ReturnsInHanded {} Tryz.checked os 8 .any (Rows.allocClonesSpec.pre6 enc Tryz.prog Tryz.f8 Rows.allocClonesRow.domain false) (Rows.allocClonesSpec.post enc Tryz.prog Tryz.f8 false true false false):=by
 refine returnsInHanded_of_change (C:=Tryz.checked) own started (by kernel_rfl) Tryz.func8
  (ChangeSpec.witness6 (enc:=enc) (C:=Tryz.checked) false ⟨#[],#[.int .i64 0,.int .i64 0,.int .i64 0,.slice none 0 0,.slice none 0 0],[]⟩ 8 (by kernel_rfl) (by kernel_rfl) (by kernel_rfl) (by kernel_rfl)) ?_
 intro W base args ds gs before hval hW hcnd _
 exact oE H' enc W base args ds gs before hval hW
theorem allocClones_holds:Rows.AllocClonesSaid:=
 OpenClaim.holds_of_wide 8 Tryz.f8 rfl rfl rfl rfl rfl rfl rfl ⟨rfl,rfl,rfl,rfl,rfl⟩ rfl rfl rfl rfl rfl (by kernel_rfl) Tryz.func8 (by kernel_rfl)
  (of_decide_eq_true (by kernel_rfl)) (by unfold Func.isWrapper; first | (rw[if_pos (by decide +kernel)]; kernel_rfl) | (rw[if_neg (by decide +kernel)]; exact ⟨rfl,rfl⟩))
  (fun os started H enc _=>lifted os started H enc)
#print axioms allocClones_holds
end Go.Proofs.YtlaplcglpnlieaaGreat
