/-
 AllocFull returns true for every input. No condition.
-/
import Derived.Test.YtlaplcglpnlieaaGreatP24
import Derived.Test.YtlaplcglpnlieaaGreatP23
set_option linter.unusedVariables false
namespace Go.Proofs.YtlaplcglpnlieaaGreat
open Go Go.AX Go.RowKit Go.ChangeShapes Go.WideShapes Go.ChangeAt
set_option maxRecDepth 100000 in
theorem nQ (H':Type) (enc:TypeId × Value→H') (W:World) (base:Nat) (args:Array Value) (ds gs:List (DataW H')) (before:List MemPlace)
  (hval:∀ (j:Nat) t v,Tryz.f5.params[j]?=some t→args[j]?=some v→Value.okWide Tryz.prog W .any base t v)
  (hW:DataW.Whole enc Tryz.prog Tryz.f5.params.toList Rows.allocFullSpec.vars false W args.toList ds gs before):
  Calls Tryz.prog 5 args W fun e W'=>∃ v,e = .returned v∧Rows.allocFullSpec.post enc Tryz.prog Tryz.f5 false true false false W args v W':=by
 have hW':=hW
 obtain ⟨p,q,hA,hV,rfl,hfz,hnd⟩:=hW
 rw[show Tryz.f5.params = #[3,3,3,41,33] from by kernel_rfl] at hA hval
 obtain ⟨v0,vs0,d0,ds0,p0,q0,hargs0,rfl,rfl,h0,r0⟩:=trodAll_cons hA
 obtain ⟨v1,vs1,d1,ds1,p1,q1,hargs1,rfl,rfl,h1,r1⟩:=trodAll_cons r0
 obtain ⟨v2,vs2,d2,ds2,p2,q2,hargs2,rfl,rfl,h2,r2⟩:=trodAll_cons r1
 obtain ⟨v3,vs3,d3,ds3,p3,q3,hargs3,rfl,rfl,h3,r3⟩:=trodAll_cons r2
 obtain ⟨v4,vs4,d4,ds4,p4,q4,hargs4,rfl,rfl,h4,r4⟩:=trodAll_cons r3
 obtain ⟨rfl,rfl,rfl⟩:=trodAll_nil r4
 obtain ⟨rfl,rfl⟩:=trodVars_none hV
 obtain rfl:args = #[v0,v1,v2,v3,v4]:=by cases args; simp_all
 obtain ⟨a0,rfl,rfl,rfl,w0⟩:=open_int Z8 (hval 0 3 v0 rfl rfl) h0
 obtain ⟨a1,rfl,rfl,rfl,w1⟩:=open_int Z8 (hval 1 3 v1 rfl rfl) h1
 obtain ⟨a2,rfl,rfl,rfl,w2⟩:=open_int Z8 (hval 2 3 v2 rfl rfl) h2
 obtain ⟨l3,o3⟩:=rR gw (ST:=41) Tryz.underlying41 (hval 3 41 v3 rfl rfl) h3
 obtain ⟨u40,u41,u42,y40,y41,y42,n4,rfl,rfl,rfl,k40,k41,k42⟩:=Go.Joins.open_agg3 Tryz.underlying33 (by kernel_rfl) (by kernel_rfl) (hval 4 33 v4 rfl rfl) h4
 obtain ⟨x40,hx40,_,w40⟩:=DataW.trod_int Z8 k40
 cases hx40
 obtain ⟨x41,hx41,_,w41⟩:=DataW.trod_int Z8 k41
 cases hx41
 obtain ⟨x42,hx42,_,w42⟩:=DataW.trod_int Z8 k42
 cases hx42
 obtain ⟨pt3,c3,τ3,μ3,O3,S3,V3,M3,L3⟩:=Up.add (Up.nil W) o3
 have ht:=eJ 1000000 (Nat.le_refl _) (σ:=([]:Aa)++τ3) a0 (Po w0) a1 (Po w1) a2 (Po w2) pt3 c3 l3 o3.1 S3 x40 (Po w40) x41 (Po w41) x42 (Po w42)
 refine (kF (gs:=[.int .i64 a0,.int .i64 a1,.int .i64 a2,v3,.agg #[.int .i64 x40,.int .i64 x41,.int .i64 x42]]) ht O3 (.cons (.int _ _) (.cons (.int _ _) (.cons (.int _ _) (.cons V3 (.cons (.agg (.cons (.int _ _) (.cons (.int _ _) (.cons (.int _ _) .nil))) (by intro v hv; simp at hv; rcases hv with rfl | rfl | rfl <;> rfl)) .nil)))))).mono fun x W' ⟨he,hg⟩=>?_
 subst he
 exact ⟨_,rfl,mQ hW' laidOut (by kernel_rfl) rfl (fun _ _ _=>trodAll_mk1 (shut_bool (by kernel_rfl) _)) rfl rfl hg⟩
set_option maxRecDepth 100000 in
theorem lifted (os:Os) (started:os.Started) (H':Type) (enc:TypeId × Value→H'):
  ReturnsInHanded {} Tryz.checked os 5 .any (Rows.allocFullSpec.pre6 enc Tryz.prog Tryz.f5 Rows.allocFullRow.domain false) (Rows.allocFullSpec.post enc Tryz.prog Tryz.f5 false true false false):=by
 refine returnsInHanded_of_change (C:=Tryz.checked) own started (by kernel_rfl) Tryz.func5
  (ChangeSpec.witness6 (enc:=enc) (C:=Tryz.checked) false ⟨#[],#[.int .i64 0,.int .i64 0,.int .i64 0,.slice none 0 0,.agg #[.int .i64 0,.int .i64 0,.int .i64 0]],[]⟩ 8 (by kernel_rfl) (by kernel_rfl) (by kernel_rfl) (by kernel_rfl)) ?_
 intro W base args ds gs before hval hW hcnd _
 exact nQ H' enc W base args ds gs before hval hW
theorem allocFull_holds:Rows.AllocFullSaid:=
 OpenClaim.holds_of_wide 5 Tryz.f5 rfl rfl rfl rfl rfl rfl rfl ⟨rfl,rfl,rfl,rfl,rfl⟩ rfl rfl rfl rfl rfl (by kernel_rfl) Tryz.func5 (by kernel_rfl)
  (of_decide_eq_true (by kernel_rfl)) (by unfold Func.isWrapper; first | (rw[if_pos (by decide +kernel)]; kernel_rfl) | (rw[if_neg (by decide +kernel)]; exact ⟨rfl,rfl⟩))
  (fun os started H enc _=>lifted os started H enc)
#print axioms allocFull_holds
end Go.Proofs.YtlaplcglpnlieaaGreat
