/-
 AllocLines returns true for every input. No condition.
-/
import Derived.Test.YtlaplcglpnlieaaGreatP24
set_option linter.unusedVariables false
namespace Go.Proofs.YtlaplcglpnlieaaGreat
open Go Go.AX Go.RowKit Go.ChangeShapes Go.WideShapes Go.ChangeAt
set_option maxRecDepth 100000 in
theorem mX (H':Type) (enc:TypeId × Value→H') (W:World) (base:Nat) (args:Array Value) (ds gs:List (DataW H')) (before:List MemPlace)
  (hval:∀ (j:Nat) t v,Tryz.f7.params[j]?=some t→args[j]?=some v→Value.okWide Tryz.prog W .any base t v)
  (hW:DataW.Whole enc Tryz.prog Tryz.f7.params.toList Rows.allocLinesSpec.vars false W args.toList ds gs before):
  Calls Tryz.prog 7 args W fun e W'=>∃ v,e = .returned v∧Rows.allocLinesSpec.post enc Tryz.prog Tryz.f7 false true false false W args v W':=by
 have hW':=hW
 obtain ⟨p,q,hA,hV,rfl,hfz,hnd⟩:=hW
 rw[show Tryz.f7.params = #[3,3,41,33] from by kernel_rfl] at hA hval
 obtain ⟨v0,vs0,d0,ds0,p0,q0,hargs0,rfl,rfl,h0,r0⟩:=trodAll_cons hA
 obtain ⟨v1,vs1,d1,ds1,p1,q1,hargs1,rfl,rfl,h1,r1⟩:=trodAll_cons r0
 obtain ⟨v2,vs2,d2,ds2,p2,q2,hargs2,rfl,rfl,h2,r2⟩:=trodAll_cons r1
 obtain ⟨v3,vs3,d3,ds3,p3,q3,hargs3,rfl,rfl,h3,r3⟩:=trodAll_cons r2
 obtain ⟨rfl,rfl,rfl⟩:=trodAll_nil r3
 obtain ⟨rfl,rfl⟩:=trodVars_none hV
 obtain rfl:args = #[v0,v1,v2,v3]:=by cases args; simp_all
 obtain ⟨a0,rfl,rfl,rfl,w0⟩:=open_int bN (hval 0 3 v0 rfl rfl) h0
 obtain ⟨a1,rfl,rfl,rfl,w1⟩:=open_int bN (hval 1 3 v1 rfl rfl) h1
 obtain ⟨l2,o2⟩:=qN fF (ST:=41) Tryz.underlying41 (hval 2 41 v2 rfl rfl) h2
 obtain ⟨u30,u31,u32,y30,y31,y32,n3,rfl,rfl,rfl,k30,k31,k32⟩:=Go.Joins.open_agg3 Tryz.underlying33 (by kernel_rfl) (by kernel_rfl) (hval 3 33 v3 rfl rfl) h3
 obtain ⟨x30,hx30,_,w30⟩:=DataW.trod_int bN k30
 cases hx30
 obtain ⟨x31,hx31,_,w31⟩:=DataW.trod_int bN k31
 cases hx31
 obtain ⟨x32,hx32,_,w32⟩:=DataW.trod_int bN k32
 cases hx32
 obtain ⟨pt2,c2,τ2,μ2,O2,S2,V2,M2,L2⟩:=Uo.add (Uo.nil W) o2
 have ht:=bT 1000000 (Nat.le_refl _) (σ:=([]:Aa)++τ2) a0 (Qv w0) a1 (Qv w1) pt2 c2 l2 o2.1 S2 x30 (Qv w30) x31 (Qv w31) x32 (Qv w32)
 refine (jM (gs:=[.int .i64 a0,.int .i64 a1,v2,.agg #[.int .i64 x30,.int .i64 x31,.int .i64 x32]]) ht O2 (.cons (.int _ _) (.cons (.int _ _) (.cons V2 (.cons (.agg (.cons (.int _ _) (.cons (.int _ _) (.cons (.int _ _) .nil))) (by intro v hv; simp at hv; rcases hv with rfl | rfl | rfl <;> rfl)) .nil))))).mono fun x W' ⟨he,hg⟩=>?_
 subst he
 exact ⟨_,rfl,lX hW' laidOut (by kernel_rfl) rfl (fun _ _ _=>trodAll_mk1 (shut_bool (by kernel_rfl) _)) rfl rfl hg⟩
set_option maxRecDepth 100000 in
theorem lifted (os:Os) (started:os.Started) (H':Type) (enc:TypeId × Value→H'):
  ReturnsInHanded {} Tryz.checked os 7 .any (Rows.allocLinesSpec.pre6 enc Tryz.prog Tryz.f7 Rows.allocLinesRow.domain false) (Rows.allocLinesSpec.post enc Tryz.prog Tryz.f7 false true false false):=by
 refine returnsInHanded_of_change (C:=Tryz.checked) own started (by kernel_rfl) Tryz.func7
  (ChangeSpec.witness6 (enc:=enc) (C:=Tryz.checked) false ⟨#[],#[.int .i64 0,.int .i64 0,.slice none 0 0,.agg #[.int .i64 0,.int .i64 0,.int .i64 0]],[]⟩ 8 (by kernel_rfl) (by kernel_rfl) (by kernel_rfl) (by kernel_rfl)) ?_
 intro W base args ds gs before hval hW hcnd _
 exact mX H' enc W base args ds gs before hval hW
theorem allocLines_holds:Rows.AllocLinesSaid:=
 OpenClaim.holds_of_wide 7 Tryz.f7 rfl rfl rfl rfl rfl rfl rfl ⟨rfl,rfl,rfl,rfl,rfl⟩ rfl rfl rfl rfl rfl (by kernel_rfl) Tryz.func7 (by kernel_rfl)
  (of_decide_eq_true (by kernel_rfl)) (by unfold Func.isWrapper; first | (rw[if_pos (by decide +kernel)]; kernel_rfl) | (rw[if_neg (by decide +kernel)]; exact ⟨rfl,rfl⟩))
  (fun os started H enc _=>lifted os started H enc)
#print axioms allocLines_holds
end Go.Proofs.YtlaplcglpnlieaaGreat
