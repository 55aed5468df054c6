/-
  HeapPlays returns true for every input. No condition.
-/
import Derived.Test.YtlaplcglpnlieaaGreatM5
import Derived.Test.YtlaplcglpnlieaaGreatLAZ
set_option linter.unusedVariables false
namespace Go.Proofs.YtlaplcglpnlieaaGreat
open Go Go.AX Go.RowKit Go.ChangeShapes Go.WideShapes Go.ChangeAt
set_option maxRecDepth 100000 in
theorem contract (H':Type) (enc:TypeId × Value→H') (W:World) (base:Nat) (args:Array Value) (ds gs:List (DataW H')) (before:List MemPlace)
    (hval:∀ (j:Nat) t v,Tryz.f3.params[j]?=some t→args[j]?=some v→Value.okWide Tryz.prog W .any base t v)
    (hW:DataW.Whole enc Tryz.prog Tryz.f3.params.toList Rows.heapPlaysSpec.vars false W args.toList ds gs before):
    Calls Tryz.prog 3 args W fun e W'=>∃ v,e = .returned v∧Rows.heapPlaysSpec.post enc Tryz.prog Tryz.f3 false true false false W args v W':=by
  have hW':=hW
  obtain ⟨p,q,hA,hV,rfl,hfz,hnd⟩:=hW
  rw[show Tryz.f3.params = #[3,22] from by kernel_rfl] at hA hval
  obtain ⟨v0,vs0,d0,ds0,p0,q0,hargs0,rfl,rfl,h0,r0⟩:=trodAll_cons hA
  obtain ⟨v1,vs1,d1,ds1,p1,q1,hargs1,rfl,rfl,h1,r1⟩:=trodAll_cons r0
  obtain ⟨rfl,rfl,rfl⟩:=trodAll_nil r1
  obtain ⟨rfl,rfl⟩:=trodVars_none hV
  obtain rfl:args = #[v0,v1]:=by cases args; simp_all
  obtain ⟨a0,rfl,rfl,rfl,w0⟩:=open_int und3 (hval 0 3 v0 rfl rfl) h0
  obtain ⟨l,pt,c2,σ,μ,hok,hAt,hlt,hR,hnw,hF,hRV⟩:=acts_open Tryz.underlying22 (hval 1 22 v1 rfl rfl) h1
  have ht:=HeapPlays_to 1000000 (Nat.le_refl _) a0 pt c2 l hok σ hAt hlt
  refine (true_calls (gs:=[.int .i64 a0,v1]) ht hR hnw hF (.cons (.int _ _) (.cons hRV .nil))).mono fun x W' ⟨he,hg⟩=>?_
  subst he
  exact ⟨_,rfl,post_kept hW' laidOut (by kernel_rfl) rfl (fun _ _ _=>trodAll_mk1 (shut_bool (by kernel_rfl) _)) rfl rfl hg⟩
set_option maxRecDepth 100000 in
theorem lifted (os:Os) (started:os.Started) (H':Type) (enc:TypeId × Value→H'):
    ReturnsInHanded {} Tryz.checked os 3 .any (Rows.heapPlaysSpec.pre6 enc Tryz.prog Tryz.f3 Rows.heapPlaysRow.domain false) (Rows.heapPlaysSpec.post enc Tryz.prog Tryz.f3 false true false false):=by
  refine returnsInHanded_of_change (C:=Tryz.checked) own started (by kernel_rfl) Tryz.func3
    (ChangeSpec.witness6 (enc:=enc) (C:=Tryz.checked) false ⟨#[],#[.int .i64 0,.slice none 0 0],[]⟩ 8 (by kernel_rfl) (by kernel_rfl) (by kernel_rfl) (by kernel_rfl)) ?_
  intro W base args ds gs before hval hW hcnd _
  exact contract H' enc W base args ds gs before hval hW
theorem heapPlays_holds:Rows.HeapPlaysSaid:=
  OpenClaim.holds_of_wide 3 Tryz.f3 rfl rfl rfl rfl rfl rfl rfl ⟨rfl,rfl,rfl,rfl,rfl⟩ rfl rfl rfl rfl rfl (by kernel_rfl) Tryz.func3 (by kernel_rfl)
    (of_decide_eq_true (by kernel_rfl)) (by unfold Func.isWrapper; first | (rw[if_pos (by decide +kernel)]; kernel_rfl) | (rw[if_neg (by decide +kernel)]; exact ⟨rfl,rfl⟩))
    (fun os started H enc _=>lifted os started H enc)
#print axioms heapPlays_holds
end Go.Proofs.YtlaplcglpnlieaaGreat
