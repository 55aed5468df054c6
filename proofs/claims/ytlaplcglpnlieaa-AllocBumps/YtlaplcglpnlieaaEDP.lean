/-
  AllocBumps returns true for every input. No condition.
-/
import Derived.Test.YtlaplcglpnlieaaED
import Derived.Test.YtlaplcglpnlieaaLGS
set_option linter.unusedVariables false
namespace Go.Proofs.Ytlaplcglpnlieaa
open Go Go.AX Go.RowKit Go.ChangeShapes Go.WideShapes Go.ChangeAt

set_option maxRecDepth 100000 in
theorem contract (H' : Type) (enc : TypeId × Value → H') (W : World) (base : Nat) (args : Array Value) (ds gs : List (DataW H')) (before : List MemPlace)
    (hval : ∀ (j : Nat) t v, Try.f3.params[j]? = some t → args[j]? = some v → Value.okWide Try.prog W .any base t v)
    (hW : DataW.Whole enc Try.prog Try.f3.params.toList Rows.allocBumpsSpec.vars false W args.toList ds gs before) :
    Calls Try.prog 3 args W fun e W' => ∃ v, e = .returned v ∧ Rows.allocBumpsSpec.post enc Try.prog Try.f3 false true false false W args v W' := by
  have hW' := hW
  obtain ⟨p, q, hA, hV, rfl, hfz, hnd⟩ := hW
  rw [show Try.f3.params = #[3, 22, 23] from by kernel_rfl] at hA hval
  obtain ⟨v0, vs0, d0, ds0, p0, q0, hargs0, rfl, rfl, h0, r0⟩ := trodAll_cons hA
  obtain ⟨v1, vs1, d1, ds1, p1, q1, hargs1, rfl, rfl, h1, r1⟩ := trodAll_cons r0
  obtain ⟨v2, vs2, d2, ds2, p2, q2, hargs2, rfl, rfl, h2, r2⟩ := trodAll_cons r1
  obtain ⟨rfl, rfl, rfl⟩ := trodAll_nil r2
  obtain ⟨rfl, rfl⟩ := trodVars_none hV
  obtain rfl : args = #[v0, v1, v2] := by cases args; simp_all
  obtain ⟨a0, rfl, rfl, rfl, w0⟩ := open_int und3 (hval 0 3 v0 rfl rfl) h0
  obtain ⟨l1, o1⟩ := sl_one shapeE_ok (ST := 22) Try.underlying22 (hval 1 22 v1 rfl rfl) h1
  obtain ⟨l2, o2⟩ := sl_one boolE_ok (ST := 23) Try.underlying23 (hval 2 23 v2 rfl rfl) h2
  obtain ⟨pt1, c1, τ1, μ1, O1, S1, V1, M1, L1⟩ := OpenTo.add (OpenTo.nil W) o1
  obtain ⟨pt2, c2, τ2, μ2, O2, S2, V2, M2, L2⟩ := OpenTo.add O1 o2
  have ht := AllocBumps_to 1000000 (Nat.le_refl _) (σ := ([] : AMem) ++ τ1 ++ τ2) a0 (inI_of w0) pt1 c1 l1 o1.1 (S1.app τ2) pt2 c2 l2 o2.1 S2
  refine (true_calls (gs := [.int .i64 a0, v1, v2]) ht O2 (.cons (.int _ _) (.cons (M2 _ _ V1) (.cons V2 .nil)))).mono fun x W' ⟨he, hg⟩ => ?_
  subst he
  exact ⟨_, rfl, post_kept hW' laidOut (by kernel_rfl) rfl (fun _ _ _ => trodAll_mk1 (shut_bool (by kernel_rfl) _)) rfl rfl hg⟩

set_option maxRecDepth 100000 in
theorem lifted (os : Os) (started : os.Started) (H' : Type) (enc : TypeId × Value → H') :
    ReturnsInHanded {} Try.checked os 3 .any (Rows.allocBumpsSpec.pre6 enc Try.prog Try.f3 Rows.allocBumpsRow.domain false) (Rows.allocBumpsSpec.post enc Try.prog Try.f3 false true false false) := by
  refine returnsInHanded_of_change (C := Try.checked) own started (by kernel_rfl) Try.func3
    (ChangeSpec.witness6 (enc := enc) (C := Try.checked) false ⟨#[], #[.int .i64 0, .slice none 0 0, .slice none 0 0], []⟩ 8 (by kernel_rfl) (by kernel_rfl) (by kernel_rfl) (by kernel_rfl)) ?_
  intro W base args ds gs before hval hW hcnd _
  exact contract H' enc W base args ds gs before hval hW

theorem allocBumps_holds : Rows.AllocBumpsSaid :=
  OpenClaim.holds_of_wide 3 Try.f3 rfl rfl rfl rfl rfl rfl rfl ⟨rfl, rfl, rfl, rfl, rfl⟩ rfl rfl rfl rfl rfl (by kernel_rfl) Try.func3 (by kernel_rfl)
    (of_decide_eq_true (by kernel_rfl)) (by unfold Func.isWrapper; first | (rw [if_pos (by decide +kernel)]; kernel_rfl) | (rw [if_neg (by decide +kernel)]; exact ⟨rfl, rfl⟩))
    (fun os started H enc _ => lifted os started H enc)

#print axioms allocBumps_holds

end Go.Proofs.Ytlaplcglpnlieaa
