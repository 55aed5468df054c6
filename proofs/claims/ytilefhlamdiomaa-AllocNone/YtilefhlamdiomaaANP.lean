/-
  AllocNone returns true for every shape, space and policy: an allocator that nobody made returns ErrState and zero values, and there is none on a heap that nobody made. No condition.
-/
import Derived.Test.YtilefhlamdiomaaAN
import Derived.Test.YtilefhlamdiomaaAXR
import Derived.Test.YtilefhlamdiomaaRows
import Derived.Test.YtilefhlamdiomaaChecked
import Derived.Lib.SmallJoins
set_option linter.unusedVariables false
namespace Go.Proofs.Ytilefhlamdiomaa
open Go Go.AX Go.RowKit Go.ChangeShapes Go.WideShapes Go.ChangeAt

theorem own : ownKnob Try.prog.godebug = none := by kernel_rfl
theorem laidOut : laidOutB Try.prog = true := by kernel_rfl

theorem none_true (a b c d e : Int) (w : World) : Calls Try.prog 3 #[.agg #[.int .i64 a, .int .i64 b, .int .i64 c], .int .i64 d, .int .i64 e] w fun x w' => x = .returned (.bool true) ∧ Below w.heap.size w w' := by
  obtain ⟨σ', h⟩ := AllocNone_to a b c d e
  obtain ⟨hlen, _, _, hc⟩ := @fn_ok P boolQuiet Try.checked.mixed X2 (x2_ok Try.checked.mixed) x2_adds H 300 _ _ _ _ _ h
  have h0 : R P (fun _ => none) [] w := ⟨fun h o k h1 _ => by simp at h1, fun h k h1 => (by cases h1), fun h h' k k' h1 => (by cases h1)⟩
  refine (hc (fun _ => none) w #[.agg #[.int .i64 a, .int .i64 b, .int .i64 c], .int .i64 d, .int .i64 e] h0 (fun _ _ _ => rfl) ?_).mono ?_
  · exact .cons (.agg (.cons (.int _ _) (.cons (.int _ _) (.cons (.int _ _) .nil))) (by intro v hv; simp at hv; rcases hv with rfl | rfl | rfl <;> rfl)) (.cons (.int _ _) (.cons (.int _ _) .nil))
  · rintro x w' ⟨μ', v', rfl, hv, hR, hS⟩
    cases hv
    exact ⟨rfl, below_of_step hS fun b hb => absurd hb (Nat.not_lt_zero _)⟩

set_option maxRecDepth 100000 in
theorem contract (H : Type) (enc : TypeId × Value → H) (W : World) (base : Nat) (args : Array Value) (ds gs : List (DataW H)) (before : List MemPlace)
    (hval : ∀ (j : Nat) t v, Try.f3.params[j]? = some t → args[j]? = some v → Value.okWide Try.prog W .any base t v)
    (hW : DataW.Whole enc Try.prog Try.f3.params.toList Rows.allocNoneSpec.vars false W args.toList ds gs before) :
    Calls Try.prog 3 args W fun e W' => ∃ v, e = .returned v ∧ Rows.allocNoneSpec.post enc Try.prog Try.f3 false true false false W args v W' := by
  have hW' := hW
  obtain ⟨p, q, hA, hV, rfl, hfz, hnd⟩ := hW
  rw [show Try.f3.params = #[23, 3, 3] from by kernel_rfl] at hA hval
  obtain ⟨v0, vs0, d0, ds0, p0, q0, hargs, rfl, rfl, h0, r0⟩ := trodAll_cons hA
  obtain ⟨v1, vs1, d1, ds1, p1, q1, hargs1, rfl, rfl, h1, r1⟩ := trodAll_cons r0
  obtain ⟨v2, vs2, d2, ds2, p2, q2, hargs2, rfl, rfl, h2, r2⟩ := trodAll_cons r1
  obtain ⟨rfl, rfl, rfl⟩ := trodAll_nil r2
  obtain ⟨rfl, rfl⟩ := trodVars_none hV
  obtain rfl : args = #[v0, v1, v2] := by cases args; simp_all
  have ti : Try.prog.underlying 3 = some (.int .i64) := by kernel_rfl
  obtain ⟨u0, u1, u2, y0, y1, y2, n, rfl, rfl, rfl, k0, k1, k2⟩ := Go.Joins.open_agg3 Try.underlying23 (by kernel_rfl) (by kernel_rfl) (hval 0 23 v0 rfl rfl) h0
  obtain ⟨a, ha, _, _⟩ := DataW.trod_int (k := .i64) (by kernel_rfl) k0
  obtain ⟨b, hb, _, _⟩ := DataW.trod_int (k := .i64) (by kernel_rfl) k1
  obtain ⟨c, hc, _, _⟩ := DataW.trod_int (k := .i64) (by kernel_rfl) k2
  cases ha; cases hb; cases hc
  obtain ⟨d, rfl, rfl, rfl, _⟩ := open_int ti (hval 1 3 v1 rfl rfl) h1
  obtain ⟨e, rfl, rfl, rfl, _⟩ := open_int ti (hval 2 3 v2 rfl rfl) h2
  refine (none_true a b c d e W).mono fun x W' ⟨he, hg⟩ => ?_
  subst he
  exact ⟨_, rfl, post_kept hW' laidOut (by kernel_rfl) rfl (fun _ _ _ => trodAll_mk1 (shut_bool (by kernel_rfl) _)) rfl rfl hg⟩

set_option maxRecDepth 100000 in
theorem lifted (os : Os) (started : os.Started) (H : Type) (enc : TypeId × Value → H) :
    ReturnsInHanded {} Try.checked os 3 .any (Rows.allocNoneSpec.pre6 enc Try.prog Try.f3 Rows.allocNoneRow.domain false) (Rows.allocNoneSpec.post enc Try.prog Try.f3 false true false false) := by
  refine returnsInHanded_of_change (C := Try.checked) own started (by kernel_rfl) Try.func3
    (ChangeSpec.witness6 (enc := enc) (C := Try.checked) false ⟨#[], #[.agg #[.int .i64 0, .int .i64 0, .int .i64 0], .int .i64 0, .int .i64 0], []⟩ 8 (by kernel_rfl) (by kernel_rfl) (by kernel_rfl) (by kernel_rfl)) ?_
  intro W base args ds gs before hval hW hcnd _
  exact contract H enc W base args ds gs before hval hW

theorem allocNone_holds : Rows.AllocNoneSaid :=
  OpenClaim.holds_of_wide 3 Try.f3 rfl rfl rfl rfl rfl rfl rfl ⟨rfl, rfl, rfl, rfl, rfl⟩ rfl rfl rfl rfl rfl (by kernel_rfl) Try.func3 (by kernel_rfl)
    (of_decide_eq_true (by kernel_rfl)) (by unfold Func.isWrapper; first | (rw [if_pos (by decide +kernel)]; kernel_rfl) | (rw [if_neg (by decide +kernel)]; exact ⟨rfl, rfl⟩))
    (fun os started H enc _ => lifted os started H enc)

#print axioms allocNone_holds

end Go.Proofs.Ytilefhlamdiomaa
