/-
  SnapNone returns true for every input: what nobody made refuses every call. No condition.
-/
import Derived.Test.YtilefhlamdiomaaGreatGSX
import Derived.Test.YtilefhlamdiomaaGreatAXR
import Derived.Test.YtilefhlamdiomaaGreatRows
import Derived.Test.YtilefhlamdiomaaGreatChecked
import Derived.Lib.SmallJoins
set_option linter.unusedVariables false
namespace Go.Proofs.YtilefhlamdiomaaGreat
open Go Go.AX Go.RowKit Go.ChangeShapes Go.WideShapes Go.ChangeAt

theorem own : ownKnob Tryz.prog.godebug = none := by kernel_rfl
theorem laidOut : laidOutB Tryz.prog = true := by kernel_rfl

theorem none_true (a b c d e f : Int) (w : World) : Calls Tryz.prog 6 #[.int .i64 a, .int .i64 b, .int .i64 c, .agg #[.int .i64 d, .int .i64 e, .int .i64 f]] w fun x w' => x = .returned (.bool true) ∧ Below w.heap.size w w' := by
  obtain ⟨σ', h⟩ := SnapNone_to a b c d e f
  obtain ⟨hlen, _, _, hc⟩ := (@fn_ok P boolQuiet Tryz.checked.mixed X2 (x2_ok Tryz.checked.mixed) x2_adds H 300).fn _ _ _ _ _ (by decide) h
  have h0 : R P (fun _ => none) [] w := ⟨fun h o k h1 _ => by simp at h1, fun h k h1 => (by cases h1), fun h h' k k' h1 => (by cases h1)⟩
  refine (hc (fun _ => none) w #[.int .i64 a, .int .i64 b, .int .i64 c, .agg #[.int .i64 d, .int .i64 e, .int .i64 f]] h0 (fun _ _ _ => rfl) ?_).mono ?_
  · exact (.cons (.int _ _) (.cons (.int _ _) (.cons (.int _ _) (.cons (.agg (.cons (.int _ _) (.cons (.int _ _) (.cons (.int _ _) .nil))) (by intro v hv; simp at hv; rcases hv with rfl | rfl | rfl <;> rfl)) .nil))))
  · rintro x w' ⟨μ', v', rfl, hv, hR, hS⟩
    cases hv
    exact ⟨rfl, below_of_step hS fun b hb => absurd hb (Nat.not_lt_zero _)⟩

set_option maxRecDepth 100000 in
theorem contract (H : Type) (enc : TypeId × Value → H) (W : World) (base : Nat) (args : Array Value) (ds gs : List (DataW H)) (before : List MemPlace)
    (hval : ∀ (j : Nat) t v, Tryz.f6.params[j]? = some t → args[j]? = some v → Value.okWide Tryz.prog W .any base t v)
    (hW : DataW.Whole enc Tryz.prog Tryz.f6.params.toList Rows.snapNoneSpec.vars false W args.toList ds gs before) :
    Calls Tryz.prog 6 args W fun e W' => ∃ v, e = .returned v ∧ Rows.snapNoneSpec.post enc Tryz.prog Tryz.f6 false true false false W args v W' := by
  have hW' := hW
  obtain ⟨p, q, hA, hV, rfl, hfz, hnd⟩ := hW
  rw [show Tryz.f6.params = #[3, 3, 3, 57] from by kernel_rfl] at hA hval
  obtain ⟨v0, vs0, d0, ds0, p0, q0, hargs0, rfl, rfl, h0, r0⟩ := trodAll_cons hA
  obtain ⟨v1, vs1, d1, ds1, p1, q1, hargs1, rfl, rfl, h1, r1⟩ := trodAll_cons r0
  obtain ⟨v2, vs2, d2, ds2, p2, q2, hargs2, rfl, rfl, h2, r2⟩ := trodAll_cons r1
  obtain ⟨v3, vs3, d3, ds3, p3, q3, hargs3, rfl, rfl, h3, r3⟩ := trodAll_cons r2
  obtain ⟨rfl, rfl, rfl⟩ := trodAll_nil r3
  obtain ⟨rfl, rfl⟩ := trodVars_none hV
  obtain rfl : args = #[v0, v1, v2, v3] := by cases args; simp_all
  have ti : Tryz.prog.underlying 3 = some (.int .i64) := by kernel_rfl
  obtain ⟨a, rfl, rfl, rfl, _⟩ := open_int ti (hval 0 3 v0 rfl rfl) h0
  obtain ⟨b, rfl, rfl, rfl, _⟩ := open_int ti (hval 1 3 v1 rfl rfl) h1
  obtain ⟨c, rfl, rfl, rfl, _⟩ := open_int ti (hval 2 3 v2 rfl rfl) h2
  obtain ⟨u0, u1, u2, y0, y1, y2, n, rfl, rfl, rfl, k0, k1, k2⟩ := Go.Joins.open_agg3 Tryz.underlying57 (by kernel_rfl) (by kernel_rfl) (hval 3 57 v3 rfl rfl) h3
  obtain ⟨d, hd, _, _⟩ := DataW.trod_int (k := .i64) (by kernel_rfl) k0
  obtain ⟨e, he, _, _⟩ := DataW.trod_int (k := .i64) (by kernel_rfl) k1
  obtain ⟨f, hf, _, _⟩ := DataW.trod_int (k := .i64) (by kernel_rfl) k2
  cases hd; cases he; cases hf
  refine (none_true a b c d e f W).mono fun x W' ⟨he, hg⟩ => ?_
  subst he
  exact ⟨_, rfl, post_kept hW' laidOut (by kernel_rfl) rfl (fun _ _ _ => trodAll_mk1 (shut_bool (by kernel_rfl) _)) rfl rfl hg⟩

set_option maxRecDepth 100000 in
theorem lifted (os : Os) (started : os.Started) (H : Type) (enc : TypeId × Value → H) :
    ReturnsInHanded {} Tryz.checked os 6 .any (Rows.snapNoneSpec.pre6 enc Tryz.prog Tryz.f6 Rows.snapNoneRow.domain false) (Rows.snapNoneSpec.post enc Tryz.prog Tryz.f6 false true false false) := by
  refine returnsInHanded_of_change (C := Tryz.checked) own started (by kernel_rfl) Tryz.func6
    (ChangeSpec.witness6 (enc := enc) (C := Tryz.checked) false ⟨#[], #[.int .i64 0, .int .i64 0, .int .i64 0, .agg #[.int .i64 0, .int .i64 0, .int .i64 0]], []⟩ 8 (by kernel_rfl) (by kernel_rfl) (by kernel_rfl) (by kernel_rfl)) ?_
  intro W base args ds gs before hval hW hcnd _
  exact contract H enc W base args ds gs before hval hW

theorem snapNone_holds : Rows.SnapNoneSaid :=
  OpenClaim.holds_of_wide 6 Tryz.f6 rfl rfl rfl rfl rfl rfl rfl ⟨rfl, rfl, rfl, rfl, rfl⟩ rfl rfl rfl rfl rfl (by kernel_rfl) Tryz.func6 (by kernel_rfl)
    (of_decide_eq_true (by kernel_rfl)) (by unfold Func.isWrapper; first | (rw [if_pos (by decide +kernel)]; kernel_rfl) | (rw [if_neg (by decide +kernel)]; exact ⟨rfl, rfl⟩))
    (fun os started H enc _ => lifted os started H enc)

#print axioms snapNone_holds

end Go.Proofs.YtilefhlamdiomaaGreat
