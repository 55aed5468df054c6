/-
  SweepNone returns true for every input: what nobody made refuses every call. No condition.
-/
import Derived.Test.YtilefhlamdiomaaGreatSSU
import Derived.Test.YtilefhlamdiomaaGreatAXR
import Derived.Test.YtilefhlamdiomaaGreatRows
import Derived.Test.YtilefhlamdiomaaGreatChecked
import Derived.Lib.SmallJoins
import Derived.Deep.Strs
set_option linter.unusedVariables false
namespace Go.Proofs.YtilefhlamdiomaaGreat
open Go Go.AX Go.RowKit Go.ChangeShapes Go.WideShapes Go.ChangeAt

set_option maxRecDepth 100000
theorem z59 : Tryz.prog.cellsOf 59 = 6 := by kernel_rfl
theorem z3 : Tryz.prog.cellsOf 3 = 1 := by kernel_rfl
theorem z57 : Tryz.prog.cellsOf 57 = 3 := by kernel_rfl
theorem act_open {H : Type} {enc : TypeId × Value → H} {W : World} {base b0 : Nat} {r : Reach} {spare : Nat → Bool} {held : Bool} {v : Value} {d : DataW H} {p : List MemPlace} (hv : Value.okWide Tryz.prog W r b0 59 v) (h : DataW.Trod enc Tryz.prog W base spare held 59 v d p) :
    ∃ a b c e f g : Int, v = .agg #[.int .i64 a, .int .i64 b, .int .i64 c, .int .i64 e, .int .i64 f, .int .i64 g] := by
  obtain ⟨cs, rfl, hsz⟩ := okWide_struct Tryz.underlying59 hv
  rw [z59] at hsz
  obtain ⟨c0, c1, c2, c3, c4, c5, rfl⟩ : ∃ c0 c1 c2 c3 c4 c5, cs = #[c0, c1, c2, c3, c4, c5] := by
    obtain ⟨l⟩ := cs
    simp only [List.size_toArray] at hsz
    match l, hsz with
    | [a, b, c, d, e, f], _ => exact ⟨a, b, c, d, e, f, rfl⟩
  obtain ⟨fuel, hf⟩ := h
  obtain ⟨y0, y1, y2, y3, n, hx, _, h0, h1, h2, h3⟩ := Go.Joins.trod_struct4 Tryz.underlying59 hf
  simp [Value.cells, z3, z57] at h0 h1 h2 h3
  obtain ⟨x0, x1, x2, n', hx', _, g0, g1, g2⟩ := Go.Deep.trod_struct3 Tryz.underlying57 h3
  simp [z3] at g0 g1 g2
  have ti : Tryz.prog.underlying 3 = some (.int .i64) := by kernel_rfl
  obtain ⟨a0, e0, _, _⟩ := DataW.trod_int (k := .i64) ti h0
  obtain ⟨a1, e1, _, _⟩ := DataW.trod_int (k := .i64) ti h1
  obtain ⟨a2, e2, _, _⟩ := DataW.trod_int (k := .i64) ti h2
  obtain ⟨a3, e3, _, _⟩ := DataW.trod_int (k := .i64) ti g0
  obtain ⟨a4, e4, _, _⟩ := DataW.trod_int (k := .i64) ti g1
  obtain ⟨a5, e5, _, _⟩ := DataW.trod_int (k := .i64) ti g2
  cases e0; cases e1; cases e2; cases e3; cases e4; cases e5
  exact ⟨_, _, _, _, _, _, rfl⟩

theorem own : ownKnob Tryz.prog.godebug = none := by kernel_rfl
theorem laidOut : laidOutB Tryz.prog = true := by kernel_rfl

theorem none_true (a b c d e f g h : Int) (w : World) : Calls Tryz.prog 4 #[.agg #[.int .i64 a, .int .i64 b, .int .i64 c, .int .i64 d, .int .i64 e, .int .i64 f], .int .i64 g, .int .i64 h] w fun x w' => x = .returned (.bool true) ∧ Below w.heap.size w w' := by
  obtain ⟨σ', hto⟩ := SweepNone_to a b c d e f g h
  obtain ⟨hlen, _, _, hc⟩ := (@fn_ok P boolQuiet Tryz.checked.mixed X2 (x2_ok Tryz.checked.mixed) x2_adds H 300).fn _ _ _ _ _ (by decide) hto
  have h0 : R P (fun _ => none) [] w := ⟨fun h o k h1 _ => by simp at h1, fun h k h1 => (by cases h1), fun h h' k k' h1 => (by cases h1)⟩
  refine (hc (fun _ => none) w #[.agg #[.int .i64 a, .int .i64 b, .int .i64 c, .int .i64 d, .int .i64 e, .int .i64 f], .int .i64 g, .int .i64 h] h0 (fun _ _ _ => rfl) ?_).mono ?_
  · exact (.cons (.agg (.cons (.int _ _) (.cons (.int _ _) (.cons (.int _ _) (.cons (.int _ _) (.cons (.int _ _) (.cons (.int _ _) .nil)))))) (by intro v hv; simp at hv; rcases hv with rfl | rfl | rfl | rfl | rfl | rfl <;> rfl)) (.cons (.int _ _) (.cons (.int _ _) .nil)))
  · rintro x w' ⟨μ', v', rfl, hv, hR, hS⟩
    cases hv
    exact ⟨rfl, below_of_step hS fun b hb => absurd hb (Nat.not_lt_zero _)⟩

set_option maxRecDepth 100000 in
theorem contract (H : Type) (enc : TypeId × Value → H) (W : World) (base : Nat) (args : Array Value) (ds gs : List (DataW H)) (before : List MemPlace)
    (hval : ∀ (j : Nat) t v, Tryz.f4.params[j]? = some t → args[j]? = some v → Value.okWide Tryz.prog W .any base t v)
    (hW : DataW.Whole enc Tryz.prog Tryz.f4.params.toList Rows.sweepNoneSpec.vars false W args.toList ds gs before) :
    Calls Tryz.prog 4 args W fun e W' => ∃ v, e = .returned v ∧ Rows.sweepNoneSpec.post enc Tryz.prog Tryz.f4 false true false false W args v W' := by
  have hW' := hW
  obtain ⟨p, q, hA, hV, rfl, hfz, hnd⟩ := hW
  rw [show Tryz.f4.params = #[59, 3, 3] from by kernel_rfl] at hA hval
  obtain ⟨v0, vs0, d0, ds0, p0, q0, hargs0, rfl, rfl, h0, r0⟩ := trodAll_cons hA
  obtain ⟨v1, vs1, d1, ds1, p1, q1, hargs1, rfl, rfl, h1, r1⟩ := trodAll_cons r0
  obtain ⟨v2, vs2, d2, ds2, p2, q2, hargs2, rfl, rfl, h2, r2⟩ := trodAll_cons r1
  obtain ⟨rfl, rfl, rfl⟩ := trodAll_nil r2
  obtain ⟨rfl, rfl⟩ := trodVars_none hV
  obtain rfl : args = #[v0, v1, v2] := by cases args; simp_all
  have ti : Tryz.prog.underlying 3 = some (.int .i64) := by kernel_rfl
  obtain ⟨a, b, c, d, e, f, rfl⟩ := act_open (hval 0 59 v0 rfl rfl) h0
  obtain ⟨g, rfl, rfl, rfl, _⟩ := open_int ti (hval 1 3 v1 rfl rfl) h1
  obtain ⟨h, rfl, rfl, rfl, _⟩ := open_int ti (hval 2 3 v2 rfl rfl) h2
  refine (none_true a b c d e f g h W).mono fun x W' ⟨he, hg⟩ => ?_
  subst he
  exact ⟨_, rfl, post_kept hW' laidOut (by kernel_rfl) rfl (fun _ _ _ => trodAll_mk1 (shut_bool (by kernel_rfl) _)) rfl rfl hg⟩

set_option maxRecDepth 100000 in
theorem lifted (os : Os) (started : os.Started) (H : Type) (enc : TypeId × Value → H) :
    ReturnsInHanded {} Tryz.checked os 4 .any (Rows.sweepNoneSpec.pre6 enc Tryz.prog Tryz.f4 Rows.sweepNoneRow.domain false) (Rows.sweepNoneSpec.post enc Tryz.prog Tryz.f4 false true false false) := by
  refine returnsInHanded_of_change (C := Tryz.checked) own started (by kernel_rfl) Tryz.func4
    (ChangeSpec.witness6 (enc := enc) (C := Tryz.checked) false ⟨#[], #[.agg #[.int .i64 0, .int .i64 0, .int .i64 0, .int .i64 0, .int .i64 0, .int .i64 0], .int .i64 0, .int .i64 0], []⟩ 8 (by kernel_rfl) (by kernel_rfl) (by kernel_rfl) (by kernel_rfl)) ?_
  intro W base args ds gs before hval hW hcnd _
  exact contract H enc W base args ds gs before hval hW

theorem sweepNone_holds : Rows.SweepNoneSaid :=
  OpenClaim.holds_of_wide 4 Tryz.f4 rfl rfl rfl rfl rfl rfl rfl ⟨rfl, rfl, rfl, rfl, rfl⟩ rfl rfl rfl rfl rfl (by kernel_rfl) Tryz.func4 (by kernel_rfl)
    (of_decide_eq_true (by kernel_rfl)) (by unfold Func.isWrapper; first | (rw [if_pos (by decide +kernel)]; kernel_rfl) | (rw [if_neg (by decide +kernel)]; exact ⟨rfl, rfl⟩))
    (fun os started H enc _ => lifted os started H enc)

#print axioms sweepNone_holds

end Go.Proofs.YtilefhlamdiomaaGreat
