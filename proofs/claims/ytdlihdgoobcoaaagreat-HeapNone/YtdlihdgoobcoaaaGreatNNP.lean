/-
  HeapNone returns true for every call: a heap that nobody made returns ErrState and zero values, and no block. No condition.
-/
import Derived.Test.YtdlihdgoobcoaaaGreatNN
import Derived.Test.YtdlihdgoobcoaaaGreatAXR
import Derived.Test.YtdlihdgoobcoaaaGreatRows
import Derived.Test.YtdlihdgoobcoaaaGreatChecked
import Derived.Lib.SmallJoins
set_option linter.unusedVariables false
namespace Go.Proofs.YtdlihdgoobcoaaaGreat
open Go Go.AX Go.RowKit Go.ChangeShapes Go.WideShapes Go.ChangeAt

theorem own : ownKnob Tryz.prog.godebug = none := by kernel_rfl
theorem laidOut : laidOutB Tryz.prog = true := by kernel_rfl

theorem none_true (x0 x1 x2 x3 x4 x5 x6 : Int) (w : World) : Calls Tryz.prog 4 #[.agg #[.int .i64 x0, .int .i64 x1, .int .i64 x2, .int .i64 x3, .int .i64 x4, .int .i64 x5, .int .i64 x6]] w fun e w' => e = .returned (.bool true) ∧ Below w.heap.size w w' := by
  obtain ⟨σ', h⟩ := HeapNone_to x0 x1 x2 x3 x4 x5 x6
  obtain ⟨hlen, _, hc⟩ := @fn_ok P fullQuiet Tryz.checked.mixed X2 (x2_ok Tryz.checked.mixed) H 12 _ _ _ _ _ h
  have h0 : R P (fun _ => none) [] w := ⟨fun h o k h1 _ => by simp at h1, fun h k h1 => (by cases h1), fun h h' k k' h1 => (by cases h1)⟩
  refine (hc (fun _ => none) w #[.agg #[.int .i64 x0, .int .i64 x1, .int .i64 x2, .int .i64 x3, .int .i64 x4, .int .i64 x5, .int .i64 x6]] h0 (fun _ _ _ => rfl) ?_).mono ?_
  · exact .cons (.agg (.cons (.int _ _) (.cons (.int _ _) (.cons (.int _ _) (.cons (.int _ _) (.cons (.int _ _) (.cons (.int _ _) (.cons (.int _ _) .nil))))))) (by intro v hv; simp at hv; rcases hv with rfl | rfl | rfl | rfl | rfl | rfl | rfl <;> rfl)) .nil
  · rintro e w' ⟨μ', v', rfl, hv, hR, hS⟩
    cases hv
    exact ⟨rfl, below_of_step hS fun b hb => absurd hb (Nat.not_lt_zero _)⟩

theorem list5 {α : Type} : ∀ (l : List α), l.length = 5 → ∃ a b c d e, l = [a, b, c, d, e]
  | [a, b, c, d, e], _ => ⟨a, b, c, d, e, rfl⟩
theorem list3 {α : Type} : ∀ (l : List α), l.length = 3 → ∃ a b c, l = [a, b, c]
  | [a, b, c], _ => ⟨a, b, c, rfl⟩
theorem list7 {α : Type} : ∀ (l : List α), l.length = 7 → ∃ a b c d e f g, l = [a, b, c, d, e, f, g]
  | [a, b, c, d, e, f, g], _ => ⟨a, b, c, d, e, f, g, rfl⟩

set_option maxRecDepth 100000 in
theorem act_ints {H : Type} {enc : TypeId × Value → H} {W : World} {base : Nat} {v : Value} {d : DataW H} {p : List MemPlace} (hv : Value.okWide Tryz.prog W .any base 35 v) (h : DataW.Trod enc Tryz.prog W 0 (fun _ => true) true 35 v d p) :
    ∃ x0 x1 x2 x3 x4 x5 x6 : Int, v = .agg #[.int .i64 x0, .int .i64 x1, .int .i64 x2, .int .i64 x3, .int .i64 x4, .int .i64 x5, .int .i64 x6] := by
  obtain ⟨cs, rfl, hsz⟩ := okWide_struct Tryz.underlying35 hv
  have h7 : cs.toList.length = 7 := by rw [Array.length_toList, hsz]; kernel_rfl
  obtain ⟨c0, c1, c2, c3, c4, c5, c6, hcs⟩ := list7 _ h7
  obtain rfl : cs = #[c0, c1, c2, c3, c4, c5, c6] := by apply Array.toList_inj.1; simpa using hcs
  obtain ⟨fuel, hf⟩ := h
  obtain ⟨xs, n, _, _, _, hlen, hff⟩ := DataW.trod_struct Tryz.underlying35 hf
  obtain ⟨y0, y1, y2, y3, y4, rfl⟩ := list5 xs hlen
  have ti : Tryz.prog.underlying 3 = some (.int .i64) := by kernel_rfl
  have z3 : Tryz.prog.cellsOf 3 = 1 := by kernel_rfl
  have z33 : Tryz.prog.cellsOf 33 = 3 := by kernel_rfl
  have k0 := hff 0 _ rfl
  have k1 := hff 1 _ rfl
  have k2 := hff 2 _ rfl
  have k3 := hff 3 _ rfl
  have k4 := hff 4 _ rfl
  simp [Value.cells, z3, z33] at k0 k1 k2 k3 k4
  obtain ⟨a0, e0, _⟩ := DataW.trod_int ti k0
  obtain ⟨a1, e1, _⟩ := DataW.trod_int ti k1
  obtain ⟨a2, e2, _⟩ := DataW.trod_int ti k2
  obtain ⟨a3, e3, _⟩ := DataW.trod_int ti k3
  obtain ⟨xs', n', _, _, _, hlen', hff'⟩ := DataW.trod_struct Tryz.underlying33 k4
  obtain ⟨u0, u1, u2, rfl⟩ := list3 xs' hlen'
  have j0 := hff' 0 _ rfl
  have j1 := hff' 1 _ rfl
  have j2 := hff' 2 _ rfl
  simp [z3] at j0 j1 j2
  obtain ⟨a4, e4, _⟩ := DataW.trod_int ti j0
  obtain ⟨a5, e5, _⟩ := DataW.trod_int ti j1
  obtain ⟨a6, e6, _⟩ := DataW.trod_int ti j2
  simp at e0 e1 e2 e3 e4 e5 e6
  subst e0 e1 e2 e3 e4 e5 e6
  exact ⟨_, _, _, _, _, _, _, rfl⟩

set_option maxRecDepth 100000 in
theorem contract (H : Type) (enc : TypeId × Value → H) (W : World) (base : Nat) (args : Array Value) (ds gs : List (DataW H)) (before : List MemPlace)
    (hval : ∀ (j : Nat) t v, Tryz.f4.params[j]? = some t → args[j]? = some v → Value.okWide Tryz.prog W .any base t v)
    (hW : DataW.Whole enc Tryz.prog Tryz.f4.params.toList Rows.heapNoneSpec.vars false W args.toList ds gs before) :
    Calls Tryz.prog 4 args W fun e W' => ∃ v, e = .returned v ∧ Rows.heapNoneSpec.post enc Tryz.prog Tryz.f4 false true false false W args v W' := by
  have hW' := hW
  obtain ⟨p, q, hA, hV, rfl, hfz, hnd⟩ := hW
  rw [show Tryz.f4.params = #[35] from by kernel_rfl] at hA hval
  obtain ⟨v0, vs0, d0, ds0, p0, q0, hargs, rfl, rfl, h0, r0⟩ := trodAll_cons hA
  obtain ⟨rfl, rfl, rfl⟩ := trodAll_nil r0
  obtain ⟨rfl, rfl⟩ := trodVars_none hV
  obtain rfl : args = #[v0] := by cases args; simp_all
  obtain ⟨x0, x1, x2, x3, x4, x5, x6, rfl⟩ := act_ints (hval 0 35 v0 rfl rfl) h0
  refine (none_true x0 x1 x2 x3 x4 x5 x6 W).mono fun e W' ⟨he, hg⟩ => ?_
  subst he
  exact ⟨_, rfl, post_kept hW' laidOut (by kernel_rfl) rfl (fun _ _ _ => trodAll_mk1 (shut_bool (by kernel_rfl) _)) rfl rfl hg⟩

set_option maxRecDepth 100000 in
theorem lifted (os : Os) (started : os.Started) (H : Type) (enc : TypeId × Value → H) :
    ReturnsInHanded {} Tryz.checked os 4 .any (Rows.heapNoneSpec.pre6 enc Tryz.prog Tryz.f4 Rows.heapNoneRow.domain false) (Rows.heapNoneSpec.post enc Tryz.prog Tryz.f4 false true false false) := by
  refine returnsInHanded_of_change (C := Tryz.checked) own started (by kernel_rfl) Tryz.func4
    (ChangeSpec.witness6 (enc := enc) (C := Tryz.checked) false ⟨#[], #[.agg #[.int .i64 0, .int .i64 0, .int .i64 0, .int .i64 0, .int .i64 0, .int .i64 0, .int .i64 0]], []⟩ 8 (by kernel_rfl) (by kernel_rfl) (by kernel_rfl) (by kernel_rfl)) ?_
  intro W base args ds gs before hval hW hcnd _
  exact contract H enc W base args ds gs before hval hW

theorem heapNone_holds : Rows.HeapNoneSaid :=
  OpenClaim.holds_of_wide 4 Tryz.f4 rfl rfl rfl rfl rfl rfl rfl ⟨rfl, rfl, rfl, rfl, rfl⟩ rfl rfl rfl rfl rfl (by kernel_rfl) Tryz.func4 (by kernel_rfl)
    (of_decide_eq_true (by kernel_rfl)) (by unfold Func.isWrapper; first | (rw [if_pos (by decide +kernel)]; kernel_rfl) | (rw [if_neg (by decide +kernel)]; exact ⟨rfl, rfl⟩))
    (fun os started H enc _ => lifted os started H enc)

#print axioms heapNone_holds

end Go.Proofs.YtdlihdgoobcoaaaGreat
