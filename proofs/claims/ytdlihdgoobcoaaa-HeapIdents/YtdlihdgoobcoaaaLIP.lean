/-
  HeapIdents returns true for every number of blocks, list of calls, probe and shape. No condition.
-/
import Derived.Test.YtdlihdgoobcoaaaLI
import Derived.Test.YtdlihdgoobcoaaaLA
set_option linter.unusedVariables false
namespace Go.Proofs.Ytdlihdgoobcoaaa
open Go Go.AX Go.RowKit Go.ChangeShapes Go.WideShapes Go.ChangeAt

theorem true_calls {f : Nat} {k : Nat} {args gs : List Value} {σ : AMem} {μ : Mu} {w : World}
    (h : ∃ σ', @fn fullQuiet P X2 H k f args σ = some (.bool true, σ'))
    (hR : R P μ σ w) (hW : ∀ b, b < σ.length → ¬ writable σ b) (hF : ∀ hi, Fresh μ σ.length hi) (hV : RVs μ args gs) :
    Calls Try.prog f gs.toArray w fun x w' => x = .returned (.bool true) ∧ Below w.heap.size w w' := by
  obtain ⟨σ', h⟩ := h
  obtain ⟨hlen, _, _, hc⟩ := @fn_ok P fullQuiet Try.checked.mixed X2 (x2_ok Try.checked.mixed) x2_adds H k _ _ _ _ _ h
  refine (hc μ w gs.toArray hR (hF _) (by simpa using hV)).mono ?_
  rintro x w' ⟨μ', v', rfl, hv, hR', hS⟩
  cases hv
  exact ⟨rfl, below_of_step hS hW⟩

set_option maxRecDepth 100000 in
theorem contract (H' : Type) (enc : TypeId × Value → H') (W : World) (base : Nat) (args : Array Value) (ds gs : List (DataW H')) (before : List MemPlace)
    (hval : ∀ (j : Nat) t v, Try.f4.params[j]? = some t → args[j]? = some v → Value.okWide Try.prog W .any base t v)
    (hW : DataW.Whole enc Try.prog Try.f4.params.toList Rows.heapIdentsSpec.vars false W args.toList ds gs before) :
    Calls Try.prog 4 args W fun e W' => ∃ v, e = .returned v ∧ Rows.heapIdentsSpec.post enc Try.prog Try.f4 false true false false W args v W' := by
  have hW' := hW
  obtain ⟨p, q, hA, hV, rfl, hfz, hnd⟩ := hW
  rw [show Try.f4.params = #[3, 27, 3, 23] from by kernel_rfl] at hA hval
  obtain ⟨v0, vs0, d0, ds0, p0, q0, hargs, rfl, rfl, h0, r0⟩ := trodAll_cons hA
  obtain ⟨v1, vs1, d1, ds1, p1, q1, hargs1, rfl, rfl, h1, r1⟩ := trodAll_cons r0
  obtain ⟨v2, vs2, d2, ds2, p2, q2, hargs2, rfl, rfl, h2, r2⟩ := trodAll_cons r1
  obtain ⟨v3, vs3, d3, ds3, p3, q3, hargs3, rfl, rfl, h3, r3⟩ := trodAll_cons r2
  obtain ⟨rfl, rfl, rfl⟩ := trodAll_nil r3
  obtain ⟨rfl, rfl⟩ := trodVars_none hV
  obtain rfl : args = #[v0, v1, v2, v3] := by cases args; simp_all
  obtain ⟨b, rfl, rfl, rfl, wb⟩ := open_int und3 (hval 0 3 v0 rfl rfl) h0
  obtain ⟨a, rfl, rfl, rfl, wa⟩ := open_int und3 (hval 2 3 v2 rfl rfl) h2
  obtain ⟨u0, u1, u2, y0, y1, y2, n, rfl, rfl, rfl, k0, k1, k2⟩ := Go.Joins.open_agg3 Try.underlying23 (by kernel_rfl) (by kernel_rfl) (hval 3 23 v3 rfl rfl) h3
  obtain ⟨r, hr, _, _⟩ := DataW.trod_int und3 k0
  obtain ⟨d, hd, _, _⟩ := DataW.trod_int und3 k1
  obtain ⟨c, hc, _, _⟩ := DataW.trod_int und3 k2
  cases hr; cases hd; cases hc
  obtain ⟨l, pt, c2, σ, μ, hok, hAt, hlt, hR, hnw, hF, hRV⟩ := acts_open Try.underlying27 (hval 1 27 v1 rfl rfl) h1
  have ht := HeapIdents_to 5000 (Nat.le_refl _) b pt c2 l hok a r d c (inI_of wa) σ hAt hlt
  refine (true_calls (gs := [.int .i64 b, v1, .int .i64 a, .agg #[.int .i64 r, .int .i64 d, .int .i64 c]]) ht hR hnw hF ?_).mono fun x W' ⟨he, hg⟩ => ?_
  · exact .cons (.int _ _) (.cons hRV (.cons (.int _ _) (.cons (.agg (.cons (.int _ _) (.cons (.int _ _) (.cons (.int _ _) .nil))) (by intro v hv; simp at hv; rcases hv with rfl | rfl | rfl <;> rfl)) .nil)))
  · subst he
    exact ⟨_, rfl, post_kept hW' laidOut (by kernel_rfl) rfl (fun _ _ _ => trodAll_mk1 (shut_bool (by kernel_rfl) _)) rfl rfl hg⟩

set_option maxRecDepth 100000 in
theorem lifted (os : Os) (started : os.Started) (H' : Type) (enc : TypeId × Value → H') :
    ReturnsInHanded {} Try.checked os 4 .any (Rows.heapIdentsSpec.pre6 enc Try.prog Try.f4 Rows.heapIdentsRow.domain false) (Rows.heapIdentsSpec.post enc Try.prog Try.f4 false true false false) := by
  refine returnsInHanded_of_change (C := Try.checked) own started (by kernel_rfl) Try.func4
    (ChangeSpec.witness6 (enc := enc) (C := Try.checked) false ⟨#[], #[.int .i64 0, .slice none 0 0, .int .i64 0, .agg #[.int .i64 0, .int .i64 0, .int .i64 0]], []⟩ 8 (by kernel_rfl) (by kernel_rfl) (by kernel_rfl) (by kernel_rfl)) ?_
  intro W base args ds gs before hval hW hcnd _
  exact contract H' enc W base args ds gs before hval hW

theorem heapIdents_holds : Rows.HeapIdentsSaid :=
  OpenClaim.holds_of_wide 4 Try.f4 rfl rfl rfl rfl rfl rfl rfl ⟨rfl, rfl, rfl, rfl, rfl⟩ rfl rfl rfl rfl rfl (by kernel_rfl) Try.func4 (by kernel_rfl)
    (of_decide_eq_true (by kernel_rfl)) (by unfold Func.isWrapper; first | (rw [if_pos (by decide +kernel)]; kernel_rfl) | (rw [if_neg (by decide +kernel)]; exact ⟨rfl, rfl⟩))
    (fun os started H enc _ => lifted os started H enc)

#print axioms heapIdents_holds

end Go.Proofs.Ytdlihdgoobcoaaa
