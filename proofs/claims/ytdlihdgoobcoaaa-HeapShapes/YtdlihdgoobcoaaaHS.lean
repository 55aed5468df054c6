/-
  HeapShapes: what the law's function comes to.
-/
import Derived.Test.YtdlihdgoobcoaaaFD
import Derived.Test.YtdlihdgoobcoaaaAXM
set_option linter.unusedVariables false
set_option linter.unusedSimpArgs false
namespace Go.Proofs.Ytdlihdgoobcoaaa
open Go Go.AX
noncomputable local instance : Quiet := fullQuiet

/-- The chapter's valid shapes. -/
def valid (a b c : Int) : Bool := decide (0 ≤ a ∧ a ≤ 15 ∧ 0 ≤ b ∧ b ≤ 200 ∧ 0 ≤ c ∧ c ≤ 3 ∧ (c = 1 → 1 ≤ a) ∧ (c = 2 → 2 ≤ a))
/-- The words of a shape. -/
def words (a b c : Int) : Int := bif valid a b c then (2 + a + b + 1) / 2 * 2 else 0

theorem heap_Valid_to (k : Nat) (a b c : Int) (σ : AMem) : Adds (d_heap_Valid (k + 1) a b c σ) σ (.bool (valid a b c)) := by
  simp only [Adds, d_heap_Valid, allocK, ldI_new, Nat.zero_add, List.getElem?_cons_zero, List.getElem?_cons_succ, Option.bind_some, toI_int, pair_bif]
  refine ⟨_, congrArg some (Prod.ext ?_ rfl)⟩
  refine congrArg Value.bool ?_
  unfold valid
  rw [Bool.eq_iff_iff]
  simp [Bool.cond_eq_ite]
  omega

theorem ref_Valid_to (k : Nat) (a b c : Int) (σ : AMem) : Adds (d_ref02_Valid (k + 1) a b c σ) σ (.bool (valid a b c)) := by
  simp only [Adds, d_ref02_Valid, allocK, ldI_new, Nat.zero_add, List.getElem?_cons_zero, List.getElem?_cons_succ, Option.bind_some, toI_int, pair_bif]
  by_cases hA : a < 0 ∨ a > 15 ∨ b < 0 ∨ b > 200
  · have h1 : (bif bif bif decide (a < 0) then true else decide (a > 15) then true else decide (b < 0) then true else decide (b > 200)) = true := by
      simp [Bool.cond_eq_ite]; omega
    have h2 : valid a b c = false := by simp [valid]; omega
    rw [h1, h2]
    exact ⟨_, rfl⟩
  · have h1 : (bif bif bif decide (a < 0) then true else decide (a > 15) then true else decide (b < 0) then true else decide (b > 200)) = false := by
      simp [Bool.cond_eq_ite]; omega
    rw [h1]
    simp only [cond_false]
    by_cases h0 : c = 0
    · subst h0
      have h2 : valid a b 0 = true := by simp [valid]; omega
      rw [h2]
      exact ⟨_, rfl⟩
    have e0 : (c == 0) = false := by simpa using h0
    by_cases h3 : c = 3
    · subst h3
      have h2 : valid a b 3 = true := by simp [valid]; omega
      rw [h2]
      exact ⟨_, rfl⟩
    have e3 : (c == 3) = false := by simpa using h3
    simp only [e0, e3, cond_false, Option.bind_some, if_true, u_t_eq]
    by_cases h4 : c = 1
    · subst h4
      have h2 : valid a b 1 = decide (a ≥ 1) := by rw [valid, decide_eq_decide]; simp; omega
      rw [h2]
      simp only [BEq.rfl, cond_true, ldI_new, List.getElem?_cons_zero, Option.bind_some, toI_int]
      exact ⟨_, rfl⟩
    have e4 : (c == 1) = false := by simpa using h4
    by_cases h5 : c = 2
    · subst h5
      have h2 : valid a b 2 = decide (a ≥ 2) := by rw [valid, decide_eq_decide]; simp; omega
      rw [h2]
      simp only [e4, cond_false, BEq.rfl, cond_true, ldI_new, List.getElem?_cons_zero, Option.bind_some, toI_int]
      exact ⟨_, rfl⟩
    have e5 : (c == 2) = false := by simpa using h5
    have h2 : valid a b c = false := by simp [valid]; omega
    simp only [e4, e5, cond_false, h2]
    exact ⟨_, rfl⟩

theorem heap_Words_to (k : Nat) (a b c : Int) (σ : AMem) : Adds (d_heap_Words (k + 2) a b c σ) σ (.int .i64 (words a b c)) := by
  unfold Adds
  rw [d_heap_Words]
  simp only [allocK, ldI_new, Nat.zero_add, List.getElem?_cons_zero, List.getElem?_cons_succ, Option.bind_some, toI_int]
  rw [(heap_Valid_to _ _ _ _ _).eq]
  simp only [Option.bind_some, toB_bool, ldI_newapp, List.getElem?_cons_zero, List.getElem?_cons_succ, toI_int]
  unfold words
  rcases Bool.eq_false_or_eq_true (valid a b c) with hv | hv
  rotate_left
  · simp only [hv, Bool.not_false, cond_true, cond_false, List.append_assoc]
    exact ⟨_, rfl⟩
  · simp only [hv, Bool.not_true, cond_true, cond_false, List.append_assoc]
    simp [valid] at hv
    simp only [show ((2 : Int) = 0) = False from by simp, if_false]
    refine ⟨_, congrArg some (Prod.ext (congrArg (Value.int .i64) ?_) rfl)⟩
    have hi := hv
    simp only [w64]
    have e1 : IntKind.i64.wrap (2 + a) = 2 + a := by rw [IntKind.wrap_i64]; omega
    have e2 : IntKind.i64.wrap (2 + a + b) = 2 + a + b := by rw [IntKind.wrap_i64]; omega
    have e3 : IntKind.i64.wrap (2 + a + b + 1) = 2 + a + b + 1 := by rw [IntKind.wrap_i64]; omega
    rw [e1, e2, e3, Int.tdiv_eq_ediv_of_nonneg (by omega), IntKind.wrap_i64, IntKind.wrap_i64]
    omega

theorem ref_Words_to (k : Nat) (a b c : Int) (σ : AMem) : Adds (d_ref02_Words (k + 2) a b c σ) σ (.int .i64 (words a b c)) := by
  unfold Adds
  rw [d_ref02_Words]
  simp only [allocK, ldI_new, Nat.zero_add, List.getElem?_cons_zero, List.getElem?_cons_succ, Option.bind_some, toI_int]
  rw [(ref_Valid_to _ _ _ _ _).eq]
  simp only [Option.bind_some, toB_bool, ldI_newapp, List.getElem?_cons_zero, List.getElem?_cons_succ, toI_int]
  unfold words
  rcases Bool.eq_false_or_eq_true (valid a b c) with hv | hv
  rotate_left
  · simp only [hv, Bool.not_false, cond_true, cond_false, List.append_assoc]
    exact ⟨_, rfl⟩
  · simp only [hv, Bool.not_true, cond_true, cond_false, List.append_assoc]
    simp [valid] at hv
    simp only [show ((2 : Int) = 0) = False from by simp, if_false]
    refine ⟨_, congrArg some (Prod.ext (congrArg (Value.int .i64) ?_) rfl)⟩
    simp only [w64]
    have e1 : IntKind.i64.wrap (2 + a) = 2 + a := by rw [IntKind.wrap_i64]; omega
    have e2 : IntKind.i64.wrap (2 + a + b) = 2 + a + b := by rw [IntKind.wrap_i64]; omega
    rw [e1, e2, Int.tmod_eq_emod_of_nonneg (by omega), IntKind.wrap_i64]
    omega

theorem HeapShapes_to (k : Nat) (a b c : Int) (σ : AMem) : ∃ σ', law02_HeapShapes (k + 3) a b c σ = some (.bool true, σ') := by
  rw [law02_HeapShapes_is, d_law02_HeapShapes]
  simp only [allocK, ldI_new, Nat.zero_add, List.getElem?_cons_zero, List.getElem?_cons_succ, Option.bind_some, toI_int]
  rw [(heap_Valid_to _ _ _ _ _).eq]
  simp only [Option.bind_some, quietly_full, toB_bool, ldI_newapp, List.getElem?_cons_zero, List.getElem?_cons_succ, toI_int]
  rw [(ref_Valid_to _ _ _ _ _).eq]
  simp only [Option.bind_some, toB_bool, BEq.rfl, cond_true, List.append_assoc, List.cons_append, List.nil_append, ldI_mid, List.getElem?_cons_zero, List.getElem?_cons_succ, toI_int, Nat.reduceAdd]
  rw [(heap_Words_to _ _ _ _ _).eq]
  simp only [Option.bind_some, quietly_full, toI_int]
  simp only [List.append_assoc, List.cons_append, List.nil_append, ldI_mid, Option.bind_some, toI_int, List.getElem?_cons_zero, List.getElem?_cons_succ, Nat.reduceAdd]
  rw [(ref_Words_to _ _ _ _ _).eq]
  simp only [Option.bind_some, toI_int, BEq.rfl, cond_true, d_law02_alive, toB_bool]
  exact ⟨_, rfl⟩
end Go.Proofs.Ytdlihdgoobcoaaa
