/-
  Valid and Words, by what they come to.
-/
import Derived.Test.YtlaplcglpnlieaaCT
set_option linter.unusedVariables false
set_option linter.unusedSimpArgs false
namespace Go.Proofs.Ytlaplcglpnlieaa
open Go Go.AX
noncomputable local instance qHV : Quiet := fullQuiet
local instance nHV : Kn := ⟨true⟩

/-- The chapter's valid shapes. -/
def valid (a b c : Int) : Bool := decide (0 ≤ a ∧ a ≤ 15 ∧ 0 ≤ b ∧ b ≤ 200 ∧ 0 ≤ c ∧ c ≤ 3 ∧ (c = 1 → 1 ≤ a) ∧ (c = 2 → 2 ≤ a))
/-- The words of a shape. -/
def words (a b c : Int) : Int := bif valid a b c then (2 + a + b + 1) / 2 * 2 else 0

theorem heap_Valid_to (k : Nat) (a b c : Int) (σ : AMem) : Adds (d_heap_Valid (k + 1) a b c σ) σ (.bool (valid a b c)) := by
  simp only [Adds, d_heap_Valid_eq, b_heap_Valid, allocK, ldI_new, Nat.zero_add, List.getElem?_cons_zero, List.getElem?_cons_succ, Option.bind_some, toI_int, pair_bif]
  refine ⟨_, congrArg some (Prod.ext ?_ rfl)⟩
  refine congrArg Value.bool ?_
  unfold valid
  rw [Bool.eq_iff_iff]
  simp [Bool.cond_eq_ite]
  omega

theorem heap_Words_to (k : Nat) (a b c : Int) (σ : AMem) : Adds (d_heap_Words (k + 2) a b c σ) σ (.int .i64 (words a b c)) := by
  unfold Adds
  rw [d_heap_Words_eq, b_heap_Words]
  simp only [allocK, ldI_new, Nat.zero_add, List.getElem?_cons_zero, List.getElem?_cons_succ, Option.bind_some, toI_int]
  rw [(heap_Valid_to _ _ _ _ _).eq]
  simp only [Option.bind_some, toB_bool, ldI_newapp, List.getElem?_cons_zero, List.getElem?_cons_succ, toI_int]
  unfold words
  rcases Bool.eq_false_or_eq_true (valid a b c) with hv | hv
  rotate_left
  · simp only [hv, Bool.not_false, cond_true, cond_false, List.append_assoc]
    exact ⟨_, rfl⟩
  · simp only [hv, Bool.not_true, cond_true, cond_false, List.append_assoc]
    simp [valid] at hv
    simp only [show ((2 : Int) = 0) = False from by simp, if_false]
    refine ⟨_, congrArg some (Prod.ext (congrArg (Value.int .i64) ?_) rfl)⟩
    have hi := hv
    simp only [w64]
    have e1 : IntKind.i64.wrap (2 + a) = 2 + a := by rw [IntKind.wrap_i64]; omega
    have e2 : IntKind.i64.wrap (2 + a + b) = 2 + a + b := by rw [IntKind.wrap_i64]; omega
    have e3 : IntKind.i64.wrap (2 + a + b + 1) = 2 + a + b + 1 := by rw [IntKind.wrap_i64]; omega
    rw [e1, e2, e3, Int.tdiv_eq_ediv_of_nonneg (by omega), IntKind.wrap_i64, IntKind.wrap_i64]
    omega

end Go.Proofs.Ytlaplcglpnlieaa
