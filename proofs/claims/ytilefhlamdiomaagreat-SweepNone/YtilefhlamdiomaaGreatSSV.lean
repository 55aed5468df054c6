/-
  SweepNone: what the law's function comes to, at every argument.
-/
import Derived.Test.YtilefhlamdiomaaGreatSSW
set_option linter.unusedVariables false
set_option linter.unusedSimpArgs false
set_option maxRecDepth 100000
namespace Go.Proofs.YtilefhlamdiomaaGreat
open Go Go.AX
local instance kSV : Kn := ⟨true⟩
local instance qSV : Quiet := boolQuiet

theorem Index4_to (k : Nat) {σ : AMem} {h : Nat} (hc : σ[h]? = some (.cells [.int .i64 1, .int .i64 2, .int .i64 4, .int .i64 8] ty_int true)) (w : Int) :
    d_slices_Contains_int (k + 7) (some ⟨h, 0, none⟩, 4, 4) w σ = some (.bool (decide (w = 1 ∨ w = 2 ∨ w = 4 ∨ w = 8)), σ) := by
  have l0 : ldI .i64 σ h (0 + (0 : Int).toNat * 1) = some 1 := by simp [ldI, ld1, hc, toI]
  have l1 : ldI .i64 σ h (0 + (1 : Int).toNat * 1) = some 2 := by simp [ldI, ld1, hc, toI]
  have l2 : ldI .i64 σ h (0 + (2 : Int).toNat * 1) = some 4 := by simp [ldI, ld1, hc, toI]
  have l3 : ldI .i64 σ h (0 + (3 : Int).toNat * 1) = some 8 := by simp [ldI, ld1, hc, toI]
  have w1 : w64 (0 + 1) = 1 := by decide
  have w2 : w64 (1 + 1) = 2 := by decide
  have w3 : w64 (2 + 1) = 3 := by decide
  have w4 : w64 (3 + 1) = 4 := by decide
  have q0 : decide ((0 : Int) < ((4 : Nat) : Int)) = true := rfl
  have q1 : decide ((1 : Int) < ((4 : Nat) : Int)) = true := rfl
  have q2 : decide ((2 : Int) < ((4 : Nat) : Int)) = true := rfl
  have q3 : decide ((3 : Int) < ((4 : Nat) : Int)) = true := rfl
  have q4 : decide ((4 : Int) < ((4 : Nat) : Int)) = false := rfl
  have c0 : ((0 : Int) ≤ 0 ∧ (0 : Int) < ((4 : Nat) : Int)) = True := by simp
  have c1 : ((0 : Int) ≤ 1 ∧ (1 : Int) < ((4 : Nat) : Int)) = True := by simp
  have c2 : ((0 : Int) ≤ 2 ∧ (2 : Int) < ((4 : Nat) : Int)) = True := by simp
  have c3 : ((0 : Int) ≤ 3 ∧ (3 : Int) < ((4 : Nat) : Int)) = True := by simp
  have e0 : ∀ (n : Nat) (x : Int), d_slices_Index_int_l0 (k + 5) (n + 1) (some ⟨h, 0, none⟩) 4 4 w ((4 : Nat) : Int) x σ = _ := fun n x => by
    rw [d_slices_Index_int_l0_eq, b_slices_Index_int_l0]
  rw [d_slices_Contains_int_eq, b_slices_Contains_int, d_slices_Index_int_eq, b_slices_Index_int]
  simp only [sw, strA, strR, str0]
  rw [show d_slices_Index_int_l0 (k + 5) (k + 5) (some ⟨h, 0, none⟩) 4 4 w ((4 : Nat) : Int) 0 σ = _ from e0 (k + 4) 0]
  simp only [sw, strA, strR, str0, q0, cond_true, c0, if_true, Option.bind_some, l0, w1]
  cases h1 : (w == 1) with
  | true => have := eq_of_beq h1; subst this; simp [u_i_eq, toI]
  | false =>
  rw [show d_slices_Index_int_l0 (k + 5) (k + 4) (some ⟨h, 0, none⟩) 4 4 w ((4 : Nat) : Int) 1 σ = _ from e0 (k + 3) 1]
  simp only [sw, strA, strR, str0, q1, cond_true, cond_false, c1, if_true, Option.bind_some, l1, w2]
  cases h2 : (w == 2) with
  | true => have := eq_of_beq h2; subst this; simp [u_i_eq, toI]
  | false =>
  rw [show d_slices_Index_int_l0 (k + 5) (k + 3) (some ⟨h, 0, none⟩) 4 4 w ((4 : Nat) : Int) 2 σ = _ from e0 (k + 2) 2]
  simp only [sw, strA, strR, str0, q2, cond_true, cond_false, c2, if_true, Option.bind_some, l2, w3]
  cases h4 : (w == 4) with
  | true => have := eq_of_beq h4; subst this; simp [u_i_eq, toI]
  | false =>
  rw [show d_slices_Index_int_l0 (k + 5) (k + 2) (some ⟨h, 0, none⟩) 4 4 w ((4 : Nat) : Int) 3 σ = _ from e0 (k + 1) 3]
  simp only [sw, strA, strR, str0, q3, cond_true, cond_false, c3, if_true, Option.bind_some, l3, w4]
  cases h8 : (w == 8) with
  | true => have := eq_of_beq h8; subst this; simp [u_i_eq, toI]
  | false =>
  rw [show d_slices_Index_int_l0 (k + 5) (k + 1) (some ⟨h, 0, none⟩) 4 4 w ((4 : Nat) : Int) 4 σ = _ from e0 k 4]
  simp only [sw, strA, strR, str0, q4, cond_false, Option.bind_some, if_true]
  have n1 : w ≠ 1 := by simpa using h1
  have n2 : w ≠ 2 := by simpa using h2
  have n4 : w ≠ 4 := by simpa using h4
  have n8 : w ≠ 8 := by simpa using h8
  simp [n1, n2, n4, n8, toI]

def four : AObj := .cells [.int .i64 1, .int .i64 2, .int .i64 4, .int .i64 8] ty_int true

theorem side_bad (k : Nat) (e w : Int) (σ : AMem) (h : e < 1 ∨ 4096 < e) : d_side_New (k + 1) e w σ = some (.tuple #[.pointer none, .int .i64 1], σ) := by
  rw [d_side_New_eq, b_side_New]
  simp only [sw, strA, strR, str0]
  by_cases h1 : e < 1
  · simp only [h1, decide_true, cond_true, Option.bind_some]
  · have h2 : e > 4096 := by omega
    simp only [h1, h2, decide_true, decide_false, cond_true, cond_false, Option.bind_some]

theorem side_odd (k : Nat) (e w : Int) (σ : AMem) (h1 : 1 ≤ e) (h2 : e ≤ 4096) (h : ¬ (w = 1 ∨ w = 2 ∨ w = 4 ∨ w = 8)) : d_side_New (k + 8) e w σ = some (.tuple #[.pointer none, .int .i64 1], σ ++ [four]) := by
  have g1 : ¬ e < 1 := by omega
  have g2 : ¬ e > 4096 := by omega
  rw [d_side_New_eq, b_side_New]
  simp only [sw, strA, strR, str0, g1, g2, decide_false, cond_false, Option.bind_some, allocK]
  rw [Index4_to k (by simp) w]
  simp only [h, decide_false, toB_bool, Bool.not_false, cond_true, Option.bind_some]
  rfl

def side_n (e w : Int) : Nat := ((w64 ((w64 ((w64 (e * w)) + 64)) - 1)).tdiv 64).toNat
theorem side_good' (k : Nat) (e w : Int) (σ : AMem) (h1 : 1 ≤ e) (h2 : e ≤ 4096) (h : w = 1 ∨ w = 2 ∨ w = 4 ∨ w = 8) : d_side_New (k + 8) e w σ =
    some (.tuple #[.pointer (some ⟨σ.length + 2, 0, none⟩), .int .i64 0], σ ++ [four, .cells (rep (side_n e w) [.int .u64 0]) ty_uint64 true, .cells [.int .i64 e, .int .i64 w, .slice (some ⟨σ.length + 1, 0, none⟩) (side_n e w) (side_n e w)] ty_side_Table true]) := by
  have g1 : ¬ e < 1 := by omega
  have g2 : ¬ e > 4096 := by omega
  have hn : w64 ((w64 ((w64 ((w64 (e * w)) + 64)) - 1)).tdiv 64) = (w64 ((w64 ((w64 (e * w)) + 64)) - 1)).tdiv 64 ∧ 0 ≤ (w64 ((w64 ((w64 (e * w)) + 64)) - 1)).tdiv 64 ∧ (w64 ((w64 ((w64 (e * w)) + 64)) - 1)).tdiv 64 ≤ 1000 := by
    have a1 : w64 (e * w) = e * w := w64_in (by unfold inI; rcases h with rfl | rfl | rfl | rfl <;> omega)
    have a2 : w64 (e * w + 64) = e * w + 64 := w64_in (by unfold inI; rcases h with rfl | rfl | rfl | rfl <;> omega)
    have a3 : w64 (e * w + 64 - 1) = e * w + 64 - 1 := w64_in (by unfold inI; rcases h with rfl | rfl | rfl | rfl <;> omega)
    rw [a1, a2, a3]
    have a4 : (e * w + 64 - 1).tdiv 64 = (e * w + 64 - 1) / 64 := Int.tdiv_eq_ediv_of_nonneg (by rcases h with rfl | rfl | rfl | rfl <;> omega)
    have a5 : 0 ≤ (e * w + 64 - 1) / 64 ∧ (e * w + 64 - 1) / 64 ≤ 1000 := by rcases h with rfl | rfl | rfl | rfl <;> omega
    rw [a4]
    exact ⟨w64_in (by unfold inI; omega), a5⟩
  obtain ⟨hn1, hn2, hn3⟩ := hn
  rw [d_side_New_eq, b_side_New]
  simp only [sw, strA, strR, str0, g1, g2, decide_false, cond_false, Option.bind_some, allocK]
  rw [Index4_to k (by simp) w]
  simp only [h, decide_true, toB_bool, Bool.not_true, cond_false, Option.bind_some, hn1]
  unfold side_n
  generalize (w64 ((w64 ((w64 (e * w)) + 64)) - 1)).tdiv 64 = n at hn2 hn3
  rw [if_neg (by decide), if_pos (by omega)]
  simp [four]


end Go.Proofs.YtilefhlamdiomaaGreat
