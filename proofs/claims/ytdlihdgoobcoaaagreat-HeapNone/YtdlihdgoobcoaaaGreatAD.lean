/-
  PRINTED BY A PROGRAM OF THIS SESSION'S OWN (gen.py): the functions as definitions.
-/
import Derived.Test.YtdlihdgoobcoaaaGreatA1
set_option maxRecDepth 100000
set_option linter.unusedVariables false
set_option linter.unusedSimpArgs false
set_option linter.unusedSectionVars false
namespace Go.Proofs.YtdlihdgoobcoaaaGreat.Al
open Go Go.AX
variable [Quiet]

noncomputable def d_slices_Index_int_l0 (k n : Nat) (p0 : Option Addr) (c1 : Nat) (c2 : Nat) (i3 : Int) (i4 : Int) (x8 : Int) (σ : AMem) : Option LOut := match n with
  | 0 => none
  | n + 1 => (bif decide (x8 < i4) then (if 0 ≤ x8 ∧ x8 < (c1 : Nat) then p0.bind fun a1 => (ldI .i64 σ a1.block (a1.off + x8.toNat * 1)).bind fun n2 => bif i3 == n2 then (some (.ret, [.int .i64 x8], σ)) else (d_slices_Index_int_l0 k n p0 c1 c2 i3 i4 (w64 (x8 + (1 : Int))) σ) else none) else (some (.exit 0, [], σ)))
termination_by structural n

theorem slices_Index_int_l0_is (k n : Nat) (p0 : Option Addr) (c1 : Nat) (c2 : Nat) (i3 : Int) (i4 : Int) (x8 : Int) (σ : AMem) : slices_Index_int_l0 k n p0 c1 c2 i3 i4 x8 σ = d_slices_Index_int_l0 k n p0 c1 c2 i3 i4 x8 σ := by
  induction n generalizing p0 c1 c2 i3 i4 x8 σ with
  | zero => rfl
  | succ n ih => rw [slices_Index_int_l0_eq, d_slices_Index_int_l0]; simp only [ih]

noncomputable def d_slices_Index_int (k : Nat) (x0 : Option Addr × Nat × Nat) (x1 : Int) (σ : AMem) : Option (Value × AMem) := match k with
  | 0 => none
  | k + 1 => ((d_slices_Index_int_l0 k k x0.1 x0.2.1 x0.2.2 x1 ((x0.2.1 : Nat) : Int) (0 : Int) σ).bind fun r3 => if r3.1 = .exit 0 then (some (.int .i64 (-1 : Int), r3.2.2)) else if r3.1 = .ret then (u_i r3.2.1 fun n4 => some (.int .i64 n4, r3.2.2)) else none)

theorem slices_Index_int_is (k : Nat) (x0 : Option Addr × Nat × Nat) (x1 : Int) (σ : AMem) : slices_Index_int k x0 x1 σ = d_slices_Index_int k x0 x1 σ := by
  cases k with
  | zero => rfl
  | succ k => rw [slices_Index_int_eq, d_slices_Index_int]; simp only [slices_Index_int_l0_is]

noncomputable def d_slices_Contains_int (k : Nat) (x0 : Option Addr × Nat × Nat) (x1 : Int) (σ : AMem) : Option (Value × AMem) := match k with
  | 0 => none
  | k + 1 => ((d_slices_Index_int k (x0.1, x0.2.1, x0.2.2) x1 σ).bind fun r1 => (toI .i64 r1.1).bind fun n2 => some (.bool (decide (n2 ≥ (0 : Int))), r1.2))

theorem slices_Contains_int_is (k : Nat) (x0 : Option Addr × Nat × Nat) (x1 : Int) (σ : AMem) : slices_Contains_int k x0 x1 σ = d_slices_Contains_int k x0 x1 σ := by
  cases k with
  | zero => rfl
  | succ k => rw [slices_Contains_int_eq, d_slices_Contains_int]; simp only [slices_Index_int_is]

noncomputable def d_side_New (k : Nat) (x0 : Int) (x1 : Int) (σ : AMem) : Option (Value × AMem) := match k with
  | 0 => none
  | k + 1 => ((bif decide (x0 < (1 : Int)) then some (true, σ) else some (decide (x0 > (4096 : Int)), σ)).bind fun r1 => (bif r1.1 then some (true, r1.2) else allocK r1.2 (.cells [.int .i64 (1 : Int), .int .i64 (2 : Int), .int .i64 (4 : Int), .int .i64 (8 : Int)] 3 true) fun h2 s3 => (d_slices_Contains_int k (some ⟨h2, 0, none⟩, 4, 4) x1 s3).bind fun r4 => (toB r4.1).bind fun b5 => some (!b5, r4.2)).bind fun r6 => bif r6.1 then (some (.tuple #[.pointer none, .int .i64 (1 : Int)], r6.2)) else (if (64 : Int) = 0 then none else if 0 ≤ (w64 ((w64 ((w64 ((w64 (x0 * x1)) + (64 : Int))) - (1 : Int))).tdiv (64 : Int))) ∧ (w64 ((w64 ((w64 ((w64 (x0 * x1)) + (64 : Int))) - (1 : Int))).tdiv (64 : Int))) ≤ (w64 ((w64 ((w64 ((w64 (x0 * x1)) + (64 : Int))) - (1 : Int))).tdiv (64 : Int))) ∧ (w64 ((w64 ((w64 ((w64 (x0 * x1)) + (64 : Int))) - (1 : Int))).tdiv (64 : Int))) * (8 : Nat) ≤ 2 ^ 40 ∧ (w64 ((w64 ((w64 ((w64 (x0 * x1)) + (64 : Int))) - (1 : Int))).tdiv (64 : Int))) ≤ 2 ^ 40 then allocK r6.2 (.cells (rep (w64 ((w64 ((w64 ((w64 (x0 * x1)) + (64 : Int))) - (1 : Int))).tdiv (64 : Int))).toNat [.int .u64 (0 : Int)]) 100 true) fun h7 s8 => allocK s8 (.cells [.int .i64 x0, .int .i64 x1, .slice (some ⟨h7, 0, none⟩) ((w64 ((w64 ((w64 ((w64 (x0 * x1)) + (64 : Int))) - (1 : Int))).tdiv (64 : Int))).toNat) ((w64 ((w64 ((w64 ((w64 (x0 * x1)) + (64 : Int))) - (1 : Int))).tdiv (64 : Int))).toNat)] 98 true) fun h9 s10 => some (.tuple #[.pointer (some ⟨h9, 0, none⟩), .int .i64 (0 : Int)], s10) else none))

theorem side_New_is (k : Nat) (x0 : Int) (x1 : Int) (σ : AMem) : side_New k x0 x1 σ = d_side_New k x0 x1 σ := by
  cases k with
  | zero => rfl
  | succ k => rw [side_New_eq, d_side_New]; simp only [slices_Contains_int_is]

noncomputable def d_heap_New (k : Nat) (x0 : Int) (σ : AMem) : Option (Value × AMem) := match k with
  | 0 => none
  | k + 1 => ((bif decide (x0 < (2 : Int)) then some (true, σ) else some (decide (x0 > (64 : Int)), σ)).bind fun r1 => bif r1.1 then (some (.tuple #[.pointer none, .int .i64 (1 : Int)], r1.2)) else (if 0 ≤ x0 ∧ x0 ≤ x0 ∧ x0 * (16 : Nat) ≤ 2 ^ 40 ∧ x0 ≤ 2 ^ 40 then allocK r1.2 (.cells (rep x0.toNat [.int .i64 (0 : Int), .int .i64 (0 : Int)]) 74 true) fun h2 s3 => if 0 ≤ (w64 (x0 * (64 : Int))) ∧ (w64 (x0 * (64 : Int))) ≤ (w64 (x0 * (64 : Int))) ∧ (w64 (x0 * (64 : Int))) * (8 : Nat) ≤ 2 ^ 40 ∧ (w64 (x0 * (64 : Int))) ≤ 2 ^ 40 then allocK s3 (.cells (rep (w64 (x0 * (64 : Int))).toNat [.int .i64 (0 : Int)]) 3 true) fun h4 s5 => allocK s5 (.map []) fun h6 s7 => allocK s7 (.map []) fun h8 s9 => allocK s9 (.cells [.slice (some ⟨h2, 0, none⟩) x0.toNat x0.toNat, .slice (some ⟨h4, 0, none⟩) ((w64 (x0 * (64 : Int))).toNat) ((w64 (x0 * (64 : Int))).toNat), .pointer none, .pointer none, .map (some h6), .map (some h8), .int .i64 (0 : Int)] 46 true) fun h10 s11 => (ldS s11 h10 (0 + 1)).bind fun l12 => if (2 : Int) = 0 then none else (d_side_New k (w64 (((l12.2.1 : Nat) : Int).tdiv (2 : Int))) (1 : Int) s11).bind fun r13 => r_pi r13.1 fun p14 n15 => (st1 r13.2 h10 (0 + 2) (.pointer p14)).bind fun s16 => (ldS s16 h10 (0 + 1)).bind fun l17 => if (2 : Int) = 0 then none else (d_side_New k (w64 (((l17.2.1 : Nat) : Int).tdiv (2 : Int))) (1 : Int) s16).bind fun r18 => r_pi r18.1 fun p19 n20 => (st1 r18.2 h10 (0 + 3) (.pointer p19)).bind fun s21 => some (.tuple #[.pointer (some ⟨h10, 0, none⟩), .int .i64 (0 : Int)], s21) else none else none))

theorem heap_New_is (k : Nat) (x0 : Int) (σ : AMem) : heap_New k x0 σ = d_heap_New k x0 σ := by
  cases k with
  | zero => rfl
  | succ k => rw [heap_New_eq, d_heap_New]; simp only [side_New_is]

noncomputable def d_heap_Heap_made (k : Nat) (x0 : Option Addr) (σ : AMem) : Option (Value × AMem) := match k with
  | 0 => none
  | k + 1 => ((eqA P 25 (.pointer x0) (.pointer none)).bind fun e1 => (bif !e1 then x0.bind fun a2 => (ldS σ a2.block (a2.off + 0)).bind fun l3 => some (decide (((l3.2.1 : Nat) : Int) > (0 : Int)), σ) else some (false, σ)).bind fun r4 => some (.bool r4.1, r4.2))

theorem heap_Heap_made_is (k : Nat) (x0 : Option Addr) (σ : AMem) : heap_Heap_made k x0 σ = d_heap_Heap_made k x0 σ := by
  cases k with
  | zero => rfl
  | succ k => rw [heap_Heap_made_eq, d_heap_Heap_made]

noncomputable def d_side_Table_made (k : Nat) (x0 : Option Addr) (σ : AMem) : Option (Value × AMem) := match k with
  | 0 => none
  | k + 1 => ((eqA P 43 (.pointer x0) (.pointer none)).bind fun e1 => (bif !e1 then x0.bind fun a2 => (ldI .i64 σ a2.block (a2.off + 0)).bind fun n3 => some (decide (n3 > (0 : Int)), σ) else some (false, σ)).bind fun r4 => some (.bool r4.1, r4.2))

theorem side_Table_made_is (k : Nat) (x0 : Option Addr) (σ : AMem) : side_Table_made k x0 σ = d_side_Table_made k x0 σ := by
  cases k with
  | zero => rfl
  | succ k => rw [side_Table_made_eq, d_side_Table_made]

noncomputable def d_side_Table_most (k : Nat) (x0 : Option Addr) (σ : AMem) : Option (Value × AMem) := match k with
  | 0 => none
  | k + 1 => (x0.bind fun a1 => (ldI .i64 σ a1.block (a1.off + 1)).bind fun n2 => if n2 < 0 then none else some (.int .i64 (w64 ((w64 ((1 : Int) * 2 ^ (min n2.toNat 64))) - (1 : Int))), σ))

theorem side_Table_most_is (k : Nat) (x0 : Option Addr) (σ : AMem) : side_Table_most k x0 σ = d_side_Table_most k x0 σ := by
  cases k with
  | zero => rfl
  | succ k => rw [side_Table_most_eq, d_side_Table_most]

noncomputable def d_side_Table_get (k : Nat) (x0 : Option Addr) (x1 : Int) (σ : AMem) : Option (Value × AMem) := match k with
  | 0 => none
  | k + 1 => (x0.bind fun a1 => (ldI .i64 σ a1.block (a1.off + 1)).bind fun n2 => x0.bind fun a3 => (ldS σ a3.block (a3.off + 2)).bind fun l4 => if (64 : Int) = 0 then none else if 0 ≤ (w64 ((w64 (x1 * n2)).tdiv (64 : Int))) ∧ (w64 ((w64 (x1 * n2)).tdiv (64 : Int))) < (l4.2.1 : Nat) then l4.1.bind fun a5 => (ldI .u64 σ a5.block (a5.off + (w64 ((w64 (x1 * n2)).tdiv (64 : Int))).toNat * 1)).bind fun n6 => if (64 : Int) = 0 then none else if ((w64 (x1 * n2)).tmod (64 : Int)) < 0 then none else (d_side_Table_most k x0 σ).bind fun r7 => quietly σ r7.2 ((toI .i64 r7.1).bind fun n8 => some (.int .i64 (w64 ((BitVec.ofInt 64 (w64 (n6.fdiv (2 ^ (min ((w64 (x1 * n2)).tmod (64 : Int)).toNat 64)))) &&& BitVec.ofInt 64 n8).toNat)), r7.2)) else none)

theorem side_Table_get_is (k : Nat) (x0 : Option Addr) (x1 : Int) (σ : AMem) : side_Table_get k x0 x1 σ = d_side_Table_get k x0 x1 σ := by
  cases k with
  | zero => rfl
  | succ k => rw [side_Table_get_eq, d_side_Table_get]; simp only [side_Table_most_is]

noncomputable def d_side_Table_Next_l0 (k n : Nat) (p0 : Option Addr) (i1 : Int) (x8 : Int) (σ : AMem) : Option LOut := match n with
  | 0 => none
  | n + 1 => (p0.bind fun a3 => (ldI .i64 σ a3.block (a3.off + 0)).bind fun n4 => bif decide (x8 < n4) then ((d_side_Table_get k p0 x8 σ).bind fun r5 => (toI .i64 r5.1).bind fun n6 => bif n6 == i1 then (some (.ret, [.int .i64 x8, .int .i64 (0 : Int)], r5.2)) else (d_side_Table_Next_l0 k n p0 i1 (w64 (x8 + (1 : Int))) r5.2)) else (some (.exit 0, [], σ)))
termination_by structural n

theorem side_Table_Next_l0_is (k n : Nat) (p0 : Option Addr) (i1 : Int) (x8 : Int) (σ : AMem) : side_Table_Next_l0 k n p0 i1 x8 σ = d_side_Table_Next_l0 k n p0 i1 x8 σ := by
  induction n generalizing p0 i1 x8 σ with
  | zero => rfl
  | succ n ih => rw [side_Table_Next_l0_eq, d_side_Table_Next_l0]; simp only [side_Table_made_is, side_Table_get_is, ih]

noncomputable def d_side_Table_Next (k : Nat) (x0 : Option Addr) (x1 : Int) (x2 : Int) (σ : AMem) : Option (Value × AMem) := match k with
  | 0 => none
  | k + 1 => ((d_side_Table_made k x0 σ).bind fun r1 => (toB r1.1).bind fun b2 => bif !b2 then (some (.tuple #[.int .i64 (0 : Int), .int .i64 (5 : Int)], r1.2)) else ((d_side_Table_Next_l0 k k x0 x2 (if (0 : Int) > x1 then (0 : Int) else x1) r1.2).bind fun r7 => if r7.1 = .exit 0 then (some (.tuple #[.int .i64 (0 : Int), .int .i64 (4 : Int)], r7.2.2)) else if r7.1 = .ret then (u_ii r7.2.1 fun n8 n9 => some (.tuple #[.int .i64 n8, .int .i64 n9], r7.2.2)) else none))

theorem side_Table_Next_is (k : Nat) (x0 : Option Addr) (x1 : Int) (x2 : Int) (σ : AMem) : side_Table_Next k x0 x1 x2 σ = d_side_Table_Next k x0 x1 x2 σ := by
  cases k with
  | zero => rfl
  | succ k => rw [side_Table_Next_eq, d_side_Table_Next]; simp only [side_Table_made_is, side_Table_get_is, side_Table_Next_l0_is]

noncomputable def d_heap_Heap_between_l0 (k n : Nat) (p0 : Option Addr) (i1 : Int) (x7 : Option Addr × Nat × Nat) (x8 : Int) (x9 : Int) (σ : AMem) : Option LOut := match n with
  | 0 => none
  | n + 1 => ((bif x9 == (0 : Int) then some (decide ((w64 ((2 : Int) * x8)) < i1), σ) else some (false, σ)).bind fun r6 => bif r6.1 then (allocK r6.2 (.cells [.int .i64 (w64 ((2 : Int) * x8))] 3 true) fun h7 s8 => (appendD P 3 (x7.1, x7.2.1, x7.2.2) (some ⟨h7, 0, none⟩, 1, 1) s8).bind fun r9 => p0.bind fun a10 => (ldP r9.2 a10.block (a10.off + 2)).bind fun p11 => (d_side_Table_Next k p11 (w64 (x8 + (1 : Int))) (1 : Int) r9.2).bind fun r12 => r_ii r12.1 fun n13 n14 => d_heap_Heap_between_l0 k n p0 i1 (r9.1.1, r9.1.2.1, r9.1.2.2) n13 n14 r12.2) else (some (.exit 0, [.slice x7.1 x7.2.1 x7.2.2], r6.2)))
termination_by structural n

theorem heap_Heap_between_l0_is (k n : Nat) (p0 : Option Addr) (i1 : Int) (x7 : Option Addr × Nat × Nat) (x8 : Int) (x9 : Int) (σ : AMem) : heap_Heap_between_l0 k n p0 i1 x7 x8 x9 σ = d_heap_Heap_between_l0 k n p0 i1 x7 x8 x9 σ := by
  induction n generalizing p0 i1 x7 x8 x9 σ with
  | zero => rfl
  | succ n ih => rw [heap_Heap_between_l0_eq, d_heap_Heap_between_l0]; simp only [side_Table_Next_is, ih]

noncomputable def d_heap_Heap_between (k : Nat) (x0 : Option Addr) (x1 : Int) (x2 : Int) (σ : AMem) : Option (Value × AMem) := match k with
  | 0 => none
  | k + 1 => (x0.bind fun a1 => (ldP σ a1.block (a1.off + 2)).bind fun p2 => if (2 : Int) = 0 then none else (d_side_Table_Next k p2 (w64 (x1.tdiv (2 : Int))) (1 : Int) σ).bind fun r3 => r_ii r3.1 fun n4 n5 => (d_heap_Heap_between_l0 k k x0 x2 (none, 0, 0) n4 n5 r3.2).bind fun r15 => if r15.1 = .exit 0 then (u_l r15.2.1 fun l16 => some (.slice l16.1 l16.2.1 l16.2.2, r15.2.2)) else none)

theorem heap_Heap_between_is (k : Nat) (x0 : Option Addr) (x1 : Int) (x2 : Int) (σ : AMem) : heap_Heap_between k x0 x1 x2 σ = d_heap_Heap_between k x0 x1 x2 σ := by
  cases k with
  | zero => rfl
  | succ k => rw [heap_Heap_between_eq, d_heap_Heap_between]; simp only [side_Table_Next_is, heap_Heap_between_l0_is]

noncomputable def d_heap_Heap_Objects (k : Nat) (x0 : Option Addr) (x1 : Int) (σ : AMem) : Option (Value × AMem) := match k with
  | 0 => none
  | k + 1 => ((d_heap_Heap_made k x0 σ).bind fun r1 => (toB r1.1).bind fun b2 => (bif !b2 then some (true, r1.2) else some (decide (x1 < (0 : Int)), r1.2)).bind fun r3 => (bif r3.1 then some (true, r3.2) else x0.bind fun a4 => (ldS r3.2 a4.block (a4.off + 0)).bind fun l5 => some (decide (x1 ≥ ((l5.2.1 : Nat) : Int)), r3.2)).bind fun r6 => bif r6.1 then (some (.slice none 0 0, r6.2)) else ((d_heap_Heap_between k x0 (w64 (x1 * (64 : Int))) (w64 ((w64 (x1 + (1 : Int))) * (64 : Int))) r6.2).bind fun r7 => (toS r7.1).bind fun l8 => some (.slice l8.1 l8.2.1 l8.2.2, r7.2)))

theorem heap_Heap_Objects_is (k : Nat) (x0 : Option Addr) (x1 : Int) (σ : AMem) : heap_Heap_Objects k x0 x1 σ = d_heap_Heap_Objects k x0 x1 σ := by
  cases k with
  | zero => rfl
  | succ k => rw [heap_Heap_Objects_eq, d_heap_Heap_Objects]; simp only [heap_Heap_made_is, heap_Heap_between_is]

noncomputable def d_heap_Heap_there (k : Nat) (x0 : Option Addr) (x1 : Int) (σ : AMem) : Option (Value × AMem) := match k with
  | 0 => none
  | k + 1 => ((d_heap_Heap_made k x0 σ).bind fun r1 => (toB r1.1).bind fun b2 => (bif b2 then some (decide (x1 ≥ (1 : Int)), r1.2) else some (false, r1.2)).bind fun r3 => (bif r3.1 then x0.bind fun a4 => (ldS r3.2 a4.block (a4.off + 0)).bind fun l5 => some (decide (x1 < ((l5.2.1 : Nat) : Int)), r3.2) else some (false, r3.2)).bind fun r6 => some (.bool r6.1, r6.2))

theorem heap_Heap_there_is (k : Nat) (x0 : Option Addr) (x1 : Int) (σ : AMem) : heap_Heap_there k x0 x1 σ = d_heap_Heap_there k x0 x1 σ := by
  cases k with
  | zero => rfl
  | succ k => rw [heap_Heap_there_eq, d_heap_Heap_there]; simp only [heap_Heap_made_is]

noncomputable def d_heap_Heap_used (k : Nat) (x0 : Option Addr) (x1 : Int) (σ : AMem) : Option (Value × AMem) := match k with
  | 0 => none
  | k + 1 => ((d_heap_Heap_there k x0 x1 σ).bind fun r1 => (toB r1.1).bind fun b2 => (bif b2 then x0.bind fun a3 => (ldS r1.2 a3.block (a3.off + 0)).bind fun l4 => if 0 ≤ x1 ∧ x1 < (l4.2.1 : Nat) then l4.1.bind fun a5 => (ldI .i64 r1.2 a5.block (a5.off + x1.toNat * 2 + 0)).bind fun n6 => some (n6 == (1 : Int), r1.2) else none else some (false, r1.2)).bind fun r7 => some (.bool r7.1, r7.2))

theorem heap_Heap_used_is (k : Nat) (x0 : Option Addr) (x1 : Int) (σ : AMem) : heap_Heap_used k x0 x1 σ = d_heap_Heap_used k x0 x1 σ := by
  cases k with
  | zero => rfl
  | succ k => rw [heap_Heap_used_eq, d_heap_Heap_used]; simp only [heap_Heap_there_is]

noncomputable def d_heap_Heap_Gaps_c1 (k : Nat) (x0 : Int) (c0 : Option Addr) (c1 : Option Addr) (σ : AMem) : Option (Value × AMem) := match k with
  | 0 => none
  | k + 1 => (c0.bind fun a1 => (ldI .i64 σ a1.block a1.off).bind fun n2 => (bif decide (x0 > n2) then (c1.bind fun a3 => (ldS σ a3.block a3.off).bind fun l4 => c0.bind fun a5 => (ldI .i64 σ a5.block a5.off).bind fun n6 => c0.bind fun a7 => (ldI .i64 σ a7.block a7.off).bind fun n8 => allocK σ (.cells [.int .i64 n6, .int .i64 (w64 (x0 - n8))] 64 true) fun h9 s10 => (appendD P 64 (l4.1, l4.2.1, l4.2.2) (some ⟨h9, 0, none⟩, 1, 1) s10).bind fun r11 => c1.bind fun a12 => (st1 r11.2 a12.block a12.off (.slice r11.1.1 r11.1.2.1 r11.1.2.2)).bind fun s13 => some (.normal, [], s13)) else (some (.normal, [], σ)) : Option LOut).bind fun r14 => if r14.1 = .normal then (some (.tuple #[], r14.2.2)) else none)

theorem heap_Heap_Gaps_c1_is (k : Nat) (x0 : Int) (c0 : Option Addr) (c1 : Option Addr) (σ : AMem) : heap_Heap_Gaps_c1 k x0 c0 c1 σ = d_heap_Heap_Gaps_c1 k x0 c0 c1 σ := by
  cases k with
  | zero => rfl
  | succ k => rw [heap_Heap_Gaps_c1_eq, d_heap_Heap_Gaps_c1]

noncomputable def d_heap_Valid (k : Nat) (x0_0 : Int) (x0_1 : Int) (x0_2 : Int) (σ : AMem) : Option (Value × AMem) := match k with
  | 0 => none
  | k + 1 => (allocK σ (.cells [.int .i64 x0_0, .int .i64 x0_1, .int .i64 x0_2] 33 true) fun h1 s2 => (ldI .i64 s2 h1 (0 + 0)).bind fun n3 => (bif decide (n3 ≥ (0 : Int)) then (ldI .i64 s2 h1 (0 + 0)).bind fun n4 => some (decide (n4 ≤ (15 : Int)), s2) else some (false, s2)).bind fun r5 => (bif r5.1 then (ldI .i64 r5.2 h1 (0 + 1)).bind fun n6 => some (decide (n6 ≥ (0 : Int)), r5.2) else some (false, r5.2)).bind fun r7 => (bif r7.1 then (ldI .i64 r7.2 h1 (0 + 1)).bind fun n8 => some (decide (n8 ≤ (200 : Int)), r7.2) else some (false, r7.2)).bind fun r9 => (bif r9.1 then (ldI .i64 r9.2 h1 (0 + 2)).bind fun n10 => some (decide (n10 ≥ (0 : Int)), r9.2) else some (false, r9.2)).bind fun r11 => (bif r11.1 then (ldI .i64 r11.2 h1 (0 + 2)).bind fun n12 => some (decide (n12 ≤ (3 : Int)), r11.2) else some (false, r11.2)).bind fun r13 => (bif r13.1 then (ldI .i64 r13.2 h1 (0 + 2)).bind fun n14 => (bif n14 != (1 : Int) then some (true, r13.2) else (ldI .i64 r13.2 h1 (0 + 0)).bind fun n15 => some (decide (n15 ≥ (1 : Int)), r13.2)).bind fun r16 => some (r16.1, r16.2) else some (false, r13.2)).bind fun r17 => (bif r17.1 then (ldI .i64 r17.2 h1 (0 + 2)).bind fun n18 => (bif n18 != (2 : Int) then some (true, r17.2) else (ldI .i64 r17.2 h1 (0 + 0)).bind fun n19 => some (decide (n19 ≥ (2 : Int)), r17.2)).bind fun r20 => some (r20.1, r20.2) else some (false, r17.2)).bind fun r21 => some (.bool r21.1, r21.2))

theorem heap_Valid_is (k : Nat) (x0_0 : Int) (x0_1 : Int) (x0_2 : Int) (σ : AMem) : heap_Valid k x0_0 x0_1 x0_2 σ = d_heap_Valid k x0_0 x0_1 x0_2 σ := by
  cases k with
  | zero => rfl
  | succ k => rw [heap_Valid_eq, d_heap_Valid]

noncomputable def d_heap_Words (k : Nat) (x0_0 : Int) (x0_1 : Int) (x0_2 : Int) (σ : AMem) : Option (Value × AMem) := match k with
  | 0 => none
  | k + 1 => (allocK σ (.cells [.int .i64 x0_0, .int .i64 x0_1, .int .i64 x0_2] 33 true) fun h1 s2 => (ldI .i64 s2 h1 0).bind fun n3 => (ldI .i64 s2 h1 (0 + 1)).bind fun n4 => (ldI .i64 s2 h1 (0 + 1 + 1)).bind fun n5 => (d_heap_Valid k n3 n4 n5 s2).bind fun r6 => (toB r6.1).bind fun b7 => bif !b7 then (some (.int .i64 (0 : Int), r6.2)) else ((ldI .i64 r6.2 h1 (0 + 0)).bind fun n8 => (ldI .i64 r6.2 h1 (0 + 1)).bind fun n9 => if (2 : Int) = 0 then none else some (.int .i64 (w64 ((w64 ((w64 ((w64 ((w64 ((2 : Int) + n8)) + n9)) + (1 : Int))).tdiv (2 : Int))) * (2 : Int))), r6.2)))

theorem heap_Words_is (k : Nat) (x0_0 : Int) (x0_1 : Int) (x0_2 : Int) (σ : AMem) : heap_Words k x0_0 x0_1 x0_2 σ = d_heap_Words k x0_0 x0_1 x0_2 σ := by
  cases k with
  | zero => rfl
  | succ k => rw [heap_Words_eq, d_heap_Words]; simp only [heap_Valid_is]

noncomputable def d_heap_shape (k : Nat) (x0 : Int) (σ : AMem) : Option (Value × AMem) := match k with
  | 0 => none
  | k + 1 => (allocK σ (.cells [.int .i64 (0 : Int), .int .i64 (0 : Int), .int .i64 (0 : Int)] 33 true) fun h1 s2 => if (16 : Int) = 0 then none else if (4096 : Int) = 0 then none else if (16 : Int) = 0 then none else if (4096 : Int) = 0 then none else (stN s2 h1 0 [.int .i64 (x0.tmod (16 : Int)), .int .i64 (w64 ((x0.tmod (4096 : Int)).tdiv (16 : Int))), .int .i64 (w64 (x0.tdiv (4096 : Int)))]).bind fun s3 => (((ldN s3 h1 0 3).bind fun v4 => some (.agg v4.toArray)).bind fun v5 => some [v5]).bind fun vs6 => some (resOf vs6, s3))

theorem heap_shape_is (k : Nat) (x0 : Int) (σ : AMem) : heap_shape k x0 σ = d_heap_shape k x0 σ := by
  cases k with
  | zero => rfl
  | succ k => rw [heap_shape_eq, d_heap_shape]

noncomputable def d_heap_Heap_size (k : Nat) (x0 : Option Addr) (x1 : Int) (σ : AMem) : Option (Value × AMem) := match k with
  | 0 => none
  | k + 1 => (x0.bind fun a1 => (ldS σ a1.block (a1.off + 1)).bind fun l2 => if 0 ≤ (w64 (x1 + (1 : Int))) ∧ (w64 (x1 + (1 : Int))) < (l2.2.1 : Nat) then l2.1.bind fun a3 => (ldI .i64 σ a3.block (a3.off + (w64 (x1 + (1 : Int))).toNat * 1)).bind fun n4 => (d_heap_shape k n4 σ).bind fun r5 => a_iii r5.1 fun n6 n7 n8 => (d_heap_Words k n6 n7 n8 r5.2).bind fun r9 => (toI .i64 r9.1).bind fun n10 => some (.int .i64 n10, r9.2) else none)

theorem heap_Heap_size_is (k : Nat) (x0 : Option Addr) (x1 : Int) (σ : AMem) : heap_Heap_size k x0 x1 σ = d_heap_Heap_size k x0 x1 σ := by
  cases k with
  | zero => rfl
  | succ k => rw [heap_Heap_size_eq, d_heap_Heap_size]; simp only [heap_Words_is, heap_shape_is]

noncomputable def d_heap_Heap_Gaps_l0 (k n : Nat) (p0 : Option Addr) (h1 : Nat) (h2 : Nat) (p3 : Option Addr) (c4 : Nat) (c5 : Nat) (i6 : Int) (x21 : Int) (σ : AMem) : Option LOut := match n with
  | 0 => none
  | n + 1 => (bif decide (x21 < i6) then (if 0 ≤ x21 ∧ x21 < (c4 : Nat) then p3.bind fun a10 => (ldI .i64 σ a10.block (a10.off + x21.toNat * 1)).bind fun n11 => (d_heap_Heap_Gaps_c1 k n11 (some ⟨h1, 0, none⟩) (some ⟨h2, 0, none⟩) σ).bind fun r12 => r_0 r12.1 ((d_heap_Heap_size k p0 n11 r12.2).bind fun r13 => (toI .i64 r13.1).bind fun n14 => (st1 r13.2 h1 0 (.int .i64 (w64 (n11 + n14)))).bind fun s15 => d_heap_Heap_Gaps_l0 k n p0 h1 h2 p3 c4 c5 i6 (w64 (x21 + (1 : Int))) s15) else none) else (some (.exit 0, [], σ)))
termination_by structural n

theorem heap_Heap_Gaps_l0_is (k n : Nat) (p0 : Option Addr) (h1 : Nat) (h2 : Nat) (p3 : Option Addr) (c4 : Nat) (c5 : Nat) (i6 : Int) (x21 : Int) (σ : AMem) : heap_Heap_Gaps_l0 k n p0 h1 h2 p3 c4 c5 i6 x21 σ = d_heap_Heap_Gaps_l0 k n p0 h1 h2 p3 c4 c5 i6 x21 σ := by
  induction n generalizing p0 h1 h2 p3 c4 c5 i6 x21 σ with
  | zero => rfl
  | succ n ih => rw [heap_Heap_Gaps_l0_eq, d_heap_Heap_Gaps_l0]; simp only [heap_Heap_Objects_is, heap_Heap_used_is, heap_Heap_Gaps_c1_is, heap_Heap_size_is, ih]

noncomputable def d_heap_Heap_Gaps (k : Nat) (x0 : Option Addr) (x1 : Int) (σ : AMem) : Option (Value × AMem) := match k with
  | 0 => none
  | k + 1 => ((d_heap_Heap_used k x0 x1 σ).bind fun r1 => (toB r1.1).bind fun b2 => bif !b2 then (some (.slice none 0 0, r1.2)) else (allocK r1.2 (.cells [.slice none 0 0] 50 true) fun h3 s4 => allocK s4 (.cells [.int .i64 (0 : Int)] 3 true) fun h5 s6 => (st1 s6 h5 0 (.int .i64 (w64 (x1 * (64 : Int))))).bind fun s7 => (d_heap_Heap_Objects k x0 x1 s7).bind fun r8 => (toS r8.1).bind fun l9 => (d_heap_Heap_Gaps_l0 k k x0 h5 h3 l9.1 l9.2.1 l9.2.2 ((l9.2.1 : Nat) : Int) (0 : Int) r8.2).bind fun r16 => if r16.1 = .exit 0 then ((d_heap_Heap_Gaps_c1 k (w64 ((w64 (x1 + (1 : Int))) * (64 : Int))) (some ⟨h5, 0, none⟩) (some ⟨h3, 0, none⟩) r16.2.2).bind fun r17 => r_0 r17.1 ((ldS r17.2 h3 0).bind fun l18 => some (.slice l18.1 l18.2.1 l18.2.2, r17.2))) else none))

theorem heap_Heap_Gaps_is (k : Nat) (x0 : Option Addr) (x1 : Int) (σ : AMem) : heap_Heap_Gaps k x0 x1 σ = d_heap_Heap_Gaps k x0 x1 σ := by
  cases k with
  | zero => rfl
  | succ k => rw [heap_Heap_Gaps_eq, d_heap_Heap_Gaps]; simp only [heap_Heap_Objects_is, heap_Heap_used_is, heap_Heap_Gaps_c1_is, heap_Heap_size_is, heap_Heap_Gaps_l0_is]

noncomputable def d_heap_space (k : Nat) (x0 : Int) (σ : AMem) : Option (Value × AMem) := match k with
  | 0 => none
  | k + 1 => ((bif decide (x0 ≥ (0 : Int)) then some (decide (x0 < (8 : Int)), σ) else some (false, σ)).bind fun r1 => some (.bool r1.1, r1.2))

theorem heap_space_is (k : Nat) (x0 : Int) (σ : AMem) : heap_space k x0 σ = d_heap_space k x0 σ := by
  cases k with
  | zero => rfl
  | succ k => rw [heap_space_eq, d_heap_space]

noncomputable def d_slices_IndexFunc_heap_block_l0 (k n : Nat) (p0 : Option Addr) (c1 : Nat) (c2 : Nat) (v3 : Value) (i4 : Int) (x8 : Int) (σ : AMem) : Option LOut := match n with
  | 0 => none
  | n + 1 => (bif decide (x8 < i4) then (if 0 ≤ x8 ∧ x8 < (c1 : Nat) then p0.bind fun a1 => (ldI .i64 σ a1.block (a1.off + x8.toNat * 2)).bind fun n2 => (ldI .i64 σ a1.block (a1.off + x8.toNat * 2 + 1)).bind fun n3 => (callV k v3 [.agg #[.int .i64 n2, .int .i64 n3]] σ).bind fun r4 => (toB r4.1).bind fun b5 => bif b5 then (some (.ret, [.int .i64 x8], r4.2)) else (d_slices_IndexFunc_heap_block_l0 k n p0 c1 c2 v3 i4 (w64 (x8 + (1 : Int))) r4.2) else none) else (some (.exit 0, [], σ)))
termination_by structural n

theorem slices_IndexFunc_heap_block_l0_is (k n : Nat) (p0 : Option Addr) (c1 : Nat) (c2 : Nat) (v3 : Value) (i4 : Int) (x8 : Int) (σ : AMem) : slices_IndexFunc_heap_block_l0 k n p0 c1 c2 v3 i4 x8 σ = d_slices_IndexFunc_heap_block_l0 k n p0 c1 c2 v3 i4 x8 σ := by
  induction n generalizing p0 c1 c2 v3 i4 x8 σ with
  | zero => rfl
  | succ n ih => rw [slices_IndexFunc_heap_block_l0_eq, d_slices_IndexFunc_heap_block_l0]; simp only [ih]

noncomputable def d_slices_IndexFunc_heap_block (k : Nat) (x0 : Option Addr × Nat × Nat) (x1 : Value) (σ : AMem) : Option (Value × AMem) := match k with
  | 0 => none
  | k + 1 => ((d_slices_IndexFunc_heap_block_l0 k k x0.1 x0.2.1 x0.2.2 x1 ((x0.2.1 : Nat) : Int) (0 : Int) σ).bind fun r6 => if r6.1 = .exit 0 then (some (.int .i64 (-1 : Int), r6.2.2)) else if r6.1 = .ret then (u_i r6.2.1 fun n7 => some (.int .i64 n7, r6.2.2)) else none)

theorem slices_IndexFunc_heap_block_is (k : Nat) (x0 : Option Addr × Nat × Nat) (x1 : Value) (σ : AMem) : slices_IndexFunc_heap_block k x0 x1 σ = d_slices_IndexFunc_heap_block k x0 x1 σ := by
  cases k with
  | zero => rfl
  | succ k => rw [slices_IndexFunc_heap_block_eq, d_slices_IndexFunc_heap_block]; simp only [slices_IndexFunc_heap_block_l0_is]

noncomputable def d_slices_ContainsFunc_heap_block (k : Nat) (x0 : Option Addr × Nat × Nat) (x1 : Value) (σ : AMem) : Option (Value × AMem) := match k with
  | 0 => none
  | k + 1 => ((d_slices_IndexFunc_heap_block k (x0.1, x0.2.1, x0.2.2) (x1) σ).bind fun r1 => (toI .i64 r1.1).bind fun n2 => some (.bool (decide (n2 ≥ (0 : Int))), r1.2))

theorem slices_ContainsFunc_heap_block_is (k : Nat) (x0 : Option Addr × Nat × Nat) (x1 : Value) (σ : AMem) : slices_ContainsFunc_heap_block k x0 x1 σ = d_slices_ContainsFunc_heap_block k x0 x1 σ := by
  cases k with
  | zero => rfl
  | succ k => rw [slices_ContainsFunc_heap_block_eq, d_slices_ContainsFunc_heap_block]; simp only [slices_IndexFunc_heap_block_is]

noncomputable def d_heap_Heap_claim_l0 (k n : Nat) (p0 : Option Addr) (i1 : Int) (h2 : Nat) (i3 : Int) (x54 : Int) (σ : AMem) : Option LOut := match n with
  | 0 => none
  | n + 1 => (bif decide (x54 < i3) then (p0.bind fun a22 => (ldS σ a22.block (a22.off + 0)).bind fun l23 => (ldI .i64 σ h2 0).bind fun n24 => (ldI .i64 σ h2 (0 + 1)).bind fun n25 => if 0 ≤ (w64 (i1 + x54)) ∧ (w64 (i1 + x54)) < (l23.2.1 : Nat) then l23.1.bind fun a26 => (stN σ a26.block (a26.off + (w64 (i1 + x54)).toNat * 2) [.int .i64 n24, .int .i64 n25]).bind fun s27 => d_heap_Heap_claim_l0 k n p0 i1 h2 i3 (w64 (x54 + (1 : Int))) s27 else none) else (some (.exit 1, [], σ)))
termination_by structural n

theorem heap_Heap_claim_l0_is (k n : Nat) (p0 : Option Addr) (i1 : Int) (h2 : Nat) (i3 : Int) (x54 : Int) (σ : AMem) : heap_Heap_claim_l0 k n p0 i1 h2 i3 x54 σ = d_heap_Heap_claim_l0 k n p0 i1 h2 i3 x54 σ := by
  induction n generalizing p0 i1 h2 i3 x54 σ with
  | zero => rfl
  | succ n ih => rw [heap_Heap_claim_l0_eq, d_heap_Heap_claim_l0]; simp only [heap_Heap_made_is, heap_space_is, heap_Heap_there_is, slices_ContainsFunc_heap_block_is, ih]

noncomputable def d_heap_Heap_claim (k : Nat) (x0 : Option Addr) (x1 : Int) (x2 : Int) (x3_0 : Int) (x3_1 : Int) (x4_0 : Int) (x4_1 : Int) (σ : AMem) : Option (Value × AMem) := match k with
  | 0 => none
  | k + 1 => (allocK σ (.cells [.int .i64 x3_0, .int .i64 x3_1] 74 true) fun h1 s2 => allocK s2 (.cells [.int .i64 x4_0, .int .i64 x4_1] 74 true) fun h3 s4 => (d_heap_Heap_made k x0 s4).bind fun r5 => (toB r5.1).bind fun b6 => bif !b6 then (some (.int .i64 (5 : Int), r5.2)) else ((d_heap_Heap_there k x0 x1 r5.2).bind fun r7 => (toB r7.1).bind fun b8 => (bif !b8 then some (true, r7.2) else some (decide (x2 < (1 : Int)), r7.2)).bind fun r9 => (bif r9.1 then some (true, r9.2) else x0.bind fun a10 => (ldS r9.2 a10.block (a10.off + 0)).bind fun l11 => some (decide (x2 > (w64 (((l11.2.1 : Nat) : Int) - x1))), r9.2)).bind fun r12 => (bif r12.1 then some (true, r12.2) else (ldI .i64 r12.2 h1 (0 + 1)).bind fun n13 => (d_heap_space k n13 r12.2).bind fun r14 => (toB r14.1).bind fun b15 => some (!b15, r14.2)).bind fun r16 => bif r16.1 then (some (.int .i64 (1 : Int), r16.2)) else (x0.bind fun a17 => (ldS r16.2 a17.block (a17.off + 0)).bind fun l18 => (sliceD 74 2 (l18.1, l18.2.1, l18.2.2) (some (.int .i64 x1)) (some (.int .i64 (w64 (x1 + x2)))) none r16.2).bind fun l19 => (d_slices_ContainsFunc_heap_block k (l19.1, l19.2.1, l19.2.2) (.func (.func 127) #[] #[]) r16.2).bind fun r20 => (toB r20.1).bind fun b21 => bif b21 then (some (.int .i64 (8 : Int), r20.2)) else ((d_heap_Heap_claim_l0 k k x0 x1 h3 x2 (0 : Int) r20.2).bind fun r28 => if r28.1 = .exit 1 then (x0.bind fun a29 => (ldS r28.2.2 a29.block (a29.off + 0)).bind fun l30 => (ldI .i64 r28.2.2 h1 0).bind fun n31 => (ldI .i64 r28.2.2 h1 (0 + 1)).bind fun n32 => if 0 ≤ x1 ∧ x1 < (l30.2.1 : Nat) then l30.1.bind fun a33 => (stN r28.2.2 a33.block (a33.off + x1.toNat * 2) [.int .i64 n31, .int .i64 n32]).bind fun s34 => some (.int .i64 (0 : Int), s34) else none) else none))))

theorem heap_Heap_claim_is (k : Nat) (x0 : Option Addr) (x1 : Int) (x2 : Int) (x3_0 : Int) (x3_1 : Int) (x4_0 : Int) (x4_1 : Int) (σ : AMem) : heap_Heap_claim k x0 x1 x2 x3_0 x3_1 x4_0 x4_1 σ = d_heap_Heap_claim k x0 x1 x2 x3_0 x3_1 x4_0 x4_1 σ := by
  cases k with
  | zero => rfl
  | succ k => rw [heap_Heap_claim_eq, d_heap_Heap_claim]; simp only [heap_Heap_made_is, heap_space_is, heap_Heap_there_is, slices_ContainsFunc_heap_block_is, heap_Heap_claim_l0_is]

noncomputable def d_heap_Heap_Claim (k : Nat) (x0 : Option Addr) (x1 : Int) (x2 : Int) (σ : AMem) : Option (Value × AMem) := match k with
  | 0 => none
  | k + 1 => ((d_heap_Heap_claim k x0 x1 (1 : Int) (1 : Int) x2 (0 : Int) (0 : Int) σ).bind fun r1 => (toI .i64 r1.1).bind fun n2 => some (.int .i64 n2, r1.2))

theorem heap_Heap_Claim_is (k : Nat) (x0 : Option Addr) (x1 : Int) (x2 : Int) (σ : AMem) : heap_Heap_Claim k x0 x1 x2 σ = d_heap_Heap_Claim k x0 x1 x2 σ := by
  cases k with
  | zero => rfl
  | succ k => rw [heap_Heap_Claim_eq, d_heap_Heap_Claim]; simp only [heap_Heap_claim_is]

noncomputable def d_side_Table_Last_l0 (k n : Nat) (p0 : Option Addr) (i1 : Int) (x8 : Int) (σ : AMem) : Option LOut := match n with
  | 0 => none
  | n + 1 => (bif decide (x8 ≥ (0 : Int)) then ((d_side_Table_get k p0 x8 σ).bind fun r5 => (toI .i64 r5.1).bind fun n6 => bif n6 == i1 then (some (.ret, [.int .i64 x8, .int .i64 (0 : Int)], r5.2)) else (d_side_Table_Last_l0 k n p0 i1 (w64 (x8 - (1 : Int))) r5.2)) else (some (.exit 0, [], σ)))
termination_by structural n

theorem side_Table_Last_l0_is (k n : Nat) (p0 : Option Addr) (i1 : Int) (x8 : Int) (σ : AMem) : side_Table_Last_l0 k n p0 i1 x8 σ = d_side_Table_Last_l0 k n p0 i1 x8 σ := by
  induction n generalizing p0 i1 x8 σ with
  | zero => rfl
  | succ n ih => rw [side_Table_Last_l0_eq, d_side_Table_Last_l0]; simp only [side_Table_made_is, side_Table_get_is, ih]

noncomputable def d_side_Table_Last (k : Nat) (x0 : Option Addr) (x1 : Int) (x2 : Int) (σ : AMem) : Option (Value × AMem) := match k with
  | 0 => none
  | k + 1 => ((d_side_Table_made k x0 σ).bind fun r1 => (toB r1.1).bind fun b2 => bif !b2 then (some (.tuple #[.int .i64 (0 : Int), .int .i64 (5 : Int)], r1.2)) else (x0.bind fun a3 => (ldI .i64 r1.2 a3.block (a3.off + 0)).bind fun n4 => (d_side_Table_Last_l0 k k x0 x2 (w64 ((if n4 < (if (0 : Int) > x1 then (0 : Int) else x1) then n4 else (if (0 : Int) > x1 then (0 : Int) else x1)) - (1 : Int))) r1.2).bind fun r7 => if r7.1 = .exit 0 then (some (.tuple #[.int .i64 (0 : Int), .int .i64 (4 : Int)], r7.2.2)) else if r7.1 = .ret then (u_ii r7.2.1 fun n8 n9 => some (.tuple #[.int .i64 n8, .int .i64 n9], r7.2.2)) else none))

theorem side_Table_Last_is (k : Nat) (x0 : Option Addr) (x1 : Int) (x2 : Int) (σ : AMem) : side_Table_Last k x0 x1 x2 σ = d_side_Table_Last k x0 x1 x2 σ := by
  cases k with
  | zero => rfl
  | succ k => rw [side_Table_Last_eq, d_side_Table_Last]; simp only [side_Table_made_is, side_Table_get_is, side_Table_Last_l0_is]

noncomputable def d_heap_Heap_Find (k : Nat) (x0 : Option Addr) (x1 : Int) (σ : AMem) : Option (Value × AMem) := match k with
  | 0 => none
  | k + 1 => ((d_heap_Heap_made k x0 σ).bind fun r1 => (toB r1.1).bind fun b2 => bif !b2 then (some (.tuple #[.int .i64 (0 : Int), .int .i64 (5 : Int)], r1.2)) else ((bif decide (x1 < (0 : Int)) then some (true, r1.2) else x0.bind fun a3 => (ldS r1.2 a3.block (a3.off + 1)).bind fun l4 => some (decide (x1 ≥ ((l4.2.1 : Nat) : Int)), r1.2)).bind fun r5 => bif r5.1 then (some (.tuple #[.int .i64 (0 : Int), .int .i64 (4 : Int)], r5.2)) else (x0.bind fun a6 => (ldP r5.2 a6.block (a6.off + 2)).bind fun p7 => if (2 : Int) = 0 then none else (d_side_Table_Last k p7 (w64 ((w64 (x1.tdiv (2 : Int))) + (1 : Int))) (1 : Int) r5.2).bind fun r8 => r_ii r8.1 fun n9 n10 => (bif n10 != (0 : Int) then some (true, r8.2) else (d_heap_Heap_size k x0 (w64 ((2 : Int) * n9)) r8.2).bind fun r11 => (toI .i64 r11.1).bind fun n12 => some (decide (x1 ≥ (w64 ((w64 ((2 : Int) * n9)) + n12))), r11.2)).bind fun r13 => bif r13.1 then (some (.tuple #[.int .i64 (0 : Int), .int .i64 (4 : Int)], r13.2)) else (some (.tuple #[.int .i64 (w64 ((2 : Int) * n9)), .int .i64 (0 : Int)], r13.2)))))

theorem heap_Heap_Find_is (k : Nat) (x0 : Option Addr) (x1 : Int) (σ : AMem) : heap_Heap_Find k x0 x1 σ = d_heap_Heap_Find k x0 x1 σ := by
  cases k with
  | zero => rfl
  | succ k => rw [heap_Heap_Find_eq, d_heap_Heap_Find]; simp only [heap_Heap_made_is, heap_Heap_size_is, side_Table_Last_is]

noncomputable def d_heap_Heap_span_l0 (k n : Nat) (p0 : Option Addr) (i1 : Int) (x5 : Int) (σ : AMem) : Option LOut := match n with
  | 0 => none
  | n + 1 => (p0.bind fun a1 => (ldS σ a1.block (a1.off + 0)).bind fun l2 => if 0 ≤ i1 ∧ i1 < (l2.2.1 : Nat) then l2.1.bind fun a3 => (ldI .i64 σ a3.block (a3.off + i1.toNat * 2 + 0)).bind fun n4 => (bif n4 == (2 : Int) then p0.bind fun a5 => (ldS σ a5.block (a5.off + 0)).bind fun l6 => some (decide ((w64 (i1 + x5)) < ((l6.2.1 : Nat) : Int)), σ) else some (false, σ)).bind fun r7 => (bif r7.1 then p0.bind fun a8 => (ldS r7.2 a8.block (a8.off + 0)).bind fun l9 => if 0 ≤ (w64 (i1 + x5)) ∧ (w64 (i1 + x5)) < (l9.2.1 : Nat) then l9.1.bind fun a10 => (ldI .i64 r7.2 a10.block (a10.off + (w64 (i1 + x5)).toNat * 2 + 0)).bind fun n11 => some (n11 == (3 : Int), r7.2) else none else some (false, r7.2)).bind fun r12 => bif r12.1 then (d_heap_Heap_span_l0 k n p0 i1 (w64 (x5 + (1 : Int))) r12.2) else (some (.exit 0, [.int .i64 x5], r12.2)) else none)
termination_by structural n

theorem heap_Heap_span_l0_is (k n : Nat) (p0 : Option Addr) (i1 : Int) (x5 : Int) (σ : AMem) : heap_Heap_span_l0 k n p0 i1 x5 σ = d_heap_Heap_span_l0 k n p0 i1 x5 σ := by
  induction n generalizing p0 i1 x5 σ with
  | zero => rfl
  | succ n ih => rw [heap_Heap_span_l0_eq, d_heap_Heap_span_l0]; simp only [ih]

noncomputable def d_heap_Heap_span (k : Nat) (x0 : Option Addr) (x1 : Int) (σ : AMem) : Option (Value × AMem) := match k with
  | 0 => none
  | k + 1 => ((d_heap_Heap_span_l0 k k x0 x1 (1 : Int) σ).bind fun r13 => if r13.1 = .exit 0 then (u_i r13.2.1 fun n14 => some (.int .i64 n14, r13.2.2)) else none)

theorem heap_Heap_span_is (k : Nat) (x0 : Option Addr) (x1 : Int) (σ : AMem) : heap_Heap_span k x0 x1 σ = d_heap_Heap_span k x0 x1 σ := by
  cases k with
  | zero => rfl
  | succ k => rw [heap_Heap_span_eq, d_heap_Heap_span]; simp only [heap_Heap_span_l0_is]

noncomputable def d_heap_Heap_fits_l0 (k n : Nat) (p0 : Option Addr) (i1 : Int) (i2 : Int) (i3 : Int) (x10 : Int) (σ : AMem) : Option LOut := match n with
  | 0 => none
  | n + 1 => (bif decide (x10 < (w64 (i1 + i2))) then ((d_heap_Heap_Find k p0 x10 σ).bind fun r19 => r_ii r19.1 fun n20 n21 => (bif n21 == (0 : Int) then some (n20 != i3, r19.2) else some (false, r19.2)).bind fun r22 => bif r22.1 then (some (.ret, [.int .i64 (8 : Int)], r22.2)) else (d_heap_Heap_fits_l0 k n p0 i1 i2 i3 (w64 (x10 + (2 : Int))) r22.2)) else (some (.exit 0, [], σ)))
termination_by structural n

theorem heap_Heap_fits_l0_is (k n : Nat) (p0 : Option Addr) (i1 : Int) (i2 : Int) (i3 : Int) (x10 : Int) (σ : AMem) : heap_Heap_fits_l0 k n p0 i1 i2 i3 x10 σ = d_heap_Heap_fits_l0 k n p0 i1 i2 i3 x10 σ := by
  induction n generalizing p0 i1 i2 i3 x10 σ with
  | zero => rfl
  | succ n ih => rw [heap_Heap_fits_l0_eq, d_heap_Heap_fits_l0]; simp only [heap_Heap_Find_is, heap_Heap_span_is, ih]

noncomputable def d_heap_Heap_fits (k : Nat) (x0 : Option Addr) (x1 : Int) (x2 : Int) (x3 : Int) (σ : AMem) : Option (Value × AMem) := match k with
  | 0 => none
  | k + 1 => ((bif decide (x1 < (0 : Int)) then some (true, σ) else x0.bind fun a1 => (ldS σ a1.block (a1.off + 1)).bind fun l2 => some (decide (x1 ≥ ((l2.2.1 : Nat) : Int)), σ)).bind fun r3 => (bif r3.1 then some (true, r3.2) else if (2 : Int) = 0 then none else some ((x1.tmod (2 : Int)) != (0 : Int), r3.2)).bind fun r4 => bif r4.1 then (some (.int .i64 (1 : Int), r4.2)) else (if (64 : Int) = 0 then none else (bif decide (x2 ≤ (32 : Int)) then (x0.bind fun a5 => (ldS r4.2 a5.block (a5.off + 0)).bind fun l6 => if 0 ≤ (w64 (x1.tdiv (64 : Int))) ∧ (w64 (x1.tdiv (64 : Int))) < (l6.2.1 : Nat) then l6.1.bind fun a7 => (ldI .i64 r4.2 a7.block (a7.off + (w64 (x1.tdiv (64 : Int))).toNat * 2 + 0)).bind fun n8 => (bif n8 != (1 : Int) then some (true, r4.2) else if (64 : Int) = 0 then none else some ((w64 ((w64 ((w64 (x1 + x2)) - (1 : Int))).tdiv (64 : Int))) != (w64 (x1.tdiv (64 : Int))), r4.2)).bind fun r9 => bif r9.1 then (some (.ret, [.int .i64 (5 : Int)], r9.2)) else (some (.normal, [], r9.2)) else none) else (x0.bind fun a10 => (ldS r4.2 a10.block (a10.off + 0)).bind fun l11 => if 0 ≤ (w64 (x1.tdiv (64 : Int))) ∧ (w64 (x1.tdiv (64 : Int))) < (l11.2.1 : Nat) then l11.1.bind fun a12 => (ldI .i64 r4.2 a12.block (a12.off + (w64 (x1.tdiv (64 : Int))).toNat * 2 + 0)).bind fun n13 => (bif n13 != (2 : Int) then some (true, r4.2) else if (64 : Int) = 0 then none else some ((x1.tmod (64 : Int)) != (0 : Int), r4.2)).bind fun r14 => (bif r14.1 then some (true, r14.2) else (d_heap_Heap_span k x0 (w64 (x1.tdiv (64 : Int))) r14.2).bind fun r15 => (toI .i64 r15.1).bind fun n16 => if (64 : Int) = 0 then none else some (n16 != (w64 ((w64 ((w64 (x2 + (64 : Int))) - (1 : Int))).tdiv (64 : Int))), r15.2)).bind fun r17 => bif r17.1 then (some (.ret, [.int .i64 (5 : Int)], r17.2)) else (some (.normal, [], r17.2)) else none) : Option LOut).bind fun r18 => if r18.1 = .normal then ((d_heap_Heap_fits_l0 k k x0 x1 x2 x3 x1 r18.2.2).bind fun r23 => if r23.1 = .exit 0 then (some (.int .i64 (0 : Int), r23.2.2)) else if r23.1 = .ret then (u_i r23.2.1 fun n24 => some (.int .i64 n24, r23.2.2)) else none) else if r18.1 = .ret then (u_i r18.2.1 fun n25 => some (.int .i64 n25, r18.2.2)) else none))

theorem heap_Heap_fits_is (k : Nat) (x0 : Option Addr) (x1 : Int) (x2 : Int) (x3 : Int) (σ : AMem) : heap_Heap_fits k x0 x1 x2 x3 σ = d_heap_Heap_fits k x0 x1 x2 x3 σ := by
  cases k with
  | zero => rfl
  | succ k => rw [heap_Heap_fits_eq, d_heap_Heap_fits]; simp only [heap_Heap_Find_is, heap_Heap_span_is, heap_Heap_fits_l0_is]

noncomputable def d_heap_number (k : Nat) (x0_0 : Int) (x0_1 : Int) (x0_2 : Int) (σ : AMem) : Option (Value × AMem) := match k with
  | 0 => none
  | k + 1 => (allocK σ (.cells [.int .i64 x0_0, .int .i64 x0_1, .int .i64 x0_2] 33 true) fun h1 s2 => (ldI .i64 s2 h1 (0 + 0)).bind fun n3 => (ldI .i64 s2 h1 (0 + 1)).bind fun n4 => (ldI .i64 s2 h1 (0 + 2)).bind fun n5 => some (.int .i64 (w64 ((w64 (n3 + (w64 ((16 : Int) * n4)))) + (w64 ((4096 : Int) * n5)))), s2))

theorem heap_number_is (k : Nat) (x0_0 : Int) (x0_1 : Int) (x0_2 : Int) (σ : AMem) : heap_number k x0_0 x0_1 x0_2 σ = d_heap_number k x0_0 x0_1 x0_2 σ := by
  cases k with
  | zero => rfl
  | succ k => rw [heap_number_eq, d_heap_number]

noncomputable def d_side_Table_there (k : Nat) (x0 : Option Addr) (x1 : Int) (σ : AMem) : Option (Value × AMem) := match k with
  | 0 => none
  | k + 1 => ((d_side_Table_made k x0 σ).bind fun r1 => (toB r1.1).bind fun b2 => (bif b2 then some (decide (x1 ≥ (0 : Int)), r1.2) else some (false, r1.2)).bind fun r3 => (bif r3.1 then x0.bind fun a4 => (ldI .i64 r3.2 a4.block (a4.off + 0)).bind fun n5 => some (decide (x1 < n5), r3.2) else some (false, r3.2)).bind fun r6 => some (.bool r6.1, r6.2))

theorem side_Table_there_is (k : Nat) (x0 : Option Addr) (x1 : Int) (σ : AMem) : side_Table_there k x0 x1 σ = d_side_Table_there k x0 x1 σ := by
  cases k with
  | zero => rfl
  | succ k => rw [side_Table_there_eq, d_side_Table_there]; simp only [side_Table_made_is]

noncomputable def d_slices_IndexFunc_int_l0 (k n : Nat) (p0 : Option Addr) (c1 : Nat) (c2 : Nat) (v3 : Value) (i4 : Int) (x8 : Int) (σ : AMem) : Option LOut := match n with
  | 0 => none
  | n + 1 => (bif decide (x8 < i4) then (if 0 ≤ x8 ∧ x8 < (c1 : Nat) then p0.bind fun a1 => (ldI .i64 σ a1.block (a1.off + x8.toNat * 1)).bind fun n2 => (callV k v3 [.int .i64 n2] σ).bind fun r3 => (toB r3.1).bind fun b4 => bif b4 then (some (.ret, [.int .i64 x8], r3.2)) else (d_slices_IndexFunc_int_l0 k n p0 c1 c2 v3 i4 (w64 (x8 + (1 : Int))) r3.2) else none) else (some (.exit 0, [], σ)))
termination_by structural n

theorem slices_IndexFunc_int_l0_is (k n : Nat) (p0 : Option Addr) (c1 : Nat) (c2 : Nat) (v3 : Value) (i4 : Int) (x8 : Int) (σ : AMem) : slices_IndexFunc_int_l0 k n p0 c1 c2 v3 i4 x8 σ = d_slices_IndexFunc_int_l0 k n p0 c1 c2 v3 i4 x8 σ := by
  induction n generalizing p0 c1 c2 v3 i4 x8 σ with
  | zero => rfl
  | succ n ih => rw [slices_IndexFunc_int_l0_eq, d_slices_IndexFunc_int_l0]; simp only [ih]

noncomputable def d_slices_IndexFunc_int (k : Nat) (x0 : Option Addr × Nat × Nat) (x1 : Value) (σ : AMem) : Option (Value × AMem) := match k with
  | 0 => none
  | k + 1 => ((d_slices_IndexFunc_int_l0 k k x0.1 x0.2.1 x0.2.2 x1 ((x0.2.1 : Nat) : Int) (0 : Int) σ).bind fun r5 => if r5.1 = .exit 0 then (some (.int .i64 (-1 : Int), r5.2.2)) else if r5.1 = .ret then (u_i r5.2.1 fun n6 => some (.int .i64 n6, r5.2.2)) else none)

theorem slices_IndexFunc_int_is (k : Nat) (x0 : Option Addr × Nat × Nat) (x1 : Value) (σ : AMem) : slices_IndexFunc_int k x0 x1 σ = d_slices_IndexFunc_int k x0 x1 σ := by
  cases k with
  | zero => rfl
  | succ k => rw [slices_IndexFunc_int_eq, d_slices_IndexFunc_int]; simp only [slices_IndexFunc_int_l0_is]

noncomputable def d_slices_ContainsFunc_int (k : Nat) (x0 : Option Addr × Nat × Nat) (x1 : Value) (σ : AMem) : Option (Value × AMem) := match k with
  | 0 => none
  | k + 1 => ((d_slices_IndexFunc_int k (x0.1, x0.2.1, x0.2.2) (x1) σ).bind fun r1 => (toI .i64 r1.1).bind fun n2 => some (.bool (decide (n2 ≥ (0 : Int))), r1.2))

theorem slices_ContainsFunc_int_is (k : Nat) (x0 : Option Addr × Nat × Nat) (x1 : Value) (σ : AMem) : slices_ContainsFunc_int k x0 x1 σ = d_slices_ContainsFunc_int k x0 x1 σ := by
  cases k with
  | zero => rfl
  | succ k => rw [slices_ContainsFunc_int_eq, d_slices_ContainsFunc_int]; simp only [slices_IndexFunc_int_is]

noncomputable def d_side_Table_check (k : Nat) (x0 : Option Addr) (x1 : Int) (x2 : Option Addr × Nat × Nat) (σ : AMem) : Option (Value × AMem) := match k with
  | 0 => none
  | k + 1 => (allocK σ (.cells [.pointer x0] 43 true) fun h1 s2 => (ldP s2 h1 0).bind fun p3 => (d_side_Table_made k p3 s2).bind fun r4 => (toB r4.1).bind fun b5 => bif !b5 then (some (.int .i64 (5 : Int), r4.2)) else ((ldP r4.2 h1 0).bind fun p6 => (d_side_Table_there k p6 x1 r4.2).bind fun r7 => (toB r7.1).bind fun b8 => (bif !b8 then some (true, r7.2) else (d_slices_ContainsFunc_int k (x2.1, x2.2.1, x2.2.2) (.func (.func 137) #[] #[.pointer (some ⟨h1, 0, none⟩)]) r7.2).bind fun r9 => (toB r9.1).bind fun b10 => some (b10, r9.2)).bind fun r11 => bif r11.1 then (some (.int .i64 (1 : Int), r11.2)) else (some (.int .i64 (0 : Int), r11.2))))

theorem side_Table_check_is (k : Nat) (x0 : Option Addr) (x1 : Int) (x2 : Option Addr × Nat × Nat) (σ : AMem) : side_Table_check k x0 x1 x2 σ = d_side_Table_check k x0 x1 x2 σ := by
  cases k with
  | zero => rfl
  | succ k => rw [side_Table_check_eq, d_side_Table_check]; simp only [side_Table_made_is, side_Table_there_is, slices_ContainsFunc_int_is]

noncomputable def d_side_Table_put (k : Nat) (x0 : Option Addr) (x1 : Int) (x2 : Int) (σ : AMem) : Option (Value × AMem) := match k with
  | 0 => none
  | k + 1 => (x0.bind fun a1 => (ldI .i64 σ a1.block (a1.off + 1)).bind fun n2 => x0.bind fun a3 => (ldS σ a3.block (a3.off + 2)).bind fun l4 => if (64 : Int) = 0 then none else if 0 ≤ (w64 ((w64 (x1 * n2)).tdiv (64 : Int))) ∧ (w64 ((w64 (x1 * n2)).tdiv (64 : Int))) < (l4.2.1 : Nat) then l4.1.bind fun a5 => (ldI .u64 σ a5.block (a5.off + (w64 ((w64 (x1 * n2)).tdiv (64 : Int))).toNat * 1)).bind fun n6 => (d_side_Table_most k x0 σ).bind fun r7 => quietly σ r7.2 ((toI .i64 r7.1).bind fun n8 => if (64 : Int) = 0 then none else if ((w64 (x1 * n2)).tmod (64 : Int)) < 0 then none else if (64 : Int) = 0 then none else if ((w64 (x1 * n2)).tmod (64 : Int)) < 0 then none else (st1 r7.2 a5.block (a5.off + (w64 ((w64 (x1 * n2)).tdiv (64 : Int))).toNat * 1) (.int .u64 (u64 ((BitVec.ofInt 64 (u64 ((BitVec.ofInt 64 n6 &&& ~~~ (BitVec.ofInt 64 (u64 ((u64 (n8)) * 2 ^ (min ((w64 (x1 * n2)).tmod (64 : Int)).toNat 64))))).toNat)) ||| BitVec.ofInt 64 (u64 ((u64 (x2)) * 2 ^ (min ((w64 (x1 * n2)).tmod (64 : Int)).toNat 64)))).toNat)))).bind fun s9 => some (.tuple #[], s9)) else none)

theorem side_Table_put_is (k : Nat) (x0 : Option Addr) (x1 : Int) (x2 : Int) (σ : AMem) : side_Table_put k x0 x1 x2 σ = d_side_Table_put k x0 x1 x2 σ := by
  cases k with
  | zero => rfl
  | succ k => rw [side_Table_put_eq, d_side_Table_put]; simp only [side_Table_most_is]

noncomputable def d_side_Table_Set (k : Nat) (x0 : Option Addr) (x1 : Int) (x2 : Int) (σ : AMem) : Option (Value × AMem) := match k with
  | 0 => none
  | k + 1 => (allocK σ (.cells [.int .i64 x2] 3 true) fun h1 s2 => (d_side_Table_check k x0 x1 (some ⟨h1, 0, none⟩, 1, 1) s2).bind fun r3 => (toI .i64 r3.1).bind fun n4 => bif n4 != (0 : Int) then (some (.int .i64 n4, r3.2)) else ((d_side_Table_put k x0 x1 x2 r3.2).bind fun r5 => r_0 r5.1 (some (.int .i64 (0 : Int), r5.2))))

theorem side_Table_Set_is (k : Nat) (x0 : Option Addr) (x1 : Int) (x2 : Int) (σ : AMem) : side_Table_Set k x0 x1 x2 σ = d_side_Table_Set k x0 x1 x2 σ := by
  cases k with
  | zero => rfl
  | succ k => rw [side_Table_Set_eq, d_side_Table_Set]; simp only [side_Table_check_is, side_Table_put_is]

noncomputable def d_heap_Heap_Place (k : Nat) (x0 : Option Addr) (x1 : Int) (x2_0 : Int) (x2_1 : Int) (x2_2 : Int) (σ : AMem) : Option (Value × AMem) := match k with
  | 0 => none
  | k + 1 => (allocK σ (.cells [.int .i64 x2_0, .int .i64 x2_1, .int .i64 x2_2] 33 true) fun h1 s2 => (d_heap_Heap_made k x0 s2).bind fun r3 => (toB r3.1).bind fun b4 => bif !b4 then (some (.tuple #[.int .i64 (0 : Int), .int .i64 (5 : Int)], r3.2)) else ((ldI .i64 r3.2 h1 0).bind fun n5 => (ldI .i64 r3.2 h1 (0 + 1)).bind fun n6 => (ldI .i64 r3.2 h1 (0 + 1 + 1)).bind fun n7 => (d_heap_Valid k n5 n6 n7 r3.2).bind fun r8 => (toB r8.1).bind fun b9 => bif !b9 then (some (.tuple #[.int .i64 (0 : Int), .int .i64 (2 : Int)], r8.2)) else ((ldI .i64 r8.2 h1 0).bind fun n10 => (ldI .i64 r8.2 h1 (0 + 1)).bind fun n11 => (ldI .i64 r8.2 h1 (0 + 1 + 1)).bind fun n12 => (d_heap_Words k n10 n11 n12 r8.2).bind fun r13 => (toI .i64 r13.1).bind fun n14 => (d_heap_Heap_fits k x0 x1 n14 (-1 : Int) r13.2).bind fun r15 => (toI .i64 r15.1).bind fun n16 => bif n16 != (0 : Int) then (some (.tuple #[.int .i64 (0 : Int), .int .i64 n16], r15.2)) else (x0.bind fun a17 => (ldI .i64 r15.2 a17.block (a17.off + 6)).bind fun n18 => x0.bind fun a19 => (st1 r15.2 a19.block (a19.off + 6) (.int .i64 (w64 (n18 + (1 : Int))))).bind fun s20 => x0.bind fun a21 => (ldS s20 a21.block (a21.off + 1)).bind fun l22 => x0.bind fun a23 => (ldS s20 a23.block (a23.off + 1)).bind fun l24 => x0.bind fun a25 => (ldI .i64 s20 a25.block (a25.off + 6)).bind fun n26 => (ldI .i64 s20 h1 0).bind fun n27 => (ldI .i64 s20 h1 (0 + 1)).bind fun n28 => (ldI .i64 s20 h1 (0 + 1 + 1)).bind fun n29 => (d_heap_number k n27 n28 n29 s20).bind fun r30 => quietly s20 r30.2 ((toI .i64 r30.1).bind fun n31 => if 0 ≤ x1 ∧ x1 < (l22.2.1 : Nat) then l22.1.bind fun a32 => (st1 r30.2 a32.block (a32.off + x1.toNat * 1) (.int .i64 n26)).bind fun s33 => if 0 ≤ (w64 (x1 + (1 : Int))) ∧ (w64 (x1 + (1 : Int))) < (l24.2.1 : Nat) then l24.1.bind fun a34 => (st1 s33 a34.block (a34.off + (w64 (x1 + (1 : Int))).toNat * 1) (.int .i64 n31)).bind fun s35 => x0.bind fun a36 => (ldP s35 a36.block (a36.off + 2)).bind fun p37 => if (2 : Int) = 0 then none else (d_side_Table_Set k p37 (w64 (x1.tdiv (2 : Int))) (1 : Int) s35).bind fun r38 => (toI .i64 r38.1).bind fun n39 => x0.bind fun a40 => (ldM r38.2 a40.block (a40.off + 4)).bind fun m41 => x0.bind fun a42 => (ldI .i64 r38.2 a42.block (a42.off + 6)).bind fun n43 => m41.bind fun h45 => (ldMap r38.2 h45).bind fun es44 => x0.bind fun a46 => (ldI .i64 (List.set r38.2 h45 (.map (mapSet n43 (.int .i64 x1) es44))) a46.block (a46.off + 6)).bind fun n47 => some (.tuple #[.int .i64 n47, .int .i64 (0 : Int)], (List.set r38.2 h45 (.map (mapSet n43 (.int .i64 x1) es44)))) else none else none)))))

theorem heap_Heap_Place_is (k : Nat) (x0 : Option Addr) (x1 : Int) (x2_0 : Int) (x2_1 : Int) (x2_2 : Int) (σ : AMem) : heap_Heap_Place k x0 x1 x2_0 x2_1 x2_2 σ = d_heap_Heap_Place k x0 x1 x2_0 x2_1 x2_2 σ := by
  cases k with
  | zero => rfl
  | succ k => rw [heap_Heap_Place_eq, d_heap_Heap_Place]; simp only [heap_Heap_made_is, heap_Valid_is, heap_Heap_fits_is, heap_Words_is, heap_number_is, side_Table_Set_is]

noncomputable def d_heap_Heap_Word (k : Nat) (x0 : Option Addr) (x1 : Int) (σ : AMem) : Option (Value × AMem) := match k with
  | 0 => none
  | k + 1 => ((d_heap_Heap_made k x0 σ).bind fun r1 => (toB r1.1).bind fun b2 => bif !b2 then (some (.tuple #[.int .i64 (0 : Int), .int .i64 (5 : Int)], r1.2)) else ((bif decide (x1 < (0 : Int)) then some (true, r1.2) else x0.bind fun a3 => (ldS r1.2 a3.block (a3.off + 1)).bind fun l4 => some (decide (x1 ≥ ((l4.2.1 : Nat) : Int)), r1.2)).bind fun r5 => bif r5.1 then (some (.tuple #[.int .i64 (0 : Int), .int .i64 (1 : Int)], r5.2)) else (x0.bind fun a6 => (ldS r5.2 a6.block (a6.off + 1)).bind fun l7 => if 0 ≤ x1 ∧ x1 < (l7.2.1 : Nat) then l7.1.bind fun a8 => (ldI .i64 r5.2 a8.block (a8.off + x1.toNat * 1)).bind fun n9 => some (.tuple #[.int .i64 n9, .int .i64 (0 : Int)], r5.2) else none)))

theorem heap_Heap_Word_is (k : Nat) (x0 : Option Addr) (x1 : Int) (σ : AMem) : heap_Heap_Word k x0 x1 σ = d_heap_Heap_Word k x0 x1 σ := by
  cases k with
  | zero => rfl
  | succ k => rw [heap_Heap_Word_eq, d_heap_Heap_Word]; simp only [heap_Heap_made_is]

noncomputable def d_side_Table_Get (k : Nat) (x0 : Option Addr) (x1 : Int) (σ : AMem) : Option (Value × AMem) := match k with
  | 0 => none
  | k + 1 => ((d_side_Table_there k x0 x1 σ).bind fun r1 => (toB r1.1).bind fun b2 => bif !b2 then (some (.int .i64 (-1 : Int), r1.2)) else ((d_side_Table_get k x0 x1 r1.2).bind fun r3 => (toI .i64 r3.1).bind fun n4 => some (.int .i64 n4, r3.2)))

theorem side_Table_Get_is (k : Nat) (x0 : Option Addr) (x1 : Int) (σ : AMem) : side_Table_Get k x0 x1 σ = d_side_Table_Get k x0 x1 σ := by
  cases k with
  | zero => rfl
  | succ k => rw [side_Table_Get_eq, d_side_Table_Get]; simp only [side_Table_there_is, side_Table_get_is]

noncomputable def d_heap_Heap_Has (k : Nat) (x0 : Option Addr) (x1 : Int) (σ : AMem) : Option (Value × AMem) := match k with
  | 0 => none
  | k + 1 => ((d_heap_Heap_made k x0 σ).bind fun r1 => (toB r1.1).bind fun b2 => (bif b2 then some (decide (x1 ≥ (0 : Int)), r1.2) else some (false, r1.2)).bind fun r3 => (bif r3.1 then if (2 : Int) = 0 then none else some ((x1.tmod (2 : Int)) == (0 : Int), r3.2) else some (false, r3.2)).bind fun r4 => (bif r4.1 then x0.bind fun a5 => (ldP r4.2 a5.block (a5.off + 2)).bind fun p6 => if (2 : Int) = 0 then none else (d_side_Table_Get k p6 (w64 (x1.tdiv (2 : Int))) r4.2).bind fun r7 => (toI .i64 r7.1).bind fun n8 => some (n8 == (1 : Int), r7.2) else some (false, r4.2)).bind fun r9 => some (.bool r9.1, r9.2))

theorem heap_Heap_Has_is (k : Nat) (x0 : Option Addr) (x1 : Int) (σ : AMem) : heap_Heap_Has k x0 x1 σ = d_heap_Heap_Has k x0 x1 σ := by
  cases k with
  | zero => rfl
  | succ k => rw [heap_Heap_Has_eq, d_heap_Heap_Has]; simp only [heap_Heap_made_is, side_Table_Get_is]

noncomputable def d_heap_Heap_object (k : Nat) (x0 : Option Addr) (x1 : Int) (σ : AMem) : Option (Value × AMem) := match k with
  | 0 => none
  | k + 1 => ((d_heap_Heap_made k x0 σ).bind fun r1 => (toB r1.1).bind fun b2 => bif !b2 then (some (.int .i64 (5 : Int), r1.2)) else ((d_heap_Heap_Has k x0 x1 r1.2).bind fun r3 => (toB r3.1).bind fun b4 => bif !b4 then (some (.int .i64 (4 : Int), r3.2)) else (some (.int .i64 (0 : Int), r3.2))))

theorem heap_Heap_object_is (k : Nat) (x0 : Option Addr) (x1 : Int) (σ : AMem) : heap_Heap_object k x0 x1 σ = d_heap_Heap_object k x0 x1 σ := by
  cases k with
  | zero => rfl
  | succ k => rw [heap_Heap_object_eq, d_heap_Heap_object]; simp only [heap_Heap_made_is, heap_Heap_Has_is]

noncomputable def d_heap_Heap_wipe (k : Nat) (x0 : Option Addr) (x1 : Int) (x2 : Int) (σ : AMem) : Option (Value × AMem) := match k with
  | 0 => none
  | k + 1 => (x0.bind fun a1 => (ldS σ a1.block (a1.off + 1)).bind fun l2 => (sliceD 3 1 (l2.1, l2.2.1, l2.2.2) (some (.int .i64 x1)) (some (.int .i64 (w64 (x1 + x2)))) none σ).bind fun l3 => (if l3.2.1 = 0 then some σ else l3.1.bind fun a5 => stN σ a5.block a5.off (rep l3.2.1 [.int .i64 (0 : Int)])).bind fun s4 => some (.tuple #[], s4))

theorem heap_Heap_wipe_is (k : Nat) (x0 : Option Addr) (x1 : Int) (x2 : Int) (σ : AMem) : heap_Heap_wipe k x0 x1 x2 σ = d_heap_Heap_wipe k x0 x1 x2 σ := by
  cases k with
  | zero => rfl
  | succ k => rw [heap_Heap_wipe_eq, d_heap_Heap_wipe]

noncomputable def d_heap_Heap_Move (k : Nat) (x0 : Option Addr) (x1 : Int) (x2 : Int) (σ : AMem) : Option (Value × AMem) := match k with
  | 0 => none
  | k + 1 => ((d_heap_Heap_object k x0 x1 σ).bind fun r1 => (toI .i64 r1.1).bind fun n2 => bif n2 != (0 : Int) then (some (.int .i64 n2, r1.2)) else ((d_heap_Heap_size k x0 x1 r1.2).bind fun r3 => (toI .i64 r3.1).bind fun n4 => (d_heap_Heap_fits k x0 x2 n4 x1 r3.2).bind fun r5 => (toI .i64 r5.1).bind fun n6 => bif n6 != (0 : Int) then (some (.int .i64 n6, r5.2)) else (x0.bind fun a7 => (ldP r5.2 a7.block (a7.off + 3)).bind fun p8 => if (2 : Int) = 0 then none else (d_side_Table_Get k p8 (w64 (x1.tdiv (2 : Int))) r5.2).bind fun r9 => (toI .i64 r9.1).bind fun n10 => if 0 ≤ n4 ∧ n4 ≤ n4 ∧ n4 * (8 : Nat) ≤ 2 ^ 40 ∧ n4 ≤ 2 ^ 40 then allocK r9.2 (.cells (rep n4.toNat [.int .i64 (0 : Int)]) 3 true) fun h11 s12 => x0.bind fun a13 => (ldS s12 a13.block (a13.off + 1)).bind fun l14 => (sliceD 3 1 (l14.1, l14.2.1, l14.2.2) (some (.int .i64 x1)) (some (.int .i64 (w64 (x1 + n4)))) none s12).bind fun l15 => (firstA s12 1 l15.1 (Nat.min l15.2.1 n4.toNat)).bind fun w16 => (stO s12 (some ⟨h11, 0, none⟩) w16).bind fun s17 => x0.bind fun a18 => (ldP s17 a18.block (a18.off + 2)).bind fun p19 => if (2 : Int) = 0 then none else (d_side_Table_Set k p19 (w64 (x1.tdiv (2 : Int))) (0 : Int) s17).bind fun r20 => (toI .i64 r20.1).bind fun n21 => x0.bind fun a22 => (ldP r20.2 a22.block (a22.off + 3)).bind fun p23 => if (2 : Int) = 0 then none else (d_side_Table_Set k p23 (w64 (x1.tdiv (2 : Int))) (0 : Int) r20.2).bind fun r24 => (toI .i64 r24.1).bind fun n25 => (d_heap_Heap_wipe k x0 x1 n4 r24.2).bind fun r26 => r_0 r26.1 (x0.bind fun a27 => (ldS r26.2 a27.block (a27.off + 1)).bind fun l28 => (sliceD 3 1 (l28.1, l28.2.1, l28.2.2) (some (.int .i64 x2)) none none r26.2).bind fun l29 => (firstA r26.2 1 (some ⟨h11, 0, none⟩) (Nat.min n4.toNat l29.2.1)).bind fun w30 => (stO r26.2 l29.1 w30).bind fun s31 => x0.bind fun a32 => (ldP s31 a32.block (a32.off + 2)).bind fun p33 => if (2 : Int) = 0 then none else (d_side_Table_Set k p33 (w64 (x2.tdiv (2 : Int))) (1 : Int) s31).bind fun r34 => (toI .i64 r34.1).bind fun n35 => x0.bind fun a36 => (ldP r34.2 a36.block (a36.off + 3)).bind fun p37 => if (2 : Int) = 0 then none else (d_side_Table_Set k p37 (w64 (x2.tdiv (2 : Int))) n10 r34.2).bind fun r38 => (toI .i64 r38.1).bind fun n39 => x0.bind fun a40 => (ldM r38.2 a40.block (a40.off + 4)).bind fun m41 => if 0 ≤ (0 : Int) ∧ (0 : Int) < (n4.toNat : Nat) then (ldI .i64 r38.2 h11 (0 + (0 : Int).toNat * 1)).bind fun n42 => m41.bind fun h44 => (ldMap r38.2 h44).bind fun es43 => x0.bind fun a45 => (ldM (List.set r38.2 h44 (.map (mapSet n42 (.int .i64 x2) es43))) a45.block (a45.off + 5)).bind fun m46 => m46.bind fun h48 => (ldMap (List.set r38.2 h44 (.map (mapSet n42 (.int .i64 x2) es43))) h48).bind fun es47 => some (.int .i64 (0 : Int), (List.set (List.set r38.2 h44 (.map (mapSet n42 (.int .i64 x2) es43))) h48 (.map (mapSet x1 (.int .i64 x2) es47)))) else none) else none)))

theorem heap_Heap_Move_is (k : Nat) (x0 : Option Addr) (x1 : Int) (x2 : Int) (σ : AMem) : heap_Heap_Move k x0 x1 x2 σ = d_heap_Heap_Move k x0 x1 x2 σ := by
  cases k with
  | zero => rfl
  | succ k => rw [heap_Heap_Move_eq, d_heap_Heap_Move]; simp only [heap_Heap_size_is, heap_Heap_fits_is, side_Table_Set_is, heap_Heap_object_is, side_Table_Get_is, heap_Heap_wipe_is]

noncomputable def d_heap_Heap_Forward (k : Nat) (x0 : Option Addr) (x1 : Int) (σ : AMem) : Option (Value × AMem) := match k with
  | 0 => none
  | k + 1 => ((d_heap_Heap_made k x0 σ).bind fun r1 => (toB r1.1).bind fun b2 => bif !b2 then (some (.tuple #[.int .i64 (0 : Int), .int .i64 (5 : Int)], r1.2)) else (x0.bind fun a3 => (ldM r1.2 a3.block (a3.off + 5)).bind fun m4 => (ldMO r1.2 m4).bind fun es5 => (toI .i64 ((mapGet es5 x1).getD (.int .i64 (0 : Int)))).bind fun n6 => bif !((mapGet es5 x1).isSome) then (some (.tuple #[.int .i64 (0 : Int), .int .i64 (4 : Int)], r1.2)) else (some (.tuple #[.int .i64 n6, .int .i64 (0 : Int)], r1.2))))

theorem heap_Heap_Forward_is (k : Nat) (x0 : Option Addr) (x1 : Int) (σ : AMem) : heap_Heap_Forward k x0 x1 σ = d_heap_Heap_Forward k x0 x1 σ := by
  cases k with
  | zero => rfl
  | succ k => rw [heap_Heap_Forward_eq, d_heap_Heap_Forward]; simp only [heap_Heap_made_is]

noncomputable def d_heap_Heap_At (k : Nat) (x0 : Option Addr) (x1 : Int) (σ : AMem) : Option (Value × AMem) := match k with
  | 0 => none
  | k + 1 => ((d_heap_Heap_made k x0 σ).bind fun r1 => (toB r1.1).bind fun b2 => bif !b2 then (some (.tuple #[.int .i64 (0 : Int), .int .i64 (5 : Int)], r1.2)) else (x0.bind fun a3 => (ldM r1.2 a3.block (a3.off + 4)).bind fun m4 => (ldMO r1.2 m4).bind fun es5 => (toI .i64 ((mapGet es5 x1).getD (.int .i64 (0 : Int)))).bind fun n6 => bif !((mapGet es5 x1).isSome) then (some (.tuple #[.int .i64 (0 : Int), .int .i64 (4 : Int)], r1.2)) else (some (.tuple #[.int .i64 n6, .int .i64 (0 : Int)], r1.2))))

theorem heap_Heap_At_is (k : Nat) (x0 : Option Addr) (x1 : Int) (σ : AMem) : heap_Heap_At k x0 x1 σ = d_heap_Heap_At k x0 x1 σ := by
  cases k with
  | zero => rfl
  | succ k => rw [heap_Heap_At_eq, d_heap_Heap_At]; simp only [heap_Heap_made_is]

noncomputable def d_heap_Heap_ClaimLarge (k : Nat) (x0 : Option Addr) (x1 : Int) (x2 : Int) (x3 : Int) (σ : AMem) : Option (Value × AMem) := match k with
  | 0 => none
  | k + 1 => ((d_heap_Heap_claim k x0 x1 x2 (2 : Int) x3 (3 : Int) x3 σ).bind fun r1 => (toI .i64 r1.1).bind fun n2 => some (.int .i64 n2, r1.2))

theorem heap_Heap_ClaimLarge_is (k : Nat) (x0 : Option Addr) (x1 : Int) (x2 : Int) (x3 : Int) (σ : AMem) : heap_Heap_ClaimLarge k x0 x1 x2 x3 σ = d_heap_Heap_ClaimLarge k x0 x1 x2 x3 σ := by
  cases k with
  | zero => rfl
  | succ k => rw [heap_Heap_ClaimLarge_eq, d_heap_Heap_ClaimLarge]; simp only [heap_Heap_claim_is]

noncomputable def d_heap_Heap_Kill (k : Nat) (x0 : Option Addr) (x1 : Int) (σ : AMem) : Option (Value × AMem) := match k with
  | 0 => none
  | k + 1 => ((d_heap_Heap_object k x0 x1 σ).bind fun r1 => (toI .i64 r1.1).bind fun n2 => bif n2 != (0 : Int) then (some (.int .i64 n2, r1.2)) else (x0.bind fun a3 => (ldM r1.2 a3.block (a3.off + 4)).bind fun m4 => x0.bind fun a5 => (ldS r1.2 a5.block (a5.off + 1)).bind fun l6 => if 0 ≤ x1 ∧ x1 < (l6.2.1 : Nat) then l6.1.bind fun a7 => (ldI .i64 r1.2 a7.block (a7.off + x1.toNat * 1)).bind fun n8 => (ldMO r1.2 m4).bind fun es9 => x0.bind fun a10 => (ldP (stMO r1.2 m4 (mapDel n8 es9)) a10.block (a10.off + 2)).bind fun p11 => if (2 : Int) = 0 then none else (d_side_Table_Set k p11 (w64 (x1.tdiv (2 : Int))) (0 : Int) (stMO r1.2 m4 (mapDel n8 es9))).bind fun r12 => (toI .i64 r12.1).bind fun n13 => x0.bind fun a14 => (ldP r12.2 a14.block (a14.off + 3)).bind fun p15 => if (2 : Int) = 0 then none else (d_side_Table_Set k p15 (w64 (x1.tdiv (2 : Int))) (0 : Int) r12.2).bind fun r16 => (toI .i64 r16.1).bind fun n17 => (d_heap_Heap_size k x0 x1 r16.2).bind fun r18 => (toI .i64 r18.1).bind fun n19 => (d_heap_Heap_wipe k x0 x1 n19 r18.2).bind fun r20 => r_0 r20.1 (some (.int .i64 (0 : Int), r20.2)) else none))

theorem heap_Heap_Kill_is (k : Nat) (x0 : Option Addr) (x1 : Int) (σ : AMem) : heap_Heap_Kill k x0 x1 σ = d_heap_Heap_Kill k x0 x1 σ := by
  cases k with
  | zero => rfl
  | succ k => rw [heap_Heap_Kill_eq, d_heap_Heap_Kill]; simp only [heap_Heap_size_is, side_Table_Set_is, heap_Heap_object_is, heap_Heap_wipe_is]

noncomputable def d_heap_Heap_held (k : Nat) (x0 : Option Addr) (x1 : Int) (x2 : Bool) (σ : AMem) : Option (Value × AMem) := match k with
  | 0 => none
  | k + 1 => ((d_heap_Heap_made k x0 σ).bind fun r1 => (toB r1.1).bind fun b2 => bif !b2 then (some (.int .i64 (5 : Int), r1.2)) else ((d_heap_Heap_there k x0 x1 r1.2).bind fun r3 => (toB r3.1).bind fun b4 => (bif !b4 then some (true, r3.2) else some (!x2, r3.2)).bind fun r5 => bif r5.1 then (some (.int .i64 (1 : Int), r5.2)) else (x0.bind fun a6 => (ldS r5.2 a6.block (a6.off + 0)).bind fun l7 => if 0 ≤ x1 ∧ x1 < (l7.2.1 : Nat) then l7.1.bind fun a8 => (ldI .i64 r5.2 a8.block (a8.off + x1.toNat * 2 + 0)).bind fun n9 => (bif n9 != (1 : Int) then x0.bind fun a10 => (ldS r5.2 a10.block (a10.off + 0)).bind fun l11 => if 0 ≤ x1 ∧ x1 < (l11.2.1 : Nat) then l11.1.bind fun a12 => (ldI .i64 r5.2 a12.block (a12.off + x1.toNat * 2 + 0)).bind fun n13 => some (n13 != (2 : Int), r5.2) else none else some (false, r5.2)).bind fun r14 => bif r14.1 then (some (.int .i64 (5 : Int), r14.2)) else (some (.int .i64 (0 : Int), r14.2)) else none)))

theorem heap_Heap_held_is (k : Nat) (x0 : Option Addr) (x1 : Int) (x2 : Bool) (σ : AMem) : heap_Heap_held k x0 x1 x2 σ = d_heap_Heap_held k x0 x1 x2 σ := by
  cases k with
  | zero => rfl
  | succ k => rw [heap_Heap_held_eq, d_heap_Heap_held]; simp only [heap_Heap_made_is, heap_Heap_there_is]

noncomputable def d_heap_Heap_Release_l0 (k n : Nat) (p0 : Option Addr) (i1 : Int) (x6 : Int) (σ : AMem) : Option LOut := match n with
  | 0 => none
  | n + 1 => (bif decide (x6 > (0 : Int)) then (p0.bind fun a7 => (ldS σ a7.block (a7.off + 0)).bind fun l8 => if 0 ≤ (w64 ((w64 (i1 + x6)) - (1 : Int))) ∧ (w64 ((w64 (i1 + x6)) - (1 : Int))) < (l8.2.1 : Nat) then l8.1.bind fun a9 => (stN σ a9.block (a9.off + (w64 ((w64 (i1 + x6)) - (1 : Int))).toNat * 2) [.int .i64 (0 : Int), .int .i64 (0 : Int)]).bind fun s10 => d_heap_Heap_Release_l0 k n p0 i1 (w64 (x6 - (1 : Int))) s10 else none) else (some (.exit 0, [], σ)))
termination_by structural n

theorem heap_Heap_Release_l0_is (k n : Nat) (p0 : Option Addr) (i1 : Int) (x6 : Int) (σ : AMem) : heap_Heap_Release_l0 k n p0 i1 x6 σ = d_heap_Heap_Release_l0 k n p0 i1 x6 σ := by
  induction n generalizing p0 i1 x6 σ with
  | zero => rfl
  | succ n ih => rw [heap_Heap_Release_l0_eq, d_heap_Heap_Release_l0]; simp only [heap_Heap_Objects_is, heap_Heap_held_is, heap_Heap_span_is, ih]

noncomputable def d_heap_Heap_Release (k : Nat) (x0 : Option Addr) (x1 : Int) (σ : AMem) : Option (Value × AMem) := match k with
  | 0 => none
  | k + 1 => ((d_heap_Heap_held k x0 x1 true σ).bind fun r1 => (toI .i64 r1.1).bind fun n2 => bif n2 != (0 : Int) then (some (.int .i64 n2, r1.2)) else ((d_heap_Heap_Objects k x0 x1 r1.2).bind fun r3 => (toS r3.1).bind fun l4 => bif decide (((l4.2.1 : Nat) : Int) > (0 : Int)) then (some (.int .i64 (8 : Int), r3.2)) else ((d_heap_Heap_span k x0 x1 r3.2).bind fun r5 => (toI .i64 r5.1).bind fun n6 => (d_heap_Heap_Release_l0 k k x0 x1 n6 r5.2).bind fun r11 => if r11.1 = .exit 0 then (some (.int .i64 (0 : Int), r11.2.2)) else none)))

theorem heap_Heap_Release_is (k : Nat) (x0 : Option Addr) (x1 : Int) (σ : AMem) : heap_Heap_Release k x0 x1 σ = d_heap_Heap_Release k x0 x1 σ := by
  cases k with
  | zero => rfl
  | succ k => rw [heap_Heap_Release_eq, d_heap_Heap_Release]; simp only [heap_Heap_Objects_is, heap_Heap_held_is, heap_Heap_span_is, heap_Heap_Release_l0_is]

noncomputable def d_ref01_SameRuns_l0 (k n : Nat) (p0 : Option Addr) (c1 : Nat) (c2 : Nat) (p3 : Option Addr) (c4 : Nat) (c5 : Nat) (x5 : Int) (σ : AMem) : Option LOut := match n with
  | 0 => none
  | n + 1 => (bif decide (x5 < ((c1 : Nat) : Int)) then (if 0 ≤ x5 ∧ x5 < (c1 : Nat) then p0.bind fun a1 => (ldI .i64 σ a1.block (a1.off + x5.toNat * 2)).bind fun n2 => (ldI .i64 σ a1.block (a1.off + x5.toNat * 2 + 1)).bind fun n3 => if 0 ≤ x5 ∧ x5 < (c4 : Nat) then p3.bind fun a4 => (ldI .i64 σ a4.block (a4.off + x5.toNat * 2)).bind fun n5 => (ldI .i64 σ a4.block (a4.off + x5.toNat * 2 + 1)).bind fun n6 => (eqA P 64 (.agg #[.int .i64 n2, .int .i64 n3]) (.agg #[.int .i64 n5, .int .i64 n6])).bind fun e7 => bif !e7 then (some (.ret, [.bool false], σ)) else (d_ref01_SameRuns_l0 k n p0 c1 c2 p3 c4 c5 (w64 (x5 + (1 : Int))) σ) else none else none) else (some (.exit 0, [], σ)))
termination_by structural n

theorem ref01_SameRuns_l0_is (k n : Nat) (p0 : Option Addr) (c1 : Nat) (c2 : Nat) (p3 : Option Addr) (c4 : Nat) (c5 : Nat) (x5 : Int) (σ : AMem) : ref01_SameRuns_l0 k n p0 c1 c2 p3 c4 c5 x5 σ = d_ref01_SameRuns_l0 k n p0 c1 c2 p3 c4 c5 x5 σ := by
  induction n generalizing p0 c1 c2 p3 c4 c5 x5 σ with
  | zero => rfl
  | succ n ih => rw [ref01_SameRuns_l0_eq, d_ref01_SameRuns_l0]; simp only [ih]

noncomputable def d_ref01_SameRuns (k : Nat) (x0 : Option Addr × Nat × Nat) (x1 : Option Addr × Nat × Nat) (σ : AMem) : Option (Value × AMem) := match k with
  | 0 => none
  | k + 1 => (bif ((x0.2.1 : Nat) : Int) != ((x1.2.1 : Nat) : Int) then (some (.bool false, σ)) else ((d_ref01_SameRuns_l0 k k x0.1 x0.2.1 x0.2.2 x1.1 x1.2.1 x1.2.2 (0 : Int) σ).bind fun r8 => if r8.1 = .exit 0 then (some (.bool true, r8.2.2)) else if r8.1 = .ret then (u_t r8.2.1 fun b9 => some (.bool b9, r8.2.2)) else none))

theorem ref01_SameRuns_is (k : Nat) (x0 : Option Addr × Nat × Nat) (x1 : Option Addr × Nat × Nat) (σ : AMem) : ref01_SameRuns k x0 x1 σ = d_ref01_SameRuns k x0 x1 σ := by
  cases k with
  | zero => rfl
  | succ k => rw [ref01_SameRuns_eq, d_ref01_SameRuns]; simp only [ref01_SameRuns_l0_is]

noncomputable def d_law02_alive (k : Nat)  (σ : AMem) : Option (Value × AMem) := match k with
  | 0 => none
  | k + 1 => ((d_heap_New k (4 : Int) σ).bind fun r1 => r_pi r1.1 fun p2 n3 => (eqA P 25 (.pointer p2) (.pointer none)).bind fun e4 => (bif e4 then some (true, r1.2) else some (n3 != (0 : Int), r1.2)).bind fun r5 => bif r5.1 then (some (.bool false, r5.2)) else ((d_heap_Heap_Claim k p2 (1 : Int) (0 : Int) r5.2).bind fun r6 => (toI .i64 r6.1).bind fun n7 => (d_heap_Heap_Place k p2 (64 : Int) (1 : Int) (2 : Int) (0 : Int) r6.2).bind fun r8 => r_ii r8.1 fun n9 n10 => (d_heap_Heap_Gaps k p2 (1 : Int) r8.2).bind fun r11 => (toS r11.1).bind fun l12 => (d_heap_Heap_Word k p2 (65 : Int) r11.2).bind fun r13 => r_ii r13.1 fun n14 n15 => (d_heap_Heap_Place k p2 (70 : Int) (0 : Int) (0 : Int) (0 : Int) r13.2).bind fun r16 => r_ii r16.1 fun n17 n18 => (d_heap_Heap_Move k p2 (70 : Int) (100 : Int) r16.2).bind fun r19 => (toI .i64 r19.1).bind fun n20 => (d_heap_Heap_Forward k p2 (70 : Int) r19.2).bind fun r21 => r_ii r21.1 fun n22 n23 => (d_heap_Heap_At k p2 (2 : Int) r21.2).bind fun r24 => r_ii r24.1 fun n25 n26 => (d_heap_Heap_Move k p2 (64 : Int) (66 : Int) r24.2).bind fun r27 => (toI .i64 r27.1).bind fun n28 => (d_heap_Heap_ClaimLarge k p2 (2 : Int) (2 : Int) (1 : Int) r27.2).bind fun r29 => (toI .i64 r29.1).bind fun n30 => (d_heap_Heap_Place k p2 (128 : Int) (0 : Int) (100 : Int) (0 : Int) r29.2).bind fun r31 => r_ii r31.1 fun n32 n33 => (d_heap_Heap_Kill k p2 (128 : Int) r31.2).bind fun r34 => (toI .i64 r34.1).bind fun n35 => (d_heap_Heap_Release k p2 (3 : Int) r34.2).bind fun r36 => (toI .i64 r36.1).bind fun n37 => (d_heap_Heap_Release k p2 (2 : Int) r36.2).bind fun r38 => (toI .i64 r38.1).bind fun n39 => (bif n7 != (0 : Int) then some (true, r38.2) else some (n9 != (1 : Int), r38.2)).bind fun r40 => (bif r40.1 then some (true, r40.2) else some (n10 != (0 : Int), r40.2)).bind fun r41 => (bif r41.1 then some (true, r41.2) else allocK r41.2 (.cells [.int .i64 (70 : Int), .int .i64 (58 : Int)] 64 true) fun h42 s43 => (d_ref01_SameRuns k (l12.1, l12.2.1, l12.2.2) (some ⟨h42, 0, none⟩, 1, 1) s43).bind fun r44 => (toB r44.1).bind fun b45 => some (!b45, r44.2)).bind fun r46 => (bif r46.1 then some (true, r46.2) else some (n14 != (33 : Int), r46.2)).bind fun r47 => (bif r47.1 then some (true, r47.2) else some (n15 != (0 : Int), r47.2)).bind fun r48 => (bif r48.1 then some (true, r48.2) else some (n17 != (2 : Int), r48.2)).bind fun r49 => (bif r49.1 then some (true, r49.2) else some (n18 != (0 : Int), r49.2)).bind fun r50 => (bif r50.1 then some (true, r50.2) else some (n20 != (0 : Int), r50.2)).bind fun r51 => (bif r51.1 then some (true, r51.2) else some (n22 != (100 : Int), r51.2)).bind fun r52 => (bif r52.1 then some (true, r52.2) else some (n23 != (0 : Int), r52.2)).bind fun r53 => (bif r53.1 then some (true, r53.2) else some (n25 != (100 : Int), r53.2)).bind fun r54 => (bif r54.1 then some (true, r54.2) else some (n26 != (0 : Int), r54.2)).bind fun r55 => (bif r55.1 then some (true, r55.2) else some (n28 != (0 : Int), r55.2)).bind fun r56 => bif r56.1 then (some (.bool false, r56.2)) else ((bif n30 == (0 : Int) then some (n32 == (3 : Int), r56.2) else some (false, r56.2)).bind fun r57 => (bif r57.1 then some (n33 == (0 : Int), r57.2) else some (false, r57.2)).bind fun r58 => (bif r58.1 then some (n35 == (0 : Int), r58.2) else some (false, r58.2)).bind fun r59 => (bif r59.1 then some (n37 == (5 : Int), r59.2) else some (false, r59.2)).bind fun r60 => (bif r60.1 then some (n39 == (0 : Int), r60.2) else some (false, r60.2)).bind fun r61 => (bif r61.1 then (d_heap_Heap_Gaps k p2 (1 : Int) r61.2).bind fun r62 => (toS r62.1).bind fun l63 => allocK r62.2 (.cells [.int .i64 (64 : Int), .int .i64 (2 : Int), .int .i64 (72 : Int), .int .i64 (28 : Int), .int .i64 (102 : Int), .int .i64 (26 : Int)] 64 true) fun h64 s65 => (d_ref01_SameRuns k (l63.1, l63.2.1, l63.2.2) (some ⟨h64, 0, none⟩, 3, 3) s65).bind fun r66 => (toB r66.1).bind fun b67 => some (b67, r66.2) else some (false, r61.2)).bind fun r68 => some (.bool r68.1, r68.2))))

theorem law02_alive_is (k : Nat)  (σ : AMem) : law02_alive k  σ = d_law02_alive k  σ := by
  cases k with
  | zero => rfl
  | succ k => rw [law02_alive_eq, d_law02_alive]; simp only [heap_New_is, heap_Heap_Gaps_is, heap_Heap_Claim_is, heap_Heap_Place_is, heap_Heap_Word_is, heap_Heap_Move_is, heap_Heap_Forward_is, heap_Heap_At_is, heap_Heap_ClaimLarge_is, heap_Heap_Kill_is, heap_Heap_Release_is, ref01_SameRuns_is]

noncomputable def d_heap_Heap_claim_c1 (k : Nat) (x0_0 : Int) (x0_1 : Int) (σ : AMem) : Option (Value × AMem) := match k with
  | 0 => none
  | k + 1 => (allocK σ (.cells [.int .i64 x0_0, .int .i64 x0_1] 74 true) fun h1 s2 => (ldI .i64 s2 h1 0).bind fun n3 => (ldI .i64 s2 h1 (0 + 1)).bind fun n4 => (eqA P 74 (.agg #[.int .i64 n3, .int .i64 n4]) (.agg #[.int .i64 (0 : Int), .int .i64 (0 : Int)])).bind fun e5 => some (.bool (!e5), s2))

theorem heap_Heap_claim_c1_is (k : Nat) (x0_0 : Int) (x0_1 : Int) (σ : AMem) : heap_Heap_claim_c1 k x0_0 x0_1 σ = d_heap_Heap_claim_c1 k x0_0 x0_1 σ := by
  cases k with
  | zero => rfl
  | succ k => rw [heap_Heap_claim_c1_eq, d_heap_Heap_claim_c1]

noncomputable def d_side_Table_value (k : Nat) (x0 : Option Addr) (x1 : Int) (σ : AMem) : Option (Value × AMem) := match k with
  | 0 => none
  | k + 1 => ((bif decide (x1 ≥ (0 : Int)) then (d_side_Table_most k x0 σ).bind fun r1 => (toI .i64 r1.1).bind fun n2 => some (decide (x1 ≤ n2), r1.2) else some (false, σ)).bind fun r3 => some (.bool r3.1, r3.2))

theorem side_Table_value_is (k : Nat) (x0 : Option Addr) (x1 : Int) (σ : AMem) : side_Table_value k x0 x1 σ = d_side_Table_value k x0 x1 σ := by
  cases k with
  | zero => rfl
  | succ k => rw [side_Table_value_eq, d_side_Table_value]; simp only [side_Table_most_is]

noncomputable def d_side_Table_check_c1 (k : Nat) (x0 : Int) (c0 : Option Addr) (σ : AMem) : Option (Value × AMem) := match k with
  | 0 => none
  | k + 1 => (c0.bind fun a1 => (ldP σ a1.block a1.off).bind fun p2 => (d_side_Table_value k p2 x0 σ).bind fun r3 => (toB r3.1).bind fun b4 => some (.bool (!b4), r3.2))

theorem side_Table_check_c1_is (k : Nat) (x0 : Int) (c0 : Option Addr) (σ : AMem) : side_Table_check_c1 k x0 c0 σ = d_side_Table_check_c1 k x0 c0 σ := by
  cases k with
  | zero => rfl
  | succ k => rw [side_Table_check_c1_eq, d_side_Table_check_c1]; simp only [side_Table_value_is]

end Go.Proofs.YtdlihdgoobcoaaaGreat.Al
