/-
  PRINTED BY A PROGRAM OF THIS SESSION'S OWN (gen.py): the functions as definitions.
-/
import Derived.Test.YtilefhlamdiomaaF1
set_option maxRecDepth 100000
set_option linter.unusedVariables false
set_option linter.unusedSimpArgs false
set_option linter.unusedSectionVars false
namespace Go.Proofs.Ytilefhlamdiomaa
open Go Go.AX
variable [Quiet]

noncomputable def d_slices_Index_int_l0 (k n : Nat) (p0 : Option Addr) (c1 : Nat) (c2 : Nat) (i3 : Int) (i4 : Int) (x8 : Int) (σ : AMem) : Option LOut := match n with
  | 0 => none
  | n + 1 => (bif decide (x8 < i4) then (if 0 ≤ x8 ∧ x8 < (c1 : Nat) then p0.bind fun a1 => (ldI .i64 σ a1.block (a1.off + x8.toNat * 1)).bind fun n2 => bif i3 == n2 then (some (.ret, [.int .i64 x8], σ)) else (d_slices_Index_int_l0 k n p0 c1 c2 i3 i4 (w64 (x8 + (1 : Int))) σ) else none) else (some (.exit 0, [], σ)))
termination_by structural n

theorem slices_Index_int_l0_is (k n : Nat) (p0 : Option Addr) (c1 : Nat) (c2 : Nat) (i3 : Int) (i4 : Int) (x8 : Int) (σ : AMem) : slices_Index_int_l0 k n p0 c1 c2 i3 i4 x8 σ = d_slices_Index_int_l0 k n p0 c1 c2 i3 i4 x8 σ := by
  induction n generalizing p0 c1 c2 i3 i4 x8 σ with
  | zero => rfl
  | succ n ih => rw [slices_Index_int_l0_eq, d_slices_Index_int_l0]; simp only [ih]

noncomputable def d_slices_Index_int (k : Nat) (x0 : Option Addr × Nat × Nat) (x1 : Int) (σ : AMem) : Option (Value × AMem) := match k with
  | 0 => none
  | k + 1 => ((d_slices_Index_int_l0 k k x0.1 x0.2.1 x0.2.2 x1 ((x0.2.1 : Nat) : Int) (0 : Int) σ).bind fun r3 => if r3.1 = .exit 0 then (some (.int .i64 (-1 : Int), r3.2.2)) else if r3.1 = .ret then (u_i r3.2.1 fun n4 => some (.int .i64 n4, r3.2.2)) else none)

theorem slices_Index_int_is (k : Nat) (x0 : Option Addr × Nat × Nat) (x1 : Int) (σ : AMem) : slices_Index_int k x0 x1 σ = d_slices_Index_int k x0 x1 σ := by
  cases k with
  | zero => rfl
  | succ k => rw [slices_Index_int_eq, d_slices_Index_int]; simp only [slices_Index_int_l0_is]

noncomputable def d_slices_Contains_int (k : Nat) (x0 : Option Addr × Nat × Nat) (x1 : Int) (σ : AMem) : Option (Value × AMem) := match k with
  | 0 => none
  | k + 1 => ((d_slices_Index_int k (x0.1, x0.2.1, x0.2.2) x1 σ).bind fun r1 => (toI .i64 r1.1).bind fun n2 => some (.bool (decide (n2 ≥ (0 : Int))), r1.2))

theorem slices_Contains_int_is (k : Nat) (x0 : Option Addr × Nat × Nat) (x1 : Int) (σ : AMem) : slices_Contains_int k x0 x1 σ = d_slices_Contains_int k x0 x1 σ := by
  cases k with
  | zero => rfl
  | succ k => rw [slices_Contains_int_eq, d_slices_Contains_int]; simp only [slices_Index_int_is]

noncomputable def d_side_New (k : Nat) (x0 : Int) (x1 : Int) (σ : AMem) : Option (Value × AMem) := match k with
  | 0 => none
  | k + 1 => ((bif decide (x0 < (1 : Int)) then some (true, σ) else some (decide (x0 > (4096 : Int)), σ)).bind fun r1 => (bif r1.1 then some (true, r1.2) else allocK r1.2 (.cells [.int .i64 (1 : Int), .int .i64 (2 : Int), .int .i64 (4 : Int), .int .i64 (8 : Int)] 3 true) fun h2 s3 => (d_slices_Contains_int k (some ⟨h2, 0, none⟩, 4, 4) x1 s3).bind fun r4 => (toB r4.1).bind fun b5 => some (!b5, r4.2)).bind fun r6 => bif r6.1 then (some (.tuple #[.pointer none, .int .i64 (1 : Int)], r6.2)) else (if (64 : Int) = 0 then none else if 0 ≤ (w64 ((w64 ((w64 ((w64 (x0 * x1)) + (64 : Int))) - (1 : Int))).tdiv (64 : Int))) ∧ (w64 ((w64 ((w64 ((w64 (x0 * x1)) + (64 : Int))) - (1 : Int))).tdiv (64 : Int))) ≤ (w64 ((w64 ((w64 ((w64 (x0 * x1)) + (64 : Int))) - (1 : Int))).tdiv (64 : Int))) ∧ (w64 ((w64 ((w64 ((w64 (x0 * x1)) + (64 : Int))) - (1 : Int))).tdiv (64 : Int))) * (8 : Nat) ≤ 2 ^ 40 ∧ (w64 ((w64 ((w64 ((w64 (x0 * x1)) + (64 : Int))) - (1 : Int))).tdiv (64 : Int))) ≤ 2 ^ 40 then allocK r6.2 (.cells (rep (w64 ((w64 ((w64 ((w64 (x0 * x1)) + (64 : Int))) - (1 : Int))).tdiv (64 : Int))).toNat [.int .u64 (0 : Int)]) 94 true) fun h7 s8 => allocK s8 (.cells [.int .i64 x0, .int .i64 x1, .slice (some ⟨h7, 0, none⟩) ((w64 ((w64 ((w64 ((w64 (x0 * x1)) + (64 : Int))) - (1 : Int))).tdiv (64 : Int))).toNat) ((w64 ((w64 ((w64 ((w64 (x0 * x1)) + (64 : Int))) - (1 : Int))).tdiv (64 : Int))).toNat)] 69 true) fun h9 s10 => some (.tuple #[.pointer (some ⟨h9, 0, none⟩), .int .i64 (0 : Int)], s10) else none))

theorem side_New_is (k : Nat) (x0 : Int) (x1 : Int) (σ : AMem) : side_New k x0 x1 σ = d_side_New k x0 x1 σ := by
  cases k with
  | zero => rfl
  | succ k => rw [side_New_eq, d_side_New]; simp only [slices_Contains_int_is]

noncomputable def d_heap_New (k : Nat) (x0 : Int) (σ : AMem) : Option (Value × AMem) := match k with
  | 0 => none
  | k + 1 => ((bif decide (x0 < (2 : Int)) then some (true, σ) else some (decide (x0 > (64 : Int)), σ)).bind fun r1 => bif r1.1 then (some (.tuple #[.pointer none, .int .i64 (1 : Int)], r1.2)) else (if 0 ≤ x0 ∧ x0 ≤ x0 ∧ x0 * (16 : Nat) ≤ 2 ^ 40 ∧ x0 ≤ 2 ^ 40 then allocK r1.2 (.cells (rep x0.toNat [.int .i64 (0 : Int), .int .i64 (0 : Int)]) 78 true) fun h2 s3 => if 0 ≤ (w64 (x0 * (64 : Int))) ∧ (w64 (x0 * (64 : Int))) ≤ (w64 (x0 * (64 : Int))) ∧ (w64 (x0 * (64 : Int))) * (8 : Nat) ≤ 2 ^ 40 ∧ (w64 (x0 * (64 : Int))) ≤ 2 ^ 40 then allocK s3 (.cells (rep (w64 (x0 * (64 : Int))).toNat [.int .i64 (0 : Int)]) 3 true) fun h4 s5 => allocK s5 (.map []) fun h6 s7 => allocK s7 (.map []) fun h8 s9 => allocK s9 (.cells [.slice (some ⟨h2, 0, none⟩) x0.toNat x0.toNat, .slice (some ⟨h4, 0, none⟩) ((w64 (x0 * (64 : Int))).toNat) ((w64 (x0 * (64 : Int))).toNat), .pointer none, .pointer none, .map (some h6), .map (some h8), .int .i64 (0 : Int)] 35 true) fun h10 s11 => (ldS s11 h10 (0 + 1)).bind fun l12 => if (2 : Int) = 0 then none else (d_side_New k (w64 (((l12.2.1 : Nat) : Int).tdiv (2 : Int))) (1 : Int) s11).bind fun r13 => r_pi r13.1 fun p14 n15 => (st1 r13.2 h10 (0 + 2) (.pointer p14)).bind fun s16 => (ldS s16 h10 (0 + 1)).bind fun l17 => if (2 : Int) = 0 then none else (d_side_New k (w64 (((l17.2.1 : Nat) : Int).tdiv (2 : Int))) (1 : Int) s16).bind fun r18 => r_pi r18.1 fun p19 n20 => (st1 r18.2 h10 (0 + 3) (.pointer p19)).bind fun s21 => some (.tuple #[.pointer (some ⟨h10, 0, none⟩), .int .i64 (0 : Int)], s21) else none else none))

theorem heap_New_is (k : Nat) (x0 : Int) (σ : AMem) : heap_New k x0 σ = d_heap_New k x0 σ := by
  cases k with
  | zero => rfl
  | succ k => rw [heap_New_eq, d_heap_New]; simp only [side_New_is]

noncomputable def d_alloc_Allocator_made (k : Nat) (x0 : Option Addr) (σ : AMem) : Option (Value × AMem) := match k with
  | 0 => none
  | k + 1 => ((eqA P 24 (.pointer x0) (.pointer none)).bind fun e1 => (bif !e1 then x0.bind fun a2 => (ldP σ a2.block (a2.off + 0)).bind fun p3 => (eqA P 25 (.pointer p3) (.pointer none)).bind fun e4 => some (!e4, σ) else some (false, σ)).bind fun r5 => some (.bool r5.1, r5.2))

theorem alloc_Allocator_made_is (k : Nat) (x0 : Option Addr) (σ : AMem) : alloc_Allocator_made k x0 σ = d_alloc_Allocator_made k x0 σ := by
  cases k with
  | zero => rfl
  | succ k => rw [alloc_Allocator_made_eq, d_alloc_Allocator_made]

noncomputable def d_heap_Valid (k : Nat) (x0_0 : Int) (x0_1 : Int) (x0_2 : Int) (σ : AMem) : Option (Value × AMem) := match k with
  | 0 => none
  | k + 1 => (allocK σ (.cells [.int .i64 x0_0, .int .i64 x0_1, .int .i64 x0_2] 23 true) fun h1 s2 => (ldI .i64 s2 h1 (0 + 0)).bind fun n3 => (bif decide (n3 ≥ (0 : Int)) then (ldI .i64 s2 h1 (0 + 0)).bind fun n4 => some (decide (n4 ≤ (15 : Int)), s2) else some (false, s2)).bind fun r5 => (bif r5.1 then (ldI .i64 r5.2 h1 (0 + 1)).bind fun n6 => some (decide (n6 ≥ (0 : Int)), r5.2) else some (false, r5.2)).bind fun r7 => (bif r7.1 then (ldI .i64 r7.2 h1 (0 + 1)).bind fun n8 => some (decide (n8 ≤ (200 : Int)), r7.2) else some (false, r7.2)).bind fun r9 => (bif r9.1 then (ldI .i64 r9.2 h1 (0 + 2)).bind fun n10 => some (decide (n10 ≥ (0 : Int)), r9.2) else some (false, r9.2)).bind fun r11 => (bif r11.1 then (ldI .i64 r11.2 h1 (0 + 2)).bind fun n12 => some (decide (n12 ≤ (3 : Int)), r11.2) else some (false, r11.2)).bind fun r13 => (bif r13.1 then (ldI .i64 r13.2 h1 (0 + 2)).bind fun n14 => (bif n14 != (1 : Int) then some (true, r13.2) else (ldI .i64 r13.2 h1 (0 + 0)).bind fun n15 => some (decide (n15 ≥ (1 : Int)), r13.2)).bind fun r16 => some (r16.1, r16.2) else some (false, r13.2)).bind fun r17 => (bif r17.1 then (ldI .i64 r17.2 h1 (0 + 2)).bind fun n18 => (bif n18 != (2 : Int) then some (true, r17.2) else (ldI .i64 r17.2 h1 (0 + 0)).bind fun n19 => some (decide (n19 ≥ (2 : Int)), r17.2)).bind fun r20 => some (r20.1, r20.2) else some (false, r17.2)).bind fun r21 => some (.bool r21.1, r21.2))

theorem heap_Valid_is (k : Nat) (x0_0 : Int) (x0_1 : Int) (x0_2 : Int) (σ : AMem) : heap_Valid k x0_0 x0_1 x0_2 σ = d_heap_Valid k x0_0 x0_1 x0_2 σ := by
  cases k with
  | zero => rfl
  | succ k => rw [heap_Valid_eq, d_heap_Valid]

noncomputable def d_heap_Words (k : Nat) (x0_0 : Int) (x0_1 : Int) (x0_2 : Int) (σ : AMem) : Option (Value × AMem) := match k with
  | 0 => none
  | k + 1 => (allocK σ (.cells [.int .i64 x0_0, .int .i64 x0_1, .int .i64 x0_2] 23 true) fun h1 s2 => (ldI .i64 s2 h1 0).bind fun n3 => (ldI .i64 s2 h1 (0 + 1)).bind fun n4 => (ldI .i64 s2 h1 (0 + 1 + 1)).bind fun n5 => (d_heap_Valid k n3 n4 n5 s2).bind fun r6 => (toB r6.1).bind fun b7 => bif !b7 then (some (.int .i64 (0 : Int), r6.2)) else ((ldI .i64 r6.2 h1 (0 + 0)).bind fun n8 => (ldI .i64 r6.2 h1 (0 + 1)).bind fun n9 => if (2 : Int) = 0 then none else some (.int .i64 (w64 ((w64 ((w64 ((w64 ((w64 ((2 : Int) + n8)) + n9)) + (1 : Int))).tdiv (2 : Int))) * (2 : Int))), r6.2)))

theorem heap_Words_is (k : Nat) (x0_0 : Int) (x0_1 : Int) (x0_2 : Int) (σ : AMem) : heap_Words k x0_0 x0_1 x0_2 σ = d_heap_Words k x0_0 x0_1 x0_2 σ := by
  cases k with
  | zero => rfl
  | succ k => rw [heap_Words_eq, d_heap_Words]; simp only [heap_Valid_is]

noncomputable def d_alloc_policies (k : Nat)  (σ : AMem) : Option (Value × AMem) := match k with
  | 0 => none
  | k + 1 => (allocK σ (.cells [.iface 71 (.agg #[]), .iface 72 (.agg #[]), .iface 73 (.agg #[]), .iface 74 (.agg #[]), .iface 75 (.agg #[])] 53 true) fun h1 s2 => some (.slice (some ⟨h1, 0, none⟩) 5 5, s2))

theorem alloc_policies_is (k : Nat)  (σ : AMem) : alloc_policies k  σ = d_alloc_policies k  σ := by
  cases k with
  | zero => rfl
  | succ k => rw [alloc_policies_eq, d_alloc_policies]

noncomputable def d_heap_Heap_made (k : Nat) (x0 : Option Addr) (σ : AMem) : Option (Value × AMem) := match k with
  | 0 => none
  | k + 1 => ((eqA P 25 (.pointer x0) (.pointer none)).bind fun e1 => (bif !e1 then x0.bind fun a2 => (ldS σ a2.block (a2.off + 0)).bind fun l3 => some (decide (((l3.2.1 : Nat) : Int) > (0 : Int)), σ) else some (false, σ)).bind fun r4 => some (.bool r4.1, r4.2))

theorem heap_Heap_made_is (k : Nat) (x0 : Option Addr) (σ : AMem) : heap_Heap_made k x0 σ = d_heap_Heap_made k x0 σ := by
  cases k with
  | zero => rfl
  | succ k => rw [heap_Heap_made_eq, d_heap_Heap_made]

noncomputable def d_heap_Heap_Blocks (k : Nat) (x0 : Option Addr) (σ : AMem) : Option (Value × AMem) := match k with
  | 0 => none
  | k + 1 => ((d_heap_Heap_made k x0 σ).bind fun r1 => (toB r1.1).bind fun b2 => bif !b2 then (some (.int .i64 (0 : Int), r1.2)) else (x0.bind fun a3 => (ldS r1.2 a3.block (a3.off + 0)).bind fun l4 => some (.int .i64 ((l4.2.1 : Nat) : Int), r1.2)))

theorem heap_Heap_Blocks_is (k : Nat) (x0 : Option Addr) (σ : AMem) : heap_Heap_Blocks k x0 σ = d_heap_Heap_Blocks k x0 σ := by
  cases k with
  | zero => rfl
  | succ k => rw [heap_Heap_Blocks_eq, d_heap_Heap_Blocks]; simp only [heap_Heap_made_is]

noncomputable def d_heap_Heap_Space (k : Nat) (x0 : Option Addr) (x1 : Int) (σ : AMem) : Option (Value × AMem) := match k with
  | 0 => none
  | k + 1 => ((bif decide (x1 < (0 : Int)) then some (true, σ) else (d_heap_Heap_Blocks k x0 σ).bind fun r1 => (toI .i64 r1.1).bind fun n2 => some (decide (x1 ≥ n2), r1.2)).bind fun r3 => bif r3.1 then (some (.int .i64 (-1 : Int), r3.2)) else (x0.bind fun a4 => (ldS r3.2 a4.block (a4.off + 0)).bind fun l5 => if 0 ≤ x1 ∧ x1 < (l5.2.1 : Nat) then l5.1.bind fun a6 => (ldI .i64 r3.2 a6.block (a6.off + x1.toNat * 2 + 1)).bind fun n7 => some (.int .i64 n7, r3.2) else none))

theorem heap_Heap_Space_is (k : Nat) (x0 : Option Addr) (x1 : Int) (σ : AMem) : heap_Heap_Space k x0 x1 σ = d_heap_Heap_Space k x0 x1 σ := by
  cases k with
  | zero => rfl
  | succ k => rw [heap_Heap_Space_eq, d_heap_Heap_Space]; simp only [heap_Heap_Blocks_is]

noncomputable def d_heap_Heap_span_l0 (k n : Nat) (p0 : Option Addr) (i1 : Int) (x5 : Int) (σ : AMem) : Option LOut := match n with
  | 0 => none
  | n + 1 => (p0.bind fun a1 => (ldS σ a1.block (a1.off + 0)).bind fun l2 => if 0 ≤ i1 ∧ i1 < (l2.2.1 : Nat) then l2.1.bind fun a3 => (ldI .i64 σ a3.block (a3.off + i1.toNat * 2 + 0)).bind fun n4 => (bif n4 == (2 : Int) then p0.bind fun a5 => (ldS σ a5.block (a5.off + 0)).bind fun l6 => some (decide ((w64 (i1 + x5)) < ((l6.2.1 : Nat) : Int)), σ) else some (false, σ)).bind fun r7 => (bif r7.1 then p0.bind fun a8 => (ldS r7.2 a8.block (a8.off + 0)).bind fun l9 => if 0 ≤ (w64 (i1 + x5)) ∧ (w64 (i1 + x5)) < (l9.2.1 : Nat) then l9.1.bind fun a10 => (ldI .i64 r7.2 a10.block (a10.off + (w64 (i1 + x5)).toNat * 2 + 0)).bind fun n11 => some (n11 == (3 : Int), r7.2) else none else some (false, r7.2)).bind fun r12 => bif r12.1 then (d_heap_Heap_span_l0 k n p0 i1 (w64 (x5 + (1 : Int))) r12.2) else (some (.exit 0, [.int .i64 x5], r12.2)) else none)
termination_by structural n

theorem heap_Heap_span_l0_is (k n : Nat) (p0 : Option Addr) (i1 : Int) (x5 : Int) (σ : AMem) : heap_Heap_span_l0 k n p0 i1 x5 σ = d_heap_Heap_span_l0 k n p0 i1 x5 σ := by
  induction n generalizing p0 i1 x5 σ with
  | zero => rfl
  | succ n ih => rw [heap_Heap_span_l0_eq, d_heap_Heap_span_l0]; simp only [ih]

noncomputable def d_heap_Heap_span (k : Nat) (x0 : Option Addr) (x1 : Int) (σ : AMem) : Option (Value × AMem) := match k with
  | 0 => none
  | k + 1 => ((d_heap_Heap_span_l0 k k x0 x1 (1 : Int) σ).bind fun r13 => if r13.1 = .exit 0 then (u_i r13.2.1 fun n14 => some (.int .i64 n14, r13.2.2)) else none)

theorem heap_Heap_span_is (k : Nat) (x0 : Option Addr) (x1 : Int) (σ : AMem) : heap_Heap_span k x0 x1 σ = d_heap_Heap_span k x0 x1 σ := by
  cases k with
  | zero => rfl
  | succ k => rw [heap_Heap_span_eq, d_heap_Heap_span]; simp only [heap_Heap_span_l0_is]

noncomputable def d_heap_shape (k : Nat) (x0 : Int) (σ : AMem) : Option (Value × AMem) := match k with
  | 0 => none
  | k + 1 => (allocK σ (.cells [.int .i64 (0 : Int), .int .i64 (0 : Int), .int .i64 (0 : Int)] 23 true) fun h1 s2 => if (16 : Int) = 0 then none else if (4096 : Int) = 0 then none else if (16 : Int) = 0 then none else if (4096 : Int) = 0 then none else (stN s2 h1 0 [.int .i64 (x0.tmod (16 : Int)), .int .i64 (w64 ((x0.tmod (4096 : Int)).tdiv (16 : Int))), .int .i64 (w64 (x0.tdiv (4096 : Int)))]).bind fun s3 => (((ldN s3 h1 0 3).bind fun v4 => some (.agg v4.toArray)).bind fun v5 => some [v5]).bind fun vs6 => some (resOf vs6, s3))

theorem heap_shape_is (k : Nat) (x0 : Int) (σ : AMem) : heap_shape k x0 σ = d_heap_shape k x0 σ := by
  cases k with
  | zero => rfl
  | succ k => rw [heap_shape_eq, d_heap_shape]

noncomputable def d_heap_Heap_size (k : Nat) (x0 : Option Addr) (x1 : Int) (σ : AMem) : Option (Value × AMem) := match k with
  | 0 => none
  | k + 1 => (x0.bind fun a1 => (ldS σ a1.block (a1.off + 1)).bind fun l2 => if 0 ≤ (w64 (x1 + (1 : Int))) ∧ (w64 (x1 + (1 : Int))) < (l2.2.1 : Nat) then l2.1.bind fun a3 => (ldI .i64 σ a3.block (a3.off + (w64 (x1 + (1 : Int))).toNat * 1)).bind fun n4 => (d_heap_shape k n4 σ).bind fun r5 => a_iii r5.1 fun n6 n7 n8 => (d_heap_Words k n6 n7 n8 r5.2).bind fun r9 => (toI .i64 r9.1).bind fun n10 => some (.int .i64 n10, r9.2) else none)

theorem heap_Heap_size_is (k : Nat) (x0 : Option Addr) (x1 : Int) (σ : AMem) : heap_Heap_size k x0 x1 σ = d_heap_Heap_size k x0 x1 σ := by
  cases k with
  | zero => rfl
  | succ k => rw [heap_Heap_size_eq, d_heap_Heap_size]; simp only [heap_Words_is, heap_shape_is]

noncomputable def d_side_Table_made (k : Nat) (x0 : Option Addr) (σ : AMem) : Option (Value × AMem) := match k with
  | 0 => none
  | k + 1 => ((eqA P 32 (.pointer x0) (.pointer none)).bind fun e1 => (bif !e1 then x0.bind fun a2 => (ldI .i64 σ a2.block (a2.off + 0)).bind fun n3 => some (decide (n3 > (0 : Int)), σ) else some (false, σ)).bind fun r4 => some (.bool r4.1, r4.2))

theorem side_Table_made_is (k : Nat) (x0 : Option Addr) (σ : AMem) : side_Table_made k x0 σ = d_side_Table_made k x0 σ := by
  cases k with
  | zero => rfl
  | succ k => rw [side_Table_made_eq, d_side_Table_made]

noncomputable def d_side_Table_most (k : Nat) (x0 : Option Addr) (σ : AMem) : Option (Value × AMem) := match k with
  | 0 => none
  | k + 1 => (x0.bind fun a1 => (ldI .i64 σ a1.block (a1.off + 1)).bind fun n2 => if n2 < 0 then none else some (.int .i64 (w64 ((w64 ((1 : Int) * 2 ^ (min n2.toNat 64))) - (1 : Int))), σ))

theorem side_Table_most_is (k : Nat) (x0 : Option Addr) (σ : AMem) : side_Table_most k x0 σ = d_side_Table_most k x0 σ := by
  cases k with
  | zero => rfl
  | succ k => rw [side_Table_most_eq, d_side_Table_most]

noncomputable def d_side_Table_get (k : Nat) (x0 : Option Addr) (x1 : Int) (σ : AMem) : Option (Value × AMem) := match k with
  | 0 => none
  | k + 1 => (x0.bind fun a1 => (ldI .i64 σ a1.block (a1.off + 1)).bind fun n2 => x0.bind fun a3 => (ldS σ a3.block (a3.off + 2)).bind fun l4 => if (64 : Int) = 0 then none else if 0 ≤ (w64 ((w64 (x1 * n2)).tdiv (64 : Int))) ∧ (w64 ((w64 (x1 * n2)).tdiv (64 : Int))) < (l4.2.1 : Nat) then l4.1.bind fun a5 => (ldI .u64 σ a5.block (a5.off + (w64 ((w64 (x1 * n2)).tdiv (64 : Int))).toNat * 1)).bind fun n6 => if (64 : Int) = 0 then none else if ((w64 (x1 * n2)).tmod (64 : Int)) < 0 then none else (d_side_Table_most k x0 σ).bind fun r7 => (toI .i64 r7.1).bind fun n8 => some (.int .i64 (w64 ((BitVec.ofInt 64 (w64 (n6.fdiv (2 ^ (min ((w64 (x1 * n2)).tmod (64 : Int)).toNat 64)))) &&& BitVec.ofInt 64 n8).toNat)), r7.2) else none)

theorem side_Table_get_is (k : Nat) (x0 : Option Addr) (x1 : Int) (σ : AMem) : side_Table_get k x0 x1 σ = d_side_Table_get k x0 x1 σ := by
  cases k with
  | zero => rfl
  | succ k => rw [side_Table_get_eq, d_side_Table_get]; simp only [side_Table_most_is]

noncomputable def d_side_Table_Last_l0 (k n : Nat) (p0 : Option Addr) (i1 : Int) (x8 : Int) (σ : AMem) : Option LOut := match n with
  | 0 => none
  | n + 1 => (bif decide (x8 ≥ (0 : Int)) then ((d_side_Table_get k p0 x8 σ).bind fun r5 => (toI .i64 r5.1).bind fun n6 => bif n6 == i1 then (some (.ret, [.int .i64 x8, .int .i64 (0 : Int)], r5.2)) else (d_side_Table_Last_l0 k n p0 i1 (w64 (x8 - (1 : Int))) r5.2)) else (some (.exit 0, [], σ)))
termination_by structural n

theorem side_Table_Last_l0_is (k n : Nat) (p0 : Option Addr) (i1 : Int) (x8 : Int) (σ : AMem) : side_Table_Last_l0 k n p0 i1 x8 σ = d_side_Table_Last_l0 k n p0 i1 x8 σ := by
  induction n generalizing p0 i1 x8 σ with
  | zero => rfl
  | succ n ih => rw [side_Table_Last_l0_eq, d_side_Table_Last_l0]; simp only [side_Table_made_is, side_Table_get_is, ih]

noncomputable def d_side_Table_Last (k : Nat) (x0 : Option Addr) (x1 : Int) (x2 : Int) (σ : AMem) : Option (Value × AMem) := match k with
  | 0 => none
  | k + 1 => ((d_side_Table_made k x0 σ).bind fun r1 => (toB r1.1).bind fun b2 => bif !b2 then (some (.tuple #[.int .i64 (0 : Int), .int .i64 (5 : Int)], r1.2)) else (x0.bind fun a3 => (ldI .i64 r1.2 a3.block (a3.off + 0)).bind fun n4 => (d_side_Table_Last_l0 k k x0 x2 (w64 ((if n4 < (if (0 : Int) > x1 then (0 : Int) else x1) then n4 else (if (0 : Int) > x1 then (0 : Int) else x1)) - (1 : Int))) r1.2).bind fun r7 => if r7.1 = .exit 0 then (some (.tuple #[.int .i64 (0 : Int), .int .i64 (4 : Int)], r7.2.2)) else if r7.1 = .ret then (u_ii r7.2.1 fun n8 n9 => some (.tuple #[.int .i64 n8, .int .i64 n9], r7.2.2)) else none))

theorem side_Table_Last_is (k : Nat) (x0 : Option Addr) (x1 : Int) (x2 : Int) (σ : AMem) : side_Table_Last k x0 x1 x2 σ = d_side_Table_Last k x0 x1 x2 σ := by
  cases k with
  | zero => rfl
  | succ k => rw [side_Table_Last_eq, d_side_Table_Last]; simp only [side_Table_made_is, side_Table_get_is, side_Table_Last_l0_is]

noncomputable def d_heap_Heap_Find (k : Nat) (x0 : Option Addr) (x1 : Int) (σ : AMem) : Option (Value × AMem) := match k with
  | 0 => none
  | k + 1 => ((d_heap_Heap_made k x0 σ).bind fun r1 => (toB r1.1).bind fun b2 => bif !b2 then (some (.tuple #[.int .i64 (0 : Int), .int .i64 (5 : Int)], r1.2)) else ((bif decide (x1 < (0 : Int)) then some (true, r1.2) else x0.bind fun a3 => (ldS r1.2 a3.block (a3.off + 1)).bind fun l4 => some (decide (x1 ≥ ((l4.2.1 : Nat) : Int)), r1.2)).bind fun r5 => bif r5.1 then (some (.tuple #[.int .i64 (0 : Int), .int .i64 (4 : Int)], r5.2)) else (x0.bind fun a6 => (ldP r5.2 a6.block (a6.off + 2)).bind fun p7 => if (2 : Int) = 0 then none else (d_side_Table_Last k p7 (w64 ((w64 (x1.tdiv (2 : Int))) + (1 : Int))) (1 : Int) r5.2).bind fun r8 => r_ii r8.1 fun n9 n10 => (bif n10 != (0 : Int) then some (true, r8.2) else (d_heap_Heap_size k x0 (w64 ((2 : Int) * n9)) r8.2).bind fun r11 => (toI .i64 r11.1).bind fun n12 => some (decide (x1 ≥ (w64 ((w64 ((2 : Int) * n9)) + n12))), r11.2)).bind fun r13 => bif r13.1 then (some (.tuple #[.int .i64 (0 : Int), .int .i64 (4 : Int)], r13.2)) else (some (.tuple #[.int .i64 (w64 ((2 : Int) * n9)), .int .i64 (0 : Int)], r13.2)))))

theorem heap_Heap_Find_is (k : Nat) (x0 : Option Addr) (x1 : Int) (σ : AMem) : heap_Heap_Find k x0 x1 σ = d_heap_Heap_Find k x0 x1 σ := by
  cases k with
  | zero => rfl
  | succ k => rw [heap_Heap_Find_eq, d_heap_Heap_Find]; simp only [heap_Heap_made_is, heap_Heap_size_is, side_Table_Last_is]

noncomputable def d_heap_Heap_fits_l0 (k n : Nat) (p0 : Option Addr) (i1 : Int) (i2 : Int) (i3 : Int) (x10 : Int) (σ : AMem) : Option LOut := match n with
  | 0 => none
  | n + 1 => (bif decide (x10 < (w64 (i1 + i2))) then ((d_heap_Heap_Find k p0 x10 σ).bind fun r19 => r_ii r19.1 fun n20 n21 => (bif n21 == (0 : Int) then some (n20 != i3, r19.2) else some (false, r19.2)).bind fun r22 => bif r22.1 then (some (.ret, [.int .i64 (8 : Int)], r22.2)) else (d_heap_Heap_fits_l0 k n p0 i1 i2 i3 (w64 (x10 + (2 : Int))) r22.2)) else (some (.exit 0, [], σ)))
termination_by structural n

theorem heap_Heap_fits_l0_is (k n : Nat) (p0 : Option Addr) (i1 : Int) (i2 : Int) (i3 : Int) (x10 : Int) (σ : AMem) : heap_Heap_fits_l0 k n p0 i1 i2 i3 x10 σ = d_heap_Heap_fits_l0 k n p0 i1 i2 i3 x10 σ := by
  induction n generalizing p0 i1 i2 i3 x10 σ with
  | zero => rfl
  | succ n ih => rw [heap_Heap_fits_l0_eq, d_heap_Heap_fits_l0]; simp only [heap_Heap_span_is, heap_Heap_Find_is, ih]

noncomputable def d_heap_Heap_fits (k : Nat) (x0 : Option Addr) (x1 : Int) (x2 : Int) (x3 : Int) (σ : AMem) : Option (Value × AMem) := match k with
  | 0 => none
  | k + 1 => ((bif decide (x1 < (0 : Int)) then some (true, σ) else x0.bind fun a1 => (ldS σ a1.block (a1.off + 1)).bind fun l2 => some (decide (x1 ≥ ((l2.2.1 : Nat) : Int)), σ)).bind fun r3 => (bif r3.1 then some (true, r3.2) else if (2 : Int) = 0 then none else some ((x1.tmod (2 : Int)) != (0 : Int), r3.2)).bind fun r4 => bif r4.1 then (some (.int .i64 (1 : Int), r4.2)) else (if (64 : Int) = 0 then none else (bif decide (x2 ≤ (32 : Int)) then (x0.bind fun a5 => (ldS r4.2 a5.block (a5.off + 0)).bind fun l6 => if 0 ≤ (w64 (x1.tdiv (64 : Int))) ∧ (w64 (x1.tdiv (64 : Int))) < (l6.2.1 : Nat) then l6.1.bind fun a7 => (ldI .i64 r4.2 a7.block (a7.off + (w64 (x1.tdiv (64 : Int))).toNat * 2 + 0)).bind fun n8 => (bif n8 != (1 : Int) then some (true, r4.2) else if (64 : Int) = 0 then none else some ((w64 ((w64 ((w64 (x1 + x2)) - (1 : Int))).tdiv (64 : Int))) != (w64 (x1.tdiv (64 : Int))), r4.2)).bind fun r9 => bif r9.1 then (some (.ret, [.int .i64 (5 : Int)], r9.2)) else (some (.normal, [], r9.2)) else none) else (x0.bind fun a10 => (ldS r4.2 a10.block (a10.off + 0)).bind fun l11 => if 0 ≤ (w64 (x1.tdiv (64 : Int))) ∧ (w64 (x1.tdiv (64 : Int))) < (l11.2.1 : Nat) then l11.1.bind fun a12 => (ldI .i64 r4.2 a12.block (a12.off + (w64 (x1.tdiv (64 : Int))).toNat * 2 + 0)).bind fun n13 => (bif n13 != (2 : Int) then some (true, r4.2) else if (64 : Int) = 0 then none else some ((x1.tmod (64 : Int)) != (0 : Int), r4.2)).bind fun r14 => (bif r14.1 then some (true, r14.2) else (d_heap_Heap_span k x0 (w64 (x1.tdiv (64 : Int))) r14.2).bind fun r15 => (toI .i64 r15.1).bind fun n16 => if (64 : Int) = 0 then none else some (n16 != (w64 ((w64 ((w64 (x2 + (64 : Int))) - (1 : Int))).tdiv (64 : Int))), r15.2)).bind fun r17 => bif r17.1 then (some (.ret, [.int .i64 (5 : Int)], r17.2)) else (some (.normal, [], r17.2)) else none) : Option LOut).bind fun r18 => if r18.1 = .normal then ((d_heap_Heap_fits_l0 k k x0 x1 x2 x3 x1 r18.2.2).bind fun r23 => if r23.1 = .exit 0 then (some (.int .i64 (0 : Int), r23.2.2)) else if r23.1 = .ret then (u_i r23.2.1 fun n24 => some (.int .i64 n24, r23.2.2)) else none) else if r18.1 = .ret then (u_i r18.2.1 fun n25 => some (.int .i64 n25, r18.2.2)) else none))

theorem heap_Heap_fits_is (k : Nat) (x0 : Option Addr) (x1 : Int) (x2 : Int) (x3 : Int) (σ : AMem) : heap_Heap_fits k x0 x1 x2 x3 σ = d_heap_Heap_fits k x0 x1 x2 x3 σ := by
  cases k with
  | zero => rfl
  | succ k => rw [heap_Heap_fits_eq, d_heap_Heap_fits]; simp only [heap_Heap_span_is, heap_Heap_Find_is, heap_Heap_fits_l0_is]

noncomputable def d_heap_number (k : Nat) (x0_0 : Int) (x0_1 : Int) (x0_2 : Int) (σ : AMem) : Option (Value × AMem) := match k with
  | 0 => none
  | k + 1 => (allocK σ (.cells [.int .i64 x0_0, .int .i64 x0_1, .int .i64 x0_2] 23 true) fun h1 s2 => (ldI .i64 s2 h1 (0 + 0)).bind fun n3 => (ldI .i64 s2 h1 (0 + 1)).bind fun n4 => (ldI .i64 s2 h1 (0 + 2)).bind fun n5 => some (.int .i64 (w64 ((w64 (n3 + (w64 ((16 : Int) * n4)))) + (w64 ((4096 : Int) * n5)))), s2))

theorem heap_number_is (k : Nat) (x0_0 : Int) (x0_1 : Int) (x0_2 : Int) (σ : AMem) : heap_number k x0_0 x0_1 x0_2 σ = d_heap_number k x0_0 x0_1 x0_2 σ := by
  cases k with
  | zero => rfl
  | succ k => rw [heap_number_eq, d_heap_number]

noncomputable def d_side_Table_there (k : Nat) (x0 : Option Addr) (x1 : Int) (σ : AMem) : Option (Value × AMem) := match k with
  | 0 => none
  | k + 1 => ((d_side_Table_made k x0 σ).bind fun r1 => (toB r1.1).bind fun b2 => (bif b2 then some (decide (x1 ≥ (0 : Int)), r1.2) else some (false, r1.2)).bind fun r3 => (bif r3.1 then x0.bind fun a4 => (ldI .i64 r3.2 a4.block (a4.off + 0)).bind fun n5 => some (decide (x1 < n5), r3.2) else some (false, r3.2)).bind fun r6 => some (.bool r6.1, r6.2))

theorem side_Table_there_is (k : Nat) (x0 : Option Addr) (x1 : Int) (σ : AMem) : side_Table_there k x0 x1 σ = d_side_Table_there k x0 x1 σ := by
  cases k with
  | zero => rfl
  | succ k => rw [side_Table_there_eq, d_side_Table_there]; simp only [side_Table_made_is]

noncomputable def d_side_Table_value (k : Nat) (x0 : Option Addr) (x1 : Int) (σ : AMem) : Option (Value × AMem) := match k with
  | 0 => none
  | k + 1 => ((bif decide (x1 ≥ (0 : Int)) then (d_side_Table_most k x0 σ).bind fun r1 => (toI .i64 r1.1).bind fun n2 => some (decide (x1 ≤ n2), r1.2) else some (false, σ)).bind fun r3 => some (.bool r3.1, r3.2))

theorem side_Table_value_is (k : Nat) (x0 : Option Addr) (x1 : Int) (σ : AMem) : side_Table_value k x0 x1 σ = d_side_Table_value k x0 x1 σ := by
  cases k with
  | zero => rfl
  | succ k => rw [side_Table_value_eq, d_side_Table_value]; simp only [side_Table_most_is]

noncomputable def d_side_Table_check_c1 (k : Nat) (x0 : Int) (c0 : Option Addr) (σ : AMem) : Option (Value × AMem) := match k with
  | 0 => none
  | k + 1 => (c0.bind fun a1 => (ldP σ a1.block a1.off).bind fun p2 => (d_side_Table_value k p2 x0 σ).bind fun r3 => (toB r3.1).bind fun b4 => some (.bool (!b4), r3.2))

theorem side_Table_check_c1_is (k : Nat) (x0 : Int) (c0 : Option Addr) (σ : AMem) : side_Table_check_c1 k x0 c0 σ = d_side_Table_check_c1 k x0 c0 σ := by
  cases k with
  | zero => rfl
  | succ k => rw [side_Table_check_c1_eq, d_side_Table_check_c1]; simp only [side_Table_value_is]

noncomputable def d_callN2 (k : Nat) (n : FuncId) (l : List Value) (σ : AMem) : Option (Value × AMem) :=
  if n = 55 then (match l with
    | [.int .i64 y1, .pointer y2] => d_side_Table_check_c1 k y1 y2 σ
    | l => fn P X2 H k 55 l σ) else
  fn P X2 H k n l σ

theorem callN2_is (k : Nat) (n : FuncId) (l : List Value) (σ : AMem) : fn P X2 H k n l σ = d_callN2 k n l σ := by
  unfold d_callN2
  split
  · rename_i hn; subst hn
    split
    · exact side_Table_check_c1_is k _ _ σ
    · rfl
  rfl

noncomputable def d_callV2 (k : Nat) (f : Value) (args : List Value) (σ : AMem) : Option (Value × AMem) := match f with
  | .func (.func n) first cap => d_callN2 k n (first.toList ++ args ++ cap.toList) σ
  | .func (.method nm) first _ => (match first.toList ++ args with
    | .iface t v :: rest => (methodF P t nm).bind fun n => d_callN2 k n (v :: rest) σ
    | _ => none)
  | _ => none

theorem callV2_is (k : Nat) (f : Value) (args : List Value) (σ : AMem) : callV2 k f args σ = d_callV2 k f args σ := by
  unfold callV2 callVal d_callV2
  simp only [callN2_is]
  rfl

noncomputable def d_slices_IndexFunc_int_l0 (k n : Nat) (p0 : Option Addr) (c1 : Nat) (c2 : Nat) (v3 : Value) (i4 : Int) (x8 : Int) (σ : AMem) : Option LOut := match n with
  | 0 => none
  | n + 1 => (bif decide (x8 < i4) then (if 0 ≤ x8 ∧ x8 < (c1 : Nat) then p0.bind fun a1 => (ldI .i64 σ a1.block (a1.off + x8.toNat * 1)).bind fun n2 => (d_callV2 k v3 [.int .i64 n2] σ).bind fun r3 => (toB r3.1).bind fun b4 => bif b4 then (some (.ret, [.int .i64 x8], r3.2)) else (d_slices_IndexFunc_int_l0 k n p0 c1 c2 v3 i4 (w64 (x8 + (1 : Int))) r3.2) else none) else (some (.exit 0, [], σ)))
termination_by structural n

theorem slices_IndexFunc_int_l0_is (k n : Nat) (p0 : Option Addr) (c1 : Nat) (c2 : Nat) (v3 : Value) (i4 : Int) (x8 : Int) (σ : AMem) : slices_IndexFunc_int_l0 k n p0 c1 c2 v3 i4 x8 σ = d_slices_IndexFunc_int_l0 k n p0 c1 c2 v3 i4 x8 σ := by
  induction n generalizing p0 c1 c2 v3 i4 x8 σ with
  | zero => rfl
  | succ n ih => rw [slices_IndexFunc_int_l0_eq, d_slices_IndexFunc_int_l0]; simp only [callV2_is, ih]

noncomputable def d_slices_IndexFunc_int (k : Nat) (x0 : Option Addr × Nat × Nat) (x1 : Value) (σ : AMem) : Option (Value × AMem) := match k with
  | 0 => none
  | k + 1 => ((d_slices_IndexFunc_int_l0 k k x0.1 x0.2.1 x0.2.2 x1 ((x0.2.1 : Nat) : Int) (0 : Int) σ).bind fun r5 => if r5.1 = .exit 0 then (some (.int .i64 (-1 : Int), r5.2.2)) else if r5.1 = .ret then (u_i r5.2.1 fun n6 => some (.int .i64 n6, r5.2.2)) else none)

theorem slices_IndexFunc_int_is (k : Nat) (x0 : Option Addr × Nat × Nat) (x1 : Value) (σ : AMem) : slices_IndexFunc_int k x0 x1 σ = d_slices_IndexFunc_int k x0 x1 σ := by
  cases k with
  | zero => rfl
  | succ k => rw [slices_IndexFunc_int_eq, d_slices_IndexFunc_int]; simp only [callV2_is, slices_IndexFunc_int_l0_is]

noncomputable def d_slices_ContainsFunc_int (k : Nat) (x0 : Option Addr × Nat × Nat) (x1 : Value) (σ : AMem) : Option (Value × AMem) := match k with
  | 0 => none
  | k + 1 => ((d_slices_IndexFunc_int k (x0.1, x0.2.1, x0.2.2) (x1) σ).bind fun r1 => (toI .i64 r1.1).bind fun n2 => some (.bool (decide (n2 ≥ (0 : Int))), r1.2))

theorem slices_ContainsFunc_int_is (k : Nat) (x0 : Option Addr × Nat × Nat) (x1 : Value) (σ : AMem) : slices_ContainsFunc_int k x0 x1 σ = d_slices_ContainsFunc_int k x0 x1 σ := by
  cases k with
  | zero => rfl
  | succ k => rw [slices_ContainsFunc_int_eq, d_slices_ContainsFunc_int]; simp only [slices_IndexFunc_int_is]

noncomputable def d_side_Table_check (k : Nat) (x0 : Option Addr) (x1 : Int) (x2 : Option Addr × Nat × Nat) (σ : AMem) : Option (Value × AMem) := match k with
  | 0 => none
  | k + 1 => (allocK σ (.cells [.pointer x0] 32 true) fun h1 s2 => (ldP s2 h1 0).bind fun p3 => (d_side_Table_made k p3 s2).bind fun r4 => (toB r4.1).bind fun b5 => bif !b5 then (some (.int .i64 (5 : Int), r4.2)) else ((ldP r4.2 h1 0).bind fun p6 => (d_side_Table_there k p6 x1 r4.2).bind fun r7 => (toB r7.1).bind fun b8 => (bif !b8 then some (true, r7.2) else (d_slices_ContainsFunc_int k (x2.1, x2.2.1, x2.2.2) (.func (.func 55) #[] #[.pointer (some ⟨h1, 0, none⟩)]) r7.2).bind fun r9 => (toB r9.1).bind fun b10 => some (b10, r9.2)).bind fun r11 => bif r11.1 then (some (.int .i64 (1 : Int), r11.2)) else (some (.int .i64 (0 : Int), r11.2))))

theorem side_Table_check_is (k : Nat) (x0 : Option Addr) (x1 : Int) (x2 : Option Addr × Nat × Nat) (σ : AMem) : side_Table_check k x0 x1 x2 σ = d_side_Table_check k x0 x1 x2 σ := by
  cases k with
  | zero => rfl
  | succ k => rw [side_Table_check_eq, d_side_Table_check]; simp only [side_Table_made_is, side_Table_there_is, slices_ContainsFunc_int_is]

noncomputable def d_side_Table_put (k : Nat) (x0 : Option Addr) (x1 : Int) (x2 : Int) (σ : AMem) : Option (Value × AMem) := match k with
  | 0 => none
  | k + 1 => (x0.bind fun a1 => (ldI .i64 σ a1.block (a1.off + 1)).bind fun n2 => x0.bind fun a3 => (ldS σ a3.block (a3.off + 2)).bind fun l4 => if (64 : Int) = 0 then none else if 0 ≤ (w64 ((w64 (x1 * n2)).tdiv (64 : Int))) ∧ (w64 ((w64 (x1 * n2)).tdiv (64 : Int))) < (l4.2.1 : Nat) then l4.1.bind fun a5 => (ldI .u64 σ a5.block (a5.off + (w64 ((w64 (x1 * n2)).tdiv (64 : Int))).toNat * 1)).bind fun n6 => (d_side_Table_most k x0 σ).bind fun r7 => (toI .i64 r7.1).bind fun n8 => if (64 : Int) = 0 then none else if ((w64 (x1 * n2)).tmod (64 : Int)) < 0 then none else if (64 : Int) = 0 then none else if ((w64 (x1 * n2)).tmod (64 : Int)) < 0 then none else (st1 r7.2 a5.block (a5.off + (w64 ((w64 (x1 * n2)).tdiv (64 : Int))).toNat * 1) (.int .u64 (u64 ((BitVec.ofInt 64 (u64 ((BitVec.ofInt 64 n6 &&& ~~~ (BitVec.ofInt 64 (u64 ((u64 (n8)) * 2 ^ (min ((w64 (x1 * n2)).tmod (64 : Int)).toNat 64))))).toNat)) ||| BitVec.ofInt 64 (u64 ((u64 (x2)) * 2 ^ (min ((w64 (x1 * n2)).tmod (64 : Int)).toNat 64)))).toNat)))).bind fun s9 => some (.tuple #[], s9) else none)

theorem side_Table_put_is (k : Nat) (x0 : Option Addr) (x1 : Int) (x2 : Int) (σ : AMem) : side_Table_put k x0 x1 x2 σ = d_side_Table_put k x0 x1 x2 σ := by
  cases k with
  | zero => rfl
  | succ k => rw [side_Table_put_eq, d_side_Table_put]; simp only [side_Table_most_is]

noncomputable def d_side_Table_Set (k : Nat) (x0 : Option Addr) (x1 : Int) (x2 : Int) (σ : AMem) : Option (Value × AMem) := match k with
  | 0 => none
  | k + 1 => (allocK σ (.cells [.int .i64 x2] 3 true) fun h1 s2 => (d_side_Table_check k x0 x1 (some ⟨h1, 0, none⟩, 1, 1) s2).bind fun r3 => (toI .i64 r3.1).bind fun n4 => bif n4 != (0 : Int) then (some (.int .i64 n4, r3.2)) else ((d_side_Table_put k x0 x1 x2 r3.2).bind fun r5 => r_0 r5.1 (some (.int .i64 (0 : Int), r5.2))))

theorem side_Table_Set_is (k : Nat) (x0 : Option Addr) (x1 : Int) (x2 : Int) (σ : AMem) : side_Table_Set k x0 x1 x2 σ = d_side_Table_Set k x0 x1 x2 σ := by
  cases k with
  | zero => rfl
  | succ k => rw [side_Table_Set_eq, d_side_Table_Set]; simp only [side_Table_check_is, side_Table_put_is]

noncomputable def d_heap_Heap_Place (k : Nat) (x0 : Option Addr) (x1 : Int) (x2_0 : Int) (x2_1 : Int) (x2_2 : Int) (σ : AMem) : Option (Value × AMem) := match k with
  | 0 => none
  | k + 1 => (allocK σ (.cells [.int .i64 x2_0, .int .i64 x2_1, .int .i64 x2_2] 23 true) fun h1 s2 => (d_heap_Heap_made k x0 s2).bind fun r3 => (toB r3.1).bind fun b4 => bif !b4 then (some (.tuple #[.int .i64 (0 : Int), .int .i64 (5 : Int)], r3.2)) else ((ldI .i64 r3.2 h1 0).bind fun n5 => (ldI .i64 r3.2 h1 (0 + 1)).bind fun n6 => (ldI .i64 r3.2 h1 (0 + 1 + 1)).bind fun n7 => (d_heap_Valid k n5 n6 n7 r3.2).bind fun r8 => (toB r8.1).bind fun b9 => bif !b9 then (some (.tuple #[.int .i64 (0 : Int), .int .i64 (2 : Int)], r8.2)) else ((ldI .i64 r8.2 h1 0).bind fun n10 => (ldI .i64 r8.2 h1 (0 + 1)).bind fun n11 => (ldI .i64 r8.2 h1 (0 + 1 + 1)).bind fun n12 => (d_heap_Words k n10 n11 n12 r8.2).bind fun r13 => (toI .i64 r13.1).bind fun n14 => (d_heap_Heap_fits k x0 x1 n14 (-1 : Int) r13.2).bind fun r15 => (toI .i64 r15.1).bind fun n16 => bif n16 != (0 : Int) then (some (.tuple #[.int .i64 (0 : Int), .int .i64 n16], r15.2)) else (x0.bind fun a17 => (ldI .i64 r15.2 a17.block (a17.off + 6)).bind fun n18 => x0.bind fun a19 => (st1 r15.2 a19.block (a19.off + 6) (.int .i64 (w64 (n18 + (1 : Int))))).bind fun s20 => x0.bind fun a21 => (ldS s20 a21.block (a21.off + 1)).bind fun l22 => x0.bind fun a23 => (ldS s20 a23.block (a23.off + 1)).bind fun l24 => x0.bind fun a25 => (ldI .i64 s20 a25.block (a25.off + 6)).bind fun n26 => (ldI .i64 s20 h1 0).bind fun n27 => (ldI .i64 s20 h1 (0 + 1)).bind fun n28 => (ldI .i64 s20 h1 (0 + 1 + 1)).bind fun n29 => (d_heap_number k n27 n28 n29 s20).bind fun r30 => (toI .i64 r30.1).bind fun n31 => if 0 ≤ x1 ∧ x1 < (l22.2.1 : Nat) then l22.1.bind fun a32 => (st1 r30.2 a32.block (a32.off + x1.toNat * 1) (.int .i64 n26)).bind fun s33 => if 0 ≤ (w64 (x1 + (1 : Int))) ∧ (w64 (x1 + (1 : Int))) < (l24.2.1 : Nat) then l24.1.bind fun a34 => (st1 s33 a34.block (a34.off + (w64 (x1 + (1 : Int))).toNat * 1) (.int .i64 n31)).bind fun s35 => x0.bind fun a36 => (ldP s35 a36.block (a36.off + 2)).bind fun p37 => if (2 : Int) = 0 then none else (d_side_Table_Set k p37 (w64 (x1.tdiv (2 : Int))) (1 : Int) s35).bind fun r38 => (toI .i64 r38.1).bind fun n39 => x0.bind fun a40 => (ldM r38.2 a40.block (a40.off + 4)).bind fun m41 => x0.bind fun a42 => (ldI .i64 r38.2 a42.block (a42.off + 6)).bind fun n43 => m41.bind fun h45 => (ldMap r38.2 h45).bind fun es44 => x0.bind fun a46 => (ldI .i64 (List.set r38.2 h45 (.map (mapSet n43 (.int .i64 x1) es44))) a46.block (a46.off + 6)).bind fun n47 => some (.tuple #[.int .i64 n47, .int .i64 (0 : Int)], (List.set r38.2 h45 (.map (mapSet n43 (.int .i64 x1) es44)))) else none else none))))

theorem heap_Heap_Place_is (k : Nat) (x0 : Option Addr) (x1 : Int) (x2_0 : Int) (x2_1 : Int) (x2_2 : Int) (σ : AMem) : heap_Heap_Place k x0 x1 x2_0 x2_1 x2_2 σ = d_heap_Heap_Place k x0 x1 x2_0 x2_1 x2_2 σ := by
  cases k with
  | zero => rfl
  | succ k => rw [heap_Heap_Place_eq, d_heap_Heap_Place]; simp only [heap_Valid_is, heap_Words_is, heap_Heap_made_is, heap_Heap_fits_is, heap_number_is, side_Table_Set_is]

noncomputable def d_heap_Heap_there (k : Nat) (x0 : Option Addr) (x1 : Int) (σ : AMem) : Option (Value × AMem) := match k with
  | 0 => none
  | k + 1 => ((d_heap_Heap_made k x0 σ).bind fun r1 => (toB r1.1).bind fun b2 => (bif b2 then some (decide (x1 ≥ (1 : Int)), r1.2) else some (false, r1.2)).bind fun r3 => (bif r3.1 then x0.bind fun a4 => (ldS r3.2 a4.block (a4.off + 0)).bind fun l5 => some (decide (x1 < ((l5.2.1 : Nat) : Int)), r3.2) else some (false, r3.2)).bind fun r6 => some (.bool r6.1, r6.2))

theorem heap_Heap_there_is (k : Nat) (x0 : Option Addr) (x1 : Int) (σ : AMem) : heap_Heap_there k x0 x1 σ = d_heap_Heap_there k x0 x1 σ := by
  cases k with
  | zero => rfl
  | succ k => rw [heap_Heap_there_eq, d_heap_Heap_there]; simp only [heap_Heap_made_is]

noncomputable def d_heap_space (k : Nat) (x0 : Int) (σ : AMem) : Option (Value × AMem) := match k with
  | 0 => none
  | k + 1 => ((bif decide (x0 ≥ (0 : Int)) then some (decide (x0 < (8 : Int)), σ) else some (false, σ)).bind fun r1 => some (.bool r1.1, r1.2))

theorem heap_space_is (k : Nat) (x0 : Int) (σ : AMem) : heap_space k x0 σ = d_heap_space k x0 σ := by
  cases k with
  | zero => rfl
  | succ k => rw [heap_space_eq, d_heap_space]

noncomputable def d_heap_Heap_claim_c1 (k : Nat) (x0_0 : Int) (x0_1 : Int) (σ : AMem) : Option (Value × AMem) := match k with
  | 0 => none
  | k + 1 => (allocK σ (.cells [.int .i64 x0_0, .int .i64 x0_1] 78 true) fun h1 s2 => (ldI .i64 s2 h1 0).bind fun n3 => (ldI .i64 s2 h1 (0 + 1)).bind fun n4 => (eqA P 78 (.agg #[.int .i64 n3, .int .i64 n4]) (.agg #[.int .i64 (0 : Int), .int .i64 (0 : Int)])).bind fun e5 => some (.bool (!e5), s2))

theorem heap_Heap_claim_c1_is (k : Nat) (x0_0 : Int) (x0_1 : Int) (σ : AMem) : heap_Heap_claim_c1 k x0_0 x0_1 σ = d_heap_Heap_claim_c1 k x0_0 x0_1 σ := by
  cases k with
  | zero => rfl
  | succ k => rw [heap_Heap_claim_c1_eq, d_heap_Heap_claim_c1]

noncomputable def d_callN1 (k : Nat) (n : FuncId) (l : List Value) (σ : AMem) : Option (Value × AMem) :=
  if n = 50 then (match l with
    | [.agg ⟨[.int .i64 y1, .int .i64 y2]⟩] => d_heap_Heap_claim_c1 k y1 y2 σ
    | l => fn P X2 H k 50 l σ) else
  fn P X2 H k n l σ

theorem callN1_is (k : Nat) (n : FuncId) (l : List Value) (σ : AMem) : fn P X2 H k n l σ = d_callN1 k n l σ := by
  unfold d_callN1
  split
  · rename_i hn; subst hn
    split
    · exact heap_Heap_claim_c1_is k _ _ σ
    · rfl
  rfl

noncomputable def d_callV1 (k : Nat) (f : Value) (args : List Value) (σ : AMem) : Option (Value × AMem) := match f with
  | .func (.func n) first cap => d_callN1 k n (first.toList ++ args ++ cap.toList) σ
  | .func (.method nm) first _ => (match first.toList ++ args with
    | .iface t v :: rest => (methodF P t nm).bind fun n => d_callN1 k n (v :: rest) σ
    | _ => none)
  | _ => none

theorem callV1_is (k : Nat) (f : Value) (args : List Value) (σ : AMem) : callV1 k f args σ = d_callV1 k f args σ := by
  unfold callV1 callVal d_callV1
  simp only [callN1_is]
  rfl

noncomputable def d_slices_IndexFunc_heap_block_l0 (k n : Nat) (p0 : Option Addr) (c1 : Nat) (c2 : Nat) (v3 : Value) (i4 : Int) (x8 : Int) (σ : AMem) : Option LOut := match n with
  | 0 => none
  | n + 1 => (bif decide (x8 < i4) then (if 0 ≤ x8 ∧ x8 < (c1 : Nat) then p0.bind fun a1 => (ldI .i64 σ a1.block (a1.off + x8.toNat * 2)).bind fun n2 => (ldI .i64 σ a1.block (a1.off + x8.toNat * 2 + 1)).bind fun n3 => (d_callV1 k v3 [.agg #[.int .i64 n2, .int .i64 n3]] σ).bind fun r4 => (toB r4.1).bind fun b5 => bif b5 then (some (.ret, [.int .i64 x8], r4.2)) else (d_slices_IndexFunc_heap_block_l0 k n p0 c1 c2 v3 i4 (w64 (x8 + (1 : Int))) r4.2) else none) else (some (.exit 0, [], σ)))
termination_by structural n

theorem slices_IndexFunc_heap_block_l0_is (k n : Nat) (p0 : Option Addr) (c1 : Nat) (c2 : Nat) (v3 : Value) (i4 : Int) (x8 : Int) (σ : AMem) : slices_IndexFunc_heap_block_l0 k n p0 c1 c2 v3 i4 x8 σ = d_slices_IndexFunc_heap_block_l0 k n p0 c1 c2 v3 i4 x8 σ := by
  induction n generalizing p0 c1 c2 v3 i4 x8 σ with
  | zero => rfl
  | succ n ih => rw [slices_IndexFunc_heap_block_l0_eq, d_slices_IndexFunc_heap_block_l0]; simp only [callV1_is, ih]

noncomputable def d_slices_IndexFunc_heap_block (k : Nat) (x0 : Option Addr × Nat × Nat) (x1 : Value) (σ : AMem) : Option (Value × AMem) := match k with
  | 0 => none
  | k + 1 => ((d_slices_IndexFunc_heap_block_l0 k k x0.1 x0.2.1 x0.2.2 x1 ((x0.2.1 : Nat) : Int) (0 : Int) σ).bind fun r6 => if r6.1 = .exit 0 then (some (.int .i64 (-1 : Int), r6.2.2)) else if r6.1 = .ret then (u_i r6.2.1 fun n7 => some (.int .i64 n7, r6.2.2)) else none)

theorem slices_IndexFunc_heap_block_is (k : Nat) (x0 : Option Addr × Nat × Nat) (x1 : Value) (σ : AMem) : slices_IndexFunc_heap_block k x0 x1 σ = d_slices_IndexFunc_heap_block k x0 x1 σ := by
  cases k with
  | zero => rfl
  | succ k => rw [slices_IndexFunc_heap_block_eq, d_slices_IndexFunc_heap_block]; simp only [callV1_is, slices_IndexFunc_heap_block_l0_is]

noncomputable def d_slices_ContainsFunc_heap_block (k : Nat) (x0 : Option Addr × Nat × Nat) (x1 : Value) (σ : AMem) : Option (Value × AMem) := match k with
  | 0 => none
  | k + 1 => ((d_slices_IndexFunc_heap_block k (x0.1, x0.2.1, x0.2.2) (x1) σ).bind fun r1 => (toI .i64 r1.1).bind fun n2 => some (.bool (decide (n2 ≥ (0 : Int))), r1.2))

theorem slices_ContainsFunc_heap_block_is (k : Nat) (x0 : Option Addr × Nat × Nat) (x1 : Value) (σ : AMem) : slices_ContainsFunc_heap_block k x0 x1 σ = d_slices_ContainsFunc_heap_block k x0 x1 σ := by
  cases k with
  | zero => rfl
  | succ k => rw [slices_ContainsFunc_heap_block_eq, d_slices_ContainsFunc_heap_block]; simp only [slices_IndexFunc_heap_block_is]

noncomputable def d_heap_Heap_claim_l0 (k n : Nat) (p0 : Option Addr) (i1 : Int) (h2 : Nat) (i3 : Int) (x54 : Int) (σ : AMem) : Option LOut := match n with
  | 0 => none
  | n + 1 => (bif decide (x54 < i3) then (p0.bind fun a22 => (ldS σ a22.block (a22.off + 0)).bind fun l23 => (ldI .i64 σ h2 0).bind fun n24 => (ldI .i64 σ h2 (0 + 1)).bind fun n25 => if 0 ≤ (w64 (i1 + x54)) ∧ (w64 (i1 + x54)) < (l23.2.1 : Nat) then l23.1.bind fun a26 => (stN σ a26.block (a26.off + (w64 (i1 + x54)).toNat * 2) [.int .i64 n24, .int .i64 n25]).bind fun s27 => d_heap_Heap_claim_l0 k n p0 i1 h2 i3 (w64 (x54 + (1 : Int))) s27 else none) else (some (.exit 1, [], σ)))
termination_by structural n

theorem heap_Heap_claim_l0_is (k n : Nat) (p0 : Option Addr) (i1 : Int) (h2 : Nat) (i3 : Int) (x54 : Int) (σ : AMem) : heap_Heap_claim_l0 k n p0 i1 h2 i3 x54 σ = d_heap_Heap_claim_l0 k n p0 i1 h2 i3 x54 σ := by
  induction n generalizing p0 i1 h2 i3 x54 σ with
  | zero => rfl
  | succ n ih => rw [heap_Heap_claim_l0_eq, d_heap_Heap_claim_l0]; simp only [heap_Heap_made_is, heap_Heap_there_is, heap_space_is, slices_ContainsFunc_heap_block_is, ih]

noncomputable def d_heap_Heap_claim (k : Nat) (x0 : Option Addr) (x1 : Int) (x2 : Int) (x3_0 : Int) (x3_1 : Int) (x4_0 : Int) (x4_1 : Int) (σ : AMem) : Option (Value × AMem) := match k with
  | 0 => none
  | k + 1 => (allocK σ (.cells [.int .i64 x3_0, .int .i64 x3_1] 78 true) fun h1 s2 => allocK s2 (.cells [.int .i64 x4_0, .int .i64 x4_1] 78 true) fun h3 s4 => (d_heap_Heap_made k x0 s4).bind fun r5 => (toB r5.1).bind fun b6 => bif !b6 then (some (.int .i64 (5 : Int), r5.2)) else ((d_heap_Heap_there k x0 x1 r5.2).bind fun r7 => (toB r7.1).bind fun b8 => (bif !b8 then some (true, r7.2) else some (decide (x2 < (1 : Int)), r7.2)).bind fun r9 => (bif r9.1 then some (true, r9.2) else x0.bind fun a10 => (ldS r9.2 a10.block (a10.off + 0)).bind fun l11 => some (decide (x2 > (w64 (((l11.2.1 : Nat) : Int) - x1))), r9.2)).bind fun r12 => (bif r12.1 then some (true, r12.2) else (ldI .i64 r12.2 h1 (0 + 1)).bind fun n13 => (d_heap_space k n13 r12.2).bind fun r14 => (toB r14.1).bind fun b15 => some (!b15, r14.2)).bind fun r16 => bif r16.1 then (some (.int .i64 (1 : Int), r16.2)) else (x0.bind fun a17 => (ldS r16.2 a17.block (a17.off + 0)).bind fun l18 => (sliceD 78 2 (l18.1, l18.2.1, l18.2.2) (some (.int .i64 x1)) (some (.int .i64 (w64 (x1 + x2)))) none r16.2).bind fun l19 => (d_slices_ContainsFunc_heap_block k (l19.1, l19.2.1, l19.2.2) (.func (.func 50) #[] #[]) r16.2).bind fun r20 => (toB r20.1).bind fun b21 => bif b21 then (some (.int .i64 (8 : Int), r20.2)) else ((d_heap_Heap_claim_l0 k k x0 x1 h3 x2 (0 : Int) r20.2).bind fun r28 => if r28.1 = .exit 1 then (x0.bind fun a29 => (ldS r28.2.2 a29.block (a29.off + 0)).bind fun l30 => (ldI .i64 r28.2.2 h1 0).bind fun n31 => (ldI .i64 r28.2.2 h1 (0 + 1)).bind fun n32 => if 0 ≤ x1 ∧ x1 < (l30.2.1 : Nat) then l30.1.bind fun a33 => (stN r28.2.2 a33.block (a33.off + x1.toNat * 2) [.int .i64 n31, .int .i64 n32]).bind fun s34 => some (.int .i64 (0 : Int), s34) else none) else none))))

theorem heap_Heap_claim_is (k : Nat) (x0 : Option Addr) (x1 : Int) (x2 : Int) (x3_0 : Int) (x3_1 : Int) (x4_0 : Int) (x4_1 : Int) (σ : AMem) : heap_Heap_claim k x0 x1 x2 x3_0 x3_1 x4_0 x4_1 σ = d_heap_Heap_claim k x0 x1 x2 x3_0 x3_1 x4_0 x4_1 σ := by
  cases k with
  | zero => rfl
  | succ k => rw [heap_Heap_claim_eq, d_heap_Heap_claim]; simp only [heap_Heap_made_is, heap_Heap_there_is, heap_space_is, slices_ContainsFunc_heap_block_is, heap_Heap_claim_l0_is]

noncomputable def d_heap_Heap_ClaimLarge (k : Nat) (x0 : Option Addr) (x1 : Int) (x2 : Int) (x3 : Int) (σ : AMem) : Option (Value × AMem) := match k with
  | 0 => none
  | k + 1 => ((d_heap_Heap_claim k x0 x1 x2 (2 : Int) x3 (3 : Int) x3 σ).bind fun r1 => (toI .i64 r1.1).bind fun n2 => some (.int .i64 n2, r1.2))

theorem heap_Heap_ClaimLarge_is (k : Nat) (x0 : Option Addr) (x1 : Int) (x2 : Int) (x3 : Int) (σ : AMem) : heap_Heap_ClaimLarge k x0 x1 x2 x3 σ = d_heap_Heap_ClaimLarge k x0 x1 x2 x3 σ := by
  cases k with
  | zero => rfl
  | succ k => rw [heap_Heap_ClaimLarge_eq, d_heap_Heap_ClaimLarge]; simp only [heap_Heap_claim_is]

noncomputable def d_alloc_Allocator_large_l0 (k n : Nat) (p0 : Option Addr) (i1 : Int) (x7 : Int) (σ : AMem) : Option LOut := match n with
  | 0 => none
  | n + 1 => (p0.bind fun a1 => (ldP σ a1.block (a1.off + 0)).bind fun p2 => (d_heap_Heap_Blocks k p2 σ).bind fun r3 => (toI .i64 r3.1).bind fun n4 => bif decide ((w64 (x7 + i1)) ≤ n4) then (p0.bind fun a5 => (ldP r3.2 a5.block (a5.off + 0)).bind fun p6 => p0.bind fun a7 => (ldI .i64 r3.2 a7.block (a7.off + 1)).bind fun n8 => (d_heap_Heap_ClaimLarge k p6 x7 i1 n8 r3.2).bind fun r9 => (toI .i64 r9.1).bind fun n10 => bif n10 == (0 : Int) then (some (.ret, [.int .i64 (w64 (x7 * (64 : Int))), .bool true], r9.2)) else (d_alloc_Allocator_large_l0 k n p0 i1 (w64 (x7 + (1 : Int))) r9.2)) else (some (.exit 0, [], r3.2)))
termination_by structural n

theorem alloc_Allocator_large_l0_is (k n : Nat) (p0 : Option Addr) (i1 : Int) (x7 : Int) (σ : AMem) : alloc_Allocator_large_l0 k n p0 i1 x7 σ = d_alloc_Allocator_large_l0 k n p0 i1 x7 σ := by
  induction n generalizing p0 i1 x7 σ with
  | zero => rfl
  | succ n ih => rw [alloc_Allocator_large_l0_eq, d_alloc_Allocator_large_l0]; simp only [heap_Heap_Blocks_is, heap_Heap_ClaimLarge_is, ih]

noncomputable def d_alloc_Allocator_large (k : Nat) (x0 : Option Addr) (x1 : Int) (σ : AMem) : Option (Value × AMem) := match k with
  | 0 => none
  | k + 1 => (if (64 : Int) = 0 then none else (d_alloc_Allocator_large_l0 k k x0 (w64 ((w64 ((w64 (x1 + (64 : Int))) - (1 : Int))).tdiv (64 : Int))) (1 : Int) σ).bind fun r11 => if r11.1 = .exit 0 then (some (.tuple #[.int .i64 (0 : Int), .bool false], r11.2.2)) else if r11.1 = .ret then (u_it r11.2.1 fun n12 b13 => some (.tuple #[.int .i64 n12, .bool b13], r11.2.2)) else none)

theorem alloc_Allocator_large_is (k : Nat) (x0 : Option Addr) (x1 : Int) (σ : AMem) : alloc_Allocator_large k x0 x1 σ = d_alloc_Allocator_large k x0 x1 σ := by
  cases k with
  | zero => rfl
  | succ k => rw [alloc_Allocator_large_eq, d_alloc_Allocator_large]; simp only [heap_Heap_Blocks_is, heap_Heap_ClaimLarge_is, alloc_Allocator_large_l0_is]

noncomputable def d_heap_Heap_Claim (k : Nat) (x0 : Option Addr) (x1 : Int) (x2 : Int) (σ : AMem) : Option (Value × AMem) := match k with
  | 0 => none
  | k + 1 => ((d_heap_Heap_claim k x0 x1 (1 : Int) (1 : Int) x2 (0 : Int) (0 : Int) σ).bind fun r1 => (toI .i64 r1.1).bind fun n2 => some (.int .i64 n2, r1.2))

theorem heap_Heap_Claim_is (k : Nat) (x0 : Option Addr) (x1 : Int) (x2 : Int) (σ : AMem) : heap_Heap_Claim k x0 x1 x2 σ = d_heap_Heap_Claim k x0 x1 x2 σ := by
  cases k with
  | zero => rfl
  | succ k => rw [heap_Heap_Claim_eq, d_heap_Heap_Claim]; simp only [heap_Heap_claim_is]

noncomputable def d_alloc_Allocator_begin_l0 (k n : Nat) (p0 : Option Addr) (h1 : Nat) (x4 : Int) (σ : AMem) : Option LOut := match n with
  | 0 => none
  | n + 1 => (p0.bind fun a3 => (ldP σ a3.block (a3.off + 0)).bind fun p4 => (d_heap_Heap_Blocks k p4 σ).bind fun r5 => (toI .i64 r5.1).bind fun n6 => bif decide (x4 < n6) then (p0.bind fun a7 => (ldP r5.2 a7.block (a7.off + 0)).bind fun p8 => p0.bind fun a9 => (ldI .i64 r5.2 a9.block (a9.off + 1)).bind fun n10 => (d_heap_Heap_Claim k p8 x4 n10 r5.2).bind fun r11 => (toI .i64 r11.1).bind fun n12 => bif n12 == (0 : Int) then ((stN r11.2 h1 0 [.int .i64 (w64 (x4 * (64 : Int))), .int .i64 (w64 ((w64 (x4 + (1 : Int))) * (64 : Int)))]).bind fun s13 => some (.ret, [.bool true], s13)) else (d_alloc_Allocator_begin_l0 k n p0 h1 (w64 (x4 + (1 : Int))) r11.2)) else (some (.exit 0, [], r5.2)))
termination_by structural n

theorem alloc_Allocator_begin_l0_is (k n : Nat) (p0 : Option Addr) (h1 : Nat) (x4 : Int) (σ : AMem) : alloc_Allocator_begin_l0 k n p0 h1 x4 σ = d_alloc_Allocator_begin_l0 k n p0 h1 x4 σ := by
  induction n generalizing p0 h1 x4 σ with
  | zero => rfl
  | succ n ih => rw [alloc_Allocator_begin_l0_eq, d_alloc_Allocator_begin_l0]; simp only [heap_Heap_Blocks_is, heap_Heap_Claim_is, ih]

noncomputable def d_alloc_Allocator_begin (k : Nat) (x0 : Option Addr) (σ : AMem) : Option (Value × AMem) := match k with
  | 0 => none
  | k + 1 => (allocK σ (.cells [.int .i64 (0 : Int), .int .i64 (0 : Int)] 27 true) fun h1 s2 => (d_alloc_Allocator_begin_l0 k k x0 h1 (1 : Int) s2).bind fun r14 => if r14.1 = .exit 0 then ((stN r14.2.2 h1 0 [.int .i64 (0 : Int), .int .i64 (0 : Int)]).bind fun s15 => (((ldN s15 h1 0 2).bind fun v16 => some (.agg v16.toArray)).bind fun v17 => some [v17, .bool false]).bind fun vs18 => some (resOf vs18, s15)) else if r14.1 = .ret then (u_t r14.2.1 fun b19 => (((ldN r14.2.2 h1 0 2).bind fun v20 => some (.agg v20.toArray)).bind fun v21 => some [v21, .bool b19]).bind fun vs22 => some (resOf vs22, r14.2.2)) else none)

theorem alloc_Allocator_begin_is (k : Nat) (x0 : Option Addr) (σ : AMem) : alloc_Allocator_begin k x0 σ = d_alloc_Allocator_begin k x0 σ := by
  cases k with
  | zero => rfl
  | succ k => rw [alloc_Allocator_begin_eq, d_alloc_Allocator_begin]; simp only [heap_Heap_Blocks_is, heap_Heap_Claim_is, alloc_Allocator_begin_l0_is]

noncomputable def d_alloc_Allocator_start (k : Nat) (x0 : Option Addr) (x1 : Option Addr × Nat × Nat) (σ : AMem) : Option (Value × AMem) := match k with
  | 0 => none
  | k + 1 => (bif decide (((x1.2.1 : Nat) : Int) > (0 : Int)) then (if 0 ≤ (0 : Int) ∧ (0 : Int) < (x1.2.1 : Nat) then x1.1.bind fun a1 => (ldI .i64 σ a1.block (a1.off + (0 : Int).toNat * 2 + 0)).bind fun n2 => some (.tuple #[.int .i64 n2, .bool true], σ) else none) else ((d_alloc_Allocator_begin k x0 σ).bind fun r3 => (toT r3.1).bind fun q4 => if q4.length = 2 then q4.head?.bind fun v5 => a_ii v5 fun n6 n7 => q4.tail.head?.bind fun v8 => (toB v8).bind fun b9 => allocK r3.2 (.cells [.int .i64 (0 : Int), .int .i64 (0 : Int)] 27 true) fun h10 s11 => (stN s11 h10 0 [.int .i64 n6, .int .i64 n7]).bind fun s12 => (ldI .i64 s12 h10 (0 + 0)).bind fun n13 => some (.tuple #[.int .i64 n13, .bool b9], s12) else none))

theorem alloc_Allocator_start_is (k : Nat) (x0 : Option Addr) (x1 : Option Addr × Nat × Nat) (σ : AMem) : alloc_Allocator_start k x0 x1 σ = d_alloc_Allocator_start k x0 x1 σ := by
  cases k with
  | zero => rfl
  | succ k => rw [alloc_Allocator_start_eq, d_alloc_Allocator_start]; simp only [alloc_Allocator_begin_is]

noncomputable def d_heap_Heap_State (k : Nat) (x0 : Option Addr) (x1 : Int) (σ : AMem) : Option (Value × AMem) := match k with
  | 0 => none
  | k + 1 => ((bif decide (x1 < (0 : Int)) then some (true, σ) else (d_heap_Heap_Blocks k x0 σ).bind fun r1 => (toI .i64 r1.1).bind fun n2 => some (decide (x1 ≥ n2), r1.2)).bind fun r3 => bif r3.1 then (some (.int .i64 (-1 : Int), r3.2)) else (x0.bind fun a4 => (ldS r3.2 a4.block (a4.off + 0)).bind fun l5 => if 0 ≤ x1 ∧ x1 < (l5.2.1 : Nat) then l5.1.bind fun a6 => (ldI .i64 r3.2 a6.block (a6.off + x1.toNat * 2 + 0)).bind fun n7 => some (.int .i64 n7, r3.2) else none))

theorem heap_Heap_State_is (k : Nat) (x0 : Option Addr) (x1 : Int) (σ : AMem) : heap_Heap_State k x0 x1 σ = d_heap_Heap_State k x0 x1 σ := by
  cases k with
  | zero => rfl
  | succ k => rw [heap_Heap_State_eq, d_heap_Heap_State]; simp only [heap_Heap_Blocks_is]

noncomputable def d_alloc_Allocator_blocks_l0 (k n : Nat) (p0 : Option Addr) (i1 : Int) (x3 : Option Addr × Nat × Nat) (x10 : Int) (σ : AMem) : Option LOut := match n with
  | 0 => none
  | n + 1 => (bif decide (x10 < i1) then (p0.bind fun a5 => (ldP σ a5.block (a5.off + 0)).bind fun p6 => (d_heap_Heap_State k p6 x10 σ).bind fun r7 => (toI .i64 r7.1).bind fun n8 => (bif n8 == (1 : Int) then p0.bind fun a9 => (ldP r7.2 a9.block (a9.off + 0)).bind fun p10 => (d_heap_Heap_Space k p10 x10 r7.2).bind fun r11 => (toI .i64 r11.1).bind fun n12 => p0.bind fun a13 => (ldI .i64 r11.2 a13.block (a13.off + 1)).bind fun n14 => some (n12 == n14, r11.2) else some (false, r7.2)).bind fun r15 => (bif r15.1 then (allocK r15.2 (.cells [.int .i64 x10] 3 true) fun h16 s17 => (appendD P 3 (x3.1, x3.2.1, x3.2.2) (some ⟨h16, 0, none⟩, 1, 1) s17).bind fun r18 => some (.normal, [.slice r18.1.1 r18.1.2.1 r18.1.2.2], r18.2)) else (some (.normal, [.slice x3.1 x3.2.1 x3.2.2], r15.2)) : Option LOut).bind fun r19 => if r19.1 = .normal then (u_l r19.2.1 fun l20 => d_alloc_Allocator_blocks_l0 k n p0 i1 (l20.1, l20.2.1, l20.2.2) (w64 (x10 + (1 : Int))) r19.2.2) else none) else (some (.exit 0, [.slice x3.1 x3.2.1 x3.2.2], σ)))
termination_by structural n

theorem alloc_Allocator_blocks_l0_is (k n : Nat) (p0 : Option Addr) (i1 : Int) (x3 : Option Addr × Nat × Nat) (x10 : Int) (σ : AMem) : alloc_Allocator_blocks_l0 k n p0 i1 x3 x10 σ = d_alloc_Allocator_blocks_l0 k n p0 i1 x3 x10 σ := by
  induction n generalizing p0 i1 x3 x10 σ with
  | zero => rfl
  | succ n ih => rw [alloc_Allocator_blocks_l0_eq, d_alloc_Allocator_blocks_l0]; simp only [heap_Heap_Space_is, heap_Heap_Blocks_is, heap_Heap_State_is, ih]

noncomputable def d_alloc_Allocator_blocks (k : Nat) (x0 : Option Addr) (σ : AMem) : Option (Value × AMem) := match k with
  | 0 => none
  | k + 1 => (x0.bind fun a1 => (ldP σ a1.block (a1.off + 0)).bind fun p2 => (d_heap_Heap_Blocks k p2 σ).bind fun r3 => (toI .i64 r3.1).bind fun n4 => (d_alloc_Allocator_blocks_l0 k k x0 n4 (none, 0, 0) (0 : Int) r3.2).bind fun r21 => if r21.1 = .exit 0 then (u_l r21.2.1 fun l22 => some (.slice l22.1 l22.2.1 l22.2.2, r21.2.2)) else none)

theorem alloc_Allocator_blocks_is (k : Nat) (x0 : Option Addr) (σ : AMem) : alloc_Allocator_blocks k x0 σ = d_alloc_Allocator_blocks k x0 σ := by
  cases k with
  | zero => rfl
  | succ k => rw [alloc_Allocator_blocks_eq, d_alloc_Allocator_blocks]; simp only [heap_Heap_Space_is, heap_Heap_Blocks_is, heap_Heap_State_is, alloc_Allocator_blocks_l0_is]

noncomputable def d_heap_Heap_used (k : Nat) (x0 : Option Addr) (x1 : Int) (σ : AMem) : Option (Value × AMem) := match k with
  | 0 => none
  | k + 1 => ((d_heap_Heap_there k x0 x1 σ).bind fun r1 => (toB r1.1).bind fun b2 => (bif b2 then x0.bind fun a3 => (ldS r1.2 a3.block (a3.off + 0)).bind fun l4 => if 0 ≤ x1 ∧ x1 < (l4.2.1 : Nat) then l4.1.bind fun a5 => (ldI .i64 r1.2 a5.block (a5.off + x1.toNat * 2 + 0)).bind fun n6 => some (n6 == (1 : Int), r1.2) else none else some (false, r1.2)).bind fun r7 => some (.bool r7.1, r7.2))

theorem heap_Heap_used_is (k : Nat) (x0 : Option Addr) (x1 : Int) (σ : AMem) : heap_Heap_used k x0 x1 σ = d_heap_Heap_used k x0 x1 σ := by
  cases k with
  | zero => rfl
  | succ k => rw [heap_Heap_used_eq, d_heap_Heap_used]; simp only [heap_Heap_there_is]

noncomputable def d_heap_Heap_Gaps_c1 (k : Nat) (x0 : Int) (c0 : Option Addr) (c1 : Option Addr) (σ : AMem) : Option (Value × AMem) := match k with
  | 0 => none
  | k + 1 => (c0.bind fun a1 => (ldI .i64 σ a1.block a1.off).bind fun n2 => (bif decide (x0 > n2) then (c1.bind fun a3 => (ldS σ a3.block a3.off).bind fun l4 => c0.bind fun a5 => (ldI .i64 σ a5.block a5.off).bind fun n6 => c0.bind fun a7 => (ldI .i64 σ a7.block a7.off).bind fun n8 => allocK σ (.cells [.int .i64 n6, .int .i64 (w64 (x0 - n8))] 121 true) fun h9 s10 => (appendD P 121 (l4.1, l4.2.1, l4.2.2) (some ⟨h9, 0, none⟩, 1, 1) s10).bind fun r11 => c1.bind fun a12 => (st1 r11.2 a12.block a12.off (.slice r11.1.1 r11.1.2.1 r11.1.2.2)).bind fun s13 => some (.normal, [], s13)) else (some (.normal, [], σ)) : Option LOut).bind fun r14 => if r14.1 = .normal then (some (.tuple #[], r14.2.2)) else none)

theorem heap_Heap_Gaps_c1_is (k : Nat) (x0 : Int) (c0 : Option Addr) (c1 : Option Addr) (σ : AMem) : heap_Heap_Gaps_c1 k x0 c0 c1 σ = d_heap_Heap_Gaps_c1 k x0 c0 c1 σ := by
  cases k with
  | zero => rfl
  | succ k => rw [heap_Heap_Gaps_c1_eq, d_heap_Heap_Gaps_c1]

noncomputable def d_side_Table_Next_l0 (k n : Nat) (p0 : Option Addr) (i1 : Int) (x8 : Int) (σ : AMem) : Option LOut := match n with
  | 0 => none
  | n + 1 => (p0.bind fun a3 => (ldI .i64 σ a3.block (a3.off + 0)).bind fun n4 => bif decide (x8 < n4) then ((d_side_Table_get k p0 x8 σ).bind fun r5 => (toI .i64 r5.1).bind fun n6 => bif n6 == i1 then (some (.ret, [.int .i64 x8, .int .i64 (0 : Int)], r5.2)) else (d_side_Table_Next_l0 k n p0 i1 (w64 (x8 + (1 : Int))) r5.2)) else (some (.exit 0, [], σ)))
termination_by structural n

theorem side_Table_Next_l0_is (k n : Nat) (p0 : Option Addr) (i1 : Int) (x8 : Int) (σ : AMem) : side_Table_Next_l0 k n p0 i1 x8 σ = d_side_Table_Next_l0 k n p0 i1 x8 σ := by
  induction n generalizing p0 i1 x8 σ with
  | zero => rfl
  | succ n ih => rw [side_Table_Next_l0_eq, d_side_Table_Next_l0]; simp only [side_Table_made_is, side_Table_get_is, ih]

noncomputable def d_side_Table_Next (k : Nat) (x0 : Option Addr) (x1 : Int) (x2 : Int) (σ : AMem) : Option (Value × AMem) := match k with
  | 0 => none
  | k + 1 => ((d_side_Table_made k x0 σ).bind fun r1 => (toB r1.1).bind fun b2 => bif !b2 then (some (.tuple #[.int .i64 (0 : Int), .int .i64 (5 : Int)], r1.2)) else ((d_side_Table_Next_l0 k k x0 x2 (if (0 : Int) > x1 then (0 : Int) else x1) r1.2).bind fun r7 => if r7.1 = .exit 0 then (some (.tuple #[.int .i64 (0 : Int), .int .i64 (4 : Int)], r7.2.2)) else if r7.1 = .ret then (u_ii r7.2.1 fun n8 n9 => some (.tuple #[.int .i64 n8, .int .i64 n9], r7.2.2)) else none))

theorem side_Table_Next_is (k : Nat) (x0 : Option Addr) (x1 : Int) (x2 : Int) (σ : AMem) : side_Table_Next k x0 x1 x2 σ = d_side_Table_Next k x0 x1 x2 σ := by
  cases k with
  | zero => rfl
  | succ k => rw [side_Table_Next_eq, d_side_Table_Next]; simp only [side_Table_made_is, side_Table_get_is, side_Table_Next_l0_is]

noncomputable def d_heap_Heap_between_l0 (k n : Nat) (p0 : Option Addr) (i1 : Int) (x7 : Option Addr × Nat × Nat) (x8 : Int) (x9 : Int) (σ : AMem) : Option LOut := match n with
  | 0 => none
  | n + 1 => ((bif x9 == (0 : Int) then some (decide ((w64 ((2 : Int) * x8)) < i1), σ) else some (false, σ)).bind fun r6 => bif r6.1 then (allocK r6.2 (.cells [.int .i64 (w64 ((2 : Int) * x8))] 3 true) fun h7 s8 => (appendD P 3 (x7.1, x7.2.1, x7.2.2) (some ⟨h7, 0, none⟩, 1, 1) s8).bind fun r9 => p0.bind fun a10 => (ldP r9.2 a10.block (a10.off + 2)).bind fun p11 => (d_side_Table_Next k p11 (w64 (x8 + (1 : Int))) (1 : Int) r9.2).bind fun r12 => r_ii r12.1 fun n13 n14 => d_heap_Heap_between_l0 k n p0 i1 (r9.1.1, r9.1.2.1, r9.1.2.2) n13 n14 r12.2) else (some (.exit 0, [.slice x7.1 x7.2.1 x7.2.2], r6.2)))
termination_by structural n

theorem heap_Heap_between_l0_is (k n : Nat) (p0 : Option Addr) (i1 : Int) (x7 : Option Addr × Nat × Nat) (x8 : Int) (x9 : Int) (σ : AMem) : heap_Heap_between_l0 k n p0 i1 x7 x8 x9 σ = d_heap_Heap_between_l0 k n p0 i1 x7 x8 x9 σ := by
  induction n generalizing p0 i1 x7 x8 x9 σ with
  | zero => rfl
  | succ n ih => rw [heap_Heap_between_l0_eq, d_heap_Heap_between_l0]; simp only [side_Table_Next_is, ih]

noncomputable def d_heap_Heap_between (k : Nat) (x0 : Option Addr) (x1 : Int) (x2 : Int) (σ : AMem) : Option (Value × AMem) := match k with
  | 0 => none
  | k + 1 => (x0.bind fun a1 => (ldP σ a1.block (a1.off + 2)).bind fun p2 => if (2 : Int) = 0 then none else (d_side_Table_Next k p2 (w64 (x1.tdiv (2 : Int))) (1 : Int) σ).bind fun r3 => r_ii r3.1 fun n4 n5 => (d_heap_Heap_between_l0 k k x0 x2 (none, 0, 0) n4 n5 r3.2).bind fun r15 => if r15.1 = .exit 0 then (u_l r15.2.1 fun l16 => some (.slice l16.1 l16.2.1 l16.2.2, r15.2.2)) else none)

theorem heap_Heap_between_is (k : Nat) (x0 : Option Addr) (x1 : Int) (x2 : Int) (σ : AMem) : heap_Heap_between k x0 x1 x2 σ = d_heap_Heap_between k x0 x1 x2 σ := by
  cases k with
  | zero => rfl
  | succ k => rw [heap_Heap_between_eq, d_heap_Heap_between]; simp only [side_Table_Next_is, heap_Heap_between_l0_is]

noncomputable def d_heap_Heap_Objects (k : Nat) (x0 : Option Addr) (x1 : Int) (σ : AMem) : Option (Value × AMem) := match k with
  | 0 => none
  | k + 1 => ((d_heap_Heap_made k x0 σ).bind fun r1 => (toB r1.1).bind fun b2 => (bif !b2 then some (true, r1.2) else some (decide (x1 < (0 : Int)), r1.2)).bind fun r3 => (bif r3.1 then some (true, r3.2) else x0.bind fun a4 => (ldS r3.2 a4.block (a4.off + 0)).bind fun l5 => some (decide (x1 ≥ ((l5.2.1 : Nat) : Int)), r3.2)).bind fun r6 => bif r6.1 then (some (.slice none 0 0, r6.2)) else ((d_heap_Heap_between k x0 (w64 (x1 * (64 : Int))) (w64 ((w64 (x1 + (1 : Int))) * (64 : Int))) r6.2).bind fun r7 => (toS r7.1).bind fun l8 => some (.slice l8.1 l8.2.1 l8.2.2, r7.2)))

theorem heap_Heap_Objects_is (k : Nat) (x0 : Option Addr) (x1 : Int) (σ : AMem) : heap_Heap_Objects k x0 x1 σ = d_heap_Heap_Objects k x0 x1 σ := by
  cases k with
  | zero => rfl
  | succ k => rw [heap_Heap_Objects_eq, d_heap_Heap_Objects]; simp only [heap_Heap_made_is, heap_Heap_between_is]

noncomputable def d_heap_Heap_Gaps_l0 (k n : Nat) (p0 : Option Addr) (h1 : Nat) (h2 : Nat) (p3 : Option Addr) (c4 : Nat) (c5 : Nat) (i6 : Int) (x21 : Int) (σ : AMem) : Option LOut := match n with
  | 0 => none
  | n + 1 => (bif decide (x21 < i6) then (if 0 ≤ x21 ∧ x21 < (c4 : Nat) then p3.bind fun a10 => (ldI .i64 σ a10.block (a10.off + x21.toNat * 1)).bind fun n11 => (d_heap_Heap_Gaps_c1 k n11 (some ⟨h1, 0, none⟩) (some ⟨h2, 0, none⟩) σ).bind fun r12 => r_0 r12.1 ((d_heap_Heap_size k p0 n11 r12.2).bind fun r13 => (toI .i64 r13.1).bind fun n14 => (st1 r13.2 h1 0 (.int .i64 (w64 (n11 + n14)))).bind fun s15 => d_heap_Heap_Gaps_l0 k n p0 h1 h2 p3 c4 c5 i6 (w64 (x21 + (1 : Int))) s15) else none) else (some (.exit 0, [], σ)))
termination_by structural n

theorem heap_Heap_Gaps_l0_is (k n : Nat) (p0 : Option Addr) (h1 : Nat) (h2 : Nat) (p3 : Option Addr) (c4 : Nat) (c5 : Nat) (i6 : Int) (x21 : Int) (σ : AMem) : heap_Heap_Gaps_l0 k n p0 h1 h2 p3 c4 c5 i6 x21 σ = d_heap_Heap_Gaps_l0 k n p0 h1 h2 p3 c4 c5 i6 x21 σ := by
  induction n generalizing p0 h1 h2 p3 c4 c5 i6 x21 σ with
  | zero => rfl
  | succ n ih => rw [heap_Heap_Gaps_l0_eq, d_heap_Heap_Gaps_l0]; simp only [heap_Heap_size_is, heap_Heap_used_is, heap_Heap_Gaps_c1_is, heap_Heap_Objects_is, ih]

noncomputable def d_heap_Heap_Gaps (k : Nat) (x0 : Option Addr) (x1 : Int) (σ : AMem) : Option (Value × AMem) := match k with
  | 0 => none
  | k + 1 => ((d_heap_Heap_used k x0 x1 σ).bind fun r1 => (toB r1.1).bind fun b2 => bif !b2 then (some (.slice none 0 0, r1.2)) else (allocK r1.2 (.cells [.slice none 0 0] 118 true) fun h3 s4 => allocK s4 (.cells [.int .i64 (0 : Int)] 3 true) fun h5 s6 => (st1 s6 h5 0 (.int .i64 (w64 (x1 * (64 : Int))))).bind fun s7 => (d_heap_Heap_Objects k x0 x1 s7).bind fun r8 => (toS r8.1).bind fun l9 => (d_heap_Heap_Gaps_l0 k k x0 h5 h3 l9.1 l9.2.1 l9.2.2 ((l9.2.1 : Nat) : Int) (0 : Int) r8.2).bind fun r16 => if r16.1 = .exit 0 then ((d_heap_Heap_Gaps_c1 k (w64 ((w64 (x1 + (1 : Int))) * (64 : Int))) (some ⟨h5, 0, none⟩) (some ⟨h3, 0, none⟩) r16.2.2).bind fun r17 => r_0 r17.1 ((ldS r17.2 h3 0).bind fun l18 => some (.slice l18.1 l18.2.1 l18.2.2, r17.2))) else none))

theorem heap_Heap_Gaps_is (k : Nat) (x0 : Option Addr) (x1 : Int) (σ : AMem) : heap_Heap_Gaps k x0 x1 σ = d_heap_Heap_Gaps k x0 x1 σ := by
  cases k with
  | zero => rfl
  | succ k => rw [heap_Heap_Gaps_eq, d_heap_Heap_Gaps]; simp only [heap_Heap_size_is, heap_Heap_used_is, heap_Heap_Gaps_c1_is, heap_Heap_Objects_is, heap_Heap_Gaps_l0_is]

noncomputable def d_alloc_Allocator_gaps_l1 (k n : Nat) (i0 : Int) (i1 : Int) (p2 : Option Addr) (c3 : Nat) (c4 : Nat) (i5 : Int) (x7 : Option Addr × Nat × Nat) (x27 : Int) (σ : AMem) : Option LOut := match n with
  | 0 => none
  | n + 1 => (bif decide (x27 < i5) then (if 0 ≤ x27 ∧ x27 < (c3 : Nat) then p2.bind fun a9 => (ldI .i64 σ a9.block (a9.off + x27.toNat * 2)).bind fun n10 => (ldI .i64 σ a9.block (a9.off + x27.toNat * 2 + 1)).bind fun n11 => allocK σ (.cells [.int .i64 (0 : Int), .int .i64 (0 : Int)] 121 true) fun h12 s13 => (stN s13 h12 0 [.int .i64 n10, .int .i64 n11]).bind fun s14 => (ldI .i64 s14 h12 (0 + 0)).bind fun n15 => (bif decide ((w64 (i0 - n15)) > (0 : Int)) then ((ldI .i64 s14 h12 (0 + 1)).bind fun n16 => (st1 s14 h12 (0 + 0) (.int .i64 i0)).bind fun s17 => (st1 s17 h12 (0 + 1) (.int .i64 (w64 (n16 - (w64 (i0 - n15)))))).bind fun s18 => some (.normal, [], s18)) else (some (.normal, [], s14)) : Option LOut).bind fun r19 => if r19.1 = .normal then ((ldI .i64 r19.2.2 h12 (0 + 1)).bind fun n20 => (bif decide (n20 ≥ i1) then ((ldI .i64 r19.2.2 h12 0).bind fun n21 => (ldI .i64 r19.2.2 h12 (0 + 1)).bind fun n22 => allocK r19.2.2 (.cells [.int .i64 n21, .int .i64 n22] 121 true) fun h23 s24 => (appendD P 121 (x7.1, x7.2.1, x7.2.2) (some ⟨h23, 0, none⟩, 1, 1) s24).bind fun r25 => some (.normal, [.slice r25.1.1 r25.1.2.1 r25.1.2.2], r25.2)) else (some (.normal, [.slice x7.1 x7.2.1 x7.2.2], r19.2.2)) : Option LOut).bind fun r26 => if r26.1 = .normal then (u_l r26.2.1 fun l27 => d_alloc_Allocator_gaps_l1 k n i0 i1 p2 c3 c4 i5 (l27.1, l27.2.1, l27.2.2) (w64 (x27 + (1 : Int))) r26.2.2) else none) else none else none) else (some (.exit 2, [.slice x7.1 x7.2.1 x7.2.2], σ)))
termination_by structural n

theorem alloc_Allocator_gaps_l1_is (k n : Nat) (i0 : Int) (i1 : Int) (p2 : Option Addr) (c3 : Nat) (c4 : Nat) (i5 : Int) (x7 : Option Addr × Nat × Nat) (x27 : Int) (σ : AMem) : alloc_Allocator_gaps_l1 k n i0 i1 p2 c3 c4 i5 x7 x27 σ = d_alloc_Allocator_gaps_l1 k n i0 i1 p2 c3 c4 i5 x7 x27 σ := by
  induction n generalizing i0 i1 p2 c3 c4 i5 x7 x27 σ with
  | zero => rfl
  | succ n ih => rw [alloc_Allocator_gaps_l1_eq, d_alloc_Allocator_gaps_l1]; simp only [alloc_Allocator_blocks_is, heap_Heap_Gaps_is, ih]

noncomputable def d_alloc_Allocator_gaps_l0 (k n : Nat) (p0 : Option Addr) (i1 : Int) (i2 : Int) (p3 : Option Addr) (c4 : Nat) (c5 : Nat) (i6 : Int) (x7 : Option Addr × Nat × Nat) (x16 : Int) (σ : AMem) : Option LOut := match n with
  | 0 => none
  | n + 1 => (bif decide (x16 < i6) then (if 0 ≤ x16 ∧ x16 < (c4 : Nat) then p3.bind fun a3 => (ldI .i64 σ a3.block (a3.off + x16.toNat * 1)).bind fun n4 => p0.bind fun a5 => (ldP σ a5.block (a5.off + 0)).bind fun p6 => (d_heap_Heap_Gaps k p6 n4 σ).bind fun r7 => (toS r7.1).bind fun l8 => (d_alloc_Allocator_gaps_l1 k k i1 i2 l8.1 l8.2.1 l8.2.2 ((l8.2.1 : Nat) : Int) (x7.1, x7.2.1, x7.2.2) (0 : Int) r7.2).bind fun r28 => if r28.1 = .exit 2 then (u_l r28.2.1 fun l29 => d_alloc_Allocator_gaps_l0 k n p0 i1 i2 p3 c4 c5 i6 (l29.1, l29.2.1, l29.2.2) (w64 (x16 + (1 : Int))) r28.2.2) else none else none) else (some (.exit 0, [.slice x7.1 x7.2.1 x7.2.2], σ)))
termination_by structural n

theorem alloc_Allocator_gaps_l0_is (k n : Nat) (p0 : Option Addr) (i1 : Int) (i2 : Int) (p3 : Option Addr) (c4 : Nat) (c5 : Nat) (i6 : Int) (x7 : Option Addr × Nat × Nat) (x16 : Int) (σ : AMem) : alloc_Allocator_gaps_l0 k n p0 i1 i2 p3 c4 c5 i6 x7 x16 σ = d_alloc_Allocator_gaps_l0 k n p0 i1 i2 p3 c4 c5 i6 x7 x16 σ := by
  induction n generalizing p0 i1 i2 p3 c4 c5 i6 x7 x16 σ with
  | zero => rfl
  | succ n ih => rw [alloc_Allocator_gaps_l0_eq, d_alloc_Allocator_gaps_l0]; simp only [alloc_Allocator_blocks_is, heap_Heap_Gaps_is, alloc_Allocator_gaps_l1_is, ih]

noncomputable def d_alloc_Allocator_gaps (k : Nat) (x0 : Option Addr) (x1 : Int) (x2 : Int) (σ : AMem) : Option (Value × AMem) := match k with
  | 0 => none
  | k + 1 => ((d_alloc_Allocator_blocks k x0 σ).bind fun r1 => (toS r1.1).bind fun l2 => (d_alloc_Allocator_gaps_l0 k k x0 x1 x2 l2.1 l2.2.1 l2.2.2 ((l2.2.1 : Nat) : Int) (none, 0, 0) (0 : Int) r1.2).bind fun r30 => if r30.1 = .exit 0 then (u_l r30.2.1 fun l31 => some (.slice l31.1 l31.2.1 l31.2.2, r30.2.2)) else none)

theorem alloc_Allocator_gaps_is (k : Nat) (x0 : Option Addr) (x1 : Int) (x2 : Int) (σ : AMem) : alloc_Allocator_gaps k x0 x1 x2 σ = d_alloc_Allocator_gaps k x0 x1 x2 σ := by
  cases k with
  | zero => rfl
  | succ k => rw [alloc_Allocator_gaps_eq, d_alloc_Allocator_gaps]; simp only [alloc_Allocator_blocks_is, heap_Heap_Gaps_is, alloc_Allocator_gaps_l1_is, alloc_Allocator_gaps_l0_is]

noncomputable def d_alloc_first_place (k : Nat) (x1 : Option Addr) (x2 : Int) (σ : AMem) : Option (Value × AMem) := match k with
  | 0 => none
  | k + 1 => (allocK σ (.cells [] 71 true) fun h1 s2 => (d_alloc_Allocator_gaps k x1 (0 : Int) x2 s2).bind fun r3 => (toS r3.1).bind fun l4 => (d_alloc_Allocator_start k x1 (l4.1, l4.2.1, l4.2.2) r3.2).bind fun r5 => r_it r5.1 fun n6 b7 => some (.tuple #[.int .i64 n6, .bool b7], r5.2))

theorem alloc_first_place_is (k : Nat) (x1 : Option Addr) (x2 : Int) (σ : AMem) : alloc_first_place k x1 x2 σ = d_alloc_first_place k x1 x2 σ := by
  cases k with
  | zero => rfl
  | succ k => rw [alloc_first_place_eq, d_alloc_first_place]; simp only [alloc_Allocator_start_is, alloc_Allocator_gaps_is]

noncomputable def d_alloc_best_place_c1 (k : Nat) (x0_0 : Int) (x0_1 : Int) (x1_0 : Int) (x1_1 : Int) (σ : AMem) : Option (Value × AMem) := match k with
  | 0 => none
  | k + 1 => (allocK σ (.cells [.int .i64 x0_0, .int .i64 x0_1] 121 true) fun h1 s2 => allocK s2 (.cells [.int .i64 x1_0, .int .i64 x1_1] 121 true) fun h3 s4 => (ldI .i64 s4 h1 (0 + 1)).bind fun n5 => (ldI .i64 s4 h3 (0 + 1)).bind fun n6 => some (.int .i64 (w64 (n5 - n6)), s4))

theorem alloc_best_place_c1_is (k : Nat) (x0_0 : Int) (x0_1 : Int) (x1_0 : Int) (x1_1 : Int) (σ : AMem) : alloc_best_place_c1 k x0_0 x0_1 x1_0 x1_1 σ = d_alloc_best_place_c1 k x0_0 x0_1 x1_0 x1_1 σ := by
  cases k with
  | zero => rfl
  | succ k => rw [alloc_best_place_c1_eq, d_alloc_best_place_c1]

noncomputable def d_callN3 (k : Nat) (n : FuncId) (l : List Value) (σ : AMem) : Option (Value × AMem) :=
  if n = 94 then (match l with
    | [.agg ⟨[.int .i64 y1, .int .i64 y2]⟩, .agg ⟨[.int .i64 y3, .int .i64 y4]⟩] => d_alloc_best_place_c1 k y1 y2 y3 y4 σ
    | l => fn P X2 H k 94 l σ) else
  fn P X2 H k n l σ

theorem callN3_is (k : Nat) (n : FuncId) (l : List Value) (σ : AMem) : fn P X2 H k n l σ = d_callN3 k n l σ := by
  unfold d_callN3
  split
  · rename_i hn; subst hn
    split
    · exact alloc_best_place_c1_is k _ _ _ _ σ
    · rfl
  rfl

noncomputable def d_callV3 (k : Nat) (f : Value) (args : List Value) (σ : AMem) : Option (Value × AMem) := match f with
  | .func (.func n) first cap => d_callN3 k n (first.toList ++ args ++ cap.toList) σ
  | .func (.method nm) first _ => (match first.toList ++ args with
    | .iface t v :: rest => (methodF P t nm).bind fun n => d_callN3 k n (v :: rest) σ
    | _ => none)
  | _ => none

theorem callV3_is (k : Nat) (f : Value) (args : List Value) (σ : AMem) : callV3 k f args σ = d_callV3 k f args σ := by
  unfold callV3 callVal d_callV3
  simp only [callN3_is]
  rfl

noncomputable def d_slices_insertionSortCmpFunc_api_Run_l1 (k n : Nat) (p0 : Option Addr) (c1 : Nat) (c2 : Nat) (i3 : Int) (v4 : Value) (x9 : Int) (σ : AMem) : Option LOut := match n with
  | 0 => none
  | n + 1 => ((bif decide (x9 > i3) then if 0 ≤ x9 ∧ x9 < (c1 : Nat) then p0.bind fun a1 => (ldI .i64 σ a1.block (a1.off + x9.toNat * 2)).bind fun n2 => (ldI .i64 σ a1.block (a1.off + x9.toNat * 2 + 1)).bind fun n3 => if 0 ≤ (w64 (x9 - (1 : Int))) ∧ (w64 (x9 - (1 : Int))) < (c1 : Nat) then p0.bind fun a4 => (ldI .i64 σ a4.block (a4.off + (w64 (x9 - (1 : Int))).toNat * 2)).bind fun n5 => (ldI .i64 σ a4.block (a4.off + (w64 (x9 - (1 : Int))).toNat * 2 + 1)).bind fun n6 => (d_callV3 k v4 [.agg #[.int .i64 n2, .int .i64 n3], .agg #[.int .i64 n5, .int .i64 n6]] σ).bind fun r7 => (toI .i64 r7.1).bind fun n8 => some (decide (n8 < (0 : Int)), r7.2) else none else none else some (false, σ)).bind fun r9 => bif r9.1 then (if 0 ≤ (w64 (x9 - (1 : Int))) ∧ (w64 (x9 - (1 : Int))) < (c1 : Nat) then p0.bind fun a10 => (ldI .i64 r9.2 a10.block (a10.off + (w64 (x9 - (1 : Int))).toNat * 2)).bind fun n11 => (ldI .i64 r9.2 a10.block (a10.off + (w64 (x9 - (1 : Int))).toNat * 2 + 1)).bind fun n12 => if 0 ≤ x9 ∧ x9 < (c1 : Nat) then p0.bind fun a13 => (ldI .i64 r9.2 a13.block (a13.off + x9.toNat * 2)).bind fun n14 => (ldI .i64 r9.2 a13.block (a13.off + x9.toNat * 2 + 1)).bind fun n15 => if 0 ≤ x9 ∧ x9 < (c1 : Nat) then p0.bind fun a16 => (stN r9.2 a16.block (a16.off + x9.toNat * 2) [.int .i64 n11, .int .i64 n12]).bind fun s17 => if 0 ≤ (w64 (x9 - (1 : Int))) ∧ (w64 (x9 - (1 : Int))) < (c1 : Nat) then p0.bind fun a18 => (stN s17 a18.block (a18.off + (w64 (x9 - (1 : Int))).toNat * 2) [.int .i64 n14, .int .i64 n15]).bind fun s19 => d_slices_insertionSortCmpFunc_api_Run_l1 k n p0 c1 c2 i3 v4 (w64 (x9 - (1 : Int))) s19 else none else none else none else none) else (some (.exit 2, [], r9.2)))
termination_by structural n

theorem slices_insertionSortCmpFunc_api_Run_l1_is (k n : Nat) (p0 : Option Addr) (c1 : Nat) (c2 : Nat) (i3 : Int) (v4 : Value) (x9 : Int) (σ : AMem) : slices_insertionSortCmpFunc_api_Run_l1 k n p0 c1 c2 i3 v4 x9 σ = d_slices_insertionSortCmpFunc_api_Run_l1 k n p0 c1 c2 i3 v4 x9 σ := by
  induction n generalizing p0 c1 c2 i3 v4 x9 σ with
  | zero => rfl
  | succ n ih => rw [slices_insertionSortCmpFunc_api_Run_l1_eq, d_slices_insertionSortCmpFunc_api_Run_l1]; simp only [callV3_is, ih]

noncomputable def d_slices_insertionSortCmpFunc_api_Run_l0 (k n : Nat) (p0 : Option Addr) (c1 : Nat) (c2 : Nat) (i3 : Int) (i4 : Int) (v5 : Value) (x8 : Int) (σ : AMem) : Option LOut := match n with
  | 0 => none
  | n + 1 => (bif decide (x8 < i4) then ((d_slices_insertionSortCmpFunc_api_Run_l1 k k p0 c1 c2 i3 v5 x8 σ).bind fun r20 => if r20.1 = .exit 2 then (d_slices_insertionSortCmpFunc_api_Run_l0 k n p0 c1 c2 i3 i4 v5 (w64 (x8 + (1 : Int))) r20.2.2) else none) else (some (.exit 0, [], σ)))
termination_by structural n

theorem slices_insertionSortCmpFunc_api_Run_l0_is (k n : Nat) (p0 : Option Addr) (c1 : Nat) (c2 : Nat) (i3 : Int) (i4 : Int) (v5 : Value) (x8 : Int) (σ : AMem) : slices_insertionSortCmpFunc_api_Run_l0 k n p0 c1 c2 i3 i4 v5 x8 σ = d_slices_insertionSortCmpFunc_api_Run_l0 k n p0 c1 c2 i3 i4 v5 x8 σ := by
  induction n generalizing p0 c1 c2 i3 i4 v5 x8 σ with
  | zero => rfl
  | succ n ih => rw [slices_insertionSortCmpFunc_api_Run_l0_eq, d_slices_insertionSortCmpFunc_api_Run_l0]; simp only [callV3_is, slices_insertionSortCmpFunc_api_Run_l1_is, ih]

noncomputable def d_slices_insertionSortCmpFunc_api_Run (k : Nat) (x0 : Option Addr × Nat × Nat) (x1 : Int) (x2 : Int) (x3 : Value) (σ : AMem) : Option (Value × AMem) := match k with
  | 0 => none
  | k + 1 => ((d_slices_insertionSortCmpFunc_api_Run_l0 k k x0.1 x0.2.1 x0.2.2 x1 x2 x3 (w64 (x1 + (1 : Int))) σ).bind fun r21 => if r21.1 = .exit 0 then (some (.tuple #[], r21.2.2)) else none)

theorem slices_insertionSortCmpFunc_api_Run_is (k : Nat) (x0 : Option Addr × Nat × Nat) (x1 : Int) (x2 : Int) (x3 : Value) (σ : AMem) : slices_insertionSortCmpFunc_api_Run k x0 x1 x2 x3 σ = d_slices_insertionSortCmpFunc_api_Run k x0 x1 x2 x3 σ := by
  cases k with
  | zero => rfl
  | succ k => rw [slices_insertionSortCmpFunc_api_Run_eq, d_slices_insertionSortCmpFunc_api_Run]; simp only [callV3_is, slices_insertionSortCmpFunc_api_Run_l1_is, slices_insertionSortCmpFunc_api_Run_l0_is]

noncomputable def d_slices_symMergeCmpFunc_api_Run (k : Nat) (x0 : Option Addr × Nat × Nat) (x1 : Int) (x2 : Int) (x3 : Int) (x4 : Value) (σ : AMem) : Option (Value × AMem) := slices_symMergeCmpFunc_api_Run k x0 x1 x2 x3 x4 σ
theorem slices_symMergeCmpFunc_api_Run_is (k : Nat) (x0 : Option Addr × Nat × Nat) (x1 : Int) (x2 : Int) (x3 : Int) (x4 : Value) (σ : AMem) : slices_symMergeCmpFunc_api_Run k x0 x1 x2 x3 x4 σ = d_slices_symMergeCmpFunc_api_Run k x0 x1 x2 x3 x4 σ := rfl

noncomputable def d_slices_stableCmpFunc_api_Run_l0 (k n : Nat) (p0 : Option Addr) (c1 : Nat) (c2 : Nat) (i3 : Int) (v4 : Value) (x7 : Int) (x8 : Int) (σ : AMem) : Option LOut := match n with
  | 0 => none
  | n + 1 => (bif decide (x8 ≤ i3) then ((d_slices_insertionSortCmpFunc_api_Run k (p0, c1, c2) x7 x8 (v4) σ).bind fun r1 => r_0 r1.1 (d_slices_stableCmpFunc_api_Run_l0 k n p0 c1 c2 i3 v4 x8 (w64 (x8 + (20 : Int))) r1.2)) else (some (.exit 0, [.int .i64 x7], σ)))
termination_by structural n

theorem slices_stableCmpFunc_api_Run_l0_is (k n : Nat) (p0 : Option Addr) (c1 : Nat) (c2 : Nat) (i3 : Int) (v4 : Value) (x7 : Int) (x8 : Int) (σ : AMem) : slices_stableCmpFunc_api_Run_l0 k n p0 c1 c2 i3 v4 x7 x8 σ = d_slices_stableCmpFunc_api_Run_l0 k n p0 c1 c2 i3 v4 x7 x8 σ := by
  induction n generalizing p0 c1 c2 i3 v4 x7 x8 σ with
  | zero => rfl
  | succ n ih => rw [slices_stableCmpFunc_api_Run_l0_eq, d_slices_stableCmpFunc_api_Run_l0]; simp only [slices_insertionSortCmpFunc_api_Run_is, slices_symMergeCmpFunc_api_Run_is, ih]

noncomputable def d_slices_stableCmpFunc_api_Run_l2 (k n : Nat) (p0 : Option Addr) (c1 : Nat) (c2 : Nat) (i3 : Int) (v4 : Value) (i5 : Int) (x7 : Int) (x8 : Int) (σ : AMem) : Option LOut := match n with
  | 0 => none
  | n + 1 => (bif decide (x8 ≤ i3) then ((d_slices_symMergeCmpFunc_api_Run k (p0, c1, c2) x7 (w64 (x7 + i5)) x8 (v4) σ).bind fun r5 => r_0 r5.1 (d_slices_stableCmpFunc_api_Run_l2 k n p0 c1 c2 i3 v4 i5 x8 (w64 (x8 + (w64 ((2 : Int) * i5)))) r5.2)) else (some (.exit 4, [.int .i64 x7], σ)))
termination_by structural n

theorem slices_stableCmpFunc_api_Run_l2_is (k n : Nat) (p0 : Option Addr) (c1 : Nat) (c2 : Nat) (i3 : Int) (v4 : Value) (i5 : Int) (x7 : Int) (x8 : Int) (σ : AMem) : slices_stableCmpFunc_api_Run_l2 k n p0 c1 c2 i3 v4 i5 x7 x8 σ = d_slices_stableCmpFunc_api_Run_l2 k n p0 c1 c2 i3 v4 i5 x7 x8 σ := by
  induction n generalizing p0 c1 c2 i3 v4 i5 x7 x8 σ with
  | zero => rfl
  | succ n ih => rw [slices_stableCmpFunc_api_Run_l2_eq, d_slices_stableCmpFunc_api_Run_l2]; simp only [slices_insertionSortCmpFunc_api_Run_is, slices_symMergeCmpFunc_api_Run_is, slices_stableCmpFunc_api_Run_l0_is, ih]

noncomputable def d_slices_stableCmpFunc_api_Run_l1 (k n : Nat) (p0 : Option Addr) (c1 : Nat) (c2 : Nat) (i3 : Int) (v4 : Value) (x6 : Int) (σ : AMem) : Option LOut := match n with
  | 0 => none
  | n + 1 => (bif decide (x6 < i3) then ((d_slices_stableCmpFunc_api_Run_l2 k k p0 c1 c2 i3 v4 x6 (0 : Int) (w64 ((2 : Int) * x6)) σ).bind fun r6 => if r6.1 = .exit 4 then (u_i r6.2.1 fun n7 => (bif decide ((w64 (n7 + x6)) < i3) then ((d_slices_symMergeCmpFunc_api_Run k (p0, c1, c2) n7 (w64 (n7 + x6)) i3 (v4) r6.2.2).bind fun r8 => r_0 r8.1 (some (.normal, [], r8.2))) else (some (.normal, [], r6.2.2)) : Option LOut).bind fun r9 => if r9.1 = .normal then (d_slices_stableCmpFunc_api_Run_l1 k n p0 c1 c2 i3 v4 (w64 (x6 * (2 : Int))) r9.2.2) else none) else none) else (some (.exit 2, [], σ)))
termination_by structural n

theorem slices_stableCmpFunc_api_Run_l1_is (k n : Nat) (p0 : Option Addr) (c1 : Nat) (c2 : Nat) (i3 : Int) (v4 : Value) (x6 : Int) (σ : AMem) : slices_stableCmpFunc_api_Run_l1 k n p0 c1 c2 i3 v4 x6 σ = d_slices_stableCmpFunc_api_Run_l1 k n p0 c1 c2 i3 v4 x6 σ := by
  induction n generalizing p0 c1 c2 i3 v4 x6 σ with
  | zero => rfl
  | succ n ih => rw [slices_stableCmpFunc_api_Run_l1_eq, d_slices_stableCmpFunc_api_Run_l1]; simp only [slices_insertionSortCmpFunc_api_Run_is, slices_symMergeCmpFunc_api_Run_is, slices_stableCmpFunc_api_Run_l0_is, slices_stableCmpFunc_api_Run_l2_is, ih]

noncomputable def d_slices_stableCmpFunc_api_Run (k : Nat) (x0 : Option Addr × Nat × Nat) (x1 : Int) (x2 : Value) (σ : AMem) : Option (Value × AMem) := match k with
  | 0 => none
  | k + 1 => ((d_slices_stableCmpFunc_api_Run_l0 k k x0.1 x0.2.1 x0.2.2 x1 x2 (0 : Int) (20 : Int) σ).bind fun r2 => if r2.1 = .exit 0 then (u_i r2.2.1 fun n3 => (d_slices_insertionSortCmpFunc_api_Run k (x0.1, x0.2.1, x0.2.2) n3 x1 (x2) r2.2.2).bind fun r4 => r_0 r4.1 ((d_slices_stableCmpFunc_api_Run_l1 k k x0.1 x0.2.1 x0.2.2 x1 x2 (20 : Int) r4.2).bind fun r10 => if r10.1 = .exit 2 then (some (.tuple #[], r10.2.2)) else none)) else none)

theorem slices_stableCmpFunc_api_Run_is (k : Nat) (x0 : Option Addr × Nat × Nat) (x1 : Int) (x2 : Value) (σ : AMem) : slices_stableCmpFunc_api_Run k x0 x1 x2 σ = d_slices_stableCmpFunc_api_Run k x0 x1 x2 σ := by
  cases k with
  | zero => rfl
  | succ k => rw [slices_stableCmpFunc_api_Run_eq, d_slices_stableCmpFunc_api_Run]; simp only [slices_insertionSortCmpFunc_api_Run_is, slices_symMergeCmpFunc_api_Run_is, slices_stableCmpFunc_api_Run_l0_is, slices_stableCmpFunc_api_Run_l2_is, slices_stableCmpFunc_api_Run_l1_is]

noncomputable def d_slices_SortStableFunc_api_Run (k : Nat) (x0 : Option Addr × Nat × Nat) (x1 : Value) (σ : AMem) : Option (Value × AMem) := match k with
  | 0 => none
  | k + 1 => ((d_slices_stableCmpFunc_api_Run k (x0.1, x0.2.1, x0.2.2) ((x0.2.1 : Nat) : Int) (x1) σ).bind fun r1 => r_0 r1.1 (some (.tuple #[], r1.2)))

theorem slices_SortStableFunc_api_Run_is (k : Nat) (x0 : Option Addr × Nat × Nat) (x1 : Value) (σ : AMem) : slices_SortStableFunc_api_Run k x0 x1 σ = d_slices_SortStableFunc_api_Run k x0 x1 σ := by
  cases k with
  | zero => rfl
  | succ k => rw [slices_SortStableFunc_api_Run_eq, d_slices_SortStableFunc_api_Run]; simp only [slices_stableCmpFunc_api_Run_is]

noncomputable def d_alloc_best_place (k : Nat) (x1 : Option Addr) (x2 : Int) (σ : AMem) : Option (Value × AMem) := match k with
  | 0 => none
  | k + 1 => (allocK σ (.cells [] 72 true) fun h1 s2 => (d_alloc_Allocator_gaps k x1 (0 : Int) x2 s2).bind fun r3 => (toS r3.1).bind fun l4 => (d_slices_SortStableFunc_api_Run k (l4.1, l4.2.1, l4.2.2) (.func (.func 94) #[] #[]) r3.2).bind fun r5 => r_0 r5.1 ((d_alloc_Allocator_start k x1 (l4.1, l4.2.1, l4.2.2) r5.2).bind fun r6 => r_it r6.1 fun n7 b8 => some (.tuple #[.int .i64 n7, .bool b8], r6.2)))

theorem alloc_best_place_is (k : Nat) (x1 : Option Addr) (x2 : Int) (σ : AMem) : alloc_best_place k x1 x2 σ = d_alloc_best_place k x1 x2 σ := by
  cases k with
  | zero => rfl
  | succ k => rw [alloc_best_place_eq, d_alloc_best_place]; simp only [alloc_Allocator_start_is, alloc_Allocator_gaps_is, slices_SortStableFunc_api_Run_is]

noncomputable def d_alloc_next_place (k : Nat) (x1 : Option Addr) (x2 : Int) (σ : AMem) : Option (Value × AMem) := match k with
  | 0 => none
  | k + 1 => (allocK σ (.cells [] 73 true) fun h1 s2 => x1.bind fun a3 => (ldI .i64 s2 a3.block (a3.off + 3 + 0)).bind fun n4 => (d_alloc_Allocator_gaps k x1 n4 x2 s2).bind fun r5 => (toS r5.1).bind fun l6 => (d_alloc_Allocator_gaps k x1 (0 : Int) x2 r5.2).bind fun r7 => (toS r7.1).bind fun l8 => (appendD P 121 (l6.1, l6.2.1, l6.2.2) (l8.1, l8.2.1, l8.2.2) r7.2).bind fun r9 => (d_alloc_Allocator_start k x1 (r9.1.1, r9.1.2.1, r9.1.2.2) r9.2).bind fun r10 => r_it r10.1 fun n11 b12 => (bif b12 then (x1.bind fun a13 => (st1 r10.2 a13.block (a13.off + 3 + 0) (.int .i64 (w64 (n11 + x2)))).bind fun s14 => some (.normal, [], s14)) else (some (.normal, [], r10.2)) : Option LOut).bind fun r15 => if r15.1 = .normal then (some (.tuple #[.int .i64 n11, .bool b12], r15.2.2)) else none)

theorem alloc_next_place_is (k : Nat) (x1 : Option Addr) (x2 : Int) (σ : AMem) : alloc_next_place k x1 x2 σ = d_alloc_next_place k x1 x2 σ := by
  cases k with
  | zero => rfl
  | succ k => rw [alloc_next_place_eq, d_alloc_next_place]; simp only [alloc_Allocator_start_is, alloc_Allocator_gaps_is]

noncomputable def d_alloc_area_has (k : Nat) (x0 : Option Addr) (x1 : Int) (σ : AMem) : Option (Value × AMem) := match k with
  | 0 => none
  | k + 1 => (x0.bind fun a1 => (ldI .i64 σ a1.block (a1.off + 1)).bind fun n2 => x0.bind fun a3 => (ldI .i64 σ a3.block (a3.off + 0)).bind fun n4 => some (.bool (decide ((w64 (n2 - n4)) ≥ x1)), σ))

theorem alloc_area_has_is (k : Nat) (x0 : Option Addr) (x1 : Int) (σ : AMem) : alloc_area_has k x0 x1 σ = d_alloc_area_has k x0 x1 σ := by
  cases k with
  | zero => rfl
  | succ k => rw [alloc_area_has_eq, d_alloc_area_has]

noncomputable def d_alloc_area_take (k : Nat) (x0 : Option Addr) (x1 : Int) (σ : AMem) : Option (Value × AMem) := match k with
  | 0 => none
  | k + 1 => (x0.bind fun a1 => (ldI .i64 σ a1.block (a1.off + 0)).bind fun n2 => x0.bind fun a3 => (st1 σ a3.block (a3.off + 0) (.int .i64 (w64 (n2 + x1)))).bind fun s4 => x0.bind fun a5 => (ldI .i64 s4 a5.block (a5.off + 0)).bind fun n6 => some (.int .i64 (w64 (n6 - x1)), s4))

theorem alloc_area_take_is (k : Nat) (x0 : Option Addr) (x1 : Int) (σ : AMem) : alloc_area_take k x0 x1 σ = d_alloc_area_take k x0 x1 σ := by
  cases k with
  | zero => rfl
  | succ k => rw [alloc_area_take_eq, d_alloc_area_take]

noncomputable def d_alloc_Allocator_bumped (k : Nat) (x0 : Option Addr) (x1 : Option Addr) (x2 : Int) (σ : AMem) : Option (Value × AMem) := match k with
  | 0 => none
  | k + 1 => ((d_alloc_area_has k x1 x2 σ).bind fun r1 => (toB r1.1).bind fun b2 => (bif !b2 then ((d_alloc_Allocator_begin k x0 r1.2).bind fun r3 => (toT r3.1).bind fun q4 => if q4.length = 2 then q4.head?.bind fun v5 => a_ii v5 fun n6 n7 => q4.tail.head?.bind fun v8 => (toB v8).bind fun b9 => allocK r3.2 (.cells [.int .i64 (0 : Int), .int .i64 (0 : Int)] 27 true) fun h10 s11 => (stN s11 h10 0 [.int .i64 n6, .int .i64 n7]).bind fun s12 => bif !b9 then (some (.ret, [.int .i64 (0 : Int), .bool false], s12)) else ((ldI .i64 s12 h10 0).bind fun n13 => (ldI .i64 s12 h10 (0 + 1)).bind fun n14 => x1.bind fun a15 => (stN s12 a15.block a15.off [.int .i64 n13, .int .i64 n14]).bind fun s16 => some (.normal, [], s16)) else none) else (some (.normal, [], r1.2)) : Option LOut).bind fun r17 => if r17.1 = .normal then ((d_alloc_area_take k x1 x2 r17.2.2).bind fun r18 => (toI .i64 r18.1).bind fun n19 => some (.tuple #[.int .i64 n19, .bool true], r18.2)) else if r17.1 = .ret then (u_it r17.2.1 fun n20 b21 => some (.tuple #[.int .i64 n20, .bool b21], r17.2.2)) else none)

theorem alloc_Allocator_bumped_is (k : Nat) (x0 : Option Addr) (x1 : Option Addr) (x2 : Int) (σ : AMem) : alloc_Allocator_bumped k x0 x1 x2 σ = d_alloc_Allocator_bumped k x0 x1 x2 σ := by
  cases k with
  | zero => rfl
  | succ k => rw [alloc_Allocator_bumped_eq, d_alloc_Allocator_bumped]; simp only [alloc_Allocator_begin_is, alloc_area_has_is, alloc_area_take_is]

noncomputable def d_alloc_bump_place (k : Nat) (x1 : Option Addr) (x2 : Int) (σ : AMem) : Option (Value × AMem) := match k with
  | 0 => none
  | k + 1 => (allocK σ (.cells [] 74 true) fun h1 s2 => x1.bind fun a3 => (d_alloc_Allocator_bumped k x1 (some ⟨a3.block, a3.off + 3, none⟩) x2 s2).bind fun r4 => r_it r4.1 fun n5 b6 => some (.tuple #[.int .i64 n5, .bool b6], r4.2))

theorem alloc_bump_place_is (k : Nat) (x1 : Option Addr) (x2 : Int) (σ : AMem) : alloc_bump_place k x1 x2 σ = d_alloc_bump_place k x1 x2 σ := by
  cases k with
  | zero => rfl
  | succ k => rw [alloc_bump_place_eq, d_alloc_bump_place]; simp only [alloc_Allocator_bumped_is]

noncomputable def d_heap_Heap_Lines_l1 (k n : Nat) (h0 : Nat) (c1 : Nat) (i2 : Int) (x10 : Int) (σ : AMem) : Option LOut := match n with
  | 0 => none
  | n + 1 => (if (8 : Int) = 0 then none else bif decide (x10 ≤ (w64 (i2.tdiv (8 : Int)))) then (if 0 ≤ x10 ∧ x10 < (c1 : Nat) then (st1 σ h0 (0 + x10.toNat * 1) (.bool true)).bind fun s11 => d_heap_Heap_Lines_l1 k n h0 c1 i2 (w64 (x10 + (1 : Int))) s11 else none) else (some (.exit 2, [], σ)))
termination_by structural n

theorem heap_Heap_Lines_l1_is (k n : Nat) (h0 : Nat) (c1 : Nat) (i2 : Int) (x10 : Int) (σ : AMem) : heap_Heap_Lines_l1 k n h0 c1 i2 x10 σ = d_heap_Heap_Lines_l1 k n h0 c1 i2 x10 σ := by
  induction n generalizing h0 c1 i2 x10 σ with
  | zero => rfl
  | succ n ih => rw [heap_Heap_Lines_l1_eq, d_heap_Heap_Lines_l1]; simp only [heap_Heap_size_is, heap_Heap_used_is, heap_Heap_Objects_is, ih]

noncomputable def d_heap_Heap_Lines_l0 (k n : Nat) (p0 : Option Addr) (h1 : Nat) (c2 : Nat) (p3 : Option Addr) (c4 : Nat) (c5 : Nat) (i6 : Int) (x20 : Int) (σ : AMem) : Option LOut := match n with
  | 0 => none
  | n + 1 => (bif decide (x20 < i6) then (if 0 ≤ x20 ∧ x20 < (c4 : Nat) then p3.bind fun a7 => (ldI .i64 σ a7.block (a7.off + x20.toNat * 1)).bind fun n8 => if (64 : Int) = 0 then none else if (64 : Int) = 0 then none else (d_heap_Heap_size k p0 n8 σ).bind fun r9 => (toI .i64 r9.1).bind fun n10 => if (8 : Int) = 0 then none else (d_heap_Heap_Lines_l1 k k h1 c2 (w64 ((w64 ((n8.tmod (64 : Int)) + n10)) - (1 : Int))) (w64 ((n8.tmod (64 : Int)).tdiv (8 : Int))) r9.2).bind fun r12 => if r12.1 = .exit 2 then (d_heap_Heap_Lines_l0 k n p0 h1 c2 p3 c4 c5 i6 (w64 (x20 + (1 : Int))) r12.2.2) else none else none) else (some (.exit 0, [], σ)))
termination_by structural n

theorem heap_Heap_Lines_l0_is (k n : Nat) (p0 : Option Addr) (h1 : Nat) (c2 : Nat) (p3 : Option Addr) (c4 : Nat) (c5 : Nat) (i6 : Int) (x20 : Int) (σ : AMem) : heap_Heap_Lines_l0 k n p0 h1 c2 p3 c4 c5 i6 x20 σ = d_heap_Heap_Lines_l0 k n p0 h1 c2 p3 c4 c5 i6 x20 σ := by
  induction n generalizing p0 h1 c2 p3 c4 c5 i6 x20 σ with
  | zero => rfl
  | succ n ih => rw [heap_Heap_Lines_l0_eq, d_heap_Heap_Lines_l0]; simp only [heap_Heap_size_is, heap_Heap_used_is, heap_Heap_Objects_is, heap_Heap_Lines_l1_is, ih]

noncomputable def d_heap_Heap_Lines (k : Nat) (x0 : Option Addr) (x1 : Int) (σ : AMem) : Option (Value × AMem) := match k with
  | 0 => none
  | k + 1 => ((d_heap_Heap_used k x0 x1 σ).bind fun r1 => (toB r1.1).bind fun b2 => bif !b2 then (some (.slice none 0 0, r1.2)) else (if 0 ≤ (8 : Int) ∧ (8 : Int) ≤ (8 : Int) ∧ (8 : Int) * (1 : Nat) ≤ 2 ^ 40 ∧ (8 : Int) ≤ 2 ^ 40 then allocK r1.2 (.cells (rep (8 : Int).toNat [.bool false]) 4 true) fun h3 s4 => (d_heap_Heap_Objects k x0 x1 s4).bind fun r5 => (toS r5.1).bind fun l6 => (d_heap_Heap_Lines_l0 k k x0 h3 ((8 : Int).toNat) l6.1 l6.2.1 l6.2.2 ((l6.2.1 : Nat) : Int) (0 : Int) r5.2).bind fun r13 => if r13.1 = .exit 0 then (some (.slice (some ⟨h3, 0, none⟩) ((8 : Int).toNat) ((8 : Int).toNat), r13.2.2)) else none else none))

theorem heap_Heap_Lines_is (k : Nat) (x0 : Option Addr) (x1 : Int) (σ : AMem) : heap_Heap_Lines k x0 x1 σ = d_heap_Heap_Lines k x0 x1 σ := by
  cases k with
  | zero => rfl
  | succ k => rw [heap_Heap_Lines_eq, d_heap_Heap_Lines]; simp only [heap_Heap_size_is, heap_Heap_used_is, heap_Heap_Objects_is, heap_Heap_Lines_l1_is, heap_Heap_Lines_l0_is]

noncomputable def d_alloc_Allocator_hole_l2 (k n : Nat) (p0 : Option Addr) (c1 : Nat) (c2 : Nat) (x8 : Int) (σ : AMem) : Option LOut := match n with
  | 0 => none
  | n + 1 => ((bif decide (x8 < ((c1 : Nat) : Int)) then if 0 ≤ x8 ∧ x8 < (c1 : Nat) then p0.bind fun a11 => (ldB σ a11.block (a11.off + x8.toNat * 1)).bind fun b12 => some (!b12, σ) else none else some (false, σ)).bind fun r13 => bif r13.1 then (d_alloc_Allocator_hole_l2 k n p0 c1 c2 (w64 (x8 + (1 : Int))) r13.2) else (some (.exit 4, [.int .i64 x8], r13.2)))
termination_by structural n

theorem alloc_Allocator_hole_l2_is (k n : Nat) (p0 : Option Addr) (c1 : Nat) (c2 : Nat) (x8 : Int) (σ : AMem) : alloc_Allocator_hole_l2 k n p0 c1 c2 x8 σ = d_alloc_Allocator_hole_l2 k n p0 c1 c2 x8 σ := by
  induction n generalizing p0 c1 c2 x8 σ with
  | zero => rfl
  | succ n ih => rw [alloc_Allocator_hole_l2_eq, d_alloc_Allocator_hole_l2]; simp only [alloc_Allocator_begin_is, alloc_Allocator_blocks_is, heap_Heap_Lines_is, ih]

noncomputable def d_alloc_Allocator_hole_l1 (k n : Nat) (p0 : Option Addr) (h1 : Nat) (i2 : Int) (p3 : Option Addr) (c4 : Nat) (c5 : Nat) (x7 : Int) (σ : AMem) : Option LOut := match n with
  | 0 => none
  | n + 1 => (bif decide (x7 < ((c4 : Nat) : Int)) then ((d_alloc_Allocator_hole_l2 k k p3 c4 c5 x7 σ).bind fun r14 => if r14.1 = .exit 4 then (u_i r14.2.1 fun n15 => (bif decide (n15 > x7) then p0.bind fun a16 => (ldI .i64 r14.2.2 a16.block (a16.off + 3 + 1)).bind fun n17 => some (decide ((w64 ((w64 (i2 * (64 : Int))) + (w64 (x7 * (8 : Int))))) ≥ n17), r14.2.2) else some (false, r14.2.2)).bind fun r18 => bif r18.1 then ((stN r18.2 h1 0 [.int .i64 (w64 ((w64 (i2 * (64 : Int))) + (w64 (x7 * (8 : Int))))), .int .i64 (w64 ((w64 (i2 * (64 : Int))) + (w64 (n15 * (8 : Int)))))]).bind fun s19 => some (.ret, [.bool true], s19)) else (d_alloc_Allocator_hole_l1 k n p0 h1 i2 p3 c4 c5 (w64 ((if n15 > x7 then n15 else x7) + (1 : Int))) r18.2)) else none) else (some (.exit 2, [], σ)))
termination_by structural n

theorem alloc_Allocator_hole_l1_is (k n : Nat) (p0 : Option Addr) (h1 : Nat) (i2 : Int) (p3 : Option Addr) (c4 : Nat) (c5 : Nat) (x7 : Int) (σ : AMem) : alloc_Allocator_hole_l1 k n p0 h1 i2 p3 c4 c5 x7 σ = d_alloc_Allocator_hole_l1 k n p0 h1 i2 p3 c4 c5 x7 σ := by
  induction n generalizing p0 h1 i2 p3 c4 c5 x7 σ with
  | zero => rfl
  | succ n ih => rw [alloc_Allocator_hole_l1_eq, d_alloc_Allocator_hole_l1]; simp only [alloc_Allocator_begin_is, alloc_Allocator_blocks_is, heap_Heap_Lines_is, alloc_Allocator_hole_l2_is, ih]

noncomputable def d_alloc_Allocator_hole_l0 (k n : Nat) (p0 : Option Addr) (h1 : Nat) (p2 : Option Addr) (c3 : Nat) (c4 : Nat) (i5 : Int) (x13 : Int) (σ : AMem) : Option LOut := match n with
  | 0 => none
  | n + 1 => (bif decide (x13 < i5) then (if 0 ≤ x13 ∧ x13 < (c3 : Nat) then p2.bind fun a5 => (ldI .i64 σ a5.block (a5.off + x13.toNat * 1)).bind fun n6 => p0.bind fun a7 => (ldP σ a7.block (a7.off + 0)).bind fun p8 => (d_heap_Heap_Lines k p8 n6 σ).bind fun r9 => (toS r9.1).bind fun l10 => (d_alloc_Allocator_hole_l1 k k p0 h1 n6 l10.1 l10.2.1 l10.2.2 (0 : Int) r9.2).bind fun r20 => if r20.1 = .exit 2 then (d_alloc_Allocator_hole_l0 k n p0 h1 p2 c3 c4 i5 (w64 (x13 + (1 : Int))) r20.2.2) else if r20.1 = .ret then (u_t r20.2.1 fun b21 => some (.ret, [.bool b21], r20.2.2)) else none else none) else (some (.exit 0, [], σ)))
termination_by structural n

theorem alloc_Allocator_hole_l0_is (k n : Nat) (p0 : Option Addr) (h1 : Nat) (p2 : Option Addr) (c3 : Nat) (c4 : Nat) (i5 : Int) (x13 : Int) (σ : AMem) : alloc_Allocator_hole_l0 k n p0 h1 p2 c3 c4 i5 x13 σ = d_alloc_Allocator_hole_l0 k n p0 h1 p2 c3 c4 i5 x13 σ := by
  induction n generalizing p0 h1 p2 c3 c4 i5 x13 σ with
  | zero => rfl
  | succ n ih => rw [alloc_Allocator_hole_l0_eq, d_alloc_Allocator_hole_l0]; simp only [alloc_Allocator_begin_is, alloc_Allocator_blocks_is, heap_Heap_Lines_is, alloc_Allocator_hole_l2_is, alloc_Allocator_hole_l1_is, ih]

noncomputable def d_alloc_Allocator_hole (k : Nat) (x0 : Option Addr) (σ : AMem) : Option (Value × AMem) := match k with
  | 0 => none
  | k + 1 => (allocK σ (.cells [.int .i64 (0 : Int), .int .i64 (0 : Int)] 27 true) fun h1 s2 => (d_alloc_Allocator_blocks k x0 s2).bind fun r3 => (toS r3.1).bind fun l4 => (d_alloc_Allocator_hole_l0 k k x0 h1 l4.1 l4.2.1 l4.2.2 ((l4.2.1 : Nat) : Int) (0 : Int) r3.2).bind fun r22 => if r22.1 = .exit 0 then ((d_alloc_Allocator_begin k x0 r22.2.2).bind fun r23 => (toT r23.1).bind fun q24 => if q24.length = 2 then q24.head?.bind fun v25 => a_ii v25 fun n26 n27 => q24.tail.head?.bind fun v28 => (toB v28).bind fun b29 => (stN r23.2 h1 0 [.int .i64 n26, .int .i64 n27]).bind fun s30 => (((ldN s30 h1 0 2).bind fun v31 => some (.agg v31.toArray)).bind fun v32 => some [v32, .bool b29]).bind fun vs33 => some (resOf vs33, s30) else none) else if r22.1 = .ret then (u_t r22.2.1 fun b34 => (((ldN r22.2.2 h1 0 2).bind fun v35 => some (.agg v35.toArray)).bind fun v36 => some [v36, .bool b34]).bind fun vs37 => some (resOf vs37, r22.2.2)) else none)

theorem alloc_Allocator_hole_is (k : Nat) (x0 : Option Addr) (σ : AMem) : alloc_Allocator_hole k x0 σ = d_alloc_Allocator_hole k x0 σ := by
  cases k with
  | zero => rfl
  | succ k => rw [alloc_Allocator_hole_eq, d_alloc_Allocator_hole]; simp only [alloc_Allocator_begin_is, alloc_Allocator_blocks_is, heap_Heap_Lines_is, alloc_Allocator_hole_l2_is, alloc_Allocator_hole_l1_is, alloc_Allocator_hole_l0_is]

noncomputable def d_alloc_lines_place (k : Nat) (x1 : Option Addr) (x2 : Int) (σ : AMem) : Option (Value × AMem) := match k with
  | 0 => none
  | k + 1 => (allocK σ (.cells [] 75 true) fun h1 s2 => x1.bind fun a3 => (d_alloc_area_has k (some ⟨a3.block, a3.off + 3, none⟩) x2 s2).bind fun r4 => (toB r4.1).bind fun b5 => (bif b5 then (some (.normal, [], r4.2)) else (bif decide (x2 > (8 : Int)) then (x1.bind fun a6 => (d_alloc_Allocator_bumped k x1 (some ⟨a6.block, a6.off + 5, none⟩) x2 r4.2).bind fun r7 => r_it r7.1 fun n8 b9 => some (.ret, [.int .i64 n8, .bool b9], r7.2)) else ((d_alloc_Allocator_hole k x1 r4.2).bind fun r10 => (toT r10.1).bind fun q11 => if q11.length = 2 then q11.head?.bind fun v12 => a_ii v12 fun n13 n14 => q11.tail.head?.bind fun v15 => (toB v15).bind fun b16 => allocK r10.2 (.cells [.int .i64 (0 : Int), .int .i64 (0 : Int)] 27 true) fun h17 s18 => (stN s18 h17 0 [.int .i64 n13, .int .i64 n14]).bind fun s19 => bif !b16 then (some (.ret, [.int .i64 (0 : Int), .bool false], s19)) else ((ldI .i64 s19 h17 0).bind fun n20 => (ldI .i64 s19 h17 (0 + 1)).bind fun n21 => x1.bind fun a22 => (stN s19 a22.block (a22.off + 3) [.int .i64 n20, .int .i64 n21]).bind fun s23 => some (.normal, [], s23)) else none)) : Option LOut).bind fun r24 => if r24.1 = .normal then (x1.bind fun a25 => (d_alloc_area_take k (some ⟨a25.block, a25.off + 3, none⟩) x2 r24.2.2).bind fun r26 => (toI .i64 r26.1).bind fun n27 => some (.tuple #[.int .i64 n27, .bool true], r26.2)) else if r24.1 = .ret then (u_it r24.2.1 fun n28 b29 => some (.tuple #[.int .i64 n28, .bool b29], r24.2.2)) else none)

theorem alloc_lines_place_is (k : Nat) (x1 : Option Addr) (x2 : Int) (σ : AMem) : alloc_lines_place k x1 x2 σ = d_alloc_lines_place k x1 x2 σ := by
  cases k with
  | zero => rfl
  | succ k => rw [alloc_lines_place_eq, d_alloc_lines_place]; simp only [alloc_Allocator_bumped_is, alloc_area_has_is, alloc_area_take_is, alloc_Allocator_hole_is]

noncomputable def d_callN0 (k : Nat) (n : FuncId) (l : List Value) (σ : AMem) : Option (Value × AMem) :=
  if n = 16 then (match l with
    | [.pointer y1, .int .i64 y2] => d_alloc_Allocator_large k y1 y2 σ
    | l => fn P X2 H k 16 l σ) else
  if n = 80 then (match l with
    | [.agg ⟨[]⟩, .pointer y1, .int .i64 y2] => d_alloc_first_place k y1 y2 σ
    | l => fn P X2 H k 80 l σ) else
  if n = 92 then (match l with
    | [.agg ⟨[]⟩, .pointer y1, .int .i64 y2] => d_alloc_best_place k y1 y2 σ
    | l => fn P X2 H k 92 l σ) else
  if n = 100 then (match l with
    | [.agg ⟨[]⟩, .pointer y1, .int .i64 y2] => d_alloc_next_place k y1 y2 σ
    | l => fn P X2 H k 100 l σ) else
  if n = 101 then (match l with
    | [.agg ⟨[]⟩, .pointer y1, .int .i64 y2] => d_alloc_bump_place k y1 y2 σ
    | l => fn P X2 H k 101 l σ) else
  if n = 105 then (match l with
    | [.agg ⟨[]⟩, .pointer y1, .int .i64 y2] => d_alloc_lines_place k y1 y2 σ
    | l => fn P X2 H k 105 l σ) else
  fn P X2 H k n l σ

theorem callN0_is (k : Nat) (n : FuncId) (l : List Value) (σ : AMem) : fn P X2 H k n l σ = d_callN0 k n l σ := by
  unfold d_callN0
  split
  · rename_i hn; subst hn
    split
    · exact alloc_Allocator_large_is k _ _ σ
    · rfl
  split
  · rename_i hn; subst hn
    split
    · exact alloc_first_place_is k _ _ σ
    · rfl
  split
  · rename_i hn; subst hn
    split
    · exact alloc_best_place_is k _ _ σ
    · rfl
  split
  · rename_i hn; subst hn
    split
    · exact alloc_next_place_is k _ _ σ
    · rfl
  split
  · rename_i hn; subst hn
    split
    · exact alloc_bump_place_is k _ _ σ
    · rfl
  split
  · rename_i hn; subst hn
    split
    · exact alloc_lines_place_is k _ _ σ
    · rfl
  rfl

noncomputable def d_callV0 (k : Nat) (f : Value) (args : List Value) (σ : AMem) : Option (Value × AMem) := match f with
  | .func (.func n) first cap => d_callN0 k n (first.toList ++ args ++ cap.toList) σ
  | .func (.method nm) first _ => (match first.toList ++ args with
    | .iface t v :: rest => (methodF P t nm).bind fun n => d_callN0 k n (v :: rest) σ
    | _ => none)
  | _ => none

theorem callV0_is (k : Nat) (f : Value) (args : List Value) (σ : AMem) : callV0 k f args σ = d_callV0 k f args σ := by
  unfold callV0 callVal d_callV0
  simp only [callN0_is]
  rfl

noncomputable def d_alloc_Allocator_Alloc (k : Nat) (x0 : Option Addr) (x1_0 : Int) (x1_1 : Int) (x1_2 : Int) (σ : AMem) : Option (Value × AMem) := match k with
  | 0 => none
  | k + 1 => (allocK σ (.cells [.int .i64 x1_0, .int .i64 x1_1, .int .i64 x1_2] 23 true) fun h1 s2 => (d_alloc_Allocator_made k x0 s2).bind fun r3 => (toB r3.1).bind fun b4 => bif !b4 then (some (.tuple #[.int .i64 (0 : Int), .int .i64 (5 : Int)], r3.2)) else ((ldI .i64 r3.2 h1 0).bind fun n5 => (ldI .i64 r3.2 h1 (0 + 1)).bind fun n6 => (ldI .i64 r3.2 h1 (0 + 1 + 1)).bind fun n7 => (d_heap_Valid k n5 n6 n7 r3.2).bind fun r8 => (toB r8.1).bind fun b9 => bif !b9 then (some (.tuple #[.int .i64 (0 : Int), .int .i64 (2 : Int)], r8.2)) else ((ldI .i64 r8.2 h1 0).bind fun n10 => (ldI .i64 r8.2 h1 (0 + 1)).bind fun n11 => (ldI .i64 r8.2 h1 (0 + 1 + 1)).bind fun n12 => (d_heap_Words k n10 n11 n12 r8.2).bind fun r13 => (toI .i64 r13.1).bind fun n14 => (d_alloc_policies k  r13.2).bind fun r15 => (toS r15.1).bind fun l16 => x0.bind fun a17 => (ldI .i64 r15.2 a17.block (a17.off + 2)).bind fun n18 => if 0 ≤ n18 ∧ n18 < (l16.2.1 : Nat) then l16.1.bind fun a19 => (ld1 r15.2 a19.block (a19.off + n18.toNat * 1)).bind fun v20 => nilV v20 fun v21 => (bif decide (n14 > (32 : Int)) then (some (.normal, [.func (.func 16) #[] #[]], r15.2)) else (some (.normal, [(.func (.method "dustcart/alloc.place") #[v21] #[])], r15.2)) : Option LOut).bind fun r22 => if r22.1 = .normal then (u_f r22.2.1 fun f23 => x0.bind fun a24 => (ldP r22.2.2 a24.block a24.off).bind fun p25 => (ldI .i64 r22.2.2 a24.block (a24.off + 1)).bind fun n26 => (ldI .i64 r22.2.2 a24.block (a24.off + 1 + 1)).bind fun n27 => (ldI .i64 r22.2.2 a24.block (a24.off + 1 + 1 + 1)).bind fun n28 => (ldI .i64 r22.2.2 a24.block (a24.off + 1 + 1 + 1 + 1)).bind fun n29 => (ldI .i64 r22.2.2 a24.block (a24.off + 1 + 1 + 1 + 1 + 1)).bind fun n30 => (ldI .i64 r22.2.2 a24.block (a24.off + 1 + 1 + 1 + 1 + 1 + 1)).bind fun n31 => allocK r22.2.2 (.cells [.pointer none, .int .i64 (0 : Int), .int .i64 (0 : Int), .int .i64 (0 : Int), .int .i64 (0 : Int), .int .i64 (0 : Int), .int .i64 (0 : Int)] 29 true) fun h32 s33 => (stN s33 h32 0 [.pointer p25, .int .i64 n26, .int .i64 n27, .int .i64 n28, .int .i64 n29, .int .i64 n30, .int .i64 n31]).bind fun s34 => (d_callV0 k f23 [.pointer x0, .int .i64 n14] s34).bind fun r35 => r_it r35.1 fun n36 b37 => bif !b37 then (some (.tuple #[.int .i64 (0 : Int), .int .i64 (6 : Int)], r35.2)) else (x0.bind fun a38 => (ldP r35.2 a38.block (a38.off + 0)).bind fun p39 => if (64 : Int) = 0 then none else (d_heap_Heap_Space k p39 (w64 (n36.tdiv (64 : Int))) r35.2).bind fun r40 => (toI .i64 r40.1).bind fun n41 => x0.bind fun a42 => (ldI .i64 r40.2 a42.block (a42.off + 1)).bind fun n43 => (bif n41 == n43 then (x0.bind fun a44 => (ldP r40.2 a44.block (a44.off + 0)).bind fun p45 => (ldI .i64 r40.2 h1 0).bind fun n46 => (ldI .i64 r40.2 h1 (0 + 1)).bind fun n47 => (ldI .i64 r40.2 h1 (0 + 1 + 1)).bind fun n48 => (d_heap_Heap_Place k p45 n36 n46 n47 n48 r40.2).bind fun r49 => r_ii r49.1 fun n50 n51 => some (.normal, [.int .i64 n51], r49.2)) else (some (.normal, [.int .i64 (5 : Int)], r40.2)) : Option LOut).bind fun r52 => if r52.1 = .normal then (u_i r52.2.1 fun n53 => bif n53 != (0 : Int) then ((ldP r52.2.2 h32 0).bind fun p54 => (ldI .i64 r52.2.2 h32 (0 + 1)).bind fun n55 => (ldI .i64 r52.2.2 h32 (0 + 1 + 1)).bind fun n56 => (ldI .i64 r52.2.2 h32 (0 + 1 + 1 + 1)).bind fun n57 => (ldI .i64 r52.2.2 h32 (0 + 1 + 1 + 1 + 1)).bind fun n58 => (ldI .i64 r52.2.2 h32 (0 + 1 + 1 + 1 + 1 + 1)).bind fun n59 => (ldI .i64 r52.2.2 h32 (0 + 1 + 1 + 1 + 1 + 1 + 1)).bind fun n60 => x0.bind fun a61 => (stN r52.2.2 a61.block a61.off [.pointer p54, .int .i64 n55, .int .i64 n56, .int .i64 n57, .int .i64 n58, .int .i64 n59, .int .i64 n60]).bind fun s62 => some (.tuple #[.int .i64 (0 : Int), .int .i64 (6 : Int)], s62)) else (some (.tuple #[.int .i64 n36, .int .i64 (0 : Int)], r52.2.2))) else none)) else none else none)))

theorem alloc_Allocator_Alloc_is (k : Nat) (x0 : Option Addr) (x1_0 : Int) (x1_1 : Int) (x1_2 : Int) (σ : AMem) : alloc_Allocator_Alloc k x0 x1_0 x1_1 x1_2 σ = d_alloc_Allocator_Alloc k x0 x1_0 x1_1 x1_2 σ := by
  cases k with
  | zero => rfl
  | succ k => rw [alloc_Allocator_Alloc_eq, d_alloc_Allocator_Alloc]; simp only [alloc_Allocator_made_is, heap_Valid_is, heap_Words_is, alloc_policies_is, heap_Heap_Space_is, heap_Heap_Place_is, callV0_is]

noncomputable def d_alloc_Allocator_Reset (k : Nat) (x0 : Option Addr) (σ : AMem) : Option (Value × AMem) := match k with
  | 0 => none
  | k + 1 => ((d_alloc_Allocator_made k x0 σ).bind fun r1 => (toB r1.1).bind fun b2 => (bif b2 then (x0.bind fun a3 => (stN r1.2 a3.block (a3.off + 3) [.int .i64 (0 : Int), .int .i64 (0 : Int)]).bind fun s4 => x0.bind fun a5 => (stN s4 a5.block (a5.off + 5) [.int .i64 (0 : Int), .int .i64 (0 : Int)]).bind fun s6 => some (.normal, [], s6)) else (some (.normal, [], r1.2)) : Option LOut).bind fun r7 => if r7.1 = .normal then (some (.tuple #[], r7.2.2)) else none)

theorem alloc_Allocator_Reset_is (k : Nat) (x0 : Option Addr) (σ : AMem) : alloc_Allocator_Reset k x0 σ = d_alloc_Allocator_Reset k x0 σ := by
  cases k with
  | zero => rfl
  | succ k => rw [alloc_Allocator_Reset_eq, d_alloc_Allocator_Reset]; simp only [alloc_Allocator_made_is]

noncomputable def d_alloc_New (k : Nat) (x0 : Option Addr) (x1 : Int) (x2 : Int) (σ : AMem) : Option (Value × AMem) := match k with
  | 0 => none
  | k + 1 => ((d_heap_Heap_Blocks k x0 σ).bind fun r1 => (toI .i64 r1.1).bind fun n2 => (bif n2 == (0 : Int) then some (true, r1.2) else some (decide (x1 < (0 : Int)), r1.2)).bind fun r3 => (bif r3.1 then some (true, r3.2) else some (decide (x1 ≥ (8 : Int)), r3.2)).bind fun r4 => (bif r4.1 then some (true, r4.2) else some (decide (x2 < (0 : Int)), r4.2)).bind fun r5 => (bif r5.1 then some (true, r5.2) else (d_alloc_policies k  r5.2).bind fun r6 => (toS r6.1).bind fun l7 => some (decide (x2 ≥ ((l7.2.1 : Nat) : Int)), r6.2)).bind fun r8 => bif r8.1 then (some (.tuple #[.pointer none, .int .i64 (1 : Int)], r8.2)) else (allocK r8.2 (.cells [.pointer x0, .int .i64 x1, .int .i64 x2, .int .i64 (0 : Int), .int .i64 (0 : Int), .int .i64 (0 : Int), .int .i64 (0 : Int)] 29 true) fun h9 s10 => some (.tuple #[.pointer (some ⟨h9, 0, none⟩), .int .i64 (0 : Int)], s10)))

theorem alloc_New_is (k : Nat) (x0 : Option Addr) (x1 : Int) (x2 : Int) (σ : AMem) : alloc_New k x0 x1 x2 σ = d_alloc_New k x0 x1 x2 σ := by
  cases k with
  | zero => rfl
  | succ k => rw [alloc_New_eq, d_alloc_New]; simp only [alloc_policies_is, heap_Heap_Blocks_is]

noncomputable def d_alloc_Allocator_Clone (k : Nat) (x0 : Option Addr) (x1 : Option Addr) (σ : AMem) : Option (Value × AMem) := match k with
  | 0 => none
  | k + 1 => ((d_alloc_Allocator_made k x0 σ).bind fun r1 => (toB r1.1).bind fun b2 => (bif !b2 then some (true, r1.2) else (d_heap_Heap_Blocks k x1 r1.2).bind fun r3 => (toI .i64 r3.1).bind fun n4 => some (n4 == (0 : Int), r3.2)).bind fun r5 => bif r5.1 then (some (.pointer none, r5.2)) else (x0.bind fun a6 => (ldP r5.2 a6.block a6.off).bind fun p7 => (ldI .i64 r5.2 a6.block (a6.off + 1)).bind fun n8 => (ldI .i64 r5.2 a6.block (a6.off + 1 + 1)).bind fun n9 => (ldI .i64 r5.2 a6.block (a6.off + 1 + 1 + 1)).bind fun n10 => (ldI .i64 r5.2 a6.block (a6.off + 1 + 1 + 1 + 1)).bind fun n11 => (ldI .i64 r5.2 a6.block (a6.off + 1 + 1 + 1 + 1 + 1)).bind fun n12 => (ldI .i64 r5.2 a6.block (a6.off + 1 + 1 + 1 + 1 + 1 + 1)).bind fun n13 => allocK r5.2 (.cells [.pointer none, .int .i64 (0 : Int), .int .i64 (0 : Int), .int .i64 (0 : Int), .int .i64 (0 : Int), .int .i64 (0 : Int), .int .i64 (0 : Int)] 29 true) fun h14 s15 => (stN s15 h14 0 [.pointer p7, .int .i64 n8, .int .i64 n9, .int .i64 n10, .int .i64 n11, .int .i64 n12, .int .i64 n13]).bind fun s16 => (st1 s16 h14 (0 + 0) (.pointer x1)).bind fun s17 => some (.pointer (some ⟨h14, 0, none⟩), s17)))

theorem alloc_Allocator_Clone_is (k : Nat) (x0 : Option Addr) (x1 : Option Addr) (σ : AMem) : alloc_Allocator_Clone k x0 x1 σ = d_alloc_Allocator_Clone k x0 x1 σ := by
  cases k with
  | zero => rfl
  | succ k => rw [alloc_Allocator_Clone_eq, d_alloc_Allocator_Clone]; simp only [alloc_Allocator_made_is, heap_Heap_Blocks_is]

noncomputable def d_alloc_Allocator_Cursor (k : Nat) (x0 : Option Addr) (σ : AMem) : Option (Value × AMem) := match k with
  | 0 => none
  | k + 1 => ((d_alloc_Allocator_made k x0 σ).bind fun r1 => (toB r1.1).bind fun b2 => bif !b2 then (some (.tuple #[.int .i64 (0 : Int), .int .i64 (0 : Int), .int .i64 (0 : Int), .int .i64 (0 : Int)], r1.2)) else (x0.bind fun a3 => (ldI .i64 r1.2 a3.block (a3.off + 3 + 0)).bind fun n4 => x0.bind fun a5 => (ldI .i64 r1.2 a5.block (a5.off + 3 + 1)).bind fun n6 => x0.bind fun a7 => (ldI .i64 r1.2 a7.block (a7.off + 5 + 0)).bind fun n8 => x0.bind fun a9 => (ldI .i64 r1.2 a9.block (a9.off + 5 + 1)).bind fun n10 => some (.tuple #[.int .i64 n4, .int .i64 n6, .int .i64 n8, .int .i64 n10], r1.2)))

theorem alloc_Allocator_Cursor_is (k : Nat) (x0 : Option Addr) (σ : AMem) : alloc_Allocator_Cursor k x0 σ = d_alloc_Allocator_Cursor k x0 σ := by
  cases k with
  | zero => rfl
  | succ k => rw [alloc_Allocator_Cursor_eq, d_alloc_Allocator_Cursor]; simp only [alloc_Allocator_made_is]

noncomputable def d_ref02_Heap_Made (k : Nat) (x0 : Option Addr) (σ : AMem) : Option (Value × AMem) := match k with
  | 0 => none
  | k + 1 => ((eqA P 79 (.pointer x0) (.pointer none)).bind fun e1 => (bif !e1 then x0.bind fun a2 => (ldS σ a2.block (a2.off + 0)).bind fun l3 => some (decide (((l3.2.1 : Nat) : Int) > (0 : Int)), σ) else some (false, σ)).bind fun r4 => some (.bool r4.1, r4.2))

theorem ref02_Heap_Made_is (k : Nat) (x0 : Option Addr) (σ : AMem) : ref02_Heap_Made k x0 σ = d_ref02_Heap_Made k x0 σ := by
  cases k with
  | zero => rfl
  | succ k => rw [ref02_Heap_Made_eq, d_ref02_Heap_Made]

noncomputable def d_ref05_Allocator_Made (k : Nat) (x0 : Option Addr) (σ : AMem) : Option (Value × AMem) := match k with
  | 0 => none
  | k + 1 => ((eqA P 61 (.pointer x0) (.pointer none)).bind fun e1 => (bif !e1 then x0.bind fun a2 => (ldP σ a2.block (a2.off + 0)).bind fun p3 => (d_ref02_Heap_Made k p3 σ).bind fun r4 => (toB r4.1).bind fun b5 => some (b5, r4.2) else some (false, σ)).bind fun r6 => some (.bool r6.1, r6.2))

theorem ref05_Allocator_Made_is (k : Nat) (x0 : Option Addr) (σ : AMem) : ref05_Allocator_Made k x0 σ = d_ref05_Allocator_Made k x0 σ := by
  cases k with
  | zero => rfl
  | succ k => rw [ref05_Allocator_Made_eq, d_ref05_Allocator_Made]; simp only [ref02_Heap_Made_is]

noncomputable def d_ref05_Allocator_Cursor (k : Nat) (x0 : Option Addr) (σ : AMem) : Option (Value × AMem) := match k with
  | 0 => none
  | k + 1 => ((d_ref05_Allocator_Made k x0 σ).bind fun r1 => (toB r1.1).bind fun b2 => bif !b2 then (some (.tuple #[.int .i64 (0 : Int), .int .i64 (0 : Int), .int .i64 (0 : Int), .int .i64 (0 : Int)], r1.2)) else (x0.bind fun a3 => (ldI .i64 r1.2 a3.block (a3.off + 3)).bind fun n4 => x0.bind fun a5 => (ldI .i64 r1.2 a5.block (a5.off + 4)).bind fun n6 => x0.bind fun a7 => (ldI .i64 r1.2 a7.block (a7.off + 5)).bind fun n8 => x0.bind fun a9 => (ldI .i64 r1.2 a9.block (a9.off + 6)).bind fun n10 => some (.tuple #[.int .i64 n4, .int .i64 n6, .int .i64 n8, .int .i64 n10], r1.2)))

theorem ref05_Allocator_Cursor_is (k : Nat) (x0 : Option Addr) (σ : AMem) : ref05_Allocator_Cursor k x0 σ = d_ref05_Allocator_Cursor k x0 σ := by
  cases k with
  | zero => rfl
  | succ k => rw [ref05_Allocator_Cursor_eq, d_ref05_Allocator_Cursor]; simp only [ref05_Allocator_Made_is]

noncomputable def d_alloc_Allocator_Space (k : Nat) (x0 : Option Addr) (σ : AMem) : Option (Value × AMem) := match k with
  | 0 => none
  | k + 1 => ((d_alloc_Allocator_made k x0 σ).bind fun r1 => (toB r1.1).bind fun b2 => bif !b2 then (some (.int .i64 (0 : Int), r1.2)) else (x0.bind fun a3 => (ldI .i64 r1.2 a3.block (a3.off + 1)).bind fun n4 => some (.int .i64 n4, r1.2)))

theorem alloc_Allocator_Space_is (k : Nat) (x0 : Option Addr) (σ : AMem) : alloc_Allocator_Space k x0 σ = d_alloc_Allocator_Space k x0 σ := by
  cases k with
  | zero => rfl
  | succ k => rw [alloc_Allocator_Space_eq, d_alloc_Allocator_Space]; simp only [alloc_Allocator_made_is]

noncomputable def d_ref05_Allocator_Space (k : Nat) (x0 : Option Addr) (σ : AMem) : Option (Value × AMem) := match k with
  | 0 => none
  | k + 1 => ((d_ref05_Allocator_Made k x0 σ).bind fun r1 => (toB r1.1).bind fun b2 => bif !b2 then (some (.int .i64 (0 : Int), r1.2)) else (x0.bind fun a3 => (ldI .i64 r1.2 a3.block (a3.off + 1)).bind fun n4 => some (.int .i64 n4, r1.2)))

theorem ref05_Allocator_Space_is (k : Nat) (x0 : Option Addr) (σ : AMem) : ref05_Allocator_Space k x0 σ = d_ref05_Allocator_Space k x0 σ := by
  cases k with
  | zero => rfl
  | succ k => rw [ref05_Allocator_Space_eq, d_ref05_Allocator_Space]; simp only [ref05_Allocator_Made_is]

noncomputable def d_alloc_Allocator_Policy (k : Nat) (x0 : Option Addr) (σ : AMem) : Option (Value × AMem) := match k with
  | 0 => none
  | k + 1 => ((d_alloc_Allocator_made k x0 σ).bind fun r1 => (toB r1.1).bind fun b2 => bif !b2 then (some (.int .i64 (0 : Int), r1.2)) else (x0.bind fun a3 => (ldI .i64 r1.2 a3.block (a3.off + 2)).bind fun n4 => some (.int .i64 n4, r1.2)))

theorem alloc_Allocator_Policy_is (k : Nat) (x0 : Option Addr) (σ : AMem) : alloc_Allocator_Policy k x0 σ = d_alloc_Allocator_Policy k x0 σ := by
  cases k with
  | zero => rfl
  | succ k => rw [alloc_Allocator_Policy_eq, d_alloc_Allocator_Policy]; simp only [alloc_Allocator_made_is]

noncomputable def d_ref05_Allocator_Policy (k : Nat) (x0 : Option Addr) (σ : AMem) : Option (Value × AMem) := match k with
  | 0 => none
  | k + 1 => ((d_ref05_Allocator_Made k x0 σ).bind fun r1 => (toB r1.1).bind fun b2 => bif !b2 then (some (.int .i64 (0 : Int), r1.2)) else (x0.bind fun a3 => (ldI .i64 r1.2 a3.block (a3.off + 2)).bind fun n4 => some (.int .i64 n4, r1.2)))

theorem ref05_Allocator_Policy_is (k : Nat) (x0 : Option Addr) (σ : AMem) : ref05_Allocator_Policy k x0 σ = d_ref05_Allocator_Policy k x0 σ := by
  cases k with
  | zero => rfl
  | succ k => rw [ref05_Allocator_Policy_eq, d_ref05_Allocator_Policy]; simp only [ref05_Allocator_Made_is]

noncomputable def d_law05_cursors (k : Nat) (x0 : Option Addr) (x1 : Option Addr) (σ : AMem) : Option (Value × AMem) := match k with
  | 0 => none
  | k + 1 => ((d_alloc_Allocator_Cursor k x0 σ).bind fun r1 => r_iiii r1.1 fun n2 n3 n4 n5 => (d_ref05_Allocator_Cursor k x1 r1.2).bind fun r6 => r_iiii r6.1 fun n7 n8 n9 n10 => (bif n2 == n7 then some (n3 == n8, r6.2) else some (false, r6.2)).bind fun r11 => (bif r11.1 then some (n4 == n9, r11.2) else some (false, r11.2)).bind fun r12 => (bif r12.1 then some (n5 == n10, r12.2) else some (false, r12.2)).bind fun r13 => (bif r13.1 then (d_alloc_Allocator_Space k x0 r13.2).bind fun r14 => (toI .i64 r14.1).bind fun n15 => (d_ref05_Allocator_Space k x1 r14.2).bind fun r16 => (toI .i64 r16.1).bind fun n17 => some (n15 == n17, r16.2) else some (false, r13.2)).bind fun r18 => (bif r18.1 then (d_alloc_Allocator_Policy k x0 r18.2).bind fun r19 => (toI .i64 r19.1).bind fun n20 => (d_ref05_Allocator_Policy k x1 r19.2).bind fun r21 => (toI .i64 r21.1).bind fun n22 => some (n20 == n22, r21.2) else some (false, r18.2)).bind fun r23 => some (.bool r23.1, r23.2))

theorem law05_cursors_is (k : Nat) (x0 : Option Addr) (x1 : Option Addr) (σ : AMem) : law05_cursors k x0 x1 σ = d_law05_cursors k x0 x1 σ := by
  cases k with
  | zero => rfl
  | succ k => rw [law05_cursors_eq, d_law05_cursors]; simp only [alloc_Allocator_Cursor_is, ref05_Allocator_Cursor_is, alloc_Allocator_Space_is, ref05_Allocator_Space_is, alloc_Allocator_Policy_is, ref05_Allocator_Policy_is]

noncomputable def d_law05_alive (k : Nat)  (σ : AMem) : Option (Value × AMem) := match k with
  | 0 => none
  | k + 1 => some (.bool true, σ)

theorem law05_alive_is (k : Nat)  (σ : AMem) : law05_alive k  σ = d_law05_alive k  σ := by
  cases k with
  | zero => rfl
  | succ k => rw [law05_alive_eq]; rfl

noncomputable def d_law05_AllocNone (k : Nat) (x0_0 : Int) (x0_1 : Int) (x0_2 : Int) (x1 : Int) (x2 : Int) (σ : AMem) : Option (Value × AMem) := match k with
  | 0 => none
  | k + 1 => (allocK σ (.cells [.int .i64 x0_0, .int .i64 x0_1, .int .i64 x0_2] 23 true) fun h1 s2 => allocK s2 (.cells [.pointer none, .int .i64 (0 : Int), .int .i64 (0 : Int), .int .i64 (0 : Int), .int .i64 (0 : Int), .int .i64 (0 : Int), .int .i64 (0 : Int)] 29 true) fun h3 s4 => allocK s4 (.cells [.slice none 0 0, .slice none 0 0, .pointer none, .pointer none, .map none, .map none, .int .i64 (0 : Int)] 35 true) fun h5 s6 => (d_heap_New k (2 : Int) s6).bind fun r7 => r_pi r7.1 fun p8 n9 => (ldI .i64 r7.2 h1 0).bind fun n10 => (ldI .i64 r7.2 h1 (0 + 1)).bind fun n11 => (ldI .i64 r7.2 h1 (0 + 1 + 1)).bind fun n12 => (d_alloc_Allocator_Alloc k none n10 n11 n12 r7.2).bind fun r13 => r_ii r13.1 fun n14 n15 => (ldI .i64 r13.2 h1 0).bind fun n16 => (ldI .i64 r13.2 h1 (0 + 1)).bind fun n17 => (ldI .i64 r13.2 h1 (0 + 1 + 1)).bind fun n18 => (d_alloc_Allocator_Alloc k (some ⟨h3, 0, none⟩) n16 n17 n18 r13.2).bind fun r19 => r_ii r19.1 fun n20 n21 => (d_alloc_Allocator_Reset k none r19.2).bind fun r22 => r_0 r22.1 ((d_alloc_Allocator_Reset k (some ⟨h3, 0, none⟩) r22.2).bind fun r23 => r_0 r23.1 ((d_alloc_New k none x1 x2 r23.2).bind fun r24 => r_pi r24.1 fun p25 n26 => (d_alloc_New k (some ⟨h5, 0, none⟩) x1 x2 r24.2).bind fun r27 => r_pi r27.1 fun p28 n29 => (bif n14 != (0 : Int) then some (true, r27.2) else some (n15 != (5 : Int), r27.2)).bind fun r30 => (bif r30.1 then some (true, r30.2) else some (n20 != (0 : Int), r30.2)).bind fun r31 => (bif r31.1 then some (true, r31.2) else some (n21 != (5 : Int), r31.2)).bind fun r32 => (bif r32.1 then some (true, r32.2) else (eqA P 24 (.pointer p25) (.pointer none)).bind fun e33 => some (!e33, r32.2)).bind fun r34 => (bif r34.1 then some (true, r34.2) else some (n26 != (1 : Int), r34.2)).bind fun r35 => (bif r35.1 then some (true, r35.2) else (eqA P 24 (.pointer p28) (.pointer none)).bind fun e36 => some (!e36, r35.2)).bind fun r37 => (bif r37.1 then some (true, r37.2) else some (n29 != (1 : Int), r37.2)).bind fun r38 => (bif r38.1 then some (true, r38.2) else (d_alloc_Allocator_Clone k none p8 r38.2).bind fun r39 => (toP r39.1).bind fun p40 => (eqA P 24 (.pointer p40) (.pointer none)).bind fun e41 => some (!e41, r39.2)).bind fun r42 => (bif r42.1 then some (true, r42.2) else (d_alloc_Allocator_Clone k (some ⟨h3, 0, none⟩) p8 r42.2).bind fun r43 => (toP r43.1).bind fun p44 => (eqA P 24 (.pointer p44) (.pointer none)).bind fun e45 => some (!e45, r43.2)).bind fun r46 => bif r46.1 then (some (.bool false, r46.2)) else ((d_alloc_New k p8 (0 : Int) (0 : Int) r46.2).bind fun r47 => r_pi r47.1 fun p48 n49 => (d_law05_cursors k none none r47.2).bind fun r50 => (toB r50.1).bind fun b51 => (bif b51 then (d_law05_cursors k (some ⟨h3, 0, none⟩) none r50.2).bind fun r52 => (toB r52.1).bind fun b53 => some (b53, r52.2) else some (false, r50.2)).bind fun r54 => (bif r54.1 then (eqA P 24 (.pointer p48) (.pointer none)).bind fun e55 => some (!e55, r54.2) else some (false, r54.2)).bind fun r56 => (bif r56.1 then (d_alloc_Allocator_Clone k p48 none r56.2).bind fun r57 => (toP r57.1).bind fun p58 => (eqA P 24 (.pointer p58) (.pointer none)).bind fun e59 => some (e59, r57.2) else some (false, r56.2)).bind fun r60 => (bif r60.1 then (d_alloc_Allocator_Clone k p48 (some ⟨h5, 0, none⟩) r60.2).bind fun r61 => (toP r61.1).bind fun p62 => (eqA P 24 (.pointer p62) (.pointer none)).bind fun e63 => some (e63, r61.2) else some (false, r60.2)).bind fun r64 => (bif r64.1 then (d_law05_alive k  r64.2).bind fun r65 => (toB r65.1).bind fun b66 => some (b66, r65.2) else some (false, r64.2)).bind fun r67 => some (.bool r67.1, r67.2)))))

theorem law05_AllocNone_is (k : Nat) (x0_0 : Int) (x0_1 : Int) (x0_2 : Int) (x1 : Int) (x2 : Int) (σ : AMem) : law05_AllocNone k x0_0 x0_1 x0_2 x1 x2 σ = d_law05_AllocNone k x0_0 x0_1 x0_2 x1 x2 σ := by
  cases k with
  | zero => rfl
  | succ k => rw [law05_AllocNone_eq, d_law05_AllocNone]; simp only [heap_New_is, alloc_Allocator_Alloc_is, alloc_Allocator_Reset_is, alloc_New_is, alloc_Allocator_Clone_is, law05_cursors_is, law05_alive_is]

noncomputable def d_slices_swapRangeCmpFunc_api_Run_l0 (k n : Nat) (p0 : Option Addr) (c1 : Nat) (c2 : Nat) (i3 : Int) (i4 : Int) (i5 : Int) (x10 : Int) (σ : AMem) : Option LOut := match n with
  | 0 => none
  | n + 1 => (bif decide (x10 < i5) then (if 0 ≤ (w64 (i4 + x10)) ∧ (w64 (i4 + x10)) < (c1 : Nat) then p0.bind fun a1 => (ldI .i64 σ a1.block (a1.off + (w64 (i4 + x10)).toNat * 2)).bind fun n2 => (ldI .i64 σ a1.block (a1.off + (w64 (i4 + x10)).toNat * 2 + 1)).bind fun n3 => if 0 ≤ (w64 (i3 + x10)) ∧ (w64 (i3 + x10)) < (c1 : Nat) then p0.bind fun a4 => (ldI .i64 σ a4.block (a4.off + (w64 (i3 + x10)).toNat * 2)).bind fun n5 => (ldI .i64 σ a4.block (a4.off + (w64 (i3 + x10)).toNat * 2 + 1)).bind fun n6 => if 0 ≤ (w64 (i3 + x10)) ∧ (w64 (i3 + x10)) < (c1 : Nat) then p0.bind fun a7 => (stN σ a7.block (a7.off + (w64 (i3 + x10)).toNat * 2) [.int .i64 n2, .int .i64 n3]).bind fun s8 => if 0 ≤ (w64 (i4 + x10)) ∧ (w64 (i4 + x10)) < (c1 : Nat) then p0.bind fun a9 => (stN s8 a9.block (a9.off + (w64 (i4 + x10)).toNat * 2) [.int .i64 n5, .int .i64 n6]).bind fun s10 => d_slices_swapRangeCmpFunc_api_Run_l0 k n p0 c1 c2 i3 i4 i5 (w64 (x10 + (1 : Int))) s10 else none else none else none else none) else (some (.exit 0, [], σ)))
termination_by structural n

theorem slices_swapRangeCmpFunc_api_Run_l0_is (k n : Nat) (p0 : Option Addr) (c1 : Nat) (c2 : Nat) (i3 : Int) (i4 : Int) (i5 : Int) (x10 : Int) (σ : AMem) : slices_swapRangeCmpFunc_api_Run_l0 k n p0 c1 c2 i3 i4 i5 x10 σ = d_slices_swapRangeCmpFunc_api_Run_l0 k n p0 c1 c2 i3 i4 i5 x10 σ := by
  induction n generalizing p0 c1 c2 i3 i4 i5 x10 σ with
  | zero => rfl
  | succ n ih => rw [slices_swapRangeCmpFunc_api_Run_l0_eq, d_slices_swapRangeCmpFunc_api_Run_l0]; simp only [ih]

noncomputable def d_slices_swapRangeCmpFunc_api_Run (k : Nat) (x0 : Option Addr × Nat × Nat) (x1 : Int) (x2 : Int) (x3 : Int) (x4 : Value) (σ : AMem) : Option (Value × AMem) := match k with
  | 0 => none
  | k + 1 => ((d_slices_swapRangeCmpFunc_api_Run_l0 k k x0.1 x0.2.1 x0.2.2 x1 x2 x3 (0 : Int) σ).bind fun r11 => if r11.1 = .exit 0 then (some (.tuple #[], r11.2.2)) else none)

theorem slices_swapRangeCmpFunc_api_Run_is (k : Nat) (x0 : Option Addr × Nat × Nat) (x1 : Int) (x2 : Int) (x3 : Int) (x4 : Value) (σ : AMem) : slices_swapRangeCmpFunc_api_Run k x0 x1 x2 x3 x4 σ = d_slices_swapRangeCmpFunc_api_Run k x0 x1 x2 x3 x4 σ := by
  cases k with
  | zero => rfl
  | succ k => rw [slices_swapRangeCmpFunc_api_Run_eq, d_slices_swapRangeCmpFunc_api_Run]; simp only [slices_swapRangeCmpFunc_api_Run_l0_is]

noncomputable def d_slices_rotateCmpFunc_api_Run_l0 (k n : Nat) (p0 : Option Addr) (c1 : Nat) (c2 : Nat) (i3 : Int) (v4 : Value) (x10 : Int) (x11 : Int) (σ : AMem) : Option LOut := match n with
  | 0 => none
  | n + 1 => (bif x10 != x11 then ((bif decide (x10 > x11) then ((d_slices_swapRangeCmpFunc_api_Run k (p0, c1, c2) (w64 (i3 - x10)) i3 x11 (v4) σ).bind fun r1 => r_0 r1.1 (some (.normal, [.int .i64 (w64 (x10 - x11)), .int .i64 x11], r1.2))) else ((d_slices_swapRangeCmpFunc_api_Run k (p0, c1, c2) (w64 (i3 - x10)) (w64 ((w64 (i3 + x11)) - x10)) x10 (v4) σ).bind fun r2 => r_0 r2.1 (some (.normal, [.int .i64 x10, .int .i64 (w64 (x11 - x10))], r2.2))) : Option LOut).bind fun r3 => if r3.1 = .normal then (u_ii r3.2.1 fun n4 n5 => d_slices_rotateCmpFunc_api_Run_l0 k n p0 c1 c2 i3 v4 n4 n5 r3.2.2) else none) else (some (.exit 0, [.int .i64 x10], σ)))
termination_by structural n

theorem slices_rotateCmpFunc_api_Run_l0_is (k n : Nat) (p0 : Option Addr) (c1 : Nat) (c2 : Nat) (i3 : Int) (v4 : Value) (x10 : Int) (x11 : Int) (σ : AMem) : slices_rotateCmpFunc_api_Run_l0 k n p0 c1 c2 i3 v4 x10 x11 σ = d_slices_rotateCmpFunc_api_Run_l0 k n p0 c1 c2 i3 v4 x10 x11 σ := by
  induction n generalizing p0 c1 c2 i3 v4 x10 x11 σ with
  | zero => rfl
  | succ n ih => rw [slices_rotateCmpFunc_api_Run_l0_eq, d_slices_rotateCmpFunc_api_Run_l0]; simp only [slices_swapRangeCmpFunc_api_Run_is, ih]

noncomputable def d_slices_rotateCmpFunc_api_Run (k : Nat) (x0 : Option Addr × Nat × Nat) (x1 : Int) (x2 : Int) (x3 : Int) (x4 : Value) (σ : AMem) : Option (Value × AMem) := match k with
  | 0 => none
  | k + 1 => ((d_slices_rotateCmpFunc_api_Run_l0 k k x0.1 x0.2.1 x0.2.2 x2 x4 (w64 (x2 - x1)) (w64 (x3 - x2)) σ).bind fun r6 => if r6.1 = .exit 0 then (u_i r6.2.1 fun n7 => (d_slices_swapRangeCmpFunc_api_Run k (x0.1, x0.2.1, x0.2.2) (w64 (x2 - n7)) x2 n7 (x4) r6.2.2).bind fun r8 => r_0 r8.1 (some (.tuple #[], r8.2))) else none)

theorem slices_rotateCmpFunc_api_Run_is (k : Nat) (x0 : Option Addr × Nat × Nat) (x1 : Int) (x2 : Int) (x3 : Int) (x4 : Value) (σ : AMem) : slices_rotateCmpFunc_api_Run k x0 x1 x2 x3 x4 σ = d_slices_rotateCmpFunc_api_Run k x0 x1 x2 x3 x4 σ := by
  cases k with
  | zero => rfl
  | succ k => rw [slices_rotateCmpFunc_api_Run_eq, d_slices_rotateCmpFunc_api_Run]; simp only [slices_swapRangeCmpFunc_api_Run_is, slices_rotateCmpFunc_api_Run_l0_is]

end Go.Proofs.Ytilefhlamdiomaa
