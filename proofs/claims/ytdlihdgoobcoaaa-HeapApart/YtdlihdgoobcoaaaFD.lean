/-
  PRINTED BY A PROGRAM OF THIS SESSION'S OWN (gen.py): the functions as definitions.
-/
import Derived.Test.YtdlihdgoobcoaaaF1
set_option maxRecDepth 100000
set_option linter.unusedVariables false
set_option linter.unusedSimpArgs false
set_option linter.unusedSectionVars false
namespace Go.Proofs.Ytdlihdgoobcoaaa
open Go Go.AX
variable [Quiet]

noncomputable def d_law02_alive (k : Nat)  (σ : AMem) : Option (Value × AMem) := match k with
  | 0 => none
  | k + 1 => some (.bool true, σ)

theorem law02_alive_is (k : Nat)  (σ : AMem) : law02_alive k  σ = d_law02_alive k  σ := by
  cases k with
  | zero => rfl
  | succ k => rw [law02_alive_eq]; rfl

noncomputable def d_heap_Valid (k : Nat) (x0_0 : Int) (x0_1 : Int) (x0_2 : Int) (σ : AMem) : Option (Value × AMem) := match k with
  | 0 => none
  | k + 1 => (allocK σ (.cells [.int .i64 x0_0, .int .i64 x0_1, .int .i64 x0_2] 23 true) fun h1 s2 => (ldI .i64 s2 h1 (0 + 0)).bind fun n3 => (bif decide (n3 ≥ (0 : Int)) then (ldI .i64 s2 h1 (0 + 0)).bind fun n4 => some (decide (n4 ≤ (15 : Int)), s2) else some (false, s2)).bind fun r5 => (bif r5.1 then (ldI .i64 r5.2 h1 (0 + 1)).bind fun n6 => some (decide (n6 ≥ (0 : Int)), r5.2) else some (false, r5.2)).bind fun r7 => (bif r7.1 then (ldI .i64 r7.2 h1 (0 + 1)).bind fun n8 => some (decide (n8 ≤ (200 : Int)), r7.2) else some (false, r7.2)).bind fun r9 => (bif r9.1 then (ldI .i64 r9.2 h1 (0 + 2)).bind fun n10 => some (decide (n10 ≥ (0 : Int)), r9.2) else some (false, r9.2)).bind fun r11 => (bif r11.1 then (ldI .i64 r11.2 h1 (0 + 2)).bind fun n12 => some (decide (n12 ≤ (3 : Int)), r11.2) else some (false, r11.2)).bind fun r13 => (bif r13.1 then (ldI .i64 r13.2 h1 (0 + 2)).bind fun n14 => (bif n14 != (1 : Int) then some (true, r13.2) else (ldI .i64 r13.2 h1 (0 + 0)).bind fun n15 => some (decide (n15 ≥ (1 : Int)), r13.2)).bind fun r16 => some (r16.1, r16.2) else some (false, r13.2)).bind fun r17 => (bif r17.1 then (ldI .i64 r17.2 h1 (0 + 2)).bind fun n18 => (bif n18 != (2 : Int) then some (true, r17.2) else (ldI .i64 r17.2 h1 (0 + 0)).bind fun n19 => some (decide (n19 ≥ (2 : Int)), r17.2)).bind fun r20 => some (r20.1, r20.2) else some (false, r17.2)).bind fun r21 => some (.bool r21.1, r21.2))

theorem heap_Valid_is (k : Nat) (x0_0 : Int) (x0_1 : Int) (x0_2 : Int) (σ : AMem) : heap_Valid k x0_0 x0_1 x0_2 σ = d_heap_Valid k x0_0 x0_1 x0_2 σ := by
  cases k with
  | zero => rfl
  | succ k => rw [heap_Valid_eq, d_heap_Valid]

noncomputable def d_heap_Words (k : Nat) (x0_0 : Int) (x0_1 : Int) (x0_2 : Int) (σ : AMem) : Option (Value × AMem) := match k with
  | 0 => none
  | k + 1 => (allocK σ (.cells [.int .i64 x0_0, .int .i64 x0_1, .int .i64 x0_2] 23 true) fun h1 s2 => (ldI .i64 s2 h1 0).bind fun n3 => (ldI .i64 s2 h1 (0 + 1)).bind fun n4 => (ldI .i64 s2 h1 (0 + 1 + 1)).bind fun n5 => (d_heap_Valid k n3 n4 n5 s2).bind fun r6 => (toB r6.1).bind fun b7 => bif !b7 then (some (.int .i64 (0 : Int), r6.2)) else ((ldI .i64 r6.2 h1 (0 + 0)).bind fun n8 => (ldI .i64 r6.2 h1 (0 + 1)).bind fun n9 => if (2 : Int) = 0 then none else some (.int .i64 (w64 ((w64 ((w64 ((w64 ((w64 ((2 : Int) + n8)) + n9)) + (1 : Int))).tdiv (2 : Int))) * (2 : Int))), r6.2)))

theorem heap_Words_is (k : Nat) (x0_0 : Int) (x0_1 : Int) (x0_2 : Int) (σ : AMem) : heap_Words k x0_0 x0_1 x0_2 σ = d_heap_Words k x0_0 x0_1 x0_2 σ := by
  cases k with
  | zero => rfl
  | succ k => rw [heap_Words_eq, d_heap_Words]; simp only [heap_Valid_is]

noncomputable def d_heap_Heap_made (k : Nat) (x0 : Option Addr) (σ : AMem) : Option (Value × AMem) := match k with
  | 0 => none
  | k + 1 => ((eqA P 28 (.pointer x0) (.pointer none)).bind fun e1 => (bif !e1 then x0.bind fun a2 => (ldS σ a2.block (a2.off + 0)).bind fun l3 => some (decide (((l3.2.1 : Nat) : Int) > (0 : Int)), σ) else some (false, σ)).bind fun r4 => some (.bool r4.1, r4.2))

theorem heap_Heap_made_is (k : Nat) (x0 : Option Addr) (σ : AMem) : heap_Heap_made k x0 σ = d_heap_Heap_made k x0 σ := by
  cases k with
  | zero => rfl
  | succ k => rw [heap_Heap_made_eq, d_heap_Heap_made]

noncomputable def d_heap_shape (k : Nat) (x0 : Int) (σ : AMem) : Option (Value × AMem) := match k with
  | 0 => none
  | k + 1 => (allocK σ (.cells [.int .i64 (0 : Int), .int .i64 (0 : Int), .int .i64 (0 : Int)] 23 true) fun h1 s2 => if (16 : Int) = 0 then none else if (4096 : Int) = 0 then none else if (16 : Int) = 0 then none else if (4096 : Int) = 0 then none else (stN s2 h1 0 [.int .i64 (x0.tmod (16 : Int)), .int .i64 (w64 ((x0.tmod (4096 : Int)).tdiv (16 : Int))), .int .i64 (w64 (x0.tdiv (4096 : Int)))]).bind fun s3 => (((ldN s3 h1 0 3).bind fun v4 => some (.agg v4.toArray)).bind fun v5 => some [v5]).bind fun vs6 => some (resOf vs6, s3))

theorem heap_shape_is (k : Nat) (x0 : Int) (σ : AMem) : heap_shape k x0 σ = d_heap_shape k x0 σ := by
  cases k with
  | zero => rfl
  | succ k => rw [heap_shape_eq, d_heap_shape]

noncomputable def d_heap_Heap_size (k : Nat) (x0 : Option Addr) (x1 : Int) (σ : AMem) : Option (Value × AMem) := match k with
  | 0 => none
  | k + 1 => (x0.bind fun a1 => (ldS σ a1.block (a1.off + 1)).bind fun l2 => if 0 ≤ (w64 (x1 + (1 : Int))) ∧ (w64 (x1 + (1 : Int))) < (l2.2.1 : Nat) then l2.1.bind fun a3 => (ldI .i64 σ a3.block (a3.off + (w64 (x1 + (1 : Int))).toNat * 1)).bind fun n4 => (d_heap_shape k n4 σ).bind fun r5 => a_iii r5.1 fun n6 n7 n8 => (d_heap_Words k n6 n7 n8 r5.2).bind fun r9 => (toI .i64 r9.1).bind fun n10 => some (.int .i64 n10, r9.2) else none)

theorem heap_Heap_size_is (k : Nat) (x0 : Option Addr) (x1 : Int) (σ : AMem) : heap_Heap_size k x0 x1 σ = d_heap_Heap_size k x0 x1 σ := by
  cases k with
  | zero => rfl
  | succ k => rw [heap_Heap_size_eq, d_heap_Heap_size]; simp only [heap_Words_is, heap_shape_is]

noncomputable def d_side_Table_made (k : Nat) (x0 : Option Addr) (σ : AMem) : Option (Value × AMem) := match k with
  | 0 => none
  | k + 1 => ((eqA P 69 (.pointer x0) (.pointer none)).bind fun e1 => (bif !e1 then x0.bind fun a2 => (ldI .i64 σ a2.block (a2.off + 0)).bind fun n3 => some (decide (n3 > (0 : Int)), σ) else some (false, σ)).bind fun r4 => some (.bool r4.1, r4.2))

theorem side_Table_made_is (k : Nat) (x0 : Option Addr) (σ : AMem) : side_Table_made k x0 σ = d_side_Table_made k x0 σ := by
  cases k with
  | zero => rfl
  | succ k => rw [side_Table_made_eq, d_side_Table_made]

noncomputable def d_side_Table_most (k : Nat) (x0 : Option Addr) (σ : AMem) : Option (Value × AMem) := match k with
  | 0 => none
  | k + 1 => (x0.bind fun a1 => (ldI .i64 σ a1.block (a1.off + 1)).bind fun n2 => if n2 < 0 then none else some (.int .i64 (w64 ((w64 ((1 : Int) * 2 ^ (min n2.toNat 64))) - (1 : Int))), σ))

theorem side_Table_most_is (k : Nat) (x0 : Option Addr) (σ : AMem) : side_Table_most k x0 σ = d_side_Table_most k x0 σ := by
  cases k with
  | zero => rfl
  | succ k => rw [side_Table_most_eq, d_side_Table_most]

noncomputable def d_side_Table_get (k : Nat) (x0 : Option Addr) (x1 : Int) (σ : AMem) : Option (Value × AMem) := match k with
  | 0 => none
  | k + 1 => (x0.bind fun a1 => (ldI .i64 σ a1.block (a1.off + 1)).bind fun n2 => x0.bind fun a3 => (ldS σ a3.block (a3.off + 2)).bind fun l4 => if (64 : Int) = 0 then none else if 0 ≤ (w64 ((w64 (x1 * n2)).tdiv (64 : Int))) ∧ (w64 ((w64 (x1 * n2)).tdiv (64 : Int))) < (l4.2.1 : Nat) then l4.1.bind fun a5 => (ldI .u64 σ a5.block (a5.off + (w64 ((w64 (x1 * n2)).tdiv (64 : Int))).toNat * 1)).bind fun n6 => if (64 : Int) = 0 then none else if ((w64 (x1 * n2)).tmod (64 : Int)) < 0 then none else (d_side_Table_most k x0 σ).bind fun r7 => (toI .i64 r7.1).bind fun n8 => some (.int .i64 (w64 ((BitVec.ofInt 64 (w64 (n6.fdiv (2 ^ (min ((w64 (x1 * n2)).tmod (64 : Int)).toNat 64)))) &&& BitVec.ofInt 64 n8).toNat)), r7.2) else none)

theorem side_Table_get_is (k : Nat) (x0 : Option Addr) (x1 : Int) (σ : AMem) : side_Table_get k x0 x1 σ = d_side_Table_get k x0 x1 σ := by
  cases k with
  | zero => rfl
  | succ k => rw [side_Table_get_eq, d_side_Table_get]; simp only [side_Table_most_is]

noncomputable def d_side_Table_Last_l0 (k n : Nat) (p0 : Option Addr) (i1 : Int) (x8 : Int) (σ : AMem) : Option LOut := match n with
  | 0 => none
  | n + 1 => (bif decide (x8 ≥ (0 : Int)) then ((d_side_Table_get k p0 x8 σ).bind fun r5 => (toI .i64 r5.1).bind fun n6 => bif n6 == i1 then (some (.ret, [.int .i64 x8, .int .i64 (0 : Int)], r5.2)) else (d_side_Table_Last_l0 k n p0 i1 (w64 (x8 - (1 : Int))) r5.2)) else (some (.exit 0, [], σ)))
termination_by structural n

theorem side_Table_Last_l0_is (k n : Nat) (p0 : Option Addr) (i1 : Int) (x8 : Int) (σ : AMem) : side_Table_Last_l0 k n p0 i1 x8 σ = d_side_Table_Last_l0 k n p0 i1 x8 σ := by
  induction n generalizing p0 i1 x8 σ with
  | zero => rfl
  | succ n ih => rw [side_Table_Last_l0_eq, d_side_Table_Last_l0]; simp only [side_Table_made_is, side_Table_get_is, ih]

noncomputable def d_side_Table_Last (k : Nat) (x0 : Option Addr) (x1 : Int) (x2 : Int) (σ : AMem) : Option (Value × AMem) := match k with
  | 0 => none
  | k + 1 => ((d_side_Table_made k x0 σ).bind fun r1 => (toB r1.1).bind fun b2 => bif !b2 then (some (.tuple #[.int .i64 (0 : Int), .int .i64 (5 : Int)], r1.2)) else (x0.bind fun a3 => (ldI .i64 r1.2 a3.block (a3.off + 0)).bind fun n4 => (d_side_Table_Last_l0 k k x0 x2 (w64 ((if n4 < (if (0 : Int) > x1 then (0 : Int) else x1) then n4 else (if (0 : Int) > x1 then (0 : Int) else x1)) - (1 : Int))) r1.2).bind fun r7 => if r7.1 = .exit 0 then (some (.tuple #[.int .i64 (0 : Int), .int .i64 (4 : Int)], r7.2.2)) else if r7.1 = .ret then (u_ii r7.2.1 fun n8 n9 => some (.tuple #[.int .i64 n8, .int .i64 n9], r7.2.2)) else none))

theorem side_Table_Last_is (k : Nat) (x0 : Option Addr) (x1 : Int) (x2 : Int) (σ : AMem) : side_Table_Last k x0 x1 x2 σ = d_side_Table_Last k x0 x1 x2 σ := by
  cases k with
  | zero => rfl
  | succ k => rw [side_Table_Last_eq, d_side_Table_Last]; simp only [side_Table_made_is, side_Table_get_is, side_Table_Last_l0_is]

noncomputable def d_heap_Heap_Find (k : Nat) (x0 : Option Addr) (x1 : Int) (σ : AMem) : Option (Value × AMem) := match k with
  | 0 => none
  | k + 1 => ((d_heap_Heap_made k x0 σ).bind fun r1 => (toB r1.1).bind fun b2 => bif !b2 then (some (.tuple #[.int .i64 (0 : Int), .int .i64 (5 : Int)], r1.2)) else ((bif decide (x1 < (0 : Int)) then some (true, r1.2) else x0.bind fun a3 => (ldS r1.2 a3.block (a3.off + 1)).bind fun l4 => some (decide (x1 ≥ ((l4.2.1 : Nat) : Int)), r1.2)).bind fun r5 => bif r5.1 then (some (.tuple #[.int .i64 (0 : Int), .int .i64 (4 : Int)], r5.2)) else (x0.bind fun a6 => (ldP r5.2 a6.block (a6.off + 2)).bind fun p7 => if (2 : Int) = 0 then none else (d_side_Table_Last k p7 (w64 ((w64 (x1.tdiv (2 : Int))) + (1 : Int))) (1 : Int) r5.2).bind fun r8 => r_ii r8.1 fun n9 n10 => (bif n10 != (0 : Int) then some (true, r8.2) else (d_heap_Heap_size k x0 (w64 ((2 : Int) * n9)) r8.2).bind fun r11 => (toI .i64 r11.1).bind fun n12 => some (decide (x1 ≥ (w64 ((w64 ((2 : Int) * n9)) + n12))), r11.2)).bind fun r13 => bif r13.1 then (some (.tuple #[.int .i64 (0 : Int), .int .i64 (4 : Int)], r13.2)) else (some (.tuple #[.int .i64 (w64 ((2 : Int) * n9)), .int .i64 (0 : Int)], r13.2)))))

theorem heap_Heap_Find_is (k : Nat) (x0 : Option Addr) (x1 : Int) (σ : AMem) : heap_Heap_Find k x0 x1 σ = d_heap_Heap_Find k x0 x1 σ := by
  cases k with
  | zero => rfl
  | succ k => rw [heap_Heap_Find_eq, d_heap_Heap_Find]; simp only [heap_Heap_made_is, heap_Heap_size_is, side_Table_Last_is]

noncomputable def d_heap_Heap_span_l0 (k n : Nat) (p0 : Option Addr) (i1 : Int) (x5 : Int) (σ : AMem) : Option LOut := match n with
  | 0 => none
  | n + 1 => (p0.bind fun a1 => (ldS σ a1.block (a1.off + 0)).bind fun l2 => if 0 ≤ i1 ∧ i1 < (l2.2.1 : Nat) then l2.1.bind fun a3 => (ldI .i64 σ a3.block (a3.off + i1.toNat * 2 + 0)).bind fun n4 => (bif n4 == (2 : Int) then p0.bind fun a5 => (ldS σ a5.block (a5.off + 0)).bind fun l6 => some (decide ((w64 (i1 + x5)) < ((l6.2.1 : Nat) : Int)), σ) else some (false, σ)).bind fun r7 => (bif r7.1 then p0.bind fun a8 => (ldS r7.2 a8.block (a8.off + 0)).bind fun l9 => if 0 ≤ (w64 (i1 + x5)) ∧ (w64 (i1 + x5)) < (l9.2.1 : Nat) then l9.1.bind fun a10 => (ldI .i64 r7.2 a10.block (a10.off + (w64 (i1 + x5)).toNat * 2 + 0)).bind fun n11 => some (n11 == (3 : Int), r7.2) else none else some (false, r7.2)).bind fun r12 => bif r12.1 then (d_heap_Heap_span_l0 k n p0 i1 (w64 (x5 + (1 : Int))) r12.2) else (some (.exit 0, [.int .i64 x5], r12.2)) else none)
termination_by structural n

theorem heap_Heap_span_l0_is (k n : Nat) (p0 : Option Addr) (i1 : Int) (x5 : Int) (σ : AMem) : heap_Heap_span_l0 k n p0 i1 x5 σ = d_heap_Heap_span_l0 k n p0 i1 x5 σ := by
  induction n generalizing p0 i1 x5 σ with
  | zero => rfl
  | succ n ih => rw [heap_Heap_span_l0_eq, d_heap_Heap_span_l0]; simp only [ih]

noncomputable def d_heap_Heap_span (k : Nat) (x0 : Option Addr) (x1 : Int) (σ : AMem) : Option (Value × AMem) := match k with
  | 0 => none
  | k + 1 => ((d_heap_Heap_span_l0 k k x0 x1 (1 : Int) σ).bind fun r13 => if r13.1 = .exit 0 then (u_i r13.2.1 fun n14 => some (.int .i64 n14, r13.2.2)) else none)

theorem heap_Heap_span_is (k : Nat) (x0 : Option Addr) (x1 : Int) (σ : AMem) : heap_Heap_span k x0 x1 σ = d_heap_Heap_span k x0 x1 σ := by
  cases k with
  | zero => rfl
  | succ k => rw [heap_Heap_span_eq, d_heap_Heap_span]; simp only [heap_Heap_span_l0_is]

noncomputable def d_heap_Heap_fits_l0 (k n : Nat) (p0 : Option Addr) (i1 : Int) (i2 : Int) (i3 : Int) (x10 : Int) (σ : AMem) : Option LOut := match n with
  | 0 => none
  | n + 1 => (bif decide (x10 < (w64 (i1 + i2))) then ((d_heap_Heap_Find k p0 x10 σ).bind fun r19 => r_ii r19.1 fun n20 n21 => (bif n21 == (0 : Int) then some (n20 != i3, r19.2) else some (false, r19.2)).bind fun r22 => bif r22.1 then (some (.ret, [.int .i64 (8 : Int)], r22.2)) else (d_heap_Heap_fits_l0 k n p0 i1 i2 i3 (w64 (x10 + (2 : Int))) r22.2)) else (some (.exit 0, [], σ)))
termination_by structural n

theorem heap_Heap_fits_l0_is (k n : Nat) (p0 : Option Addr) (i1 : Int) (i2 : Int) (i3 : Int) (x10 : Int) (σ : AMem) : heap_Heap_fits_l0 k n p0 i1 i2 i3 x10 σ = d_heap_Heap_fits_l0 k n p0 i1 i2 i3 x10 σ := by
  induction n generalizing p0 i1 i2 i3 x10 σ with
  | zero => rfl
  | succ n ih => rw [heap_Heap_fits_l0_eq, d_heap_Heap_fits_l0]; simp only [heap_Heap_Find_is, heap_Heap_span_is, ih]

noncomputable def d_heap_Heap_fits (k : Nat) (x0 : Option Addr) (x1 : Int) (x2 : Int) (x3 : Int) (σ : AMem) : Option (Value × AMem) := match k with
  | 0 => none
  | k + 1 => ((bif decide (x1 < (0 : Int)) then some (true, σ) else x0.bind fun a1 => (ldS σ a1.block (a1.off + 1)).bind fun l2 => some (decide (x1 ≥ ((l2.2.1 : Nat) : Int)), σ)).bind fun r3 => (bif r3.1 then some (true, r3.2) else if (2 : Int) = 0 then none else some ((x1.tmod (2 : Int)) != (0 : Int), r3.2)).bind fun r4 => bif r4.1 then (some (.int .i64 (1 : Int), r4.2)) else (if (64 : Int) = 0 then none else (bif decide (x2 ≤ (32 : Int)) then (x0.bind fun a5 => (ldS r4.2 a5.block (a5.off + 0)).bind fun l6 => if 0 ≤ (w64 (x1.tdiv (64 : Int))) ∧ (w64 (x1.tdiv (64 : Int))) < (l6.2.1 : Nat) then l6.1.bind fun a7 => (ldI .i64 r4.2 a7.block (a7.off + (w64 (x1.tdiv (64 : Int))).toNat * 2 + 0)).bind fun n8 => (bif n8 != (1 : Int) then some (true, r4.2) else if (64 : Int) = 0 then none else some ((w64 ((w64 ((w64 (x1 + x2)) - (1 : Int))).tdiv (64 : Int))) != (w64 (x1.tdiv (64 : Int))), r4.2)).bind fun r9 => bif r9.1 then (some (.ret, [.int .i64 (5 : Int)], r9.2)) else (some (.normal, [], r9.2)) else none) else (x0.bind fun a10 => (ldS r4.2 a10.block (a10.off + 0)).bind fun l11 => if 0 ≤ (w64 (x1.tdiv (64 : Int))) ∧ (w64 (x1.tdiv (64 : Int))) < (l11.2.1 : Nat) then l11.1.bind fun a12 => (ldI .i64 r4.2 a12.block (a12.off + (w64 (x1.tdiv (64 : Int))).toNat * 2 + 0)).bind fun n13 => (bif n13 != (2 : Int) then some (true, r4.2) else if (64 : Int) = 0 then none else some ((x1.tmod (64 : Int)) != (0 : Int), r4.2)).bind fun r14 => (bif r14.1 then some (true, r14.2) else (d_heap_Heap_span k x0 (w64 (x1.tdiv (64 : Int))) r14.2).bind fun r15 => (toI .i64 r15.1).bind fun n16 => if (64 : Int) = 0 then none else some (n16 != (w64 ((w64 ((w64 (x2 + (64 : Int))) - (1 : Int))).tdiv (64 : Int))), r15.2)).bind fun r17 => bif r17.1 then (some (.ret, [.int .i64 (5 : Int)], r17.2)) else (some (.normal, [], r17.2)) else none) : Option LOut).bind fun r18 => if r18.1 = .normal then ((d_heap_Heap_fits_l0 k k x0 x1 x2 x3 x1 r18.2.2).bind fun r23 => if r23.1 = .exit 0 then (some (.int .i64 (0 : Int), r23.2.2)) else if r23.1 = .ret then (u_i r23.2.1 fun n24 => some (.int .i64 n24, r23.2.2)) else none) else if r18.1 = .ret then (u_i r18.2.1 fun n25 => some (.int .i64 n25, r18.2.2)) else none))

theorem heap_Heap_fits_is (k : Nat) (x0 : Option Addr) (x1 : Int) (x2 : Int) (x3 : Int) (σ : AMem) : heap_Heap_fits k x0 x1 x2 x3 σ = d_heap_Heap_fits k x0 x1 x2 x3 σ := by
  cases k with
  | zero => rfl
  | succ k => rw [heap_Heap_fits_eq, d_heap_Heap_fits]; simp only [heap_Heap_Find_is, heap_Heap_span_is, heap_Heap_fits_l0_is]

noncomputable def d_heap_number (k : Nat) (x0_0 : Int) (x0_1 : Int) (x0_2 : Int) (σ : AMem) : Option (Value × AMem) := match k with
  | 0 => none
  | k + 1 => (allocK σ (.cells [.int .i64 x0_0, .int .i64 x0_1, .int .i64 x0_2] 23 true) fun h1 s2 => (ldI .i64 s2 h1 (0 + 0)).bind fun n3 => (ldI .i64 s2 h1 (0 + 1)).bind fun n4 => (ldI .i64 s2 h1 (0 + 2)).bind fun n5 => some (.int .i64 (w64 ((w64 (n3 + (w64 ((16 : Int) * n4)))) + (w64 ((4096 : Int) * n5)))), s2))

theorem heap_number_is (k : Nat) (x0_0 : Int) (x0_1 : Int) (x0_2 : Int) (σ : AMem) : heap_number k x0_0 x0_1 x0_2 σ = d_heap_number k x0_0 x0_1 x0_2 σ := by
  cases k with
  | zero => rfl
  | succ k => rw [heap_number_eq, d_heap_number]

noncomputable def d_side_Table_there (k : Nat) (x0 : Option Addr) (x1 : Int) (σ : AMem) : Option (Value × AMem) := match k with
  | 0 => none
  | k + 1 => ((d_side_Table_made k x0 σ).bind fun r1 => (toB r1.1).bind fun b2 => (bif b2 then some (decide (x1 ≥ (0 : Int)), r1.2) else some (false, r1.2)).bind fun r3 => (bif r3.1 then x0.bind fun a4 => (ldI .i64 r3.2 a4.block (a4.off + 0)).bind fun n5 => some (decide (x1 < n5), r3.2) else some (false, r3.2)).bind fun r6 => some (.bool r6.1, r6.2))

theorem side_Table_there_is (k : Nat) (x0 : Option Addr) (x1 : Int) (σ : AMem) : side_Table_there k x0 x1 σ = d_side_Table_there k x0 x1 σ := by
  cases k with
  | zero => rfl
  | succ k => rw [side_Table_there_eq, d_side_Table_there]; simp only [side_Table_made_is]

noncomputable def d_side_Table_value (k : Nat) (x0 : Option Addr) (x1 : Int) (σ : AMem) : Option (Value × AMem) := match k with
  | 0 => none
  | k + 1 => ((bif decide (x1 ≥ (0 : Int)) then (d_side_Table_most k x0 σ).bind fun r1 => (toI .i64 r1.1).bind fun n2 => some (decide (x1 ≤ n2), r1.2) else some (false, σ)).bind fun r3 => some (.bool r3.1, r3.2))

theorem side_Table_value_is (k : Nat) (x0 : Option Addr) (x1 : Int) (σ : AMem) : side_Table_value k x0 x1 σ = d_side_Table_value k x0 x1 σ := by
  cases k with
  | zero => rfl
  | succ k => rw [side_Table_value_eq, d_side_Table_value]; simp only [side_Table_most_is]

noncomputable def d_side_Table_check_c1 (k : Nat) (x0 : Int) (c0 : Option Addr) (σ : AMem) : Option (Value × AMem) := match k with
  | 0 => none
  | k + 1 => (c0.bind fun a1 => (ldP σ a1.block a1.off).bind fun p2 => (d_side_Table_value k p2 x0 σ).bind fun r3 => (toB r3.1).bind fun b4 => some (.bool (!b4), r3.2))

theorem side_Table_check_c1_is (k : Nat) (x0 : Int) (c0 : Option Addr) (σ : AMem) : side_Table_check_c1 k x0 c0 σ = d_side_Table_check_c1 k x0 c0 σ := by
  cases k with
  | zero => rfl
  | succ k => rw [side_Table_check_c1_eq, d_side_Table_check_c1]; simp only [side_Table_value_is]

noncomputable def d_callN_i_t (k : Nat) (n : FuncId) (l : List Value) (σ : AMem) : Option (Value × AMem) :=
  if n = 95 then (match l with
    | [.int .i64 y1, .pointer y2] => d_side_Table_check_c1 k y1 y2 σ
    | l => fn P X2 H k 95 l σ) else
  fn P X2 H k n l σ

theorem callN_i_t_is (k : Nat) (n : FuncId) (l : List Value) (σ : AMem) : fn P X2 H k n l σ = d_callN_i_t k n l σ := by
  unfold d_callN_i_t
  split
  · rename_i hn; subst hn
    split
    · exact side_Table_check_c1_is k _ _ σ
    · rfl
  rfl

noncomputable def d_callV_i_t (k : Nat) (f : Value) (args : List Value) (σ : AMem) : Option (Value × AMem) := match f with
  | .func (.func n) first cap => d_callN_i_t k n (first.toList ++ args ++ cap.toList) σ
  | .func (.method nm) first _ => (match first.toList ++ args with
    | .iface t v :: rest => (methodF P t nm).bind fun n => d_callN_i_t k n (v :: rest) σ
    | _ => none)
  | _ => none

theorem callV_i_t_is (k : Nat) (f : Value) (args : List Value) (σ : AMem) : callV_i_t k f args σ = d_callV_i_t k f args σ := by
  unfold callV_i_t callVal d_callV_i_t
  simp only [callN_i_t_is]
  rfl

noncomputable def d_slices_IndexFunc_int_l0 (k n : Nat) (p0 : Option Addr) (c1 : Nat) (c2 : Nat) (v3 : Value) (i4 : Int) (x8 : Int) (σ : AMem) : Option LOut := match n with
  | 0 => none
  | n + 1 => (bif decide (x8 < i4) then (if 0 ≤ x8 ∧ x8 < (c1 : Nat) then p0.bind fun a1 => (ldI .i64 σ a1.block (a1.off + x8.toNat * 1)).bind fun n2 => (d_callV_i_t k v3 [.int .i64 n2] σ).bind fun r3 => (toB r3.1).bind fun b4 => bif b4 then (some (.ret, [.int .i64 x8], r3.2)) else (d_slices_IndexFunc_int_l0 k n p0 c1 c2 v3 i4 (w64 (x8 + (1 : Int))) r3.2) else none) else (some (.exit 0, [], σ)))
termination_by structural n

theorem slices_IndexFunc_int_l0_is (k n : Nat) (p0 : Option Addr) (c1 : Nat) (c2 : Nat) (v3 : Value) (i4 : Int) (x8 : Int) (σ : AMem) : slices_IndexFunc_int_l0 k n p0 c1 c2 v3 i4 x8 σ = d_slices_IndexFunc_int_l0 k n p0 c1 c2 v3 i4 x8 σ := by
  induction n generalizing p0 c1 c2 v3 i4 x8 σ with
  | zero => rfl
  | succ n ih => rw [slices_IndexFunc_int_l0_eq, d_slices_IndexFunc_int_l0]; simp only [callV_i_t_is, ih]

noncomputable def d_slices_IndexFunc_int (k : Nat) (x0 : Option Addr × Nat × Nat) (x1 : Value) (σ : AMem) : Option (Value × AMem) := match k with
  | 0 => none
  | k + 1 => ((d_slices_IndexFunc_int_l0 k k x0.1 x0.2.1 x0.2.2 x1 ((x0.2.1 : Nat) : Int) (0 : Int) σ).bind fun r5 => if r5.1 = .exit 0 then (some (.int .i64 (-1 : Int), r5.2.2)) else if r5.1 = .ret then (u_i r5.2.1 fun n6 => some (.int .i64 n6, r5.2.2)) else none)

theorem slices_IndexFunc_int_is (k : Nat) (x0 : Option Addr × Nat × Nat) (x1 : Value) (σ : AMem) : slices_IndexFunc_int k x0 x1 σ = d_slices_IndexFunc_int k x0 x1 σ := by
  cases k with
  | zero => rfl
  | succ k => rw [slices_IndexFunc_int_eq, d_slices_IndexFunc_int]; simp only [callV_i_t_is, slices_IndexFunc_int_l0_is]

noncomputable def d_slices_ContainsFunc_int (k : Nat) (x0 : Option Addr × Nat × Nat) (x1 : Value) (σ : AMem) : Option (Value × AMem) := match k with
  | 0 => none
  | k + 1 => ((d_slices_IndexFunc_int k (x0.1, x0.2.1, x0.2.2) (x1) σ).bind fun r1 => (toI .i64 r1.1).bind fun n2 => some (.bool (decide (n2 ≥ (0 : Int))), r1.2))

theorem slices_ContainsFunc_int_is (k : Nat) (x0 : Option Addr × Nat × Nat) (x1 : Value) (σ : AMem) : slices_ContainsFunc_int k x0 x1 σ = d_slices_ContainsFunc_int k x0 x1 σ := by
  cases k with
  | zero => rfl
  | succ k => rw [slices_ContainsFunc_int_eq, d_slices_ContainsFunc_int]; simp only [slices_IndexFunc_int_is]

noncomputable def d_side_Table_check (k : Nat) (x0 : Option Addr) (x1 : Int) (x2 : Option Addr × Nat × Nat) (σ : AMem) : Option (Value × AMem) := match k with
  | 0 => none
  | k + 1 => (allocK σ (.cells [.pointer x0] 69 true) fun h1 s2 => (ldP s2 h1 0).bind fun p3 => (d_side_Table_made k p3 s2).bind fun r4 => (toB r4.1).bind fun b5 => bif !b5 then (some (.int .i64 (5 : Int), r4.2)) else ((ldP r4.2 h1 0).bind fun p6 => (d_side_Table_there k p6 x1 r4.2).bind fun r7 => (toB r7.1).bind fun b8 => (bif !b8 then some (true, r7.2) else (d_slices_ContainsFunc_int k (x2.1, x2.2.1, x2.2.2) (.func (.func 95) #[] #[.pointer (some ⟨h1, 0, none⟩)]) r7.2).bind fun r9 => (toB r9.1).bind fun b10 => some (b10, r9.2)).bind fun r11 => bif r11.1 then (some (.int .i64 (1 : Int), r11.2)) else (some (.int .i64 (0 : Int), r11.2))))

theorem side_Table_check_is (k : Nat) (x0 : Option Addr) (x1 : Int) (x2 : Option Addr × Nat × Nat) (σ : AMem) : side_Table_check k x0 x1 x2 σ = d_side_Table_check k x0 x1 x2 σ := by
  cases k with
  | zero => rfl
  | succ k => rw [side_Table_check_eq, d_side_Table_check]; simp only [side_Table_made_is, side_Table_there_is, slices_ContainsFunc_int_is]

noncomputable def d_side_Table_put (k : Nat) (x0 : Option Addr) (x1 : Int) (x2 : Int) (σ : AMem) : Option (Value × AMem) := match k with
  | 0 => none
  | k + 1 => (x0.bind fun a1 => (ldI .i64 σ a1.block (a1.off + 1)).bind fun n2 => x0.bind fun a3 => (ldS σ a3.block (a3.off + 2)).bind fun l4 => if (64 : Int) = 0 then none else if 0 ≤ (w64 ((w64 (x1 * n2)).tdiv (64 : Int))) ∧ (w64 ((w64 (x1 * n2)).tdiv (64 : Int))) < (l4.2.1 : Nat) then l4.1.bind fun a5 => (ldI .u64 σ a5.block (a5.off + (w64 ((w64 (x1 * n2)).tdiv (64 : Int))).toNat * 1)).bind fun n6 => (d_side_Table_most k x0 σ).bind fun r7 => (toI .i64 r7.1).bind fun n8 => if (64 : Int) = 0 then none else if ((w64 (x1 * n2)).tmod (64 : Int)) < 0 then none else if (64 : Int) = 0 then none else if ((w64 (x1 * n2)).tmod (64 : Int)) < 0 then none else (st1 r7.2 a5.block (a5.off + (w64 ((w64 (x1 * n2)).tdiv (64 : Int))).toNat * 1) (.int .u64 (u64 ((BitVec.ofInt 64 (u64 ((BitVec.ofInt 64 n6 &&& ~~~ (BitVec.ofInt 64 (u64 ((u64 (n8)) * 2 ^ (min ((w64 (x1 * n2)).tmod (64 : Int)).toNat 64))))).toNat)) ||| BitVec.ofInt 64 (u64 ((u64 (x2)) * 2 ^ (min ((w64 (x1 * n2)).tmod (64 : Int)).toNat 64)))).toNat)))).bind fun s9 => some (.tuple #[], s9) else none)

theorem side_Table_put_is (k : Nat) (x0 : Option Addr) (x1 : Int) (x2 : Int) (σ : AMem) : side_Table_put k x0 x1 x2 σ = d_side_Table_put k x0 x1 x2 σ := by
  cases k with
  | zero => rfl
  | succ k => rw [side_Table_put_eq, d_side_Table_put]; simp only [side_Table_most_is]

noncomputable def d_side_Table_Set (k : Nat) (x0 : Option Addr) (x1 : Int) (x2 : Int) (σ : AMem) : Option (Value × AMem) := match k with
  | 0 => none
  | k + 1 => (allocK σ (.cells [.int .i64 x2] 3 true) fun h1 s2 => (d_side_Table_check k x0 x1 (some ⟨h1, 0, none⟩, 1, 1) s2).bind fun r3 => (toI .i64 r3.1).bind fun n4 => bif n4 != (0 : Int) then (some (.int .i64 n4, r3.2)) else ((d_side_Table_put k x0 x1 x2 r3.2).bind fun r5 => r_0 r5.1 (some (.int .i64 (0 : Int), r5.2))))

theorem side_Table_Set_is (k : Nat) (x0 : Option Addr) (x1 : Int) (x2 : Int) (σ : AMem) : side_Table_Set k x0 x1 x2 σ = d_side_Table_Set k x0 x1 x2 σ := by
  cases k with
  | zero => rfl
  | succ k => rw [side_Table_Set_eq, d_side_Table_Set]; simp only [side_Table_check_is, side_Table_put_is]

noncomputable def d_heap_Heap_Place (k : Nat) (x0 : Option Addr) (x1 : Int) (x2_0 : Int) (x2_1 : Int) (x2_2 : Int) (σ : AMem) : Option (Value × AMem) := match k with
  | 0 => none
  | k + 1 => (allocK σ (.cells [.int .i64 x2_0, .int .i64 x2_1, .int .i64 x2_2] 23 true) fun h1 s2 => (d_heap_Heap_made k x0 s2).bind fun r3 => (toB r3.1).bind fun b4 => bif !b4 then (some (.tuple #[.int .i64 (0 : Int), .int .i64 (5 : Int)], r3.2)) else ((ldI .i64 r3.2 h1 0).bind fun n5 => (ldI .i64 r3.2 h1 (0 + 1)).bind fun n6 => (ldI .i64 r3.2 h1 (0 + 1 + 1)).bind fun n7 => (d_heap_Valid k n5 n6 n7 r3.2).bind fun r8 => (toB r8.1).bind fun b9 => bif !b9 then (some (.tuple #[.int .i64 (0 : Int), .int .i64 (2 : Int)], r8.2)) else ((ldI .i64 r8.2 h1 0).bind fun n10 => (ldI .i64 r8.2 h1 (0 + 1)).bind fun n11 => (ldI .i64 r8.2 h1 (0 + 1 + 1)).bind fun n12 => (d_heap_Words k n10 n11 n12 r8.2).bind fun r13 => (toI .i64 r13.1).bind fun n14 => (d_heap_Heap_fits k x0 x1 n14 (-1 : Int) r13.2).bind fun r15 => (toI .i64 r15.1).bind fun n16 => bif n16 != (0 : Int) then (some (.tuple #[.int .i64 (0 : Int), .int .i64 n16], r15.2)) else (x0.bind fun a17 => (ldI .i64 r15.2 a17.block (a17.off + 6)).bind fun n18 => x0.bind fun a19 => (st1 r15.2 a19.block (a19.off + 6) (.int .i64 (w64 (n18 + (1 : Int))))).bind fun s20 => x0.bind fun a21 => (ldS s20 a21.block (a21.off + 1)).bind fun l22 => x0.bind fun a23 => (ldS s20 a23.block (a23.off + 1)).bind fun l24 => x0.bind fun a25 => (ldI .i64 s20 a25.block (a25.off + 6)).bind fun n26 => (ldI .i64 s20 h1 0).bind fun n27 => (ldI .i64 s20 h1 (0 + 1)).bind fun n28 => (ldI .i64 s20 h1 (0 + 1 + 1)).bind fun n29 => (d_heap_number k n27 n28 n29 s20).bind fun r30 => (toI .i64 r30.1).bind fun n31 => if 0 ≤ x1 ∧ x1 < (l22.2.1 : Nat) then l22.1.bind fun a32 => (st1 r30.2 a32.block (a32.off + x1.toNat * 1) (.int .i64 n26)).bind fun s33 => if 0 ≤ (w64 (x1 + (1 : Int))) ∧ (w64 (x1 + (1 : Int))) < (l24.2.1 : Nat) then l24.1.bind fun a34 => (st1 s33 a34.block (a34.off + (w64 (x1 + (1 : Int))).toNat * 1) (.int .i64 n31)).bind fun s35 => x0.bind fun a36 => (ldP s35 a36.block (a36.off + 2)).bind fun p37 => if (2 : Int) = 0 then none else (d_side_Table_Set k p37 (w64 (x1.tdiv (2 : Int))) (1 : Int) s35).bind fun r38 => (toI .i64 r38.1).bind fun n39 => x0.bind fun a40 => (ldM r38.2 a40.block (a40.off + 4)).bind fun m41 => x0.bind fun a42 => (ldI .i64 r38.2 a42.block (a42.off + 6)).bind fun n43 => m41.bind fun h45 => (ldMap r38.2 h45).bind fun es44 => x0.bind fun a46 => (ldI .i64 (List.set r38.2 h45 (.map (mapSet n43 (.int .i64 x1) es44))) a46.block (a46.off + 6)).bind fun n47 => some (.tuple #[.int .i64 n47, .int .i64 (0 : Int)], (List.set r38.2 h45 (.map (mapSet n43 (.int .i64 x1) es44)))) else none else none))))

theorem heap_Heap_Place_is (k : Nat) (x0 : Option Addr) (x1 : Int) (x2_0 : Int) (x2_1 : Int) (x2_2 : Int) (σ : AMem) : heap_Heap_Place k x0 x1 x2_0 x2_1 x2_2 σ = d_heap_Heap_Place k x0 x1 x2_0 x2_1 x2_2 σ := by
  cases k with
  | zero => rfl
  | succ k => rw [heap_Heap_Place_eq, d_heap_Heap_Place]; simp only [heap_Valid_is, heap_Words_is, heap_Heap_made_is, heap_Heap_fits_is, heap_number_is, side_Table_Set_is]

noncomputable def d_side_Table_Get (k : Nat) (x0 : Option Addr) (x1 : Int) (σ : AMem) : Option (Value × AMem) := match k with
  | 0 => none
  | k + 1 => ((d_side_Table_there k x0 x1 σ).bind fun r1 => (toB r1.1).bind fun b2 => bif !b2 then (some (.int .i64 (-1 : Int), r1.2)) else ((d_side_Table_get k x0 x1 r1.2).bind fun r3 => (toI .i64 r3.1).bind fun n4 => some (.int .i64 n4, r3.2)))

theorem side_Table_Get_is (k : Nat) (x0 : Option Addr) (x1 : Int) (σ : AMem) : side_Table_Get k x0 x1 σ = d_side_Table_Get k x0 x1 σ := by
  cases k with
  | zero => rfl
  | succ k => rw [side_Table_Get_eq, d_side_Table_Get]; simp only [side_Table_get_is, side_Table_there_is]

noncomputable def d_heap_Heap_Has (k : Nat) (x0 : Option Addr) (x1 : Int) (σ : AMem) : Option (Value × AMem) := match k with
  | 0 => none
  | k + 1 => ((d_heap_Heap_made k x0 σ).bind fun r1 => (toB r1.1).bind fun b2 => (bif b2 then some (decide (x1 ≥ (0 : Int)), r1.2) else some (false, r1.2)).bind fun r3 => (bif r3.1 then if (2 : Int) = 0 then none else some ((x1.tmod (2 : Int)) == (0 : Int), r3.2) else some (false, r3.2)).bind fun r4 => (bif r4.1 then x0.bind fun a5 => (ldP r4.2 a5.block (a5.off + 2)).bind fun p6 => if (2 : Int) = 0 then none else (d_side_Table_Get k p6 (w64 (x1.tdiv (2 : Int))) r4.2).bind fun r7 => (toI .i64 r7.1).bind fun n8 => some (n8 == (1 : Int), r7.2) else some (false, r4.2)).bind fun r9 => some (.bool r9.1, r9.2))

theorem heap_Heap_Has_is (k : Nat) (x0 : Option Addr) (x1 : Int) (σ : AMem) : heap_Heap_Has k x0 x1 σ = d_heap_Heap_Has k x0 x1 σ := by
  cases k with
  | zero => rfl
  | succ k => rw [heap_Heap_Has_eq, d_heap_Heap_Has]; simp only [heap_Heap_made_is, side_Table_Get_is]

noncomputable def d_heap_Heap_object (k : Nat) (x0 : Option Addr) (x1 : Int) (σ : AMem) : Option (Value × AMem) := match k with
  | 0 => none
  | k + 1 => ((d_heap_Heap_made k x0 σ).bind fun r1 => (toB r1.1).bind fun b2 => bif !b2 then (some (.int .i64 (5 : Int), r1.2)) else ((d_heap_Heap_Has k x0 x1 r1.2).bind fun r3 => (toB r3.1).bind fun b4 => bif !b4 then (some (.int .i64 (4 : Int), r3.2)) else (some (.int .i64 (0 : Int), r3.2))))

theorem heap_Heap_object_is (k : Nat) (x0 : Option Addr) (x1 : Int) (σ : AMem) : heap_Heap_object k x0 x1 σ = d_heap_Heap_object k x0 x1 σ := by
  cases k with
  | zero => rfl
  | succ k => rw [heap_Heap_object_eq, d_heap_Heap_object]; simp only [heap_Heap_Has_is, heap_Heap_made_is]

noncomputable def d_heap_Heap_wipe (k : Nat) (x0 : Option Addr) (x1 : Int) (x2 : Int) (σ : AMem) : Option (Value × AMem) := match k with
  | 0 => none
  | k + 1 => (x0.bind fun a1 => (ldS σ a1.block (a1.off + 1)).bind fun l2 => (sliceD 3 1 (l2.1, l2.2.1, l2.2.2) (some (.int .i64 x1)) (some (.int .i64 (w64 (x1 + x2)))) none σ).bind fun l3 => (if l3.2.1 = 0 then some σ else l3.1.bind fun a5 => stN σ a5.block a5.off (rep l3.2.1 [.int .i64 (0 : Int)])).bind fun s4 => some (.tuple #[], s4))

theorem heap_Heap_wipe_is (k : Nat) (x0 : Option Addr) (x1 : Int) (x2 : Int) (σ : AMem) : heap_Heap_wipe k x0 x1 x2 σ = d_heap_Heap_wipe k x0 x1 x2 σ := by
  cases k with
  | zero => rfl
  | succ k => rw [heap_Heap_wipe_eq, d_heap_Heap_wipe]

noncomputable def d_heap_Heap_Move (k : Nat) (x0 : Option Addr) (x1 : Int) (x2 : Int) (σ : AMem) : Option (Value × AMem) := match k with
  | 0 => none
  | k + 1 => ((d_heap_Heap_object k x0 x1 σ).bind fun r1 => (toI .i64 r1.1).bind fun n2 => bif n2 != (0 : Int) then (some (.int .i64 n2, r1.2)) else ((d_heap_Heap_size k x0 x1 r1.2).bind fun r3 => (toI .i64 r3.1).bind fun n4 => (d_heap_Heap_fits k x0 x2 n4 x1 r3.2).bind fun r5 => (toI .i64 r5.1).bind fun n6 => bif n6 != (0 : Int) then (some (.int .i64 n6, r5.2)) else (x0.bind fun a7 => (ldP r5.2 a7.block (a7.off + 3)).bind fun p8 => if (2 : Int) = 0 then none else (d_side_Table_Get k p8 (w64 (x1.tdiv (2 : Int))) r5.2).bind fun r9 => (toI .i64 r9.1).bind fun n10 => if 0 ≤ n4 ∧ n4 ≤ n4 ∧ n4 * (8 : Nat) ≤ 2 ^ 40 ∧ n4 ≤ 2 ^ 40 then allocK r9.2 (.cells (rep n4.toNat [.int .i64 (0 : Int)]) 3 true) fun h11 s12 => x0.bind fun a13 => (ldS s12 a13.block (a13.off + 1)).bind fun l14 => (sliceD 3 1 (l14.1, l14.2.1, l14.2.2) (some (.int .i64 x1)) (some (.int .i64 (w64 (x1 + n4)))) none s12).bind fun l15 => (firstA s12 1 l15.1 (Nat.min l15.2.1 n4.toNat)).bind fun w16 => (stO s12 (some ⟨h11, 0, none⟩) w16).bind fun s17 => x0.bind fun a18 => (ldP s17 a18.block (a18.off + 2)).bind fun p19 => if (2 : Int) = 0 then none else (d_side_Table_Set k p19 (w64 (x1.tdiv (2 : Int))) (0 : Int) s17).bind fun r20 => (toI .i64 r20.1).bind fun n21 => x0.bind fun a22 => (ldP r20.2 a22.block (a22.off + 3)).bind fun p23 => if (2 : Int) = 0 then none else (d_side_Table_Set k p23 (w64 (x1.tdiv (2 : Int))) (0 : Int) r20.2).bind fun r24 => (toI .i64 r24.1).bind fun n25 => (d_heap_Heap_wipe k x0 x1 n4 r24.2).bind fun r26 => r_0 r26.1 (x0.bind fun a27 => (ldS r26.2 a27.block (a27.off + 1)).bind fun l28 => (sliceD 3 1 (l28.1, l28.2.1, l28.2.2) (some (.int .i64 x2)) none none r26.2).bind fun l29 => (firstA r26.2 1 (some ⟨h11, 0, none⟩) (Nat.min n4.toNat l29.2.1)).bind fun w30 => (stO r26.2 l29.1 w30).bind fun s31 => x0.bind fun a32 => (ldP s31 a32.block (a32.off + 2)).bind fun p33 => if (2 : Int) = 0 then none else (d_side_Table_Set k p33 (w64 (x2.tdiv (2 : Int))) (1 : Int) s31).bind fun r34 => (toI .i64 r34.1).bind fun n35 => x0.bind fun a36 => (ldP r34.2 a36.block (a36.off + 3)).bind fun p37 => if (2 : Int) = 0 then none else (d_side_Table_Set k p37 (w64 (x2.tdiv (2 : Int))) n10 r34.2).bind fun r38 => (toI .i64 r38.1).bind fun n39 => x0.bind fun a40 => (ldM r38.2 a40.block (a40.off + 4)).bind fun m41 => if 0 ≤ (0 : Int) ∧ (0 : Int) < (n4.toNat : Nat) then (ldI .i64 r38.2 h11 (0 + (0 : Int).toNat * 1)).bind fun n42 => m41.bind fun h44 => (ldMap r38.2 h44).bind fun es43 => x0.bind fun a45 => (ldM (List.set r38.2 h44 (.map (mapSet n42 (.int .i64 x2) es43))) a45.block (a45.off + 5)).bind fun m46 => m46.bind fun h48 => (ldMap (List.set r38.2 h44 (.map (mapSet n42 (.int .i64 x2) es43))) h48).bind fun es47 => some (.int .i64 (0 : Int), (List.set (List.set r38.2 h44 (.map (mapSet n42 (.int .i64 x2) es43))) h48 (.map (mapSet x1 (.int .i64 x2) es47)))) else none) else none)))

theorem heap_Heap_Move_is (k : Nat) (x0 : Option Addr) (x1 : Int) (x2 : Int) (σ : AMem) : heap_Heap_Move k x0 x1 x2 σ = d_heap_Heap_Move k x0 x1 x2 σ := by
  cases k with
  | zero => rfl
  | succ k => rw [heap_Heap_Move_eq, d_heap_Heap_Move]; simp only [heap_Heap_object_is, heap_Heap_fits_is, side_Table_Set_is, heap_Heap_size_is, side_Table_Get_is, heap_Heap_wipe_is]

noncomputable def d_heap_Heap_there (k : Nat) (x0 : Option Addr) (x1 : Int) (σ : AMem) : Option (Value × AMem) := match k with
  | 0 => none
  | k + 1 => ((d_heap_Heap_made k x0 σ).bind fun r1 => (toB r1.1).bind fun b2 => (bif b2 then some (decide (x1 ≥ (1 : Int)), r1.2) else some (false, r1.2)).bind fun r3 => (bif r3.1 then x0.bind fun a4 => (ldS r3.2 a4.block (a4.off + 0)).bind fun l5 => some (decide (x1 < ((l5.2.1 : Nat) : Int)), r3.2) else some (false, r3.2)).bind fun r6 => some (.bool r6.1, r6.2))

theorem heap_Heap_there_is (k : Nat) (x0 : Option Addr) (x1 : Int) (σ : AMem) : heap_Heap_there k x0 x1 σ = d_heap_Heap_there k x0 x1 σ := by
  cases k with
  | zero => rfl
  | succ k => rw [heap_Heap_there_eq, d_heap_Heap_there]; simp only [heap_Heap_made_is]

noncomputable def d_heap_space (k : Nat) (x0 : Int) (σ : AMem) : Option (Value × AMem) := match k with
  | 0 => none
  | k + 1 => ((bif decide (x0 ≥ (0 : Int)) then some (decide (x0 < (8 : Int)), σ) else some (false, σ)).bind fun r1 => some (.bool r1.1, r1.2))

theorem heap_space_is (k : Nat) (x0 : Int) (σ : AMem) : heap_space k x0 σ = d_heap_space k x0 σ := by
  cases k with
  | zero => rfl
  | succ k => rw [heap_space_eq, d_heap_space]

noncomputable def d_heap_Heap_claim_c1 (k : Nat) (x0_0 : Int) (x0_1 : Int) (σ : AMem) : Option (Value × AMem) := match k with
  | 0 => none
  | k + 1 => (allocK σ (.cells [.int .i64 x0_0, .int .i64 x0_1] 77 true) fun h1 s2 => (ldI .i64 s2 h1 0).bind fun n3 => (ldI .i64 s2 h1 (0 + 1)).bind fun n4 => (eqA P 77 (.agg #[.int .i64 n3, .int .i64 n4]) (.agg #[.int .i64 (0 : Int), .int .i64 (0 : Int)])).bind fun e5 => some (.bool (!e5), s2))

theorem heap_Heap_claim_c1_is (k : Nat) (x0_0 : Int) (x0_1 : Int) (σ : AMem) : heap_Heap_claim_c1 k x0_0 x0_1 σ = d_heap_Heap_claim_c1 k x0_0 x0_1 σ := by
  cases k with
  | zero => rfl
  | succ k => rw [heap_Heap_claim_c1_eq, d_heap_Heap_claim_c1]

noncomputable def d_callN_ii_t (k : Nat) (n : FuncId) (l : List Value) (σ : AMem) : Option (Value × AMem) :=
  if n = 93 then (match l with
    | [.agg ⟨[.int .i64 y1, .int .i64 y2]⟩] => d_heap_Heap_claim_c1 k y1 y2 σ
    | l => fn P X2 H k 93 l σ) else
  fn P X2 H k n l σ

theorem callN_ii_t_is (k : Nat) (n : FuncId) (l : List Value) (σ : AMem) : fn P X2 H k n l σ = d_callN_ii_t k n l σ := by
  unfold d_callN_ii_t
  split
  · rename_i hn; subst hn
    split
    · exact heap_Heap_claim_c1_is k _ _ σ
    · rfl
  rfl

noncomputable def d_callV_ii_t (k : Nat) (f : Value) (args : List Value) (σ : AMem) : Option (Value × AMem) := match f with
  | .func (.func n) first cap => d_callN_ii_t k n (first.toList ++ args ++ cap.toList) σ
  | .func (.method nm) first _ => (match first.toList ++ args with
    | .iface t v :: rest => (methodF P t nm).bind fun n => d_callN_ii_t k n (v :: rest) σ
    | _ => none)
  | _ => none

theorem callV_ii_t_is (k : Nat) (f : Value) (args : List Value) (σ : AMem) : callV_ii_t k f args σ = d_callV_ii_t k f args σ := by
  unfold callV_ii_t callVal d_callV_ii_t
  simp only [callN_ii_t_is]
  rfl

noncomputable def d_slices_IndexFunc_heap_block_l0 (k n : Nat) (p0 : Option Addr) (c1 : Nat) (c2 : Nat) (v3 : Value) (i4 : Int) (x8 : Int) (σ : AMem) : Option LOut := match n with
  | 0 => none
  | n + 1 => (bif decide (x8 < i4) then (if 0 ≤ x8 ∧ x8 < (c1 : Nat) then p0.bind fun a1 => (ldI .i64 σ a1.block (a1.off + x8.toNat * 2)).bind fun n2 => (ldI .i64 σ a1.block (a1.off + x8.toNat * 2 + 1)).bind fun n3 => (d_callV_ii_t k v3 [.agg #[.int .i64 n2, .int .i64 n3]] σ).bind fun r4 => (toB r4.1).bind fun b5 => bif b5 then (some (.ret, [.int .i64 x8], r4.2)) else (d_slices_IndexFunc_heap_block_l0 k n p0 c1 c2 v3 i4 (w64 (x8 + (1 : Int))) r4.2) else none) else (some (.exit 0, [], σ)))
termination_by structural n

theorem slices_IndexFunc_heap_block_l0_is (k n : Nat) (p0 : Option Addr) (c1 : Nat) (c2 : Nat) (v3 : Value) (i4 : Int) (x8 : Int) (σ : AMem) : slices_IndexFunc_heap_block_l0 k n p0 c1 c2 v3 i4 x8 σ = d_slices_IndexFunc_heap_block_l0 k n p0 c1 c2 v3 i4 x8 σ := by
  induction n generalizing p0 c1 c2 v3 i4 x8 σ with
  | zero => rfl
  | succ n ih => rw [slices_IndexFunc_heap_block_l0_eq, d_slices_IndexFunc_heap_block_l0]; simp only [callV_ii_t_is, ih]

noncomputable def d_slices_IndexFunc_heap_block (k : Nat) (x0 : Option Addr × Nat × Nat) (x1 : Value) (σ : AMem) : Option (Value × AMem) := match k with
  | 0 => none
  | k + 1 => ((d_slices_IndexFunc_heap_block_l0 k k x0.1 x0.2.1 x0.2.2 x1 ((x0.2.1 : Nat) : Int) (0 : Int) σ).bind fun r6 => if r6.1 = .exit 0 then (some (.int .i64 (-1 : Int), r6.2.2)) else if r6.1 = .ret then (u_i r6.2.1 fun n7 => some (.int .i64 n7, r6.2.2)) else none)

theorem slices_IndexFunc_heap_block_is (k : Nat) (x0 : Option Addr × Nat × Nat) (x1 : Value) (σ : AMem) : slices_IndexFunc_heap_block k x0 x1 σ = d_slices_IndexFunc_heap_block k x0 x1 σ := by
  cases k with
  | zero => rfl
  | succ k => rw [slices_IndexFunc_heap_block_eq, d_slices_IndexFunc_heap_block]; simp only [callV_ii_t_is, slices_IndexFunc_heap_block_l0_is]

noncomputable def d_slices_ContainsFunc_heap_block (k : Nat) (x0 : Option Addr × Nat × Nat) (x1 : Value) (σ : AMem) : Option (Value × AMem) := match k with
  | 0 => none
  | k + 1 => ((d_slices_IndexFunc_heap_block k (x0.1, x0.2.1, x0.2.2) (x1) σ).bind fun r1 => (toI .i64 r1.1).bind fun n2 => some (.bool (decide (n2 ≥ (0 : Int))), r1.2))

theorem slices_ContainsFunc_heap_block_is (k : Nat) (x0 : Option Addr × Nat × Nat) (x1 : Value) (σ : AMem) : slices_ContainsFunc_heap_block k x0 x1 σ = d_slices_ContainsFunc_heap_block k x0 x1 σ := by
  cases k with
  | zero => rfl
  | succ k => rw [slices_ContainsFunc_heap_block_eq, d_slices_ContainsFunc_heap_block]; simp only [slices_IndexFunc_heap_block_is]

noncomputable def d_heap_Heap_claim_l0 (k n : Nat) (p0 : Option Addr) (i1 : Int) (h2 : Nat) (i3 : Int) (x54 : Int) (σ : AMem) : Option LOut := match n with
  | 0 => none
  | n + 1 => (bif decide (x54 < i3) then (p0.bind fun a22 => (ldS σ a22.block (a22.off + 0)).bind fun l23 => (ldI .i64 σ h2 0).bind fun n24 => (ldI .i64 σ h2 (0 + 1)).bind fun n25 => if 0 ≤ (w64 (i1 + x54)) ∧ (w64 (i1 + x54)) < (l23.2.1 : Nat) then l23.1.bind fun a26 => (stN σ a26.block (a26.off + (w64 (i1 + x54)).toNat * 2) [.int .i64 n24, .int .i64 n25]).bind fun s27 => d_heap_Heap_claim_l0 k n p0 i1 h2 i3 (w64 (x54 + (1 : Int))) s27 else none) else (some (.exit 1, [], σ)))
termination_by structural n

theorem heap_Heap_claim_l0_is (k n : Nat) (p0 : Option Addr) (i1 : Int) (h2 : Nat) (i3 : Int) (x54 : Int) (σ : AMem) : heap_Heap_claim_l0 k n p0 i1 h2 i3 x54 σ = d_heap_Heap_claim_l0 k n p0 i1 h2 i3 x54 σ := by
  induction n generalizing p0 i1 h2 i3 x54 σ with
  | zero => rfl
  | succ n ih => rw [heap_Heap_claim_l0_eq, d_heap_Heap_claim_l0]; simp only [heap_Heap_made_is, heap_Heap_there_is, heap_space_is, slices_ContainsFunc_heap_block_is, ih]

noncomputable def d_heap_Heap_claim (k : Nat) (x0 : Option Addr) (x1 : Int) (x2 : Int) (x3_0 : Int) (x3_1 : Int) (x4_0 : Int) (x4_1 : Int) (σ : AMem) : Option (Value × AMem) := match k with
  | 0 => none
  | k + 1 => (allocK σ (.cells [.int .i64 x3_0, .int .i64 x3_1] 77 true) fun h1 s2 => allocK s2 (.cells [.int .i64 x4_0, .int .i64 x4_1] 77 true) fun h3 s4 => (d_heap_Heap_made k x0 s4).bind fun r5 => (toB r5.1).bind fun b6 => bif !b6 then (some (.int .i64 (5 : Int), r5.2)) else ((d_heap_Heap_there k x0 x1 r5.2).bind fun r7 => (toB r7.1).bind fun b8 => (bif !b8 then some (true, r7.2) else some (decide (x2 < (1 : Int)), r7.2)).bind fun r9 => (bif r9.1 then some (true, r9.2) else x0.bind fun a10 => (ldS r9.2 a10.block (a10.off + 0)).bind fun l11 => some (decide (x2 > (w64 (((l11.2.1 : Nat) : Int) - x1))), r9.2)).bind fun r12 => (bif r12.1 then some (true, r12.2) else (ldI .i64 r12.2 h1 (0 + 1)).bind fun n13 => (d_heap_space k n13 r12.2).bind fun r14 => (toB r14.1).bind fun b15 => some (!b15, r14.2)).bind fun r16 => bif r16.1 then (some (.int .i64 (1 : Int), r16.2)) else (x0.bind fun a17 => (ldS r16.2 a17.block (a17.off + 0)).bind fun l18 => (sliceD 77 2 (l18.1, l18.2.1, l18.2.2) (some (.int .i64 x1)) (some (.int .i64 (w64 (x1 + x2)))) none r16.2).bind fun l19 => (d_slices_ContainsFunc_heap_block k (l19.1, l19.2.1, l19.2.2) (.func (.func 93) #[] #[]) r16.2).bind fun r20 => (toB r20.1).bind fun b21 => bif b21 then (some (.int .i64 (8 : Int), r20.2)) else ((d_heap_Heap_claim_l0 k k x0 x1 h3 x2 (0 : Int) r20.2).bind fun r28 => if r28.1 = .exit 1 then (x0.bind fun a29 => (ldS r28.2.2 a29.block (a29.off + 0)).bind fun l30 => (ldI .i64 r28.2.2 h1 0).bind fun n31 => (ldI .i64 r28.2.2 h1 (0 + 1)).bind fun n32 => if 0 ≤ x1 ∧ x1 < (l30.2.1 : Nat) then l30.1.bind fun a33 => (stN r28.2.2 a33.block (a33.off + x1.toNat * 2) [.int .i64 n31, .int .i64 n32]).bind fun s34 => some (.int .i64 (0 : Int), s34) else none) else none))))

theorem heap_Heap_claim_is (k : Nat) (x0 : Option Addr) (x1 : Int) (x2 : Int) (x3_0 : Int) (x3_1 : Int) (x4_0 : Int) (x4_1 : Int) (σ : AMem) : heap_Heap_claim k x0 x1 x2 x3_0 x3_1 x4_0 x4_1 σ = d_heap_Heap_claim k x0 x1 x2 x3_0 x3_1 x4_0 x4_1 σ := by
  cases k with
  | zero => rfl
  | succ k => rw [heap_Heap_claim_eq, d_heap_Heap_claim]; simp only [heap_Heap_made_is, heap_Heap_there_is, heap_space_is, slices_ContainsFunc_heap_block_is, heap_Heap_claim_l0_is]

noncomputable def d_heap_Heap_Claim (k : Nat) (x0 : Option Addr) (x1 : Int) (x2 : Int) (σ : AMem) : Option (Value × AMem) := match k with
  | 0 => none
  | k + 1 => ((d_heap_Heap_claim k x0 x1 (1 : Int) (1 : Int) x2 (0 : Int) (0 : Int) σ).bind fun r1 => (toI .i64 r1.1).bind fun n2 => some (.int .i64 n2, r1.2))

theorem heap_Heap_Claim_is (k : Nat) (x0 : Option Addr) (x1 : Int) (x2 : Int) (σ : AMem) : heap_Heap_Claim k x0 x1 x2 σ = d_heap_Heap_Claim k x0 x1 x2 σ := by
  cases k with
  | zero => rfl
  | succ k => rw [heap_Heap_Claim_eq, d_heap_Heap_Claim]; simp only [heap_Heap_claim_is]

noncomputable def d_heap_Heap_ClaimLarge (k : Nat) (x0 : Option Addr) (x1 : Int) (x2 : Int) (x3 : Int) (σ : AMem) : Option (Value × AMem) := match k with
  | 0 => none
  | k + 1 => ((d_heap_Heap_claim k x0 x1 x2 (2 : Int) x3 (3 : Int) x3 σ).bind fun r1 => (toI .i64 r1.1).bind fun n2 => some (.int .i64 n2, r1.2))

theorem heap_Heap_ClaimLarge_is (k : Nat) (x0 : Option Addr) (x1 : Int) (x2 : Int) (x3 : Int) (σ : AMem) : heap_Heap_ClaimLarge k x0 x1 x2 x3 σ = d_heap_Heap_ClaimLarge k x0 x1 x2 x3 σ := by
  cases k with
  | zero => rfl
  | succ k => rw [heap_Heap_ClaimLarge_eq, d_heap_Heap_ClaimLarge]; simp only [heap_Heap_claim_is]

noncomputable def d_heap_Heap_Kill (k : Nat) (x0 : Option Addr) (x1 : Int) (σ : AMem) : Option (Value × AMem) := match k with
  | 0 => none
  | k + 1 => ((d_heap_Heap_object k x0 x1 σ).bind fun r1 => (toI .i64 r1.1).bind fun n2 => bif n2 != (0 : Int) then (some (.int .i64 n2, r1.2)) else (x0.bind fun a3 => (ldM r1.2 a3.block (a3.off + 4)).bind fun m4 => x0.bind fun a5 => (ldS r1.2 a5.block (a5.off + 1)).bind fun l6 => if 0 ≤ x1 ∧ x1 < (l6.2.1 : Nat) then l6.1.bind fun a7 => (ldI .i64 r1.2 a7.block (a7.off + x1.toNat * 1)).bind fun n8 => (ldMO r1.2 m4).bind fun es9 => x0.bind fun a10 => (ldP (stMO r1.2 m4 (mapDel n8 es9)) a10.block (a10.off + 2)).bind fun p11 => if (2 : Int) = 0 then none else (d_side_Table_Set k p11 (w64 (x1.tdiv (2 : Int))) (0 : Int) (stMO r1.2 m4 (mapDel n8 es9))).bind fun r12 => (toI .i64 r12.1).bind fun n13 => x0.bind fun a14 => (ldP r12.2 a14.block (a14.off + 3)).bind fun p15 => if (2 : Int) = 0 then none else (d_side_Table_Set k p15 (w64 (x1.tdiv (2 : Int))) (0 : Int) r12.2).bind fun r16 => (toI .i64 r16.1).bind fun n17 => (d_heap_Heap_size k x0 x1 r16.2).bind fun r18 => (toI .i64 r18.1).bind fun n19 => (d_heap_Heap_wipe k x0 x1 n19 r18.2).bind fun r20 => r_0 r20.1 (some (.int .i64 (0 : Int), r20.2)) else none))

theorem heap_Heap_Kill_is (k : Nat) (x0 : Option Addr) (x1 : Int) (σ : AMem) : heap_Heap_Kill k x0 x1 σ = d_heap_Heap_Kill k x0 x1 σ := by
  cases k with
  | zero => rfl
  | succ k => rw [heap_Heap_Kill_eq, d_heap_Heap_Kill]; simp only [heap_Heap_object_is, side_Table_Set_is, heap_Heap_size_is, heap_Heap_wipe_is]

noncomputable def d_side_Table_Next_l0 (k n : Nat) (p0 : Option Addr) (i1 : Int) (x8 : Int) (σ : AMem) : Option LOut := match n with
  | 0 => none
  | n + 1 => (p0.bind fun a3 => (ldI .i64 σ a3.block (a3.off + 0)).bind fun n4 => bif decide (x8 < n4) then ((d_side_Table_get k p0 x8 σ).bind fun r5 => (toI .i64 r5.1).bind fun n6 => bif n6 == i1 then (some (.ret, [.int .i64 x8, .int .i64 (0 : Int)], r5.2)) else (d_side_Table_Next_l0 k n p0 i1 (w64 (x8 + (1 : Int))) r5.2)) else (some (.exit 0, [], σ)))
termination_by structural n

theorem side_Table_Next_l0_is (k n : Nat) (p0 : Option Addr) (i1 : Int) (x8 : Int) (σ : AMem) : side_Table_Next_l0 k n p0 i1 x8 σ = d_side_Table_Next_l0 k n p0 i1 x8 σ := by
  induction n generalizing p0 i1 x8 σ with
  | zero => rfl
  | succ n ih => rw [side_Table_Next_l0_eq, d_side_Table_Next_l0]; simp only [side_Table_made_is, side_Table_get_is, ih]

noncomputable def d_side_Table_Next (k : Nat) (x0 : Option Addr) (x1 : Int) (x2 : Int) (σ : AMem) : Option (Value × AMem) := match k with
  | 0 => none
  | k + 1 => ((d_side_Table_made k x0 σ).bind fun r1 => (toB r1.1).bind fun b2 => bif !b2 then (some (.tuple #[.int .i64 (0 : Int), .int .i64 (5 : Int)], r1.2)) else ((d_side_Table_Next_l0 k k x0 x2 (if (0 : Int) > x1 then (0 : Int) else x1) r1.2).bind fun r7 => if r7.1 = .exit 0 then (some (.tuple #[.int .i64 (0 : Int), .int .i64 (4 : Int)], r7.2.2)) else if r7.1 = .ret then (u_ii r7.2.1 fun n8 n9 => some (.tuple #[.int .i64 n8, .int .i64 n9], r7.2.2)) else none))

theorem side_Table_Next_is (k : Nat) (x0 : Option Addr) (x1 : Int) (x2 : Int) (σ : AMem) : side_Table_Next k x0 x1 x2 σ = d_side_Table_Next k x0 x1 x2 σ := by
  cases k with
  | zero => rfl
  | succ k => rw [side_Table_Next_eq, d_side_Table_Next]; simp only [side_Table_made_is, side_Table_get_is, side_Table_Next_l0_is]

noncomputable def d_heap_Heap_between_l0 (k n : Nat) (p0 : Option Addr) (i1 : Int) (x7 : Option Addr × Nat × Nat) (x8 : Int) (x9 : Int) (σ : AMem) : Option LOut := match n with
  | 0 => none
  | n + 1 => ((bif x9 == (0 : Int) then some (decide ((w64 ((2 : Int) * x8)) < i1), σ) else some (false, σ)).bind fun r6 => bif r6.1 then (allocK r6.2 (.cells [.int .i64 (w64 ((2 : Int) * x8))] 3 true) fun h7 s8 => (appendD P 3 (x7.1, x7.2.1, x7.2.2) (some ⟨h7, 0, none⟩, 1, 1) s8).bind fun r9 => p0.bind fun a10 => (ldP r9.2 a10.block (a10.off + 2)).bind fun p11 => (d_side_Table_Next k p11 (w64 (x8 + (1 : Int))) (1 : Int) r9.2).bind fun r12 => r_ii r12.1 fun n13 n14 => d_heap_Heap_between_l0 k n p0 i1 (r9.1.1, r9.1.2.1, r9.1.2.2) n13 n14 r12.2) else (some (.exit 0, [.slice x7.1 x7.2.1 x7.2.2], r6.2)))
termination_by structural n

theorem heap_Heap_between_l0_is (k n : Nat) (p0 : Option Addr) (i1 : Int) (x7 : Option Addr × Nat × Nat) (x8 : Int) (x9 : Int) (σ : AMem) : heap_Heap_between_l0 k n p0 i1 x7 x8 x9 σ = d_heap_Heap_between_l0 k n p0 i1 x7 x8 x9 σ := by
  induction n generalizing p0 i1 x7 x8 x9 σ with
  | zero => rfl
  | succ n ih => rw [heap_Heap_between_l0_eq, d_heap_Heap_between_l0]; simp only [side_Table_Next_is, ih]

noncomputable def d_heap_Heap_between (k : Nat) (x0 : Option Addr) (x1 : Int) (x2 : Int) (σ : AMem) : Option (Value × AMem) := match k with
  | 0 => none
  | k + 1 => (x0.bind fun a1 => (ldP σ a1.block (a1.off + 2)).bind fun p2 => if (2 : Int) = 0 then none else (d_side_Table_Next k p2 (w64 (x1.tdiv (2 : Int))) (1 : Int) σ).bind fun r3 => r_ii r3.1 fun n4 n5 => (d_heap_Heap_between_l0 k k x0 x2 (none, 0, 0) n4 n5 r3.2).bind fun r15 => if r15.1 = .exit 0 then (u_l r15.2.1 fun l16 => some (.slice l16.1 l16.2.1 l16.2.2, r15.2.2)) else none)

theorem heap_Heap_between_is (k : Nat) (x0 : Option Addr) (x1 : Int) (x2 : Int) (σ : AMem) : heap_Heap_between k x0 x1 x2 σ = d_heap_Heap_between k x0 x1 x2 σ := by
  cases k with
  | zero => rfl
  | succ k => rw [heap_Heap_between_eq, d_heap_Heap_between]; simp only [side_Table_Next_is, heap_Heap_between_l0_is]

noncomputable def d_heap_Heap_Objects (k : Nat) (x0 : Option Addr) (x1 : Int) (σ : AMem) : Option (Value × AMem) := match k with
  | 0 => none
  | k + 1 => ((d_heap_Heap_made k x0 σ).bind fun r1 => (toB r1.1).bind fun b2 => (bif !b2 then some (true, r1.2) else some (decide (x1 < (0 : Int)), r1.2)).bind fun r3 => (bif r3.1 then some (true, r3.2) else x0.bind fun a4 => (ldS r3.2 a4.block (a4.off + 0)).bind fun l5 => some (decide (x1 ≥ ((l5.2.1 : Nat) : Int)), r3.2)).bind fun r6 => bif r6.1 then (some (.slice none 0 0, r6.2)) else ((d_heap_Heap_between k x0 (w64 (x1 * (64 : Int))) (w64 ((w64 (x1 + (1 : Int))) * (64 : Int))) r6.2).bind fun r7 => (toS r7.1).bind fun l8 => some (.slice l8.1 l8.2.1 l8.2.2, r7.2)))

theorem heap_Heap_Objects_is (k : Nat) (x0 : Option Addr) (x1 : Int) (σ : AMem) : heap_Heap_Objects k x0 x1 σ = d_heap_Heap_Objects k x0 x1 σ := by
  cases k with
  | zero => rfl
  | succ k => rw [heap_Heap_Objects_eq, d_heap_Heap_Objects]; simp only [heap_Heap_made_is, heap_Heap_between_is]

noncomputable def d_heap_Heap_held (k : Nat) (x0 : Option Addr) (x1 : Int) (x2 : Bool) (σ : AMem) : Option (Value × AMem) := match k with
  | 0 => none
  | k + 1 => ((d_heap_Heap_made k x0 σ).bind fun r1 => (toB r1.1).bind fun b2 => bif !b2 then (some (.int .i64 (5 : Int), r1.2)) else ((d_heap_Heap_there k x0 x1 r1.2).bind fun r3 => (toB r3.1).bind fun b4 => (bif !b4 then some (true, r3.2) else some (!x2, r3.2)).bind fun r5 => bif r5.1 then (some (.int .i64 (1 : Int), r5.2)) else (x0.bind fun a6 => (ldS r5.2 a6.block (a6.off + 0)).bind fun l7 => if 0 ≤ x1 ∧ x1 < (l7.2.1 : Nat) then l7.1.bind fun a8 => (ldI .i64 r5.2 a8.block (a8.off + x1.toNat * 2 + 0)).bind fun n9 => (bif n9 != (1 : Int) then x0.bind fun a10 => (ldS r5.2 a10.block (a10.off + 0)).bind fun l11 => if 0 ≤ x1 ∧ x1 < (l11.2.1 : Nat) then l11.1.bind fun a12 => (ldI .i64 r5.2 a12.block (a12.off + x1.toNat * 2 + 0)).bind fun n13 => some (n13 != (2 : Int), r5.2) else none else some (false, r5.2)).bind fun r14 => bif r14.1 then (some (.int .i64 (5 : Int), r14.2)) else (some (.int .i64 (0 : Int), r14.2)) else none)))

theorem heap_Heap_held_is (k : Nat) (x0 : Option Addr) (x1 : Int) (x2 : Bool) (σ : AMem) : heap_Heap_held k x0 x1 x2 σ = d_heap_Heap_held k x0 x1 x2 σ := by
  cases k with
  | zero => rfl
  | succ k => rw [heap_Heap_held_eq, d_heap_Heap_held]; simp only [heap_Heap_made_is, heap_Heap_there_is]

noncomputable def d_heap_Heap_Release_l0 (k n : Nat) (p0 : Option Addr) (i1 : Int) (x6 : Int) (σ : AMem) : Option LOut := match n with
  | 0 => none
  | n + 1 => (bif decide (x6 > (0 : Int)) then (p0.bind fun a7 => (ldS σ a7.block (a7.off + 0)).bind fun l8 => if 0 ≤ (w64 ((w64 (i1 + x6)) - (1 : Int))) ∧ (w64 ((w64 (i1 + x6)) - (1 : Int))) < (l8.2.1 : Nat) then l8.1.bind fun a9 => (stN σ a9.block (a9.off + (w64 ((w64 (i1 + x6)) - (1 : Int))).toNat * 2) [.int .i64 (0 : Int), .int .i64 (0 : Int)]).bind fun s10 => d_heap_Heap_Release_l0 k n p0 i1 (w64 (x6 - (1 : Int))) s10 else none) else (some (.exit 0, [], σ)))
termination_by structural n

theorem heap_Heap_Release_l0_is (k n : Nat) (p0 : Option Addr) (i1 : Int) (x6 : Int) (σ : AMem) : heap_Heap_Release_l0 k n p0 i1 x6 σ = d_heap_Heap_Release_l0 k n p0 i1 x6 σ := by
  induction n generalizing p0 i1 x6 σ with
  | zero => rfl
  | succ n ih => rw [heap_Heap_Release_l0_eq, d_heap_Heap_Release_l0]; simp only [heap_Heap_Objects_is, heap_Heap_held_is, heap_Heap_span_is, ih]

noncomputable def d_heap_Heap_Release (k : Nat) (x0 : Option Addr) (x1 : Int) (σ : AMem) : Option (Value × AMem) := match k with
  | 0 => none
  | k + 1 => ((d_heap_Heap_held k x0 x1 true σ).bind fun r1 => (toI .i64 r1.1).bind fun n2 => bif n2 != (0 : Int) then (some (.int .i64 n2, r1.2)) else ((d_heap_Heap_Objects k x0 x1 r1.2).bind fun r3 => (toS r3.1).bind fun l4 => bif decide (((l4.2.1 : Nat) : Int) > (0 : Int)) then (some (.int .i64 (8 : Int), r3.2)) else ((d_heap_Heap_span k x0 x1 r3.2).bind fun r5 => (toI .i64 r5.1).bind fun n6 => (d_heap_Heap_Release_l0 k k x0 x1 n6 r5.2).bind fun r11 => if r11.1 = .exit 0 then (some (.int .i64 (0 : Int), r11.2.2)) else none)))

theorem heap_Heap_Release_is (k : Nat) (x0 : Option Addr) (x1 : Int) (σ : AMem) : heap_Heap_Release k x0 x1 σ = d_heap_Heap_Release k x0 x1 σ := by
  cases k with
  | zero => rfl
  | succ k => rw [heap_Heap_Release_eq, d_heap_Heap_Release]; simp only [heap_Heap_Objects_is, heap_Heap_held_is, heap_Heap_span_is, heap_Heap_Release_l0_is]

noncomputable def d_heap_Heap_Retag_l0 (k n : Nat) (p0 : Option Addr) (i1 : Int) (i2 : Int) (x8 : Int) (σ : AMem) : Option LOut := match n with
  | 0 => none
  | n + 1 => (bif decide (x8 > (0 : Int)) then (p0.bind fun a7 => (ldS σ a7.block (a7.off + 0)).bind fun l8 => if 0 ≤ (w64 ((w64 (i1 + x8)) - (1 : Int))) ∧ (w64 ((w64 (i1 + x8)) - (1 : Int))) < (l8.2.1 : Nat) then l8.1.bind fun a9 => (st1 σ a9.block (a9.off + (w64 ((w64 (i1 + x8)) - (1 : Int))).toNat * 2 + 1) (.int .i64 i2)).bind fun s10 => d_heap_Heap_Retag_l0 k n p0 i1 i2 (w64 (x8 - (1 : Int))) s10 else none) else (some (.exit 0, [], σ)))
termination_by structural n

theorem heap_Heap_Retag_l0_is (k n : Nat) (p0 : Option Addr) (i1 : Int) (i2 : Int) (x8 : Int) (σ : AMem) : heap_Heap_Retag_l0 k n p0 i1 i2 x8 σ = d_heap_Heap_Retag_l0 k n p0 i1 i2 x8 σ := by
  induction n generalizing p0 i1 i2 x8 σ with
  | zero => rfl
  | succ n ih => rw [heap_Heap_Retag_l0_eq, d_heap_Heap_Retag_l0]; simp only [heap_Heap_held_is, heap_Heap_span_is, heap_space_is, ih]

noncomputable def d_heap_Heap_Retag (k : Nat) (x0 : Option Addr) (x1 : Int) (x2 : Int) (σ : AMem) : Option (Value × AMem) := match k with
  | 0 => none
  | k + 1 => ((d_heap_space k x2 σ).bind fun r1 => (toB r1.1).bind fun b2 => (d_heap_Heap_held k x0 x1 b2 r1.2).bind fun r3 => (toI .i64 r3.1).bind fun n4 => bif n4 != (0 : Int) then (some (.int .i64 n4, r3.2)) else ((d_heap_Heap_span k x0 x1 r3.2).bind fun r5 => (toI .i64 r5.1).bind fun n6 => (d_heap_Heap_Retag_l0 k k x0 x1 x2 n6 r5.2).bind fun r11 => if r11.1 = .exit 0 then (some (.int .i64 (0 : Int), r11.2.2)) else none))

theorem heap_Heap_Retag_is (k : Nat) (x0 : Option Addr) (x1 : Int) (x2 : Int) (σ : AMem) : heap_Heap_Retag k x0 x1 x2 σ = d_heap_Heap_Retag k x0 x1 x2 σ := by
  cases k with
  | zero => rfl
  | succ k => rw [heap_Heap_Retag_eq, d_heap_Heap_Retag]; simp only [heap_Heap_held_is, heap_Heap_span_is, heap_space_is, heap_Heap_Retag_l0_is]

noncomputable def d_heap_Heap_field (k : Nat) (x0 : Option Addr) (x1 : Int) (x2 : Int) (x3 : Bool) (σ : AMem) : Option (Value × AMem) := match k with
  | 0 => none
  | k + 1 => ((d_heap_Heap_object k x0 x1 σ).bind fun r1 => (toI .i64 r1.1).bind fun n2 => bif n2 != (0 : Int) then (some (.tuple #[.int .i64 (0 : Int), .int .i64 n2], r1.2)) else (x0.bind fun a3 => (ldS r1.2 a3.block (a3.off + 1)).bind fun l4 => if 0 ≤ (w64 (x1 + (1 : Int))) ∧ (w64 (x1 + (1 : Int))) < (l4.2.1 : Nat) then l4.1.bind fun a5 => (ldI .i64 r1.2 a5.block (a5.off + (w64 (x1 + (1 : Int))).toNat * 1)).bind fun n6 => (d_heap_shape k n6 r1.2).bind fun r7 => a_iii r7.1 fun n8 n9 n10 => allocK r7.2 (.cells [.int .i64 (0 : Int), .int .i64 (0 : Int), .int .i64 (0 : Int)] 23 true) fun h11 s12 => (stN s12 h11 0 [.int .i64 n8, .int .i64 n9, .int .i64 n10]).bind fun s13 => (ldI .i64 s13 h11 (0 + 0)).bind fun n14 => (bif x3 then ((ldI .i64 s13 h11 (0 + 0)).bind fun n15 => (ldI .i64 s13 h11 (0 + 1)).bind fun n16 => some (.normal, [.int .i64 (w64 ((w64 (x1 + (2 : Int))) + n15)), .int .i64 n16], s13)) else (some (.normal, [.int .i64 (w64 (x1 + (2 : Int))), .int .i64 n14], s13)) : Option LOut).bind fun r17 => if r17.1 = .normal then (u_ii r17.2.1 fun n18 n19 => (bif decide (x2 < (0 : Int)) then some (true, r17.2.2) else some (decide (x2 ≥ n19), r17.2.2)).bind fun r20 => bif r20.1 then (some (.tuple #[.int .i64 (0 : Int), .int .i64 (1 : Int)], r20.2)) else (some (.tuple #[.int .i64 (w64 (n18 + x2)), .int .i64 (0 : Int)], r20.2))) else none else none))

theorem heap_Heap_field_is (k : Nat) (x0 : Option Addr) (x1 : Int) (x2 : Int) (x3 : Bool) (σ : AMem) : heap_Heap_field k x0 x1 x2 x3 σ = d_heap_Heap_field k x0 x1 x2 x3 σ := by
  cases k with
  | zero => rfl
  | succ k => rw [heap_Heap_field_eq, d_heap_Heap_field]; simp only [heap_Heap_object_is, heap_shape_is]

noncomputable def d_heap_Heap_SetRef (k : Nat) (x0 : Option Addr) (x1 : Int) (x2 : Int) (x3 : Int) (σ : AMem) : Option (Value × AMem) := match k with
  | 0 => none
  | k + 1 => ((d_heap_Heap_field k x0 x1 x2 false σ).bind fun r1 => r_ii r1.1 fun n2 n3 => bif n3 != (0 : Int) then (some (.int .i64 n3, r1.2)) else ((bif x3 != (0 : Int) then (d_heap_Heap_Has k x0 x3 r1.2).bind fun r4 => (toB r4.1).bind fun b5 => some (!b5, r4.2) else some (false, r1.2)).bind fun r6 => bif r6.1 then (some (.int .i64 (1 : Int), r6.2)) else (x0.bind fun a7 => (ldS r6.2 a7.block (a7.off + 1)).bind fun l8 => if 0 ≤ n2 ∧ n2 < (l8.2.1 : Nat) then l8.1.bind fun a9 => (st1 r6.2 a9.block (a9.off + n2.toNat * 1) (.int .i64 x3)).bind fun s10 => some (.int .i64 (0 : Int), s10) else none)))

theorem heap_Heap_SetRef_is (k : Nat) (x0 : Option Addr) (x1 : Int) (x2 : Int) (x3 : Int) (σ : AMem) : heap_Heap_SetRef k x0 x1 x2 x3 σ = d_heap_Heap_SetRef k x0 x1 x2 x3 σ := by
  cases k with
  | zero => rfl
  | succ k => rw [heap_Heap_SetRef_eq, d_heap_Heap_SetRef]; simp only [heap_Heap_Has_is, heap_Heap_field_is]

noncomputable def d_heap_Heap_SetData (k : Nat) (x0 : Option Addr) (x1 : Int) (x2 : Int) (x3 : Int) (σ : AMem) : Option (Value × AMem) := match k with
  | 0 => none
  | k + 1 => ((d_heap_Heap_field k x0 x1 x2 true σ).bind fun r1 => r_ii r1.1 fun n2 n3 => bif n3 != (0 : Int) then (some (.int .i64 n3, r1.2)) else (x0.bind fun a4 => (ldS r1.2 a4.block (a4.off + 1)).bind fun l5 => if 0 ≤ n2 ∧ n2 < (l5.2.1 : Nat) then l5.1.bind fun a6 => (st1 r1.2 a6.block (a6.off + n2.toNat * 1) (.int .i64 x3)).bind fun s7 => some (.int .i64 (0 : Int), s7) else none))

theorem heap_Heap_SetData_is (k : Nat) (x0 : Option Addr) (x1 : Int) (x2 : Int) (x3 : Int) (σ : AMem) : heap_Heap_SetData k x0 x1 x2 x3 σ = d_heap_Heap_SetData k x0 x1 x2 x3 σ := by
  cases k with
  | zero => rfl
  | succ k => rw [heap_Heap_SetData_eq, d_heap_Heap_SetData]; simp only [heap_Heap_field_is]

noncomputable def d_heap_Heap_Word (k : Nat) (x0 : Option Addr) (x1 : Int) (σ : AMem) : Option (Value × AMem) := match k with
  | 0 => none
  | k + 1 => ((d_heap_Heap_made k x0 σ).bind fun r1 => (toB r1.1).bind fun b2 => bif !b2 then (some (.tuple #[.int .i64 (0 : Int), .int .i64 (5 : Int)], r1.2)) else ((bif decide (x1 < (0 : Int)) then some (true, r1.2) else x0.bind fun a3 => (ldS r1.2 a3.block (a3.off + 1)).bind fun l4 => some (decide (x1 ≥ ((l4.2.1 : Nat) : Int)), r1.2)).bind fun r5 => bif r5.1 then (some (.tuple #[.int .i64 (0 : Int), .int .i64 (1 : Int)], r5.2)) else (x0.bind fun a6 => (ldS r5.2 a6.block (a6.off + 1)).bind fun l7 => if 0 ≤ x1 ∧ x1 < (l7.2.1 : Nat) then l7.1.bind fun a8 => (ldI .i64 r5.2 a8.block (a8.off + x1.toNat * 1)).bind fun n9 => some (.tuple #[.int .i64 n9, .int .i64 (0 : Int)], r5.2) else none)))

theorem heap_Heap_Word_is (k : Nat) (x0 : Option Addr) (x1 : Int) (σ : AMem) : heap_Heap_Word k x0 x1 σ = d_heap_Heap_Word k x0 x1 σ := by
  cases k with
  | zero => rfl
  | succ k => rw [heap_Heap_Word_eq, d_heap_Heap_Word]; simp only [heap_Heap_made_is]

noncomputable def d_heap_Heap_Poke (k : Nat) (x0 : Option Addr) (x1 : Int) (x2 : Int) (σ : AMem) : Option (Value × AMem) := match k with
  | 0 => none
  | k + 1 => ((d_heap_Heap_Word k x0 x1 σ).bind fun r1 => r_ii r1.1 fun n2 n3 => bif n3 != (0 : Int) then (some (.int .i64 n3, r1.2)) else ((d_heap_Heap_Find k x0 x1 r1.2).bind fun r4 => r_ii r4.1 fun n5 n6 => bif n6 != (0 : Int) then (some (.int .i64 n6, r4.2)) else (x0.bind fun a7 => (ldS r4.2 a7.block (a7.off + 1)).bind fun l8 => if 0 ≤ (w64 (n5 + (1 : Int))) ∧ (w64 (n5 + (1 : Int))) < (l8.2.1 : Nat) then l8.1.bind fun a9 => (ldI .i64 r4.2 a9.block (a9.off + (w64 (n5 + (1 : Int))).toNat * 1)).bind fun n10 => (d_heap_shape k n10 r4.2).bind fun r11 => a_iii r11.1 fun n12 n13 n14 => allocK r11.2 (.cells [.int .i64 (0 : Int), .int .i64 (0 : Int), .int .i64 (0 : Int)] 23 true) fun h15 s16 => (stN s16 h15 0 [.int .i64 n12, .int .i64 n13, .int .i64 n14]).bind fun s17 => (bif decide (x1 < (w64 (n5 + (2 : Int)))) then some (true, s17) else (ldI .i64 s17 h15 (0 + 0)).bind fun n18 => (ldI .i64 s17 h15 (0 + 1)).bind fun n19 => some (decide (x1 ≥ (w64 ((w64 ((w64 (n5 + (2 : Int))) + n18)) + n19))), s17)).bind fun r20 => bif r20.1 then (some (.int .i64 (4 : Int), r20.2)) else (x0.bind fun a21 => (ldS r20.2 a21.block (a21.off + 1)).bind fun l22 => if 0 ≤ x1 ∧ x1 < (l22.2.1 : Nat) then l22.1.bind fun a23 => (st1 r20.2 a23.block (a23.off + x1.toNat * 1) (.int .i64 x2)).bind fun s24 => some (.int .i64 (0 : Int), s24) else none) else none)))

theorem heap_Heap_Poke_is (k : Nat) (x0 : Option Addr) (x1 : Int) (x2 : Int) (σ : AMem) : heap_Heap_Poke k x0 x1 x2 σ = d_heap_Heap_Poke k x0 x1 x2 σ := by
  cases k with
  | zero => rfl
  | succ k => rw [heap_Heap_Poke_eq, d_heap_Heap_Poke]; simp only [heap_Heap_Find_is, heap_Heap_Word_is, heap_shape_is]

noncomputable def d_heap_Heap_pin (k : Nat) (x0 : Option Addr) (x1 : Int) (x2 : Int) (σ : AMem) : Option (Value × AMem) := match k with
  | 0 => none
  | k + 1 => ((d_heap_Heap_object k x0 x1 σ).bind fun r1 => (toI .i64 r1.1).bind fun n2 => bif n2 != (0 : Int) then (some (.int .i64 n2, r1.2)) else (x0.bind fun a3 => (ldP r1.2 a3.block (a3.off + 3)).bind fun p4 => if (2 : Int) = 0 then none else (d_side_Table_Set k p4 (w64 (x1.tdiv (2 : Int))) x2 r1.2).bind fun r5 => (toI .i64 r5.1).bind fun n6 => some (.int .i64 (0 : Int), r5.2)))

theorem heap_Heap_pin_is (k : Nat) (x0 : Option Addr) (x1 : Int) (x2 : Int) (σ : AMem) : heap_Heap_pin k x0 x1 x2 σ = d_heap_Heap_pin k x0 x1 x2 σ := by
  cases k with
  | zero => rfl
  | succ k => rw [heap_Heap_pin_eq, d_heap_Heap_pin]; simp only [heap_Heap_object_is, side_Table_Set_is]

noncomputable def d_heap_Heap_Pin (k : Nat) (x0 : Option Addr) (x1 : Int) (σ : AMem) : Option (Value × AMem) := match k with
  | 0 => none
  | k + 1 => ((d_heap_Heap_pin k x0 x1 (1 : Int) σ).bind fun r1 => (toI .i64 r1.1).bind fun n2 => some (.int .i64 n2, r1.2))

theorem heap_Heap_Pin_is (k : Nat) (x0 : Option Addr) (x1 : Int) (σ : AMem) : heap_Heap_Pin k x0 x1 σ = d_heap_Heap_Pin k x0 x1 σ := by
  cases k with
  | zero => rfl
  | succ k => rw [heap_Heap_Pin_eq, d_heap_Heap_Pin]; simp only [heap_Heap_pin_is]

noncomputable def d_heap_Heap_Unpin (k : Nat) (x0 : Option Addr) (x1 : Int) (σ : AMem) : Option (Value × AMem) := match k with
  | 0 => none
  | k + 1 => ((d_heap_Heap_pin k x0 x1 (0 : Int) σ).bind fun r1 => (toI .i64 r1.1).bind fun n2 => some (.int .i64 n2, r1.2))

theorem heap_Heap_Unpin_is (k : Nat) (x0 : Option Addr) (x1 : Int) (σ : AMem) : heap_Heap_Unpin k x0 x1 σ = d_heap_Heap_Unpin k x0 x1 σ := by
  cases k with
  | zero => rfl
  | succ k => rw [heap_Heap_Unpin_eq, d_heap_Heap_Unpin]; simp only [heap_Heap_pin_is]

noncomputable def d_heap_Heap_Forget (k : Nat) (x0 : Option Addr) (σ : AMem) : Option (Value × AMem) := match k with
  | 0 => none
  | k + 1 => ((d_heap_Heap_made k x0 σ).bind fun r1 => (toB r1.1).bind fun b2 => bif !b2 then (some (.int .i64 (0 : Int), r1.2)) else (x0.bind fun a3 => (ldM r1.2 a3.block (a3.off + 5)).bind fun m4 => (ldMO r1.2 m4).bind fun es5 => x0.bind fun a6 => (ldM r1.2 a6.block (a6.off + 5)).bind fun m7 => (ldMO r1.2 m7).bind fun _ => some (.int .i64 ((es5.length : Nat) : Int), (stMO r1.2 m7 []))))

theorem heap_Heap_Forget_is (k : Nat) (x0 : Option Addr) (σ : AMem) : heap_Heap_Forget k x0 σ = d_heap_Heap_Forget k x0 σ := by
  cases k with
  | zero => rfl
  | succ k => rw [heap_Heap_Forget_eq, d_heap_Heap_Forget]; simp only [heap_Heap_made_is]

noncomputable def d_law02_do (k : Nat) (x0 : Option Addr) (x1_0 : Int) (x1_1 : Int) (x1_2 : Int) (x1_3 : Int) (x1_4 : Int) (x1_5 : Int) (x1_6 : Int) (σ : AMem) : Option (Value × AMem) := match k with
  | 0 => none
  | k + 1 => (allocK σ (.cells [.int .i64 x1_0, .int .i64 x1_1, .int .i64 x1_2, .int .i64 x1_3, .int .i64 x1_4, .int .i64 x1_5, .int .i64 x1_6] 56 true) fun h1 s2 => (ldI .i64 s2 h1 (0 + 0)).bind fun n3 => bif n3 == (0 : Int) then ((ldI .i64 s2 h1 (0 + 1)).bind fun n4 => (ldI .i64 s2 h1 (0 + 2)).bind fun n5 => (d_heap_Heap_Claim k x0 n4 n5 s2).bind fun r6 => (toI .i64 r6.1).bind fun n7 => some (.int .i64 n7, r6.2)) else (bif n3 == (1 : Int) then ((ldI .i64 s2 h1 (0 + 1)).bind fun n8 => (ldI .i64 s2 h1 (0 + 2)).bind fun n9 => (ldI .i64 s2 h1 (0 + 3)).bind fun n10 => (d_heap_Heap_ClaimLarge k x0 n8 n9 n10 s2).bind fun r11 => (toI .i64 r11.1).bind fun n12 => some (.int .i64 n12, r11.2)) else (bif n3 == (2 : Int) then ((ldI .i64 s2 h1 (0 + 1)).bind fun n13 => (d_heap_Heap_Release k x0 n13 s2).bind fun r14 => (toI .i64 r14.1).bind fun n15 => some (.int .i64 n15, r14.2)) else (bif n3 == (3 : Int) then ((ldI .i64 s2 h1 (0 + 1)).bind fun n16 => (ldI .i64 s2 h1 (0 + 2)).bind fun n17 => (d_heap_Heap_Retag k x0 n16 n17 s2).bind fun r18 => (toI .i64 r18.1).bind fun n19 => some (.int .i64 n19, r18.2)) else ((bif n3 == (4 : Int) then ((ldI .i64 s2 h1 (0 + 1)).bind fun n20 => (ldI .i64 s2 h1 (0 + 4)).bind fun n21 => (ldI .i64 s2 h1 (0 + 4 + 1)).bind fun n22 => (ldI .i64 s2 h1 (0 + 4 + 1 + 1)).bind fun n23 => (d_heap_Heap_Place k x0 n20 n21 n22 n23 s2).bind fun r24 => r_ii r24.1 fun n25 n26 => some (.normal, [.int .i64 n26], r24.2)) else (bif n3 == (5 : Int) then ((ldI .i64 s2 h1 (0 + 1)).bind fun n27 => (d_heap_Heap_Kill k x0 n27 s2).bind fun r28 => (toI .i64 r28.1).bind fun n29 => some (.ret, [.int .i64 n29], r28.2)) else (bif n3 == (6 : Int) then ((ldI .i64 s2 h1 (0 + 1)).bind fun n30 => (ldI .i64 s2 h1 (0 + 2)).bind fun n31 => (d_heap_Heap_Move k x0 n30 n31 s2).bind fun r32 => (toI .i64 r32.1).bind fun n33 => some (.ret, [.int .i64 n33], r32.2)) else (bif n3 == (7 : Int) then ((ldI .i64 s2 h1 (0 + 1)).bind fun n34 => (ldI .i64 s2 h1 (0 + 2)).bind fun n35 => (ldI .i64 s2 h1 (0 + 3)).bind fun n36 => (d_heap_Heap_SetRef k x0 n34 n35 n36 s2).bind fun r37 => (toI .i64 r37.1).bind fun n38 => some (.ret, [.int .i64 n38], r37.2)) else (bif n3 == (8 : Int) then ((ldI .i64 s2 h1 (0 + 1)).bind fun n39 => (ldI .i64 s2 h1 (0 + 2)).bind fun n40 => (ldI .i64 s2 h1 (0 + 3)).bind fun n41 => (d_heap_Heap_SetData k x0 n39 n40 n41 s2).bind fun r42 => (toI .i64 r42.1).bind fun n43 => some (.ret, [.int .i64 n43], r42.2)) else (bif n3 == (9 : Int) then ((ldI .i64 s2 h1 (0 + 1)).bind fun n44 => (ldI .i64 s2 h1 (0 + 2)).bind fun n45 => (d_heap_Heap_Poke k x0 n44 n45 s2).bind fun r46 => (toI .i64 r46.1).bind fun n47 => some (.ret, [.int .i64 n47], r46.2)) else (bif n3 == (10 : Int) then ((ldI .i64 s2 h1 (0 + 1)).bind fun n48 => (d_heap_Heap_Pin k x0 n48 s2).bind fun r49 => (toI .i64 r49.1).bind fun n50 => some (.ret, [.int .i64 n50], r49.2)) else (bif n3 == (11 : Int) then ((ldI .i64 s2 h1 (0 + 1)).bind fun n51 => (d_heap_Heap_Unpin k x0 n51 s2).bind fun r52 => (toI .i64 r52.1).bind fun n53 => some (.ret, [.int .i64 n53], r52.2)) else ((bif n3 == (12 : Int) then ((d_heap_Heap_Forget k x0 s2).bind fun r54 => (toI .i64 r54.1).bind fun n55 => some (.normal, [], r54.2)) else (some (.normal, [], s2)) : Option LOut).bind fun r56 => if r56.1 = .normal then (some (.normal, [.int .i64 (0 : Int)], r56.2.2)) else none)))))))) : Option LOut).bind fun r57 => if r57.1 = .normal then (u_i r57.2.1 fun n58 => some (.int .i64 n58, r57.2.2)) else if r57.1 = .ret then (u_i r57.2.1 fun n59 => some (.int .i64 n59, r57.2.2)) else none)))))

theorem law02_do_is (k : Nat) (x0 : Option Addr) (x1_0 : Int) (x1_1 : Int) (x1_2 : Int) (x1_3 : Int) (x1_4 : Int) (x1_5 : Int) (x1_6 : Int) (σ : AMem) : law02_do k x0 x1_0 x1_1 x1_2 x1_3 x1_4 x1_5 x1_6 σ = d_law02_do k x0 x1_0 x1_1 x1_2 x1_3 x1_4 x1_5 x1_6 σ := by
  cases k with
  | zero => rfl
  | succ k => rw [law02_do_eq, d_law02_do]; simp only [heap_Heap_Place_is, heap_Heap_Move_is, heap_Heap_Claim_is, heap_Heap_ClaimLarge_is, heap_Heap_Kill_is, heap_Heap_Release_is, heap_Heap_Retag_is, heap_Heap_SetRef_is, heap_Heap_SetData_is, heap_Heap_Poke_is, heap_Heap_Pin_is, heap_Heap_Unpin_is, heap_Heap_Forget_is]

noncomputable def d_law02_Great (k : Nat) (x0 : Option Addr × Nat × Nat) (σ : AMem) : Option (Value × AMem) := match k with
  | 0 => none
  | k + 1 => (some (.bool (decide (((x0.2.1 : Nat) : Int) > (60 : Int))), σ))

theorem law02_Great_is (k : Nat) (x0 : Option Addr × Nat × Nat) (σ : AMem) : law02_Great k x0 σ = d_law02_Great k x0 σ := by
  cases k with
  | zero => rfl
  | succ k => rw [law02_Great_eq, d_law02_Great]

noncomputable def d_slices_Index_int_l0 (k n : Nat) (p0 : Option Addr) (c1 : Nat) (c2 : Nat) (i3 : Int) (i4 : Int) (x8 : Int) (σ : AMem) : Option LOut := match n with
  | 0 => none
  | n + 1 => (bif decide (x8 < i4) then (if 0 ≤ x8 ∧ x8 < (c1 : Nat) then p0.bind fun a1 => (ldI .i64 σ a1.block (a1.off + x8.toNat * 1)).bind fun n2 => bif i3 == n2 then (some (.ret, [.int .i64 x8], σ)) else (d_slices_Index_int_l0 k n p0 c1 c2 i3 i4 (w64 (x8 + (1 : Int))) σ) else none) else (some (.exit 0, [], σ)))
termination_by structural n

theorem slices_Index_int_l0_is (k n : Nat) (p0 : Option Addr) (c1 : Nat) (c2 : Nat) (i3 : Int) (i4 : Int) (x8 : Int) (σ : AMem) : slices_Index_int_l0 k n p0 c1 c2 i3 i4 x8 σ = d_slices_Index_int_l0 k n p0 c1 c2 i3 i4 x8 σ := by
  induction n generalizing p0 c1 c2 i3 i4 x8 σ with
  | zero => rfl
  | succ n ih => rw [slices_Index_int_l0_eq, d_slices_Index_int_l0]; simp only [ih]

noncomputable def d_slices_Index_int (k : Nat) (x0 : Option Addr × Nat × Nat) (x1 : Int) (σ : AMem) : Option (Value × AMem) := match k with
  | 0 => none
  | k + 1 => ((d_slices_Index_int_l0 k k x0.1 x0.2.1 x0.2.2 x1 ((x0.2.1 : Nat) : Int) (0 : Int) σ).bind fun r3 => if r3.1 = .exit 0 then (some (.int .i64 (-1 : Int), r3.2.2)) else if r3.1 = .ret then (u_i r3.2.1 fun n4 => some (.int .i64 n4, r3.2.2)) else none)

theorem slices_Index_int_is (k : Nat) (x0 : Option Addr × Nat × Nat) (x1 : Int) (σ : AMem) : slices_Index_int k x0 x1 σ = d_slices_Index_int k x0 x1 σ := by
  cases k with
  | zero => rfl
  | succ k => rw [slices_Index_int_eq, d_slices_Index_int]; simp only [slices_Index_int_l0_is]

noncomputable def d_slices_Contains_int (k : Nat) (x0 : Option Addr × Nat × Nat) (x1 : Int) (σ : AMem) : Option (Value × AMem) := match k with
  | 0 => none
  | k + 1 => ((d_slices_Index_int k (x0.1, x0.2.1, x0.2.2) x1 σ).bind fun r1 => (toI .i64 r1.1).bind fun n2 => some (.bool (decide (n2 ≥ (0 : Int))), r1.2))

theorem slices_Contains_int_is (k : Nat) (x0 : Option Addr × Nat × Nat) (x1 : Int) (σ : AMem) : slices_Contains_int k x0 x1 σ = d_slices_Contains_int k x0 x1 σ := by
  cases k with
  | zero => rfl
  | succ k => rw [slices_Contains_int_eq, d_slices_Contains_int]; simp only [slices_Index_int_is]

noncomputable def d_side_New (k : Nat) (x0 : Int) (x1 : Int) (σ : AMem) : Option (Value × AMem) := match k with
  | 0 => none
  | k + 1 => ((bif decide (x0 < (1 : Int)) then some (true, σ) else some (decide (x0 > (4096 : Int)), σ)).bind fun r1 => (bif r1.1 then some (true, r1.2) else allocK r1.2 (.cells [.int .i64 (1 : Int), .int .i64 (2 : Int), .int .i64 (4 : Int), .int .i64 (8 : Int)] 3 true) fun h2 s3 => (d_slices_Contains_int k (some ⟨h2, 0, none⟩, 4, 4) x1 s3).bind fun r4 => (toB r4.1).bind fun b5 => some (!b5, r4.2)).bind fun r6 => bif r6.1 then (some (.tuple #[.pointer none, .int .i64 (1 : Int)], r6.2)) else (if (64 : Int) = 0 then none else if 0 ≤ (w64 ((w64 ((w64 ((w64 (x0 * x1)) + (64 : Int))) - (1 : Int))).tdiv (64 : Int))) ∧ (w64 ((w64 ((w64 ((w64 (x0 * x1)) + (64 : Int))) - (1 : Int))).tdiv (64 : Int))) ≤ (w64 ((w64 ((w64 ((w64 (x0 * x1)) + (64 : Int))) - (1 : Int))).tdiv (64 : Int))) ∧ (w64 ((w64 ((w64 ((w64 (x0 * x1)) + (64 : Int))) - (1 : Int))).tdiv (64 : Int))) * (8 : Nat) ≤ 2 ^ 40 ∧ (w64 ((w64 ((w64 ((w64 (x0 * x1)) + (64 : Int))) - (1 : Int))).tdiv (64 : Int))) ≤ 2 ^ 40 then allocK r6.2 (.cells (rep (w64 ((w64 ((w64 ((w64 (x0 * x1)) + (64 : Int))) - (1 : Int))).tdiv (64 : Int))).toNat [.int .u64 (0 : Int)]) 96 true) fun h7 s8 => allocK s8 (.cells [.int .i64 x0, .int .i64 x1, .slice (some ⟨h7, 0, none⟩) ((w64 ((w64 ((w64 ((w64 (x0 * x1)) + (64 : Int))) - (1 : Int))).tdiv (64 : Int))).toNat) ((w64 ((w64 ((w64 ((w64 (x0 * x1)) + (64 : Int))) - (1 : Int))).tdiv (64 : Int))).toNat)] 93 true) fun h9 s10 => some (.tuple #[.pointer (some ⟨h9, 0, none⟩), .int .i64 (0 : Int)], s10) else none))

theorem side_New_is (k : Nat) (x0 : Int) (x1 : Int) (σ : AMem) : side_New k x0 x1 σ = d_side_New k x0 x1 σ := by
  cases k with
  | zero => rfl
  | succ k => rw [side_New_eq, d_side_New]; simp only [slices_Contains_int_is]

noncomputable def d_heap_New (k : Nat) (x0 : Int) (σ : AMem) : Option (Value × AMem) := match k with
  | 0 => none
  | k + 1 => ((bif decide (x0 < (2 : Int)) then some (true, σ) else some (decide (x0 > (64 : Int)), σ)).bind fun r1 => bif r1.1 then (some (.tuple #[.pointer none, .int .i64 (1 : Int)], r1.2)) else (if 0 ≤ x0 ∧ x0 ≤ x0 ∧ x0 * (16 : Nat) ≤ 2 ^ 40 ∧ x0 ≤ 2 ^ 40 then allocK r1.2 (.cells (rep x0.toNat [.int .i64 (0 : Int), .int .i64 (0 : Int)]) 77 true) fun h2 s3 => if 0 ≤ (w64 (x0 * (64 : Int))) ∧ (w64 (x0 * (64 : Int))) ≤ (w64 (x0 * (64 : Int))) ∧ (w64 (x0 * (64 : Int))) * (8 : Nat) ≤ 2 ^ 40 ∧ (w64 (x0 * (64 : Int))) ≤ 2 ^ 40 then allocK s3 (.cells (rep (w64 (x0 * (64 : Int))).toNat [.int .i64 (0 : Int)]) 3 true) fun h4 s5 => allocK s5 (.map []) fun h6 s7 => allocK s7 (.map []) fun h8 s9 => allocK s9 (.cells [.slice (some ⟨h2, 0, none⟩) x0.toNat x0.toNat, .slice (some ⟨h4, 0, none⟩) ((w64 (x0 * (64 : Int))).toNat) ((w64 (x0 * (64 : Int))).toNat), .pointer none, .pointer none, .map (some h6), .map (some h8), .int .i64 (0 : Int)] 72 true) fun h10 s11 => (ldS s11 h10 (0 + 1)).bind fun l12 => if (2 : Int) = 0 then none else (d_side_New k (w64 (((l12.2.1 : Nat) : Int).tdiv (2 : Int))) (1 : Int) s11).bind fun r13 => r_pi r13.1 fun p14 n15 => (st1 r13.2 h10 (0 + 2) (.pointer p14)).bind fun s16 => (ldS s16 h10 (0 + 1)).bind fun l17 => if (2 : Int) = 0 then none else (d_side_New k (w64 (((l17.2.1 : Nat) : Int).tdiv (2 : Int))) (1 : Int) s16).bind fun r18 => r_pi r18.1 fun p19 n20 => (st1 r18.2 h10 (0 + 3) (.pointer p19)).bind fun s21 => some (.tuple #[.pointer (some ⟨h10, 0, none⟩), .int .i64 (0 : Int)], s21) else none else none))

theorem heap_New_is (k : Nat) (x0 : Int) (σ : AMem) : heap_New k x0 σ = d_heap_New k x0 σ := by
  cases k with
  | zero => rfl
  | succ k => rw [heap_New_eq, d_heap_New]; simp only [side_New_is]

noncomputable def d_law02_Made_l0 (k n : Nat) (p0 : Option Addr) (c1 : Nat) (c2 : Nat) (p3 : Option Addr) (x7 : Int) (σ : AMem) : Option LOut := match n with
  | 0 => none
  | n + 1 => (bif decide (x7 < ((c1 : Nat) : Int)) then (if 0 ≤ x7 ∧ x7 < (c1 : Nat) then p0.bind fun a7 => (ldI .i64 σ a7.block (a7.off + x7.toNat * 7)).bind fun n8 => (ldI .i64 σ a7.block (a7.off + x7.toNat * 7 + 1)).bind fun n9 => (ldI .i64 σ a7.block (a7.off + x7.toNat * 7 + 1 + 1)).bind fun n10 => (ldI .i64 σ a7.block (a7.off + x7.toNat * 7 + 1 + 1 + 1)).bind fun n11 => (ldI .i64 σ a7.block (a7.off + x7.toNat * 7 + 1 + 1 + 1 + 1)).bind fun n12 => (ldI .i64 σ a7.block (a7.off + x7.toNat * 7 + 1 + 1 + 1 + 1 + 1)).bind fun n13 => (ldI .i64 σ a7.block (a7.off + x7.toNat * 7 + 1 + 1 + 1 + 1 + 1 + 1)).bind fun n14 => (d_law02_do k p3 n8 n9 n10 n11 n12 n13 n14 σ).bind fun r15 => (toI .i64 r15.1).bind fun n16 => d_law02_Made_l0 k n p0 c1 c2 p3 (w64 (x7 + (1 : Int))) r15.2 else none) else (some (.exit 0, [], σ)))
termination_by structural n

theorem law02_Made_l0_is (k n : Nat) (p0 : Option Addr) (c1 : Nat) (c2 : Nat) (p3 : Option Addr) (x7 : Int) (σ : AMem) : law02_Made_l0 k n p0 c1 c2 p3 x7 σ = d_law02_Made_l0 k n p0 c1 c2 p3 x7 σ := by
  induction n generalizing p0 c1 c2 p3 x7 σ with
  | zero => rfl
  | succ n ih => rw [law02_Made_l0_eq, d_law02_Made_l0]; simp only [law02_do_is, law02_Great_is, heap_New_is, ih]

noncomputable def d_law02_Made (k : Nat) (x0 : Int) (x1 : Option Addr × Nat × Nat) (σ : AMem) : Option (Value × AMem) := match k with
  | 0 => none
  | k + 1 => ((d_law02_Great k (x1.1, x1.2.1, x1.2.2) σ).bind fun r1 => (toB r1.1).bind fun b2 => (bif b2 then some (true, r1.2) else some (decide (x0 > (12 : Int)), r1.2)).bind fun r3 => bif r3.1 then (some (.pointer none, r3.2)) else ((d_heap_New k x0 r3.2).bind fun r4 => r_pi r4.1 fun p5 n6 => bif n6 != (0 : Int) then (some (.pointer none, r4.2)) else ((d_law02_Made_l0 k k x1.1 x1.2.1 x1.2.2 p5 (0 : Int) r4.2).bind fun r17 => if r17.1 = .exit 0 then (some (.pointer p5, r17.2.2)) else none)))

theorem law02_Made_is (k : Nat) (x0 : Int) (x1 : Option Addr × Nat × Nat) (σ : AMem) : law02_Made k x0 x1 σ = d_law02_Made k x0 x1 σ := by
  cases k with
  | zero => rfl
  | succ k => rw [law02_Made_eq, d_law02_Made]; simp only [law02_do_is, law02_Great_is, heap_New_is, law02_Made_l0_is]

noncomputable def d_heap_Heap_Births (k : Nat) (x0 : Option Addr) (σ : AMem) : Option (Value × AMem) := match k with
  | 0 => none
  | k + 1 => ((d_heap_Heap_made k x0 σ).bind fun r1 => (toB r1.1).bind fun b2 => bif !b2 then (some (.int .i64 (0 : Int), r1.2)) else (x0.bind fun a3 => (ldI .i64 r1.2 a3.block (a3.off + 6)).bind fun n4 => some (.int .i64 n4, r1.2)))

theorem heap_Heap_Births_is (k : Nat) (x0 : Option Addr) (σ : AMem) : heap_Heap_Births k x0 σ = d_heap_Heap_Births k x0 σ := by
  cases k with
  | zero => rfl
  | succ k => rw [heap_Heap_Births_eq, d_heap_Heap_Births]; simp only [heap_Heap_made_is]

noncomputable def d_heap_Heap_All (k : Nat) (x0 : Option Addr) (σ : AMem) : Option (Value × AMem) := match k with
  | 0 => none
  | k + 1 => ((d_heap_Heap_made k x0 σ).bind fun r1 => (toB r1.1).bind fun b2 => bif !b2 then (some (.slice none 0 0, r1.2)) else (x0.bind fun a3 => (ldS r1.2 a3.block (a3.off + 1)).bind fun l4 => (d_heap_Heap_between k x0 (0 : Int) ((l4.2.1 : Nat) : Int) r1.2).bind fun r5 => (toS r5.1).bind fun l6 => some (.slice l6.1 l6.2.1 l6.2.2, r5.2)))

theorem heap_Heap_All_is (k : Nat) (x0 : Option Addr) (σ : AMem) : heap_Heap_All k x0 σ = d_heap_Heap_All k x0 σ := by
  cases k with
  | zero => rfl
  | succ k => rw [heap_Heap_All_eq, d_heap_Heap_All]; simp only [heap_Heap_made_is, heap_Heap_between_is]

noncomputable def d_heap_Heap_Ident (k : Nat) (x0 : Option Addr) (x1 : Int) (σ : AMem) : Option (Value × AMem) := match k with
  | 0 => none
  | k + 1 => ((d_heap_Heap_object k x0 x1 σ).bind fun r1 => (toI .i64 r1.1).bind fun n2 => bif n2 != (0 : Int) then (some (.tuple #[.int .i64 (0 : Int), .int .i64 n2], r1.2)) else (x0.bind fun a3 => (ldS r1.2 a3.block (a3.off + 1)).bind fun l4 => if 0 ≤ x1 ∧ x1 < (l4.2.1 : Nat) then l4.1.bind fun a5 => (ldI .i64 r1.2 a5.block (a5.off + x1.toNat * 1)).bind fun n6 => some (.tuple #[.int .i64 n6, .int .i64 (0 : Int)], r1.2) else none))

theorem heap_Heap_Ident_is (k : Nat) (x0 : Option Addr) (x1 : Int) (σ : AMem) : heap_Heap_Ident k x0 x1 σ = d_heap_Heap_Ident k x0 x1 σ := by
  cases k with
  | zero => rfl
  | succ k => rw [heap_Heap_Ident_eq, d_heap_Heap_Ident]; simp only [heap_Heap_object_is]

noncomputable def d_heap_Heap_At (k : Nat) (x0 : Option Addr) (x1 : Int) (σ : AMem) : Option (Value × AMem) := match k with
  | 0 => none
  | k + 1 => ((d_heap_Heap_made k x0 σ).bind fun r1 => (toB r1.1).bind fun b2 => bif !b2 then (some (.tuple #[.int .i64 (0 : Int), .int .i64 (5 : Int)], r1.2)) else (x0.bind fun a3 => (ldM r1.2 a3.block (a3.off + 4)).bind fun m4 => (ldMO r1.2 m4).bind fun es5 => (toI .i64 ((mapGet es5 x1).getD (.int .i64 (0 : Int)))).bind fun n6 => bif !((mapGet es5 x1).isSome) then (some (.tuple #[.int .i64 (0 : Int), .int .i64 (4 : Int)], r1.2)) else (some (.tuple #[.int .i64 n6, .int .i64 (0 : Int)], r1.2))))

theorem heap_Heap_At_is (k : Nat) (x0 : Option Addr) (x1 : Int) (σ : AMem) : heap_Heap_At k x0 x1 σ = d_heap_Heap_At k x0 x1 σ := by
  cases k with
  | zero => rfl
  | succ k => rw [heap_Heap_At_eq, d_heap_Heap_At]; simp only [heap_Heap_made_is]

noncomputable def d_law02_HeapIdents_l0 (k n : Nat) (p0 : Option Addr) (i1 : Int) (p2 : Option Addr) (c3 : Nat) (c4 : Nat) (h5 : Nat) (c6 : Nat) (x13 : Int) (σ : AMem) : Option LOut := match n with
  | 0 => none
  | n + 1 => (bif decide (x13 < ((c3 : Nat) : Int)) then (if 0 ≤ x13 ∧ x13 < (c3 : Nat) then p2.bind fun a14 => (ldI .i64 σ a14.block (a14.off + x13.toNat * 1)).bind fun n15 => (d_heap_Heap_Ident k p0 n15 σ).bind fun r16 => r_ii r16.1 fun n17 n18 => (bif n18 != (0 : Int) then some (true, r16.2) else some (decide (n17 < (1 : Int)), r16.2)).bind fun r19 => (bif r19.1 then some (true, r19.2) else some (decide (n17 > i1), r19.2)).bind fun r20 => (bif r20.1 then some (true, r20.2) else if 0 ≤ n17 ∧ n17 < (c6 : Nat) then (ldB r20.2 h5 (0 + n17.toNat * 1)).bind fun b21 => some (b21, r20.2) else none).bind fun r22 => bif r22.1 then (some (.ret, [.bool false], r22.2)) else (if 0 ≤ n17 ∧ n17 < (c6 : Nat) then (st1 r22.2 h5 (0 + n17.toNat * 1) (.bool true)).bind fun s23 => (d_heap_Heap_At k p0 n17 s23).bind fun r24 => r_ii r24.1 fun n25 n26 => (bif n26 != (0 : Int) then some (true, r24.2) else if 0 ≤ x13 ∧ x13 < (c3 : Nat) then p2.bind fun a27 => (ldI .i64 r24.2 a27.block (a27.off + x13.toNat * 1)).bind fun n28 => some (n25 != n28, r24.2) else none).bind fun r29 => bif r29.1 then (some (.ret, [.bool false], r29.2)) else (d_law02_HeapIdents_l0 k n p0 i1 p2 c3 c4 h5 c6 (w64 (x13 + (1 : Int))) r29.2) else none) else none) else (some (.exit 0, [], σ)))
termination_by structural n

theorem law02_HeapIdents_l0_is (k n : Nat) (p0 : Option Addr) (i1 : Int) (p2 : Option Addr) (c3 : Nat) (c4 : Nat) (h5 : Nat) (c6 : Nat) (x13 : Int) (σ : AMem) : law02_HeapIdents_l0 k n p0 i1 p2 c3 c4 h5 c6 x13 σ = d_law02_HeapIdents_l0 k n p0 i1 p2 c3 c4 h5 c6 x13 σ := by
  induction n generalizing p0 i1 p2 c3 c4 h5 c6 x13 σ with
  | zero => rfl
  | succ n ih => rw [law02_HeapIdents_l0_eq, d_law02_HeapIdents_l0]; simp only [law02_alive_is, law02_Made_is, heap_Heap_Births_is, heap_Heap_All_is, heap_Heap_Ident_is, heap_Heap_At_is, heap_Heap_Place_is, ih]

noncomputable def d_law02_HeapIdents_l1 (k n : Nat) (p0 : Option Addr) (i1 : Int) (h2 : Nat) (c3 : Nat) (x18 : Int) (σ : AMem) : Option LOut := match n with
  | 0 => none
  | n + 1 => (bif decide (x18 ≤ i1) then ((d_heap_Heap_At k p0 x18 σ).bind fun r31 => r_ii r31.1 fun n32 n33 => if 0 ≤ x18 ∧ x18 < (c3 : Nat) then (ldB r31.2 h2 (0 + x18.toNat * 1)).bind fun b34 => bif !((n33 == (0 : Int)) == b34) then (some (.ret, [.bool false], r31.2)) else (d_law02_HeapIdents_l1 k n p0 i1 h2 c3 (w64 (x18 + (1 : Int))) r31.2) else none) else (some (.exit 2, [], σ)))
termination_by structural n

theorem law02_HeapIdents_l1_is (k n : Nat) (p0 : Option Addr) (i1 : Int) (h2 : Nat) (c3 : Nat) (x18 : Int) (σ : AMem) : law02_HeapIdents_l1 k n p0 i1 h2 c3 x18 σ = d_law02_HeapIdents_l1 k n p0 i1 h2 c3 x18 σ := by
  induction n generalizing p0 i1 h2 c3 x18 σ with
  | zero => rfl
  | succ n ih => rw [law02_HeapIdents_l1_eq, d_law02_HeapIdents_l1]; simp only [law02_alive_is, law02_Made_is, heap_Heap_Births_is, heap_Heap_All_is, heap_Heap_Ident_is, heap_Heap_At_is, heap_Heap_Place_is, law02_HeapIdents_l0_is, ih]

noncomputable def d_law02_HeapIdents (k : Nat) (x0 : Int) (x1 : Option Addr × Nat × Nat) (x2 : Int) (x3_0 : Int) (x3_1 : Int) (x3_2 : Int) (σ : AMem) : Option (Value × AMem) := match k with
  | 0 => none
  | k + 1 => (allocK σ (.cells [.int .i64 x3_0, .int .i64 x3_1, .int .i64 x3_2] 23 true) fun h1 s2 => (d_law02_Made k x0 (x1.1, x1.2.1, x1.2.2) s2).bind fun r3 => (toP r3.1).bind fun p4 => (eqA P 28 (.pointer p4) (.pointer none)).bind fun e5 => bif e5 then ((d_law02_alive k  r3.2).bind fun r6 => (toB r6.1).bind fun b7 => some (.bool b7, r6.2)) else ((d_heap_Heap_Births k p4 r3.2).bind fun r8 => (toI .i64 r8.1).bind fun n9 => (d_heap_Heap_All k p4 r8.2).bind fun r10 => (toS r10.1).bind fun l11 => if 0 ≤ (w64 (n9 + (1 : Int))) ∧ (w64 (n9 + (1 : Int))) ≤ (w64 (n9 + (1 : Int))) ∧ (w64 (n9 + (1 : Int))) * (1 : Nat) ≤ 2 ^ 40 ∧ (w64 (n9 + (1 : Int))) ≤ 2 ^ 40 then allocK r10.2 (.cells (rep (w64 (n9 + (1 : Int))).toNat [.bool false]) 4 true) fun h12 s13 => (d_law02_HeapIdents_l0 k k p4 n9 l11.1 l11.2.1 l11.2.2 h12 ((w64 (n9 + (1 : Int))).toNat) (0 : Int) s13).bind fun r30 => if r30.1 = .exit 0 then ((d_law02_HeapIdents_l1 k k p4 n9 h12 ((w64 (n9 + (1 : Int))).toNat) (1 : Int) r30.2.2).bind fun r35 => if r35.1 = .exit 2 then ((ldI .i64 r35.2.2 h1 0).bind fun n36 => (ldI .i64 r35.2.2 h1 (0 + 1)).bind fun n37 => (ldI .i64 r35.2.2 h1 (0 + 1 + 1)).bind fun n38 => (d_heap_Heap_Place k p4 x2 n36 n37 n38 r35.2.2).bind fun r39 => r_ii r39.1 fun n40 n41 => (bif n41 == (0 : Int) then some (n40 == (w64 (n9 + (1 : Int))), r39.2) else some (false, r39.2)).bind fun r42 => (bif r42.1 then (d_heap_Heap_Births k p4 r42.2).bind fun r43 => (toI .i64 r43.1).bind fun n44 => some (n44 == n40, r43.2) else some (false, r42.2)).bind fun r45 => (bif r45.1 then some (true, r45.2) else (bif n41 != (0 : Int) then some (n40 == (0 : Int), r45.2) else some (false, r45.2)).bind fun r46 => (bif r46.1 then (d_heap_Heap_Births k p4 r46.2).bind fun r47 => (toI .i64 r47.1).bind fun n48 => some (n48 == n9, r47.2) else some (false, r46.2)).bind fun r49 => some (r49.1, r49.2)).bind fun r50 => (bif r50.1 then (d_law02_alive k  r50.2).bind fun r51 => (toB r51.1).bind fun b52 => some (b52, r51.2) else some (false, r50.2)).bind fun r53 => some (.bool r53.1, r53.2)) else if r35.1 = .ret then (u_t r35.2.1 fun b54 => some (.bool b54, r35.2.2)) else none) else if r30.1 = .ret then (u_t r30.2.1 fun b55 => some (.bool b55, r30.2.2)) else none else none))

theorem law02_HeapIdents_is (k : Nat) (x0 : Int) (x1 : Option Addr × Nat × Nat) (x2 : Int) (x3_0 : Int) (x3_1 : Int) (x3_2 : Int) (σ : AMem) : law02_HeapIdents k x0 x1 x2 x3_0 x3_1 x3_2 σ = d_law02_HeapIdents k x0 x1 x2 x3_0 x3_1 x3_2 σ := by
  cases k with
  | zero => rfl
  | succ k => rw [law02_HeapIdents_eq, d_law02_HeapIdents]; simp only [law02_alive_is, law02_Made_is, heap_Heap_Births_is, heap_Heap_All_is, heap_Heap_Ident_is, heap_Heap_At_is, heap_Heap_Place_is, law02_HeapIdents_l0_is, law02_HeapIdents_l1_is]

noncomputable def d_heap_Heap_Blocks (k : Nat) (x0 : Option Addr) (σ : AMem) : Option (Value × AMem) := match k with
  | 0 => none
  | k + 1 => ((d_heap_Heap_made k x0 σ).bind fun r1 => (toB r1.1).bind fun b2 => bif !b2 then (some (.int .i64 (0 : Int), r1.2)) else (x0.bind fun a3 => (ldS r1.2 a3.block (a3.off + 0)).bind fun l4 => some (.int .i64 ((l4.2.1 : Nat) : Int), r1.2)))

theorem heap_Heap_Blocks_is (k : Nat) (x0 : Option Addr) (σ : AMem) : heap_Heap_Blocks k x0 σ = d_heap_Heap_Blocks k x0 σ := by
  cases k with
  | zero => rfl
  | succ k => rw [heap_Heap_Blocks_eq, d_heap_Heap_Blocks]; simp only [heap_Heap_made_is]

noncomputable def d_heap_Heap_used (k : Nat) (x0 : Option Addr) (x1 : Int) (σ : AMem) : Option (Value × AMem) := match k with
  | 0 => none
  | k + 1 => ((d_heap_Heap_there k x0 x1 σ).bind fun r1 => (toB r1.1).bind fun b2 => (bif b2 then x0.bind fun a3 => (ldS r1.2 a3.block (a3.off + 0)).bind fun l4 => if 0 ≤ x1 ∧ x1 < (l4.2.1 : Nat) then l4.1.bind fun a5 => (ldI .i64 r1.2 a5.block (a5.off + x1.toNat * 2 + 0)).bind fun n6 => some (n6 == (1 : Int), r1.2) else none else some (false, r1.2)).bind fun r7 => some (.bool r7.1, r7.2))

theorem heap_Heap_used_is (k : Nat) (x0 : Option Addr) (x1 : Int) (σ : AMem) : heap_Heap_used k x0 x1 σ = d_heap_Heap_used k x0 x1 σ := by
  cases k with
  | zero => rfl
  | succ k => rw [heap_Heap_used_eq, d_heap_Heap_used]; simp only [heap_Heap_there_is]

noncomputable def d_heap_Heap_Lines_l1 (k n : Nat) (h0 : Nat) (c1 : Nat) (i2 : Int) (x10 : Int) (σ : AMem) : Option LOut := match n with
  | 0 => none
  | n + 1 => (if (8 : Int) = 0 then none else bif decide (x10 ≤ (w64 (i2.tdiv (8 : Int)))) then (if 0 ≤ x10 ∧ x10 < (c1 : Nat) then (st1 σ h0 (0 + x10.toNat * 1) (.bool true)).bind fun s11 => d_heap_Heap_Lines_l1 k n h0 c1 i2 (w64 (x10 + (1 : Int))) s11 else none) else (some (.exit 2, [], σ)))
termination_by structural n

theorem heap_Heap_Lines_l1_is (k n : Nat) (h0 : Nat) (c1 : Nat) (i2 : Int) (x10 : Int) (σ : AMem) : heap_Heap_Lines_l1 k n h0 c1 i2 x10 σ = d_heap_Heap_Lines_l1 k n h0 c1 i2 x10 σ := by
  induction n generalizing h0 c1 i2 x10 σ with
  | zero => rfl
  | succ n ih => rw [heap_Heap_Lines_l1_eq, d_heap_Heap_Lines_l1]; simp only [heap_Heap_used_is, heap_Heap_Objects_is, heap_Heap_size_is, ih]

noncomputable def d_heap_Heap_Lines_l0 (k n : Nat) (p0 : Option Addr) (h1 : Nat) (c2 : Nat) (p3 : Option Addr) (c4 : Nat) (c5 : Nat) (i6 : Int) (x20 : Int) (σ : AMem) : Option LOut := match n with
  | 0 => none
  | n + 1 => (bif decide (x20 < i6) then (if 0 ≤ x20 ∧ x20 < (c4 : Nat) then p3.bind fun a7 => (ldI .i64 σ a7.block (a7.off + x20.toNat * 1)).bind fun n8 => if (64 : Int) = 0 then none else if (64 : Int) = 0 then none else (d_heap_Heap_size k p0 n8 σ).bind fun r9 => (toI .i64 r9.1).bind fun n10 => if (8 : Int) = 0 then none else (d_heap_Heap_Lines_l1 k k h1 c2 (w64 ((w64 ((n8.tmod (64 : Int)) + n10)) - (1 : Int))) (w64 ((n8.tmod (64 : Int)).tdiv (8 : Int))) r9.2).bind fun r12 => if r12.1 = .exit 2 then (d_heap_Heap_Lines_l0 k n p0 h1 c2 p3 c4 c5 i6 (w64 (x20 + (1 : Int))) r12.2.2) else none else none) else (some (.exit 0, [], σ)))
termination_by structural n

theorem heap_Heap_Lines_l0_is (k n : Nat) (p0 : Option Addr) (h1 : Nat) (c2 : Nat) (p3 : Option Addr) (c4 : Nat) (c5 : Nat) (i6 : Int) (x20 : Int) (σ : AMem) : heap_Heap_Lines_l0 k n p0 h1 c2 p3 c4 c5 i6 x20 σ = d_heap_Heap_Lines_l0 k n p0 h1 c2 p3 c4 c5 i6 x20 σ := by
  induction n generalizing p0 h1 c2 p3 c4 c5 i6 x20 σ with
  | zero => rfl
  | succ n ih => rw [heap_Heap_Lines_l0_eq, d_heap_Heap_Lines_l0]; simp only [heap_Heap_used_is, heap_Heap_Objects_is, heap_Heap_size_is, heap_Heap_Lines_l1_is, ih]

noncomputable def d_heap_Heap_Lines (k : Nat) (x0 : Option Addr) (x1 : Int) (σ : AMem) : Option (Value × AMem) := match k with
  | 0 => none
  | k + 1 => ((d_heap_Heap_used k x0 x1 σ).bind fun r1 => (toB r1.1).bind fun b2 => bif !b2 then (some (.slice none 0 0, r1.2)) else (if 0 ≤ (8 : Int) ∧ (8 : Int) ≤ (8 : Int) ∧ (8 : Int) * (1 : Nat) ≤ 2 ^ 40 ∧ (8 : Int) ≤ 2 ^ 40 then allocK r1.2 (.cells (rep (8 : Int).toNat [.bool false]) 4 true) fun h3 s4 => (d_heap_Heap_Objects k x0 x1 s4).bind fun r5 => (toS r5.1).bind fun l6 => (d_heap_Heap_Lines_l0 k k x0 h3 ((8 : Int).toNat) l6.1 l6.2.1 l6.2.2 ((l6.2.1 : Nat) : Int) (0 : Int) r5.2).bind fun r13 => if r13.1 = .exit 0 then (some (.slice (some ⟨h3, 0, none⟩) ((8 : Int).toNat) ((8 : Int).toNat), r13.2.2)) else none else none))

theorem heap_Heap_Lines_is (k : Nat) (x0 : Option Addr) (x1 : Int) (σ : AMem) : heap_Heap_Lines k x0 x1 σ = d_heap_Heap_Lines k x0 x1 σ := by
  cases k with
  | zero => rfl
  | succ k => rw [heap_Heap_Lines_eq, d_heap_Heap_Lines]; simp only [heap_Heap_used_is, heap_Heap_Objects_is, heap_Heap_size_is, heap_Heap_Lines_l1_is, heap_Heap_Lines_l0_is]

noncomputable def d_heap_Heap_State (k : Nat) (x0 : Option Addr) (x1 : Int) (σ : AMem) : Option (Value × AMem) := match k with
  | 0 => none
  | k + 1 => ((bif decide (x1 < (0 : Int)) then some (true, σ) else (d_heap_Heap_Blocks k x0 σ).bind fun r1 => (toI .i64 r1.1).bind fun n2 => some (decide (x1 ≥ n2), r1.2)).bind fun r3 => bif r3.1 then (some (.int .i64 (-1 : Int), r3.2)) else (x0.bind fun a4 => (ldS r3.2 a4.block (a4.off + 0)).bind fun l5 => if 0 ≤ x1 ∧ x1 < (l5.2.1 : Nat) then l5.1.bind fun a6 => (ldI .i64 r3.2 a6.block (a6.off + x1.toNat * 2 + 0)).bind fun n7 => some (.int .i64 n7, r3.2) else none))

theorem heap_Heap_State_is (k : Nat) (x0 : Option Addr) (x1 : Int) (σ : AMem) : heap_Heap_State k x0 x1 σ = d_heap_Heap_State k x0 x1 σ := by
  cases k with
  | zero => rfl
  | succ k => rw [heap_Heap_State_eq, d_heap_Heap_State]; simp only [heap_Heap_Blocks_is]

noncomputable def d_law02_HeapLines_l2 (k n : Nat) (p0 : Option Addr) (i1 : Int) (i2 : Int) (x9 : Bool) (x10 : Int) (σ : AMem) : Option LOut := match n with
  | 0 => none
  | n + 1 => (bif decide (x10 < (8 : Int)) then ((d_heap_Heap_Find k p0 (w64 ((w64 ((w64 (i1 * (64 : Int))) + (w64 (i2 * (8 : Int))))) + x10)) σ).bind fun r12 => r_ii r12.1 fun n13 n14 => (bif x9 then some (true, r12.2) else some (n14 == (0 : Int), r12.2)).bind fun r15 => d_law02_HeapLines_l2 k n p0 i1 i2 r15.1 (w64 (x10 + (1 : Int))) r15.2) else (some (.exit 4, [.bool x9], σ)))
termination_by structural n

theorem law02_HeapLines_l2_is (k n : Nat) (p0 : Option Addr) (i1 : Int) (i2 : Int) (x9 : Bool) (x10 : Int) (σ : AMem) : law02_HeapLines_l2 k n p0 i1 i2 x9 x10 σ = d_law02_HeapLines_l2 k n p0 i1 i2 x9 x10 σ := by
  induction n generalizing p0 i1 i2 x9 x10 σ with
  | zero => rfl
  | succ n ih => rw [law02_HeapLines_l2_eq, d_law02_HeapLines_l2]; simp only [law02_alive_is, law02_Made_is, heap_Heap_Blocks_is, heap_Heap_Lines_is, heap_Heap_State_is, heap_Heap_Find_is, ih]

noncomputable def d_law02_HeapLines_l1 (k n : Nat) (p0 : Option Addr) (i1 : Int) (p2 : Option Addr) (c3 : Nat) (c4 : Nat) (x8 : Int) (σ : AMem) : Option LOut := match n with
  | 0 => none
  | n + 1 => (bif decide (x8 < ((c3 : Nat) : Int)) then ((d_law02_HeapLines_l2 k k p0 i1 x8 false (0 : Int) σ).bind fun r16 => if r16.1 = .exit 4 then (u_t r16.2.1 fun b17 => if 0 ≤ x8 ∧ x8 < (c3 : Nat) then p2.bind fun a18 => (ldB r16.2.2 a18.block (a18.off + x8.toNat * 1)).bind fun b19 => bif !(b19 == b17) then (some (.ret, [.bool false], r16.2.2)) else (d_law02_HeapLines_l1 k n p0 i1 p2 c3 c4 (w64 (x8 + (1 : Int))) r16.2.2) else none) else none) else (some (.exit 2, [], σ)))
termination_by structural n

theorem law02_HeapLines_l1_is (k n : Nat) (p0 : Option Addr) (i1 : Int) (p2 : Option Addr) (c3 : Nat) (c4 : Nat) (x8 : Int) (σ : AMem) : law02_HeapLines_l1 k n p0 i1 p2 c3 c4 x8 σ = d_law02_HeapLines_l1 k n p0 i1 p2 c3 c4 x8 σ := by
  induction n generalizing p0 i1 p2 c3 c4 x8 σ with
  | zero => rfl
  | succ n ih => rw [law02_HeapLines_l1_eq, d_law02_HeapLines_l1]; simp only [law02_alive_is, law02_Made_is, heap_Heap_Blocks_is, heap_Heap_Lines_is, heap_Heap_State_is, heap_Heap_Find_is, law02_HeapLines_l2_is, ih]

noncomputable def d_law02_HeapLines_l0 (k n : Nat) (p0 : Option Addr) (x6 : Int) (σ : AMem) : Option LOut := match n with
  | 0 => none
  | n + 1 => ((d_heap_Heap_Blocks k p0 σ).bind fun r6 => (toI .i64 r6.1).bind fun n7 => bif decide (x6 < n7) then ((d_heap_Heap_Lines k p0 x6 r6.2).bind fun r8 => (toS r8.1).bind fun l9 => (d_heap_Heap_State k p0 x6 r8.2).bind fun r10 => (toI .i64 r10.1).bind fun n11 => bif n11 != (1 : Int) then (bif decide (((l9.2.1 : Nat) : Int) > (0 : Int)) then (some (.ret, [.bool false], r10.2)) else (d_law02_HeapLines_l0 k n p0 (w64 (x6 + (1 : Int))) r10.2)) else (bif ((l9.2.1 : Nat) : Int) != (8 : Int) then (some (.ret, [.bool false], r10.2)) else ((d_law02_HeapLines_l1 k k p0 x6 l9.1 l9.2.1 l9.2.2 (0 : Int) r10.2).bind fun r20 => if r20.1 = .exit 2 then (d_law02_HeapLines_l0 k n p0 (w64 (x6 + (1 : Int))) r20.2.2) else if r20.1 = .ret then (u_t r20.2.1 fun b21 => some (.ret, [.bool b21], r20.2.2)) else none))) else (some (.exit 0, [], r6.2)))
termination_by structural n

theorem law02_HeapLines_l0_is (k n : Nat) (p0 : Option Addr) (x6 : Int) (σ : AMem) : law02_HeapLines_l0 k n p0 x6 σ = d_law02_HeapLines_l0 k n p0 x6 σ := by
  induction n generalizing p0 x6 σ with
  | zero => rfl
  | succ n ih => rw [law02_HeapLines_l0_eq, d_law02_HeapLines_l0]; simp only [law02_alive_is, law02_Made_is, heap_Heap_Blocks_is, heap_Heap_Lines_is, heap_Heap_State_is, heap_Heap_Find_is, law02_HeapLines_l2_is, law02_HeapLines_l1_is, ih]

noncomputable def d_law02_HeapLines (k : Nat) (x0 : Int) (x1 : Option Addr × Nat × Nat) (σ : AMem) : Option (Value × AMem) := match k with
  | 0 => none
  | k + 1 => ((d_law02_Made k x0 (x1.1, x1.2.1, x1.2.2) σ).bind fun r1 => (toP r1.1).bind fun p2 => (eqA P 28 (.pointer p2) (.pointer none)).bind fun e3 => bif e3 then ((d_law02_alive k  r1.2).bind fun r4 => (toB r4.1).bind fun b5 => some (.bool b5, r4.2)) else ((d_law02_HeapLines_l0 k k p2 (0 : Int) r1.2).bind fun r22 => if r22.1 = .exit 0 then ((d_law02_alive k  r22.2.2).bind fun r23 => (toB r23.1).bind fun b24 => some (.bool b24, r23.2)) else if r22.1 = .ret then (u_t r22.2.1 fun b25 => some (.bool b25, r22.2.2)) else none))

theorem law02_HeapLines_is (k : Nat) (x0 : Int) (x1 : Option Addr × Nat × Nat) (σ : AMem) : law02_HeapLines k x0 x1 σ = d_law02_HeapLines k x0 x1 σ := by
  cases k with
  | zero => rfl
  | succ k => rw [law02_HeapLines_eq, d_law02_HeapLines]; simp only [law02_alive_is, law02_Made_is, heap_Heap_Blocks_is, heap_Heap_Lines_is, heap_Heap_State_is, heap_Heap_Find_is, law02_HeapLines_l2_is, law02_HeapLines_l1_is, law02_HeapLines_l0_is]

noncomputable def d_heap_Heap_Shape (k : Nat) (x0 : Option Addr) (x1 : Int) (σ : AMem) : Option (Value × AMem) := match k with
  | 0 => none
  | k + 1 => (allocK σ (.cells [.int .i64 (0 : Int), .int .i64 (0 : Int), .int .i64 (0 : Int)] 23 true) fun h1 s2 => (d_heap_Heap_object k x0 x1 s2).bind fun r3 => (toI .i64 r3.1).bind fun n4 => bif n4 != (0 : Int) then ((stN r3.2 h1 0 [.int .i64 (0 : Int), .int .i64 (0 : Int), .int .i64 (0 : Int)]).bind fun s5 => (((ldN s5 h1 0 3).bind fun v6 => some (.agg v6.toArray)).bind fun v7 => some [v7, .int .i64 n4]).bind fun vs8 => some (resOf vs8, s5)) else (x0.bind fun a9 => (ldS r3.2 a9.block (a9.off + 1)).bind fun l10 => if 0 ≤ (w64 (x1 + (1 : Int))) ∧ (w64 (x1 + (1 : Int))) < (l10.2.1 : Nat) then l10.1.bind fun a11 => (ldI .i64 r3.2 a11.block (a11.off + (w64 (x1 + (1 : Int))).toNat * 1)).bind fun n12 => (d_heap_shape k n12 r3.2).bind fun r13 => a_iii r13.1 fun n14 n15 n16 => (stN r13.2 h1 0 [.int .i64 n14, .int .i64 n15, .int .i64 n16]).bind fun s17 => (((ldN s17 h1 0 3).bind fun v18 => some (.agg v18.toArray)).bind fun v19 => some [v19, .int .i64 (0 : Int)]).bind fun vs20 => some (resOf vs20, s17) else none))

theorem heap_Heap_Shape_is (k : Nat) (x0 : Option Addr) (x1 : Int) (σ : AMem) : heap_Heap_Shape k x0 x1 σ = d_heap_Heap_Shape k x0 x1 σ := by
  cases k with
  | zero => rfl
  | succ k => rw [heap_Heap_Shape_eq, d_heap_Heap_Shape]; simp only [heap_Heap_object_is, heap_shape_is]

noncomputable def d_law02_words (k : Nat) (x0 : Option Addr) (x1 : Int) (σ : AMem) : Option (Value × AMem) := match k with
  | 0 => none
  | k + 1 => ((d_heap_Heap_Shape k x0 x1 σ).bind fun r1 => (toT r1.1).bind fun q2 => if q2.length = 2 then q2.head?.bind fun v3 => a_iii v3 fun n4 n5 n6 => q2.tail.head?.bind fun v7 => (toI .i64 v7).bind fun n8 => allocK r1.2 (.cells [.int .i64 (0 : Int), .int .i64 (0 : Int), .int .i64 (0 : Int)] 23 true) fun h9 s10 => (stN s10 h9 0 [.int .i64 n4, .int .i64 n5, .int .i64 n6]).bind fun s11 => (ldI .i64 s11 h9 0).bind fun n12 => (ldI .i64 s11 h9 (0 + 1)).bind fun n13 => (ldI .i64 s11 h9 (0 + 1 + 1)).bind fun n14 => (d_heap_Words k n12 n13 n14 s11).bind fun r15 => (toI .i64 r15.1).bind fun n16 => some (.int .i64 n16, r15.2) else none)

theorem law02_words_is (k : Nat) (x0 : Option Addr) (x1 : Int) (σ : AMem) : law02_words k x0 x1 σ = d_law02_words k x0 x1 σ := by
  cases k with
  | zero => rfl
  | succ k => rw [law02_words_eq, d_law02_words]; simp only [heap_Words_is, heap_Heap_Shape_is]

noncomputable def d_heap_Heap_Gaps_c1 (k : Nat) (x0 : Int) (c0 : Option Addr) (c1 : Option Addr) (σ : AMem) : Option (Value × AMem) := match k with
  | 0 => none
  | k + 1 => (c0.bind fun a1 => (ldI .i64 σ a1.block a1.off).bind fun n2 => (bif decide (x0 > n2) then (c1.bind fun a3 => (ldS σ a3.block a3.off).bind fun l4 => c0.bind fun a5 => (ldI .i64 σ a5.block a5.off).bind fun n6 => c0.bind fun a7 => (ldI .i64 σ a7.block a7.off).bind fun n8 => allocK σ (.cells [.int .i64 n6, .int .i64 (w64 (x0 - n8))] 46 true) fun h9 s10 => (appendD P 46 (l4.1, l4.2.1, l4.2.2) (some ⟨h9, 0, none⟩, 1, 1) s10).bind fun r11 => c1.bind fun a12 => (st1 r11.2 a12.block a12.off (.slice r11.1.1 r11.1.2.1 r11.1.2.2)).bind fun s13 => some (.normal, [], s13)) else (some (.normal, [], σ)) : Option LOut).bind fun r14 => if r14.1 = .normal then (some (.tuple #[], r14.2.2)) else none)

theorem heap_Heap_Gaps_c1_is (k : Nat) (x0 : Int) (c0 : Option Addr) (c1 : Option Addr) (σ : AMem) : heap_Heap_Gaps_c1 k x0 c0 c1 σ = d_heap_Heap_Gaps_c1 k x0 c0 c1 σ := by
  cases k with
  | zero => rfl
  | succ k => rw [heap_Heap_Gaps_c1_eq, d_heap_Heap_Gaps_c1]

noncomputable def d_heap_Heap_Gaps_l0 (k n : Nat) (p0 : Option Addr) (h1 : Nat) (h2 : Nat) (p3 : Option Addr) (c4 : Nat) (c5 : Nat) (i6 : Int) (x21 : Int) (σ : AMem) : Option LOut := match n with
  | 0 => none
  | n + 1 => (bif decide (x21 < i6) then (if 0 ≤ x21 ∧ x21 < (c4 : Nat) then p3.bind fun a10 => (ldI .i64 σ a10.block (a10.off + x21.toNat * 1)).bind fun n11 => (d_heap_Heap_Gaps_c1 k n11 (some ⟨h1, 0, none⟩) (some ⟨h2, 0, none⟩) σ).bind fun r12 => r_0 r12.1 ((d_heap_Heap_size k p0 n11 r12.2).bind fun r13 => (toI .i64 r13.1).bind fun n14 => (st1 r13.2 h1 0 (.int .i64 (w64 (n11 + n14)))).bind fun s15 => d_heap_Heap_Gaps_l0 k n p0 h1 h2 p3 c4 c5 i6 (w64 (x21 + (1 : Int))) s15) else none) else (some (.exit 0, [], σ)))
termination_by structural n

theorem heap_Heap_Gaps_l0_is (k n : Nat) (p0 : Option Addr) (h1 : Nat) (h2 : Nat) (p3 : Option Addr) (c4 : Nat) (c5 : Nat) (i6 : Int) (x21 : Int) (σ : AMem) : heap_Heap_Gaps_l0 k n p0 h1 h2 p3 c4 c5 i6 x21 σ = d_heap_Heap_Gaps_l0 k n p0 h1 h2 p3 c4 c5 i6 x21 σ := by
  induction n generalizing p0 h1 h2 p3 c4 c5 i6 x21 σ with
  | zero => rfl
  | succ n ih => rw [heap_Heap_Gaps_l0_eq, d_heap_Heap_Gaps_l0]; simp only [heap_Heap_used_is, heap_Heap_Objects_is, heap_Heap_size_is, heap_Heap_Gaps_c1_is, ih]

noncomputable def d_heap_Heap_Gaps (k : Nat) (x0 : Option Addr) (x1 : Int) (σ : AMem) : Option (Value × AMem) := match k with
  | 0 => none
  | k + 1 => ((d_heap_Heap_used k x0 x1 σ).bind fun r1 => (toB r1.1).bind fun b2 => bif !b2 then (some (.slice none 0 0, r1.2)) else (allocK r1.2 (.cells [.slice none 0 0] 43 true) fun h3 s4 => allocK s4 (.cells [.int .i64 (0 : Int)] 3 true) fun h5 s6 => (st1 s6 h5 0 (.int .i64 (w64 (x1 * (64 : Int))))).bind fun s7 => (d_heap_Heap_Objects k x0 x1 s7).bind fun r8 => (toS r8.1).bind fun l9 => (d_heap_Heap_Gaps_l0 k k x0 h5 h3 l9.1 l9.2.1 l9.2.2 ((l9.2.1 : Nat) : Int) (0 : Int) r8.2).bind fun r16 => if r16.1 = .exit 0 then ((d_heap_Heap_Gaps_c1 k (w64 ((w64 (x1 + (1 : Int))) * (64 : Int))) (some ⟨h5, 0, none⟩) (some ⟨h3, 0, none⟩) r16.2.2).bind fun r17 => r_0 r17.1 ((ldS r17.2 h3 0).bind fun l18 => some (.slice l18.1 l18.2.1 l18.2.2, r17.2))) else none))

theorem heap_Heap_Gaps_is (k : Nat) (x0 : Option Addr) (x1 : Int) (σ : AMem) : heap_Heap_Gaps k x0 x1 σ = d_heap_Heap_Gaps k x0 x1 σ := by
  cases k with
  | zero => rfl
  | succ k => rw [heap_Heap_Gaps_eq, d_heap_Heap_Gaps]; simp only [heap_Heap_used_is, heap_Heap_Objects_is, heap_Heap_size_is, heap_Heap_Gaps_c1_is, heap_Heap_Gaps_l0_is]

noncomputable def d_heap_Heap_Used_l0 (k n : Nat) (p0 : Option Addr) (p1 : Option Addr) (c2 : Nat) (c3 : Nat) (i4 : Int) (x3 : Int) (x9 : Int) (σ : AMem) : Option LOut := match n with
  | 0 => none
  | n + 1 => (bif decide (x9 < i4) then (if 0 ≤ x9 ∧ x9 < (c2 : Nat) then p1.bind fun a3 => (ldI .i64 σ a3.block (a3.off + x9.toNat * 1)).bind fun n4 => (d_heap_Heap_size k p0 n4 σ).bind fun r5 => (toI .i64 r5.1).bind fun n6 => d_heap_Heap_Used_l0 k n p0 p1 c2 c3 i4 (w64 (x3 + n6)) (w64 (x9 + (1 : Int))) r5.2 else none) else (some (.exit 0, [.int .i64 x3], σ)))
termination_by structural n

theorem heap_Heap_Used_l0_is (k n : Nat) (p0 : Option Addr) (p1 : Option Addr) (c2 : Nat) (c3 : Nat) (i4 : Int) (x3 : Int) (x9 : Int) (σ : AMem) : heap_Heap_Used_l0 k n p0 p1 c2 c3 i4 x3 x9 σ = d_heap_Heap_Used_l0 k n p0 p1 c2 c3 i4 x3 x9 σ := by
  induction n generalizing p0 p1 c2 c3 i4 x3 x9 σ with
  | zero => rfl
  | succ n ih => rw [heap_Heap_Used_l0_eq, d_heap_Heap_Used_l0]; simp only [heap_Heap_All_is, heap_Heap_size_is, ih]

noncomputable def d_heap_Heap_Used (k : Nat) (x0 : Option Addr) (σ : AMem) : Option (Value × AMem) := match k with
  | 0 => none
  | k + 1 => ((d_heap_Heap_All k x0 σ).bind fun r1 => (toS r1.1).bind fun l2 => (d_heap_Heap_Used_l0 k k x0 l2.1 l2.2.1 l2.2.2 ((l2.2.1 : Nat) : Int) (0 : Int) (0 : Int) r1.2).bind fun r7 => if r7.1 = .exit 0 then (u_i r7.2.1 fun n8 => some (.int .i64 n8, r7.2.2)) else none)

theorem heap_Heap_Used_is (k : Nat) (x0 : Option Addr) (σ : AMem) : heap_Heap_Used k x0 σ = d_heap_Heap_Used k x0 σ := by
  cases k with
  | zero => rfl
  | succ k => rw [heap_Heap_Used_eq, d_heap_Heap_Used]; simp only [heap_Heap_All_is, heap_Heap_size_is, heap_Heap_Used_l0_is]

noncomputable def d_law02_HeapApart_l1 (k n : Nat) (h0 : Nat) (c1 : Nat) (p2 : Option Addr) (c3 : Nat) (c4 : Nat) (i5 : Int) (i6 : Int) (x11 : Int) (σ : AMem) : Option LOut := match n with
  | 0 => none
  | n + 1 => (if 0 ≤ i5 ∧ i5 < (c3 : Nat) then p2.bind fun a18 => (ldI .i64 σ a18.block (a18.off + i5.toNat * 1)).bind fun n19 => bif decide (x11 < (w64 (n19 + i6))) then (if 0 ≤ x11 ∧ x11 < (c1 : Nat) then (ldI .i64 σ h0 (0 + x11.toNat * 1)).bind fun n20 => bif n20 != (0 : Int) then (some (.ret, [.bool false], σ)) else (if 0 ≤ i5 ∧ i5 < (c3 : Nat) then p2.bind fun a21 => (ldI .i64 σ a21.block (a21.off + i5.toNat * 1)).bind fun n22 => if 0 ≤ x11 ∧ x11 < (c1 : Nat) then (st1 σ h0 (0 + x11.toNat * 1) (.int .i64 n22)).bind fun s23 => d_law02_HeapApart_l1 k n h0 c1 p2 c3 c4 i5 i6 (w64 (x11 + (1 : Int))) s23 else none else none) else none) else (some (.exit 2, [], σ)) else none)
termination_by structural n

theorem law02_HeapApart_l1_is (k n : Nat) (h0 : Nat) (c1 : Nat) (p2 : Option Addr) (c3 : Nat) (c4 : Nat) (i5 : Int) (i6 : Int) (x11 : Int) (σ : AMem) : law02_HeapApart_l1 k n h0 c1 p2 c3 c4 i5 i6 x11 σ = d_law02_HeapApart_l1 k n h0 c1 p2 c3 c4 i5 i6 x11 σ := by
  induction n generalizing h0 c1 p2 c3 c4 i5 i6 x11 σ with
  | zero => rfl
  | succ n ih => rw [law02_HeapApart_l1_eq, d_law02_HeapApart_l1]; simp only [law02_alive_is, law02_Made_is, heap_Heap_All_is, heap_Heap_Blocks_is, heap_Heap_State_is, law02_words_is, heap_Heap_Gaps_is, heap_Heap_Used_is, ih]

noncomputable def d_law02_HeapApart_l2 (k n : Nat) (p0 : Option Addr) (i1 : Int) (x14 : Int) (σ : AMem) : Option LOut := match n with
  | 0 => none
  | n + 1 => (bif decide (x14 ≤ i1) then ((d_heap_Heap_State k p0 x14 σ).bind fun r40 => (toI .i64 r40.1).bind fun n41 => bif n41 != (3 : Int) then (some (.ret, [.bool false], r40.2)) else (d_law02_HeapApart_l2 k n p0 i1 (w64 (x14 + (1 : Int))) r40.2)) else (some (.exit 4, [], σ)))
termination_by structural n

theorem law02_HeapApart_l2_is (k n : Nat) (p0 : Option Addr) (i1 : Int) (x14 : Int) (σ : AMem) : law02_HeapApart_l2 k n p0 i1 x14 σ = d_law02_HeapApart_l2 k n p0 i1 x14 σ := by
  induction n generalizing p0 i1 x14 σ with
  | zero => rfl
  | succ n ih => rw [law02_HeapApart_l2_eq, d_law02_HeapApart_l2]; simp only [law02_alive_is, law02_Made_is, heap_Heap_All_is, heap_Heap_Blocks_is, heap_Heap_State_is, law02_words_is, heap_Heap_Gaps_is, heap_Heap_Used_is, law02_HeapApart_l1_is, ih]

noncomputable def d_law02_HeapApart_l0 (k n : Nat) (p0 : Option Addr) (h1 : Nat) (c2 : Nat) (p3 : Option Addr) (c4 : Nat) (c5 : Nat) (x8 : Int) (x9 : Int) (σ : AMem) : Option LOut := match n with
  | 0 => none
  | n + 1 => (bif decide (x9 < ((c4 : Nat) : Int)) then (if 0 ≤ x9 ∧ x9 < (c4 : Nat) then p3.bind fun a12 => (ldI .i64 σ a12.block (a12.off + x9.toNat * 1)).bind fun n13 => (d_law02_words k p0 n13 σ).bind fun r14 => (toI .i64 r14.1).bind fun n15 => if 0 ≤ x9 ∧ x9 < (c4 : Nat) then p3.bind fun a16 => (ldI .i64 r14.2 a16.block (a16.off + x9.toNat * 1)).bind fun n17 => (d_law02_HeapApart_l1 k k h1 c2 p3 c4 c5 x9 n15 n17 r14.2).bind fun r24 => if r24.1 = .exit 2 then (if 0 ≤ x9 ∧ x9 < (c4 : Nat) then p3.bind fun a25 => (ldI .i64 r24.2.2 a25.block (a25.off + x9.toNat * 1)).bind fun n26 => if (64 : Int) = 0 then none else if 0 ≤ x9 ∧ x9 < (c4 : Nat) then p3.bind fun a27 => (ldI .i64 r24.2.2 a27.block (a27.off + x9.toNat * 1)).bind fun n28 => if (64 : Int) = 0 then none else (bif decide (n15 ≤ (32 : Int)) then (d_heap_Heap_State k p0 (w64 (n26.tdiv (64 : Int))) r24.2.2).bind fun r29 => (toI .i64 r29.1).bind fun n30 => (bif n30 != (1 : Int) then some (true, r29.2) else some ((w64 ((w64 ((w64 (n28 + n15)) - (1 : Int))).tdiv (64 : Int))) != (w64 (n26.tdiv (64 : Int))), r29.2)).bind fun r31 => some (r31.1, r31.2) else some (false, r24.2.2)).bind fun r32 => (bif r32.1 then some (true, r32.2) else (bif decide (n15 > (32 : Int)) then (d_heap_Heap_State k p0 (w64 (n26.tdiv (64 : Int))) r32.2).bind fun r33 => (toI .i64 r33.1).bind fun n34 => (bif n34 != (2 : Int) then some (true, r33.2) else if 0 ≤ x9 ∧ x9 < (c4 : Nat) then p3.bind fun a35 => (ldI .i64 r33.2 a35.block (a35.off + x9.toNat * 1)).bind fun n36 => if (64 : Int) = 0 then none else some ((n36.tmod (64 : Int)) != (0 : Int), r33.2) else none).bind fun r37 => some (r37.1, r37.2) else some (false, r32.2)).bind fun r38 => some (r38.1, r38.2)).bind fun r39 => bif r39.1 then (some (.ret, [.bool false], r39.2)) else ((d_law02_HeapApart_l2 k k p0 (w64 ((w64 ((w64 (n28 + n15)) - (1 : Int))).tdiv (64 : Int))) (w64 ((w64 (n26.tdiv (64 : Int))) + (1 : Int))) r39.2).bind fun r42 => if r42.1 = .exit 4 then (d_law02_HeapApart_l0 k n p0 h1 c2 p3 c4 c5 (w64 (x8 + n15)) (w64 (x9 + (1 : Int))) r42.2.2) else if r42.1 = .ret then (u_t r42.2.1 fun b43 => some (.ret, [.bool b43], r42.2.2)) else none) else none else none) else if r24.1 = .ret then (u_t r24.2.1 fun b44 => some (.ret, [.bool b44], r24.2.2)) else none else none else none) else (some (.exit 0, [.int .i64 x8], σ)))
termination_by structural n

theorem law02_HeapApart_l0_is (k n : Nat) (p0 : Option Addr) (h1 : Nat) (c2 : Nat) (p3 : Option Addr) (c4 : Nat) (c5 : Nat) (x8 : Int) (x9 : Int) (σ : AMem) : law02_HeapApart_l0 k n p0 h1 c2 p3 c4 c5 x8 x9 σ = d_law02_HeapApart_l0 k n p0 h1 c2 p3 c4 c5 x8 x9 σ := by
  induction n generalizing p0 h1 c2 p3 c4 c5 x8 x9 σ with
  | zero => rfl
  | succ n ih => rw [law02_HeapApart_l0_eq, d_law02_HeapApart_l0]; simp only [law02_alive_is, law02_Made_is, heap_Heap_All_is, heap_Heap_Blocks_is, heap_Heap_State_is, law02_words_is, heap_Heap_Gaps_is, heap_Heap_Used_is, law02_HeapApart_l1_is, law02_HeapApart_l2_is, ih]

noncomputable def d_law02_HeapApart_l5 (k n : Nat) (h0 : Nat) (c1 : Nat) (h2 : Nat) (x17 : Int) (x20 : Int) (σ : AMem) : Option LOut := match n with
  | 0 => none
  | n + 1 => ((ldI .i64 σ h2 (0 + 0)).bind fun n71 => (ldI .i64 σ h2 (0 + 1)).bind fun n72 => bif decide (x20 < (w64 (n71 + n72))) then (if 0 ≤ x20 ∧ x20 < (c1 : Nat) then (ldI .i64 σ h0 (0 + x20.toNat * 1)).bind fun n73 => bif n73 != (0 : Int) then (some (.ret, [.bool false], σ)) else (d_law02_HeapApart_l5 k n h0 c1 h2 (w64 (x17 + (1 : Int))) (w64 (x20 + (1 : Int))) σ) else none) else (some (.exit 10, [.int .i64 x17], σ)))
termination_by structural n

theorem law02_HeapApart_l5_is (k n : Nat) (h0 : Nat) (c1 : Nat) (h2 : Nat) (x17 : Int) (x20 : Int) (σ : AMem) : law02_HeapApart_l5 k n h0 c1 h2 x17 x20 σ = d_law02_HeapApart_l5 k n h0 c1 h2 x17 x20 σ := by
  induction n generalizing h0 c1 h2 x17 x20 σ with
  | zero => rfl
  | succ n ih => rw [law02_HeapApart_l5_eq, d_law02_HeapApart_l5]; simp only [law02_alive_is, law02_Made_is, heap_Heap_All_is, heap_Heap_Blocks_is, heap_Heap_State_is, law02_words_is, heap_Heap_Gaps_is, heap_Heap_Used_is, law02_HeapApart_l1_is, law02_HeapApart_l2_is, law02_HeapApart_l0_is, ih]

noncomputable def d_law02_HeapApart_l4 (k n : Nat) (h0 : Nat) (c1 : Nat) (i2 : Int) (p3 : Option Addr) (c4 : Nat) (c5 : Nat) (x17 : Int) (x18 : Int) (σ : AMem) : Option LOut := match n with
  | 0 => none
  | n + 1 => (bif decide (x18 < ((c4 : Nat) : Int)) then (if 0 ≤ x18 ∧ x18 < (c4 : Nat) then p3.bind fun a51 => (ldI .i64 σ a51.block (a51.off + x18.toNat * 2)).bind fun n52 => (ldI .i64 σ a51.block (a51.off + x18.toNat * 2 + 1)).bind fun n53 => allocK σ (.cells [.int .i64 (0 : Int), .int .i64 (0 : Int)] 46 true) fun h54 s55 => (stN s55 h54 0 [.int .i64 n52, .int .i64 n53]).bind fun s56 => (ldI .i64 s56 h54 (0 + 1)).bind fun n57 => (bif decide (n57 < (1 : Int)) then some (true, s56) else (ldI .i64 s56 h54 (0 + 0)).bind fun n58 => if (64 : Int) = 0 then none else some ((w64 (n58.tdiv (64 : Int))) != i2, s56)).bind fun r59 => (bif r59.1 then some (true, r59.2) else (ldI .i64 r59.2 h54 (0 + 0)).bind fun n60 => (ldI .i64 r59.2 h54 (0 + 1)).bind fun n61 => if (64 : Int) = 0 then none else some ((w64 ((w64 ((w64 (n60 + n61)) - (1 : Int))).tdiv (64 : Int))) != i2, r59.2)).bind fun r62 => (bif r62.1 then some (true, r62.2) else (bif decide (x18 > (0 : Int)) then if 0 ≤ (w64 (x18 - (1 : Int))) ∧ (w64 (x18 - (1 : Int))) < (c4 : Nat) then p3.bind fun a63 => (ldI .i64 r62.2 a63.block (a63.off + (w64 (x18 - (1 : Int))).toNat * 2 + 0)).bind fun n64 => if 0 ≤ (w64 (x18 - (1 : Int))) ∧ (w64 (x18 - (1 : Int))) < (c4 : Nat) then p3.bind fun a65 => (ldI .i64 r62.2 a65.block (a65.off + (w64 (x18 - (1 : Int))).toNat * 2 + 1)).bind fun n66 => (ldI .i64 r62.2 h54 (0 + 0)).bind fun n67 => some (decide ((w64 (n64 + n66)) ≥ n67), r62.2) else none else none else some (false, r62.2)).bind fun r68 => some (r68.1, r68.2)).bind fun r69 => bif r69.1 then (some (.ret, [.bool false], r69.2)) else ((ldI .i64 r69.2 h54 (0 + 0)).bind fun n70 => (d_law02_HeapApart_l5 k k h0 c1 h54 x17 n70 r69.2).bind fun r74 => if r74.1 = .exit 10 then (u_i r74.2.1 fun n75 => d_law02_HeapApart_l4 k n h0 c1 i2 p3 c4 c5 n75 (w64 (x18 + (1 : Int))) r74.2.2) else if r74.1 = .ret then (u_t r74.2.1 fun b76 => some (.ret, [.bool b76], r74.2.2)) else none) else none) else (some (.exit 8, [.int .i64 x17], σ)))
termination_by structural n

theorem law02_HeapApart_l4_is (k n : Nat) (h0 : Nat) (c1 : Nat) (i2 : Int) (p3 : Option Addr) (c4 : Nat) (c5 : Nat) (x17 : Int) (x18 : Int) (σ : AMem) : law02_HeapApart_l4 k n h0 c1 i2 p3 c4 c5 x17 x18 σ = d_law02_HeapApart_l4 k n h0 c1 i2 p3 c4 c5 x17 x18 σ := by
  induction n generalizing h0 c1 i2 p3 c4 c5 x17 x18 σ with
  | zero => rfl
  | succ n ih => rw [law02_HeapApart_l4_eq, d_law02_HeapApart_l4]; simp only [law02_alive_is, law02_Made_is, heap_Heap_All_is, heap_Heap_Blocks_is, heap_Heap_State_is, law02_words_is, heap_Heap_Gaps_is, heap_Heap_Used_is, law02_HeapApart_l1_is, law02_HeapApart_l2_is, law02_HeapApart_l0_is, law02_HeapApart_l5_is, ih]

noncomputable def d_law02_HeapApart_l6 (k n : Nat) (h0 : Nat) (c1 : Nat) (i2 : Int) (x17 : Int) (x21 : Int) (σ : AMem) : Option LOut := match n with
  | 0 => none
  | n + 1 => (bif decide (x21 < (w64 ((w64 (i2 + (1 : Int))) * (64 : Int)))) then (if 0 ≤ x21 ∧ x21 < (c1 : Nat) then (ldI .i64 σ h0 (0 + x21.toNat * 1)).bind fun n79 => (bif n79 != (0 : Int) then (some (.normal, [.int .i64 (w64 (x17 + (1 : Int)))], σ)) else (some (.normal, [.int .i64 x17], σ)) : Option LOut).bind fun r80 => if r80.1 = .normal then (u_i r80.2.1 fun n81 => d_law02_HeapApart_l6 k n h0 c1 i2 n81 (w64 (x21 + (1 : Int))) r80.2.2) else none else none) else (some (.exit 12, [.int .i64 x17], σ)))
termination_by structural n

theorem law02_HeapApart_l6_is (k n : Nat) (h0 : Nat) (c1 : Nat) (i2 : Int) (x17 : Int) (x21 : Int) (σ : AMem) : law02_HeapApart_l6 k n h0 c1 i2 x17 x21 σ = d_law02_HeapApart_l6 k n h0 c1 i2 x17 x21 σ := by
  induction n generalizing h0 c1 i2 x17 x21 σ with
  | zero => rfl
  | succ n ih => rw [law02_HeapApart_l6_eq, d_law02_HeapApart_l6]; simp only [law02_alive_is, law02_Made_is, heap_Heap_All_is, heap_Heap_Blocks_is, heap_Heap_State_is, law02_words_is, heap_Heap_Gaps_is, heap_Heap_Used_is, law02_HeapApart_l1_is, law02_HeapApart_l2_is, law02_HeapApart_l0_is, law02_HeapApart_l5_is, law02_HeapApart_l4_is, ih]

noncomputable def d_law02_HeapApart_l3 (k n : Nat) (p0 : Option Addr) (h1 : Nat) (c2 : Nat) (x15 : Int) (σ : AMem) : Option LOut := match n with
  | 0 => none
  | n + 1 => ((d_heap_Heap_Blocks k p0 σ).bind fun r47 => (toI .i64 r47.1).bind fun n48 => bif decide (x15 < n48) then ((d_heap_Heap_Gaps k p0 x15 r47.2).bind fun r49 => (toS r49.1).bind fun l50 => (d_law02_HeapApart_l4 k k h1 c2 x15 l50.1 l50.2.1 l50.2.2 (0 : Int) (0 : Int) r49.2).bind fun r77 => if r77.1 = .exit 8 then (u_i r77.2.1 fun n78 => (d_law02_HeapApart_l6 k k h1 c2 x15 n78 (w64 (x15 * (64 : Int))) r77.2.2).bind fun r82 => if r82.1 = .exit 12 then (u_i r82.2.1 fun n83 => (d_heap_Heap_State k p0 x15 r82.2.2).bind fun r84 => (toI .i64 r84.1).bind fun n85 => (bif n85 == (1 : Int) then some (n83 != (64 : Int), r84.2) else some (false, r84.2)).bind fun r86 => (bif r86.1 then some (true, r86.2) else (d_heap_Heap_State k p0 x15 r86.2).bind fun r87 => (toI .i64 r87.1).bind fun n88 => (bif n88 != (1 : Int) then some (decide (((l50.2.1 : Nat) : Int) > (0 : Int)), r87.2) else some (false, r87.2)).bind fun r89 => some (r89.1, r89.2)).bind fun r90 => bif r90.1 then (some (.ret, [.bool false], r90.2)) else (d_law02_HeapApart_l3 k n p0 h1 c2 (w64 (x15 + (1 : Int))) r90.2)) else none) else if r77.1 = .ret then (u_t r77.2.1 fun b91 => some (.ret, [.bool b91], r77.2.2)) else none) else (some (.exit 6, [], r47.2)))
termination_by structural n

theorem law02_HeapApart_l3_is (k n : Nat) (p0 : Option Addr) (h1 : Nat) (c2 : Nat) (x15 : Int) (σ : AMem) : law02_HeapApart_l3 k n p0 h1 c2 x15 σ = d_law02_HeapApart_l3 k n p0 h1 c2 x15 σ := by
  induction n generalizing p0 h1 c2 x15 σ with
  | zero => rfl
  | succ n ih => rw [law02_HeapApart_l3_eq, d_law02_HeapApart_l3]; simp only [law02_alive_is, law02_Made_is, heap_Heap_All_is, heap_Heap_Blocks_is, heap_Heap_State_is, law02_words_is, heap_Heap_Gaps_is, heap_Heap_Used_is, law02_HeapApart_l1_is, law02_HeapApart_l2_is, law02_HeapApart_l0_is, law02_HeapApart_l5_is, law02_HeapApart_l4_is, law02_HeapApart_l6_is, ih]

noncomputable def d_law02_HeapApart (k : Nat) (x0 : Int) (x1 : Option Addr × Nat × Nat) (σ : AMem) : Option (Value × AMem) := match k with
  | 0 => none
  | k + 1 => ((d_law02_Made k x0 (x1.1, x1.2.1, x1.2.2) σ).bind fun r1 => (toP r1.1).bind fun p2 => (eqA P 28 (.pointer p2) (.pointer none)).bind fun e3 => bif e3 then ((d_law02_alive k  r1.2).bind fun r4 => (toB r4.1).bind fun b5 => some (.bool b5, r4.2)) else ((d_heap_Heap_Blocks k p2 r1.2).bind fun r6 => (toI .i64 r6.1).bind fun n7 => if 0 ≤ (w64 (n7 * (64 : Int))) ∧ (w64 (n7 * (64 : Int))) ≤ (w64 (n7 * (64 : Int))) ∧ (w64 (n7 * (64 : Int))) * (8 : Nat) ≤ 2 ^ 40 ∧ (w64 (n7 * (64 : Int))) ≤ 2 ^ 40 then allocK r6.2 (.cells (rep (w64 (n7 * (64 : Int))).toNat [.int .i64 (0 : Int)]) 3 true) fun h8 s9 => (d_heap_Heap_All k p2 s9).bind fun r10 => (toS r10.1).bind fun l11 => (d_law02_HeapApart_l0 k k p2 h8 ((w64 (n7 * (64 : Int))).toNat) l11.1 l11.2.1 l11.2.2 (0 : Int) (0 : Int) r10.2).bind fun r45 => if r45.1 = .exit 0 then (u_i r45.2.1 fun n46 => (d_law02_HeapApart_l3 k k p2 h8 ((w64 (n7 * (64 : Int))).toNat) (0 : Int) r45.2.2).bind fun r92 => if r92.1 = .exit 6 then ((d_heap_Heap_Used k p2 r92.2.2).bind fun r93 => (toI .i64 r93.1).bind fun n94 => (bif n46 == n94 then (d_law02_alive k  r93.2).bind fun r95 => (toB r95.1).bind fun b96 => some (b96, r95.2) else some (false, r93.2)).bind fun r97 => some (.bool r97.1, r97.2)) else if r92.1 = .ret then (u_t r92.2.1 fun b98 => some (.bool b98, r92.2.2)) else none) else if r45.1 = .ret then (u_t r45.2.1 fun b99 => some (.bool b99, r45.2.2)) else none else none))

theorem law02_HeapApart_is (k : Nat) (x0 : Int) (x1 : Option Addr × Nat × Nat) (σ : AMem) : law02_HeapApart k x0 x1 σ = d_law02_HeapApart k x0 x1 σ := by
  cases k with
  | zero => rfl
  | succ k => rw [law02_HeapApart_eq, d_law02_HeapApart]; simp only [law02_alive_is, law02_Made_is, heap_Heap_All_is, heap_Heap_Blocks_is, heap_Heap_State_is, law02_words_is, heap_Heap_Gaps_is, heap_Heap_Used_is, law02_HeapApart_l1_is, law02_HeapApart_l2_is, law02_HeapApart_l0_is, law02_HeapApart_l5_is, law02_HeapApart_l4_is, law02_HeapApart_l6_is, law02_HeapApart_l3_is]

noncomputable def d_heap_Heap_Ref (k : Nat) (x0 : Option Addr) (x1 : Int) (x2 : Int) (σ : AMem) : Option (Value × AMem) := match k with
  | 0 => none
  | k + 1 => ((d_heap_Heap_field k x0 x1 x2 false σ).bind fun r1 => r_ii r1.1 fun n2 n3 => bif n3 != (0 : Int) then (some (.tuple #[.int .i64 (0 : Int), .int .i64 n3], r1.2)) else (x0.bind fun a4 => (ldS r1.2 a4.block (a4.off + 1)).bind fun l5 => if 0 ≤ n2 ∧ n2 < (l5.2.1 : Nat) then l5.1.bind fun a6 => (ldI .i64 r1.2 a6.block (a6.off + n2.toNat * 1)).bind fun n7 => some (.tuple #[.int .i64 n7, .int .i64 (0 : Int)], r1.2) else none))

theorem heap_Heap_Ref_is (k : Nat) (x0 : Option Addr) (x1 : Int) (x2 : Int) (σ : AMem) : heap_Heap_Ref k x0 x1 x2 σ = d_heap_Heap_Ref k x0 x1 x2 σ := by
  cases k with
  | zero => rfl
  | succ k => rw [heap_Heap_Ref_eq, d_heap_Heap_Ref]; simp only [heap_Heap_field_is]

noncomputable def d_heap_Heap_Data (k : Nat) (x0 : Option Addr) (x1 : Int) (x2 : Int) (σ : AMem) : Option (Value × AMem) := match k with
  | 0 => none
  | k + 1 => ((d_heap_Heap_field k x0 x1 x2 true σ).bind fun r1 => r_ii r1.1 fun n2 n3 => bif n3 != (0 : Int) then (some (.tuple #[.int .i64 (0 : Int), .int .i64 n3], r1.2)) else (x0.bind fun a4 => (ldS r1.2 a4.block (a4.off + 1)).bind fun l5 => if 0 ≤ n2 ∧ n2 < (l5.2.1 : Nat) then l5.1.bind fun a6 => (ldI .i64 r1.2 a6.block (a6.off + n2.toNat * 1)).bind fun n7 => some (.tuple #[.int .i64 n7, .int .i64 (0 : Int)], r1.2) else none))

theorem heap_Heap_Data_is (k : Nat) (x0 : Option Addr) (x1 : Int) (x2 : Int) (σ : AMem) : heap_Heap_Data k x0 x1 x2 σ = d_heap_Heap_Data k x0 x1 x2 σ := by
  cases k with
  | zero => rfl
  | succ k => rw [heap_Heap_Data_eq, d_heap_Heap_Data]; simp only [heap_Heap_field_is]

noncomputable def d_heap_Heap_Pinned (k : Nat) (x0 : Option Addr) (x1 : Int) (σ : AMem) : Option (Value × AMem) := match k with
  | 0 => none
  | k + 1 => ((d_heap_Heap_Has k x0 x1 σ).bind fun r1 => (toB r1.1).bind fun b2 => (bif b2 then x0.bind fun a3 => (ldP r1.2 a3.block (a3.off + 3)).bind fun p4 => if (2 : Int) = 0 then none else (d_side_Table_Get k p4 (w64 (x1.tdiv (2 : Int))) r1.2).bind fun r5 => (toI .i64 r5.1).bind fun n6 => some (n6 == (1 : Int), r5.2) else some (false, r1.2)).bind fun r7 => some (.bool r7.1, r7.2))

theorem heap_Heap_Pinned_is (k : Nat) (x0 : Option Addr) (x1 : Int) (σ : AMem) : heap_Heap_Pinned k x0 x1 σ = d_heap_Heap_Pinned k x0 x1 σ := by
  cases k with
  | zero => rfl
  | succ k => rw [heap_Heap_Pinned_eq, d_heap_Heap_Pinned]; simp only [heap_Heap_Has_is, side_Table_Get_is]

noncomputable def d_law02_contents_l0 (k n : Nat) (p0 : Option Addr) (i1 : Int) (h2 : Nat) (x9 : Option Addr × Nat × Nat) (x10 : Int) (σ : AMem) : Option LOut := match n with
  | 0 => none
  | n + 1 => ((ldI .i64 σ h2 (0 + 0)).bind fun n20 => bif decide (x10 < n20) then ((d_heap_Heap_Ref k p0 i1 x10 σ).bind fun r21 => r_ii r21.1 fun n22 n23 => allocK r21.2 (.cells [.int .i64 n22] 3 true) fun h24 s25 => (appendD P 3 (x9.1, x9.2.1, x9.2.2) (some ⟨h24, 0, none⟩, 1, 1) s25).bind fun r26 => d_law02_contents_l0 k n p0 i1 h2 (r26.1.1, r26.1.2.1, r26.1.2.2) (w64 (x10 + (1 : Int))) r26.2) else (some (.exit 0, [.slice x9.1 x9.2.1 x9.2.2], σ)))
termination_by structural n

theorem law02_contents_l0_is (k n : Nat) (p0 : Option Addr) (i1 : Int) (h2 : Nat) (x9 : Option Addr × Nat × Nat) (x10 : Int) (σ : AMem) : law02_contents_l0 k n p0 i1 h2 x9 x10 σ = d_law02_contents_l0 k n p0 i1 h2 x9 x10 σ := by
  induction n generalizing p0 i1 h2 x9 x10 σ with
  | zero => rfl
  | succ n ih => rw [law02_contents_l0_eq, d_law02_contents_l0]; simp only [heap_Heap_Ident_is, heap_Heap_Shape_is, heap_Heap_Ref_is, heap_Heap_Data_is, heap_Heap_Pinned_is, ih]

noncomputable def d_law02_contents_l1 (k n : Nat) (p0 : Option Addr) (i1 : Int) (h2 : Nat) (x9 : Option Addr × Nat × Nat) (x13 : Int) (σ : AMem) : Option LOut := match n with
  | 0 => none
  | n + 1 => ((ldI .i64 σ h2 (0 + 1)).bind fun n29 => bif decide (x13 < n29) then ((d_heap_Heap_Data k p0 i1 x13 σ).bind fun r30 => r_ii r30.1 fun n31 n32 => allocK r30.2 (.cells [.int .i64 n31] 3 true) fun h33 s34 => (appendD P 3 (x9.1, x9.2.1, x9.2.2) (some ⟨h33, 0, none⟩, 1, 1) s34).bind fun r35 => d_law02_contents_l1 k n p0 i1 h2 (r35.1.1, r35.1.2.1, r35.1.2.2) (w64 (x13 + (1 : Int))) r35.2) else (some (.exit 2, [.slice x9.1 x9.2.1 x9.2.2], σ)))
termination_by structural n

theorem law02_contents_l1_is (k n : Nat) (p0 : Option Addr) (i1 : Int) (h2 : Nat) (x9 : Option Addr × Nat × Nat) (x13 : Int) (σ : AMem) : law02_contents_l1 k n p0 i1 h2 x9 x13 σ = d_law02_contents_l1 k n p0 i1 h2 x9 x13 σ := by
  induction n generalizing p0 i1 h2 x9 x13 σ with
  | zero => rfl
  | succ n ih => rw [law02_contents_l1_eq, d_law02_contents_l1]; simp only [heap_Heap_Ident_is, heap_Heap_Shape_is, heap_Heap_Ref_is, heap_Heap_Data_is, heap_Heap_Pinned_is, law02_contents_l0_is, ih]

noncomputable def d_law02_contents (k : Nat) (x0 : Option Addr) (x1 : Int) (σ : AMem) : Option (Value × AMem) := match k with
  | 0 => none
  | k + 1 => ((d_heap_Heap_Shape k x0 x1 σ).bind fun r1 => (toT r1.1).bind fun q2 => if q2.length = 2 then q2.head?.bind fun v3 => a_iii v3 fun n4 n5 n6 => q2.tail.head?.bind fun v7 => (toI .i64 v7).bind fun n8 => allocK r1.2 (.cells [.int .i64 (0 : Int), .int .i64 (0 : Int), .int .i64 (0 : Int)] 23 true) fun h9 s10 => (stN s10 h9 0 [.int .i64 n4, .int .i64 n5, .int .i64 n6]).bind fun s11 => (d_heap_Heap_Ident k x0 x1 s11).bind fun r12 => r_ii r12.1 fun n13 n14 => (ldI .i64 r12.2 h9 (0 + 0)).bind fun n15 => (ldI .i64 r12.2 h9 (0 + 1)).bind fun n16 => (ldI .i64 r12.2 h9 (0 + 2)).bind fun n17 => allocK r12.2 (.cells [.int .i64 n13, .int .i64 n15, .int .i64 n16, .int .i64 n17] 3 true) fun h18 s19 => (d_law02_contents_l0 k k x0 x1 h9 (some ⟨h18, 0, none⟩, 4, 4) (0 : Int) s19).bind fun r27 => if r27.1 = .exit 0 then (u_l r27.2.1 fun l28 => (d_law02_contents_l1 k k x0 x1 h9 (l28.1, l28.2.1, l28.2.2) (0 : Int) r27.2.2).bind fun r36 => if r36.1 = .exit 2 then (u_l r36.2.1 fun l37 => (d_heap_Heap_Pinned k x0 x1 r36.2.2).bind fun r38 => (toB r38.1).bind fun b39 => (bif b39 then (allocK r38.2 (.cells [.int .i64 (1 : Int)] 3 true) fun h40 s41 => (appendD P 3 (l37.1, l37.2.1, l37.2.2) (some ⟨h40, 0, none⟩, 1, 1) s41).bind fun r42 => some (.normal, [.slice r42.1.1 r42.1.2.1 r42.1.2.2], r42.2)) else (some (.normal, [.slice l37.1 l37.2.1 l37.2.2], r38.2)) : Option LOut).bind fun r43 => if r43.1 = .normal then (u_l r43.2.1 fun l44 => some (.slice l44.1 l44.2.1 l44.2.2, r43.2.2)) else none) else none) else none else none)

theorem law02_contents_is (k : Nat) (x0 : Option Addr) (x1 : Int) (σ : AMem) : law02_contents k x0 x1 σ = d_law02_contents k x0 x1 σ := by
  cases k with
  | zero => rfl
  | succ k => rw [law02_contents_eq, d_law02_contents]; simp only [heap_Heap_Ident_is, heap_Heap_Shape_is, heap_Heap_Ref_is, heap_Heap_Data_is, heap_Heap_Pinned_is, law02_contents_l0_is, law02_contents_l1_is]

noncomputable def d_law02_ints_l0 (k n : Nat) (p0 : Option Addr) (c1 : Nat) (c2 : Nat) (p3 : Option Addr) (c4 : Nat) (c5 : Nat) (x5 : Int) (σ : AMem) : Option LOut := match n with
  | 0 => none
  | n + 1 => (bif decide (x5 < ((c1 : Nat) : Int)) then (if 0 ≤ x5 ∧ x5 < (c1 : Nat) then p0.bind fun a1 => (ldI .i64 σ a1.block (a1.off + x5.toNat * 1)).bind fun n2 => if 0 ≤ x5 ∧ x5 < (c4 : Nat) then p3.bind fun a3 => (ldI .i64 σ a3.block (a3.off + x5.toNat * 1)).bind fun n4 => bif n2 != n4 then (some (.ret, [.bool false], σ)) else (d_law02_ints_l0 k n p0 c1 c2 p3 c4 c5 (w64 (x5 + (1 : Int))) σ) else none else none) else (some (.exit 0, [], σ)))
termination_by structural n

theorem law02_ints_l0_is (k n : Nat) (p0 : Option Addr) (c1 : Nat) (c2 : Nat) (p3 : Option Addr) (c4 : Nat) (c5 : Nat) (x5 : Int) (σ : AMem) : law02_ints_l0 k n p0 c1 c2 p3 c4 c5 x5 σ = d_law02_ints_l0 k n p0 c1 c2 p3 c4 c5 x5 σ := by
  induction n generalizing p0 c1 c2 p3 c4 c5 x5 σ with
  | zero => rfl
  | succ n ih => rw [law02_ints_l0_eq, d_law02_ints_l0]; simp only [ih]

noncomputable def d_law02_ints (k : Nat) (x0 : Option Addr × Nat × Nat) (x1 : Option Addr × Nat × Nat) (σ : AMem) : Option (Value × AMem) := match k with
  | 0 => none
  | k + 1 => (bif ((x0.2.1 : Nat) : Int) != ((x1.2.1 : Nat) : Int) then (some (.bool false, σ)) else ((d_law02_ints_l0 k k x0.1 x0.2.1 x0.2.2 x1.1 x1.2.1 x1.2.2 (0 : Int) σ).bind fun r5 => if r5.1 = .exit 0 then (some (.bool true, r5.2.2)) else if r5.1 = .ret then (u_t r5.2.1 fun b6 => some (.bool b6, r5.2.2)) else none))

theorem law02_ints_is (k : Nat) (x0 : Option Addr × Nat × Nat) (x1 : Option Addr × Nat × Nat) (σ : AMem) : law02_ints k x0 x1 σ = d_law02_ints k x0 x1 σ := by
  cases k with
  | zero => rfl
  | succ k => rw [law02_ints_eq, d_law02_ints]; simp only [law02_ints_l0_is]

noncomputable def d_heap_Heap_Forward (k : Nat) (x0 : Option Addr) (x1 : Int) (σ : AMem) : Option (Value × AMem) := match k with
  | 0 => none
  | k + 1 => ((d_heap_Heap_made k x0 σ).bind fun r1 => (toB r1.1).bind fun b2 => bif !b2 then (some (.tuple #[.int .i64 (0 : Int), .int .i64 (5 : Int)], r1.2)) else (x0.bind fun a3 => (ldM r1.2 a3.block (a3.off + 5)).bind fun m4 => (ldMO r1.2 m4).bind fun es5 => (toI .i64 ((mapGet es5 x1).getD (.int .i64 (0 : Int)))).bind fun n6 => bif !((mapGet es5 x1).isSome) then (some (.tuple #[.int .i64 (0 : Int), .int .i64 (4 : Int)], r1.2)) else (some (.tuple #[.int .i64 n6, .int .i64 (0 : Int)], r1.2))))

theorem heap_Heap_Forward_is (k : Nat) (x0 : Option Addr) (x1 : Int) (σ : AMem) : heap_Heap_Forward k x0 x1 σ = d_heap_Heap_Forward k x0 x1 σ := by
  cases k with
  | zero => rfl
  | succ k => rw [heap_Heap_Forward_eq, d_heap_Heap_Forward]; simp only [heap_Heap_made_is]

noncomputable def d_law02_HeapMoves_l0 (k n : Nat) (p0 : Option Addr) (p1 : Option Addr) (c2 : Nat) (c3 : Nat) (x11 : Option Addr × Nat × Nat) (x12 : Int) (σ : AMem) : Option LOut := match n with
  | 0 => none
  | n + 1 => (bif decide (x12 < ((c2 : Nat) : Int)) then (if 0 ≤ x12 ∧ x12 < (c2 : Nat) then p1.bind fun a8 => (ldI .i64 σ a8.block (a8.off + x12.toNat * 1)).bind fun n9 => (d_law02_contents k p0 n9 σ).bind fun r10 => (toS r10.1).bind fun l11 => allocK r10.2 (.cells [.slice l11.1 l11.2.1 l11.2.2] 31 true) fun h12 s13 => (appendD P 31 (x11.1, x11.2.1, x11.2.2) (some ⟨h12, 0, none⟩, 1, 1) s13).bind fun r14 => d_law02_HeapMoves_l0 k n p0 p1 c2 c3 (r14.1.1, r14.1.2.1, r14.1.2.2) (w64 (x12 + (1 : Int))) r14.2 else none) else (some (.exit 0, [.slice x11.1 x11.2.1 x11.2.2], σ)))
termination_by structural n

theorem law02_HeapMoves_l0_is (k n : Nat) (p0 : Option Addr) (p1 : Option Addr) (c2 : Nat) (c3 : Nat) (x11 : Option Addr × Nat × Nat) (x12 : Int) (σ : AMem) : law02_HeapMoves_l0 k n p0 p1 c2 c3 x11 x12 σ = d_law02_HeapMoves_l0 k n p0 p1 c2 c3 x11 x12 σ := by
  induction n generalizing p0 p1 c2 c3 x11 x12 σ with
  | zero => rfl
  | succ n ih => rw [law02_HeapMoves_l0_eq, d_law02_HeapMoves_l0]; simp only [law02_alive_is, law02_Made_is, heap_Heap_All_is, law02_contents_is, heap_Heap_Move_is, heap_Heap_Has_is, law02_ints_is, heap_Heap_Forward_is, ih]

noncomputable def d_law02_HeapMoves_l1 (k n : Nat) (i0 : Int) (i1 : Int) (p2 : Option Addr) (p3 : Option Addr) (c4 : Nat) (c5 : Nat) (p6 : Option Addr) (c7 : Nat) (c8 : Nat) (i9 : Int) (x14 : Int) (σ : AMem) : Option LOut := match n with
  | 0 => none
  | n + 1 => (bif decide (x14 < ((c4 : Nat) : Int)) then (if 0 ≤ x14 ∧ x14 < (c4 : Nat) then p3.bind fun a19 => (ldI .i64 σ a19.block (a19.off + x14.toNat * 1)).bind fun n20 => (bif i9 == (0 : Int) then some (n20 == i0, σ) else some (false, σ)).bind fun r21 => (bif r21.1 then (some (.normal, [.int .i64 i1], r21.2)) else (some (.normal, [.int .i64 n20], r21.2)) : Option LOut).bind fun r22 => if r22.1 = .normal then (u_i r22.2.1 fun n23 => (d_heap_Heap_Has k p2 n23 r22.2.2).bind fun r24 => (toB r24.1).bind fun b25 => (bif !b25 then some (true, r24.2) else (d_law02_contents k p2 n23 r24.2).bind fun r26 => quietly r24.2 r26.2 ((toS r26.1).bind fun l27 => if 0 ≤ x14 ∧ x14 < (c7 : Nat) then p6.bind fun a28 => (ldS r26.2 a28.block (a28.off + x14.toNat * 1)).bind fun l29 => (d_law02_ints k (l27.1, l27.2.1, l27.2.2) (l29.1, l29.2.1, l29.2.2) r26.2).bind fun r30 => (toB r30.1).bind fun b31 => some (!b31, r30.2) else none)).bind fun r32 => bif r32.1 then (some (.ret, [.bool false], r32.2)) else (d_law02_HeapMoves_l1 k n i0 i1 p2 p3 c4 c5 p6 c7 c8 i9 (w64 (x14 + (1 : Int))) r32.2)) else none else none) else (some (.exit 2, [], σ)))
termination_by structural n

theorem law02_HeapMoves_l1_is (k n : Nat) (i0 : Int) (i1 : Int) (p2 : Option Addr) (p3 : Option Addr) (c4 : Nat) (c5 : Nat) (p6 : Option Addr) (c7 : Nat) (c8 : Nat) (i9 : Int) (x14 : Int) (σ : AMem) : law02_HeapMoves_l1 k n i0 i1 p2 p3 c4 c5 p6 c7 c8 i9 x14 σ = d_law02_HeapMoves_l1 k n i0 i1 p2 p3 c4 c5 p6 c7 c8 i9 x14 σ := by
  induction n generalizing i0 i1 p2 p3 c4 c5 p6 c7 c8 i9 x14 σ with
  | zero => rfl
  | succ n ih => rw [law02_HeapMoves_l1_eq, d_law02_HeapMoves_l1]; simp only [law02_alive_is, law02_Made_is, heap_Heap_All_is, law02_contents_is, heap_Heap_Move_is, heap_Heap_Has_is, law02_ints_is, heap_Heap_Forward_is, law02_HeapMoves_l0_is, ih]

noncomputable def d_law02_HeapMoves (k : Nat) (x0 : Int) (x1 : Option Addr × Nat × Nat) (x2 : Int) (x3 : Int) (σ : AMem) : Option (Value × AMem) := match k with
  | 0 => none
  | k + 1 => ((d_law02_Made k x0 (x1.1, x1.2.1, x1.2.2) σ).bind fun r1 => (toP r1.1).bind fun p2 => (eqA P 28 (.pointer p2) (.pointer none)).bind fun e3 => bif e3 then ((d_law02_alive k  r1.2).bind fun r4 => (toB r4.1).bind fun b5 => some (.bool b5, r4.2)) else ((d_heap_Heap_All k p2 r1.2).bind fun r6 => (toS r6.1).bind fun l7 => (d_law02_HeapMoves_l0 k k p2 l7.1 l7.2.1 l7.2.2 (none, 0, 0) (0 : Int) r6.2).bind fun r15 => if r15.1 = .exit 0 then (u_l r15.2.1 fun l16 => (d_heap_Heap_Move k p2 x2 x3 r15.2.2).bind fun r17 => (toI .i64 r17.1).bind fun n18 => (d_law02_HeapMoves_l1 k k x2 x3 p2 l7.1 l7.2.1 l7.2.2 l16.1 l16.2.1 l16.2.2 n18 (0 : Int) r17.2).bind fun r33 => if r33.1 = .exit 2 then ((bif n18 == (0 : Int) then ((d_heap_Heap_Forward k p2 x2 r33.2.2).bind fun r34 => r_ii r34.1 fun n35 n36 => (bif n35 != x3 then some (true, r34.2) else some (n36 != (0 : Int), r34.2)).bind fun r37 => (bif r37.1 then some (true, r37.2) else (bif x2 != x3 then (d_heap_Heap_Has k p2 x2 r37.2).bind fun r38 => (toB r38.1).bind fun b39 => some (b39, r38.2) else some (false, r37.2)).bind fun r40 => some (r40.1, r40.2)).bind fun r41 => bif r41.1 then (some (.ret, [.bool false], r41.2)) else (some (.normal, [], r41.2))) else (some (.normal, [], r33.2.2)) : Option LOut).bind fun r42 => if r42.1 = .normal then ((d_heap_Heap_All k p2 r42.2.2).bind fun r43 => (toS r43.1).bind fun l44 => (bif ((l44.2.1 : Nat) : Int) == ((l7.2.1 : Nat) : Int) then (d_law02_alive k  r43.2).bind fun r45 => (toB r45.1).bind fun b46 => some (b46, r45.2) else some (false, r43.2)).bind fun r47 => some (.bool r47.1, r47.2)) else if r42.1 = .ret then (u_t r42.2.1 fun b48 => some (.bool b48, r42.2.2)) else none) else if r33.1 = .ret then (u_t r33.2.1 fun b49 => some (.bool b49, r33.2.2)) else none) else none))

theorem law02_HeapMoves_is (k : Nat) (x0 : Int) (x1 : Option Addr × Nat × Nat) (x2 : Int) (x3 : Int) (σ : AMem) : law02_HeapMoves k x0 x1 x2 x3 σ = d_law02_HeapMoves k x0 x1 x2 x3 σ := by
  cases k with
  | zero => rfl
  | succ k => rw [law02_HeapMoves_eq, d_law02_HeapMoves]; simp only [law02_alive_is, law02_Made_is, heap_Heap_All_is, law02_contents_is, heap_Heap_Move_is, heap_Heap_Has_is, law02_ints_is, heap_Heap_Forward_is, law02_HeapMoves_l0_is, law02_HeapMoves_l1_is]

noncomputable def d_law02_HeapWords_l1 (k n : Nat) (h0 : Nat) (c1 : Nat) (p2 : Option Addr) (c3 : Nat) (c4 : Nat) (i5 : Int) (h6 : Nat) (p7 : Option Addr) (c8 : Nat) (c9 : Nat) (x12 : Int) (σ : AMem) : Option LOut := match n with
  | 0 => none
  | n + 1 => ((ldI .i64 σ h6 (0 + 0)).bind fun n40 => (ldI .i64 σ h6 (0 + 1)).bind fun n41 => bif decide (x12 < (w64 (n40 + n41))) then (if 0 ≤ i5 ∧ i5 < (c3 : Nat) then p2.bind fun a42 => (ldI .i64 σ a42.block (a42.off + i5.toNat * 1)).bind fun n43 => if 0 ≤ (w64 ((4 : Int) + x12)) ∧ (w64 ((4 : Int) + x12)) < (c8 : Nat) then p7.bind fun a44 => (ldI .i64 σ a44.block (a44.off + (w64 ((4 : Int) + x12)).toNat * 1)).bind fun n45 => if 0 ≤ (w64 ((w64 (n43 + (2 : Int))) + x12)) ∧ (w64 ((w64 (n43 + (2 : Int))) + x12)) < (c1 : Nat) then (st1 σ h0 (0 + (w64 ((w64 (n43 + (2 : Int))) + x12)).toNat * 1) (.int .i64 n45)).bind fun s46 => d_law02_HeapWords_l1 k n h0 c1 p2 c3 c4 i5 h6 p7 c8 c9 (w64 (x12 + (1 : Int))) s46 else none else none else none) else (some (.exit 2, [], σ)))
termination_by structural n

theorem law02_HeapWords_l1_is (k n : Nat) (h0 : Nat) (c1 : Nat) (p2 : Option Addr) (c3 : Nat) (c4 : Nat) (i5 : Int) (h6 : Nat) (p7 : Option Addr) (c8 : Nat) (c9 : Nat) (x12 : Int) (σ : AMem) : law02_HeapWords_l1 k n h0 c1 p2 c3 c4 i5 h6 p7 c8 c9 x12 σ = d_law02_HeapWords_l1 k n h0 c1 p2 c3 c4 i5 h6 p7 c8 c9 x12 σ := by
  induction n generalizing h0 c1 p2 c3 c4 i5 h6 p7 c8 c9 x12 σ with
  | zero => rfl
  | succ n ih => rw [law02_HeapWords_l1_eq, d_law02_HeapWords_l1]; simp only [heap_Words_is, law02_alive_is, law02_Made_is, heap_Heap_All_is, heap_Heap_Blocks_is, heap_Heap_Find_is, law02_contents_is, heap_Heap_Shape_is, heap_Heap_Word_is, ih]

noncomputable def d_law02_HeapWords_l2 (k n : Nat) (p0 : Option Addr) (p1 : Option Addr) (c2 : Nat) (c3 : Nat) (i4 : Int) (h5 : Nat) (x13 : Int) (σ : AMem) : Option LOut := match n with
  | 0 => none
  | n + 1 => (if 0 ≤ i4 ∧ i4 < (c2 : Nat) then p1.bind fun a50 => (ldI .i64 σ a50.block (a50.off + i4.toNat * 1)).bind fun n51 => (ldI .i64 σ h5 0).bind fun n52 => (ldI .i64 σ h5 (0 + 1)).bind fun n53 => (ldI .i64 σ h5 (0 + 1 + 1)).bind fun n54 => (d_heap_Words k n52 n53 n54 σ).bind fun r55 => (toI .i64 r55.1).bind fun n56 => bif decide (x13 < (w64 (n51 + n56))) then ((d_heap_Heap_Find k p0 x13 r55.2).bind fun r57 => r_ii r57.1 fun n58 n59 => if 0 ≤ i4 ∧ i4 < (c2 : Nat) then p1.bind fun a60 => (ldI .i64 r57.2 a60.block (a60.off + i4.toNat * 1)).bind fun n61 => (bif n58 != n61 then some (true, r57.2) else some (n59 != (0 : Int), r57.2)).bind fun r62 => bif r62.1 then (some (.ret, [.bool false], r62.2)) else (d_law02_HeapWords_l2 k n p0 p1 c2 c3 i4 h5 (w64 (x13 + (1 : Int))) r62.2) else none) else (some (.exit 4, [], r55.2)) else none)
termination_by structural n

theorem law02_HeapWords_l2_is (k n : Nat) (p0 : Option Addr) (p1 : Option Addr) (c2 : Nat) (c3 : Nat) (i4 : Int) (h5 : Nat) (x13 : Int) (σ : AMem) : law02_HeapWords_l2 k n p0 p1 c2 c3 i4 h5 x13 σ = d_law02_HeapWords_l2 k n p0 p1 c2 c3 i4 h5 x13 σ := by
  induction n generalizing p0 p1 c2 c3 i4 h5 x13 σ with
  | zero => rfl
  | succ n ih => rw [law02_HeapWords_l2_eq, d_law02_HeapWords_l2]; simp only [heap_Words_is, law02_alive_is, law02_Made_is, heap_Heap_All_is, heap_Heap_Blocks_is, heap_Heap_Find_is, law02_contents_is, heap_Heap_Shape_is, heap_Heap_Word_is, law02_HeapWords_l1_is, ih]

noncomputable def d_law02_HeapWords_l0 (k n : Nat) (p0 : Option Addr) (h1 : Nat) (c2 : Nat) (p3 : Option Addr) (c4 : Nat) (c5 : Nat) (x8 : Int) (σ : AMem) : Option LOut := match n with
  | 0 => none
  | n + 1 => (bif decide (x8 < ((c4 : Nat) : Int)) then (if 0 ≤ x8 ∧ x8 < (c4 : Nat) then p3.bind fun a12 => (ldI .i64 σ a12.block (a12.off + x8.toNat * 1)).bind fun n13 => (d_heap_Heap_Shape k p0 n13 σ).bind fun r14 => (toT r14.1).bind fun q15 => if q15.length = 2 then q15.head?.bind fun v16 => a_iii v16 fun n17 n18 n19 => q15.tail.head?.bind fun v20 => (toI .i64 v20).bind fun n21 => allocK r14.2 (.cells [.int .i64 (0 : Int), .int .i64 (0 : Int), .int .i64 (0 : Int)] 23 true) fun h22 s23 => (stN s23 h22 0 [.int .i64 n17, .int .i64 n18, .int .i64 n19]).bind fun s24 => if 0 ≤ x8 ∧ x8 < (c4 : Nat) then p3.bind fun a25 => (ldI .i64 s24 a25.block (a25.off + x8.toNat * 1)).bind fun n26 => (d_law02_contents k p0 n26 s24).bind fun r27 => (toS r27.1).bind fun l28 => if 0 ≤ x8 ∧ x8 < (c4 : Nat) then p3.bind fun a29 => (ldI .i64 r27.2 a29.block (a29.off + x8.toNat * 1)).bind fun n30 => if 0 ≤ (0 : Int) ∧ (0 : Int) < (l28.2.1 : Nat) then l28.1.bind fun a31 => (ldI .i64 r27.2 a31.block (a31.off + (0 : Int).toNat * 1)).bind fun n32 => if 0 ≤ n30 ∧ n30 < (c2 : Nat) then (st1 r27.2 h1 (0 + n30.toNat * 1) (.int .i64 n32)).bind fun s33 => if 0 ≤ x8 ∧ x8 < (c4 : Nat) then p3.bind fun a34 => (ldI .i64 s33 a34.block (a34.off + x8.toNat * 1)).bind fun n35 => (ldI .i64 s33 h22 (0 + 0)).bind fun n36 => (ldI .i64 s33 h22 (0 + 1)).bind fun n37 => (ldI .i64 s33 h22 (0 + 2)).bind fun n38 => if 0 ≤ (w64 (n35 + (1 : Int))) ∧ (w64 (n35 + (1 : Int))) < (c2 : Nat) then (st1 s33 h1 (0 + (w64 (n35 + (1 : Int))).toNat * 1) (.int .i64 (w64 ((w64 (n36 + (w64 ((16 : Int) * n37)))) + (w64 ((4096 : Int) * n38)))))).bind fun s39 => (d_law02_HeapWords_l1 k k h1 c2 p3 c4 c5 x8 h22 l28.1 l28.2.1 l28.2.2 (0 : Int) s39).bind fun r47 => if r47.1 = .exit 2 then (if 0 ≤ x8 ∧ x8 < (c4 : Nat) then p3.bind fun a48 => (ldI .i64 r47.2.2 a48.block (a48.off + x8.toNat * 1)).bind fun n49 => (d_law02_HeapWords_l2 k k p0 p3 c4 c5 x8 h22 n49 r47.2.2).bind fun r63 => if r63.1 = .exit 4 then (d_law02_HeapWords_l0 k n p0 h1 c2 p3 c4 c5 (w64 (x8 + (1 : Int))) r63.2.2) else if r63.1 = .ret then (u_t r63.2.1 fun b64 => some (.ret, [.bool b64], r63.2.2)) else none else none) else none else none else none else none else none else none else none else none else none) else (some (.exit 0, [], σ)))
termination_by structural n

theorem law02_HeapWords_l0_is (k n : Nat) (p0 : Option Addr) (h1 : Nat) (c2 : Nat) (p3 : Option Addr) (c4 : Nat) (c5 : Nat) (x8 : Int) (σ : AMem) : law02_HeapWords_l0 k n p0 h1 c2 p3 c4 c5 x8 σ = d_law02_HeapWords_l0 k n p0 h1 c2 p3 c4 c5 x8 σ := by
  induction n generalizing p0 h1 c2 p3 c4 c5 x8 σ with
  | zero => rfl
  | succ n ih => rw [law02_HeapWords_l0_eq, d_law02_HeapWords_l0]; simp only [heap_Words_is, law02_alive_is, law02_Made_is, heap_Heap_All_is, heap_Heap_Blocks_is, heap_Heap_Find_is, law02_contents_is, heap_Heap_Shape_is, heap_Heap_Word_is, law02_HeapWords_l1_is, law02_HeapWords_l2_is, ih]

noncomputable def d_law02_HeapWords_l3 (k n : Nat) (p0 : Option Addr) (h1 : Nat) (c2 : Nat) (x16 : Int) (σ : AMem) : Option LOut := match n with
  | 0 => none
  | n + 1 => (bif decide (x16 < ((c2 : Nat) : Int)) then ((d_heap_Heap_Word k p0 x16 σ).bind fun r66 => r_ii r66.1 fun n67 n68 => if 0 ≤ x16 ∧ x16 < (c2 : Nat) then (ldI .i64 r66.2 h1 (0 + x16.toNat * 1)).bind fun n69 => (bif n67 != n69 then some (true, r66.2) else some (n68 != (0 : Int), r66.2)).bind fun r70 => bif r70.1 then (some (.ret, [.bool false], r70.2)) else (d_law02_HeapWords_l3 k n p0 h1 c2 (w64 (x16 + (1 : Int))) r70.2) else none) else (some (.exit 6, [], σ)))
termination_by structural n

theorem law02_HeapWords_l3_is (k n : Nat) (p0 : Option Addr) (h1 : Nat) (c2 : Nat) (x16 : Int) (σ : AMem) : law02_HeapWords_l3 k n p0 h1 c2 x16 σ = d_law02_HeapWords_l3 k n p0 h1 c2 x16 σ := by
  induction n generalizing p0 h1 c2 x16 σ with
  | zero => rfl
  | succ n ih => rw [law02_HeapWords_l3_eq, d_law02_HeapWords_l3]; simp only [heap_Words_is, law02_alive_is, law02_Made_is, heap_Heap_All_is, heap_Heap_Blocks_is, heap_Heap_Find_is, law02_contents_is, heap_Heap_Shape_is, heap_Heap_Word_is, law02_HeapWords_l1_is, law02_HeapWords_l2_is, law02_HeapWords_l0_is, ih]

noncomputable def d_law02_HeapWords (k : Nat) (x0 : Int) (x1 : Option Addr × Nat × Nat) (σ : AMem) : Option (Value × AMem) := match k with
  | 0 => none
  | k + 1 => ((d_law02_Made k x0 (x1.1, x1.2.1, x1.2.2) σ).bind fun r1 => (toP r1.1).bind fun p2 => (eqA P 28 (.pointer p2) (.pointer none)).bind fun e3 => bif e3 then ((d_law02_alive k  r1.2).bind fun r4 => (toB r4.1).bind fun b5 => some (.bool b5, r4.2)) else ((d_heap_Heap_Blocks k p2 r1.2).bind fun r6 => (toI .i64 r6.1).bind fun n7 => if 0 ≤ (w64 (n7 * (64 : Int))) ∧ (w64 (n7 * (64 : Int))) ≤ (w64 (n7 * (64 : Int))) ∧ (w64 (n7 * (64 : Int))) * (8 : Nat) ≤ 2 ^ 40 ∧ (w64 (n7 * (64 : Int))) ≤ 2 ^ 40 then allocK r6.2 (.cells (rep (w64 (n7 * (64 : Int))).toNat [.int .i64 (0 : Int)]) 3 true) fun h8 s9 => (d_heap_Heap_All k p2 s9).bind fun r10 => (toS r10.1).bind fun l11 => (d_law02_HeapWords_l0 k k p2 h8 ((w64 (n7 * (64 : Int))).toNat) l11.1 l11.2.1 l11.2.2 (0 : Int) r10.2).bind fun r65 => if r65.1 = .exit 0 then ((d_law02_HeapWords_l3 k k p2 h8 ((w64 (n7 * (64 : Int))).toNat) (0 : Int) r65.2.2).bind fun r71 => if r71.1 = .exit 6 then ((d_law02_alive k  r71.2.2).bind fun r72 => (toB r72.1).bind fun b73 => some (.bool b73, r72.2)) else if r71.1 = .ret then (u_t r71.2.1 fun b74 => some (.bool b74, r71.2.2)) else none) else if r65.1 = .ret then (u_t r65.2.1 fun b75 => some (.bool b75, r65.2.2)) else none else none))

theorem law02_HeapWords_is (k : Nat) (x0 : Int) (x1 : Option Addr × Nat × Nat) (σ : AMem) : law02_HeapWords k x0 x1 σ = d_law02_HeapWords k x0 x1 σ := by
  cases k with
  | zero => rfl
  | succ k => rw [law02_HeapWords_eq, d_law02_HeapWords]; simp only [heap_Words_is, law02_alive_is, law02_Made_is, heap_Heap_All_is, heap_Heap_Blocks_is, heap_Heap_Find_is, law02_contents_is, heap_Heap_Shape_is, heap_Heap_Word_is, law02_HeapWords_l1_is, law02_HeapWords_l2_is, law02_HeapWords_l0_is, law02_HeapWords_l3_is]

noncomputable def d_heap_Heap_Space (k : Nat) (x0 : Option Addr) (x1 : Int) (σ : AMem) : Option (Value × AMem) := match k with
  | 0 => none
  | k + 1 => ((bif decide (x1 < (0 : Int)) then some (true, σ) else (d_heap_Heap_Blocks k x0 σ).bind fun r1 => (toI .i64 r1.1).bind fun n2 => some (decide (x1 ≥ n2), r1.2)).bind fun r3 => bif r3.1 then (some (.int .i64 (-1 : Int), r3.2)) else (x0.bind fun a4 => (ldS r3.2 a4.block (a4.off + 0)).bind fun l5 => if 0 ≤ x1 ∧ x1 < (l5.2.1 : Nat) then l5.1.bind fun a6 => (ldI .i64 r3.2 a6.block (a6.off + x1.toNat * 2 + 1)).bind fun n7 => some (.int .i64 n7, r3.2) else none))

theorem heap_Heap_Space_is (k : Nat) (x0 : Option Addr) (x1 : Int) (σ : AMem) : heap_Heap_Space k x0 x1 σ = d_heap_Heap_Space k x0 x1 σ := by
  cases k with
  | zero => rfl
  | succ k => rw [heap_Heap_Space_eq, d_heap_Heap_Space]; simp only [heap_Heap_Blocks_is]

noncomputable def d_law02_state_l0 (k n : Nat) (p0 : Option Addr) (x3 : Option Addr × Nat × Nat) (x4 : Int) (σ : AMem) : Option LOut := match n with
  | 0 => none
  | n + 1 => ((d_heap_Heap_Blocks k p0 σ).bind fun r7 => (toI .i64 r7.1).bind fun n8 => bif decide (x4 < n8) then ((d_heap_Heap_State k p0 x4 r7.2).bind fun r9 => (toI .i64 r9.1).bind fun n10 => (d_heap_Heap_Space k p0 x4 r9.2).bind fun r11 => (toI .i64 r11.1).bind fun n12 => allocK r11.2 (.cells [.int .i64 n10, .int .i64 n12] 3 true) fun h13 s14 => (appendD P 3 (x3.1, x3.2.1, x3.2.2) (some ⟨h13, 0, none⟩, 2, 2) s14).bind fun r15 => d_law02_state_l0 k n p0 (r15.1.1, r15.1.2.1, r15.1.2.2) (w64 (x4 + (1 : Int))) r15.2) else (some (.exit 0, [.slice x3.1 x3.2.1 x3.2.2], r7.2)))
termination_by structural n

theorem law02_state_l0_is (k n : Nat) (p0 : Option Addr) (x3 : Option Addr × Nat × Nat) (x4 : Int) (σ : AMem) : law02_state_l0 k n p0 x3 x4 σ = d_law02_state_l0 k n p0 x3 x4 σ := by
  induction n generalizing p0 x3 x4 σ with
  | zero => rfl
  | succ n ih => rw [law02_state_l0_eq, d_law02_state_l0]; simp only [heap_Heap_Births_is, heap_Heap_All_is, heap_Heap_Blocks_is, heap_Heap_State_is, heap_Heap_Used_is, law02_contents_is, heap_Heap_Forward_is, heap_Heap_Word_is, heap_Heap_Space_is, ih]

noncomputable def d_law02_state_l1 (k n : Nat) (p0 : Option Addr) (x3 : Option Addr × Nat × Nat) (x5 : Int) (σ : AMem) : Option LOut := match n with
  | 0 => none
  | n + 1 => ((d_heap_Heap_Blocks k p0 σ).bind fun r18 => (toI .i64 r18.1).bind fun n19 => bif decide (x5 < (w64 (n19 * (64 : Int)))) then ((d_heap_Heap_Word k p0 x5 r18.2).bind fun r20 => r_ii r20.1 fun n21 n22 => (d_heap_Heap_Forward k p0 x5 r20.2).bind fun r23 => r_ii r23.1 fun n24 n25 => allocK r23.2 (.cells [.int .i64 n21, .int .i64 n24] 3 true) fun h26 s27 => (appendD P 3 (x3.1, x3.2.1, x3.2.2) (some ⟨h26, 0, none⟩, 2, 2) s27).bind fun r28 => d_law02_state_l1 k n p0 (r28.1.1, r28.1.2.1, r28.1.2.2) (w64 (x5 + (1 : Int))) r28.2) else (some (.exit 2, [.slice x3.1 x3.2.1 x3.2.2], r18.2)))
termination_by structural n

theorem law02_state_l1_is (k n : Nat) (p0 : Option Addr) (x3 : Option Addr × Nat × Nat) (x5 : Int) (σ : AMem) : law02_state_l1 k n p0 x3 x5 σ = d_law02_state_l1 k n p0 x3 x5 σ := by
  induction n generalizing p0 x3 x5 σ with
  | zero => rfl
  | succ n ih => rw [law02_state_l1_eq, d_law02_state_l1]; simp only [heap_Heap_Births_is, heap_Heap_All_is, heap_Heap_Blocks_is, heap_Heap_State_is, heap_Heap_Used_is, law02_contents_is, heap_Heap_Forward_is, heap_Heap_Word_is, heap_Heap_Space_is, law02_state_l0_is, ih]

noncomputable def d_law02_state_l2 (k n : Nat) (p0 : Option Addr) (p1 : Option Addr) (c2 : Nat) (c3 : Nat) (x3 : Option Addr × Nat × Nat) (x11 : Int) (σ : AMem) : Option LOut := match n with
  | 0 => none
  | n + 1 => (bif decide (x11 < ((c2 : Nat) : Int)) then (if 0 ≤ x11 ∧ x11 < (c2 : Nat) then p1.bind fun a33 => (ldI .i64 σ a33.block (a33.off + x11.toNat * 1)).bind fun n34 => allocK σ (.cells [.int .i64 n34] 3 true) fun h35 s36 => (appendD P 3 (x3.1, x3.2.1, x3.2.2) (some ⟨h35, 0, none⟩, 1, 1) s36).bind fun r37 => if 0 ≤ x11 ∧ x11 < (c2 : Nat) then p1.bind fun a38 => (ldI .i64 r37.2 a38.block (a38.off + x11.toNat * 1)).bind fun n39 => (d_law02_contents k p0 n39 r37.2).bind fun r40 => (toS r40.1).bind fun l41 => (appendD P 3 (r37.1.1, r37.1.2.1, r37.1.2.2) (l41.1, l41.2.1, l41.2.2) r40.2).bind fun r42 => d_law02_state_l2 k n p0 p1 c2 c3 (r42.1.1, r42.1.2.1, r42.1.2.2) (w64 (x11 + (1 : Int))) r42.2 else none else none) else (some (.exit 4, [.slice x3.1 x3.2.1 x3.2.2], σ)))
termination_by structural n

theorem law02_state_l2_is (k n : Nat) (p0 : Option Addr) (p1 : Option Addr) (c2 : Nat) (c3 : Nat) (x3 : Option Addr × Nat × Nat) (x11 : Int) (σ : AMem) : law02_state_l2 k n p0 p1 c2 c3 x3 x11 σ = d_law02_state_l2 k n p0 p1 c2 c3 x3 x11 σ := by
  induction n generalizing p0 p1 c2 c3 x3 x11 σ with
  | zero => rfl
  | succ n ih => rw [law02_state_l2_eq, d_law02_state_l2]; simp only [heap_Heap_Births_is, heap_Heap_All_is, heap_Heap_Blocks_is, heap_Heap_State_is, heap_Heap_Used_is, law02_contents_is, heap_Heap_Forward_is, heap_Heap_Word_is, heap_Heap_Space_is, law02_state_l0_is, law02_state_l1_is, ih]

noncomputable def d_law02_state (k : Nat) (x0 : Option Addr) (σ : AMem) : Option (Value × AMem) := match k with
  | 0 => none
  | k + 1 => ((d_heap_Heap_Births k x0 σ).bind fun r1 => (toI .i64 r1.1).bind fun n2 => (d_heap_Heap_Used k x0 r1.2).bind fun r3 => (toI .i64 r3.1).bind fun n4 => allocK r3.2 (.cells [.int .i64 n2, .int .i64 n4] 3 true) fun h5 s6 => (d_law02_state_l0 k k x0 (some ⟨h5, 0, none⟩, 2, 2) (0 : Int) s6).bind fun r16 => if r16.1 = .exit 0 then (u_l r16.2.1 fun l17 => (d_law02_state_l1 k k x0 (l17.1, l17.2.1, l17.2.2) (0 : Int) r16.2.2).bind fun r29 => if r29.1 = .exit 2 then (u_l r29.2.1 fun l30 => (d_heap_Heap_All k x0 r29.2.2).bind fun r31 => (toS r31.1).bind fun l32 => (d_law02_state_l2 k k x0 l32.1 l32.2.1 l32.2.2 (l30.1, l30.2.1, l30.2.2) (0 : Int) r31.2).bind fun r43 => if r43.1 = .exit 4 then (u_l r43.2.1 fun l44 => some (.slice l44.1 l44.2.1 l44.2.2, r43.2.2)) else none) else none) else none)

theorem law02_state_is (k : Nat) (x0 : Option Addr) (σ : AMem) : law02_state k x0 σ = d_law02_state k x0 σ := by
  cases k with
  | zero => rfl
  | succ k => rw [law02_state_eq, d_law02_state]; simp only [heap_Heap_Births_is, heap_Heap_All_is, heap_Heap_Blocks_is, heap_Heap_State_is, heap_Heap_Used_is, law02_contents_is, heap_Heap_Forward_is, heap_Heap_Word_is, heap_Heap_Space_is, law02_state_l0_is, law02_state_l1_is, law02_state_l2_is]

noncomputable def d_law02_HeapRefused (k : Nat) (x0 : Int) (x1 : Option Addr × Nat × Nat) (x2_0 : Int) (x2_1 : Int) (x2_2 : Int) (x2_3 : Int) (x2_4 : Int) (x2_5 : Int) (x2_6 : Int) (σ : AMem) : Option (Value × AMem) := match k with
  | 0 => none
  | k + 1 => (allocK σ (.cells [.int .i64 x2_0, .int .i64 x2_1, .int .i64 x2_2, .int .i64 x2_3, .int .i64 x2_4, .int .i64 x2_5, .int .i64 x2_6] 56 true) fun h1 s2 => (d_law02_Made k x0 (x1.1, x1.2.1, x1.2.2) s2).bind fun r3 => (toP r3.1).bind fun p4 => (eqA P 28 (.pointer p4) (.pointer none)).bind fun e5 => (bif e5 then some (true, r3.2) else (ldI .i64 r3.2 h1 (0 + 0)).bind fun n6 => some (n6 == (12 : Int), r3.2)).bind fun r7 => bif r7.1 then ((d_law02_alive k  r7.2).bind fun r8 => (toB r8.1).bind fun b9 => some (.bool b9, r8.2)) else ((d_law02_state k p4 r7.2).bind fun r10 => (toS r10.1).bind fun l11 => (ldI .i64 r10.2 h1 0).bind fun n12 => (ldI .i64 r10.2 h1 (0 + 1)).bind fun n13 => (ldI .i64 r10.2 h1 (0 + 1 + 1)).bind fun n14 => (ldI .i64 r10.2 h1 (0 + 1 + 1 + 1)).bind fun n15 => (ldI .i64 r10.2 h1 (0 + 1 + 1 + 1 + 1)).bind fun n16 => (ldI .i64 r10.2 h1 (0 + 1 + 1 + 1 + 1 + 1)).bind fun n17 => (ldI .i64 r10.2 h1 (0 + 1 + 1 + 1 + 1 + 1 + 1)).bind fun n18 => (d_law02_do k p4 n12 n13 n14 n15 n16 n17 n18 r10.2).bind fun r19 => (toI .i64 r19.1).bind fun n20 => (bif n20 == (0 : Int) then some (true, r19.2) else (d_law02_state k p4 r19.2).bind fun r21 => (toS r21.1).bind fun l22 => (d_law02_ints k (l22.1, l22.2.1, l22.2.2) (l11.1, l11.2.1, l11.2.2) r21.2).bind fun r23 => (toB r23.1).bind fun b24 => some (b24, r23.2)).bind fun r25 => (bif r25.1 then (d_law02_alive k  r25.2).bind fun r26 => (toB r26.1).bind fun b27 => some (b27, r26.2) else some (false, r25.2)).bind fun r28 => some (.bool r28.1, r28.2)))

theorem law02_HeapRefused_is (k : Nat) (x0 : Int) (x1 : Option Addr × Nat × Nat) (x2_0 : Int) (x2_1 : Int) (x2_2 : Int) (x2_3 : Int) (x2_4 : Int) (x2_5 : Int) (x2_6 : Int) (σ : AMem) : law02_HeapRefused k x0 x1 x2_0 x2_1 x2_2 x2_3 x2_4 x2_5 x2_6 σ = d_law02_HeapRefused k x0 x1 x2_0 x2_1 x2_2 x2_3 x2_4 x2_5 x2_6 σ := by
  cases k with
  | zero => rfl
  | succ k => rw [law02_HeapRefused_eq, d_law02_HeapRefused]; simp only [law02_alive_is, law02_Made_is, law02_ints_is, law02_state_is, law02_do_is]

noncomputable def d_slices_Clone_heap_block (k : Nat) (x0 : Option Addr × Nat × Nat) (σ : AMem) : Option (Value × AMem) := match k with
  | 0 => none
  | k + 1 => ((eqA P 68 (.slice x0.1 x0.2.1 x0.2.2) (.slice none 0 0)).bind fun e1 => bif e1 then (some (.slice none 0 0, σ)) else (allocK σ (.cells [] 77 true) fun h2 s3 => (appendD P 77 (some ⟨h2, 0, none⟩, 0, 0) (x0.1, x0.2.1, x0.2.2) s3).bind fun r4 => some (.slice r4.1.1 r4.1.2.1 r4.1.2.2, r4.2)))

theorem slices_Clone_heap_block_is (k : Nat) (x0 : Option Addr × Nat × Nat) (σ : AMem) : slices_Clone_heap_block k x0 σ = d_slices_Clone_heap_block k x0 σ := by
  cases k with
  | zero => rfl
  | succ k => rw [slices_Clone_heap_block_eq, d_slices_Clone_heap_block]

noncomputable def d_slices_Clone_int (k : Nat) (x0 : Option Addr × Nat × Nat) (σ : AMem) : Option (Value × AMem) := match k with
  | 0 => none
  | k + 1 => ((eqA P 31 (.slice x0.1 x0.2.1 x0.2.2) (.slice none 0 0)).bind fun e1 => bif e1 then (some (.slice none 0 0, σ)) else (allocK σ (.cells [] 3 true) fun h2 s3 => (appendD P 3 (some ⟨h2, 0, none⟩, 0, 0) (x0.1, x0.2.1, x0.2.2) s3).bind fun r4 => some (.slice r4.1.1 r4.1.2.1 r4.1.2.2, r4.2)))

theorem slices_Clone_int_is (k : Nat) (x0 : Option Addr × Nat × Nat) (σ : AMem) : slices_Clone_int k x0 σ = d_slices_Clone_int k x0 σ := by
  cases k with
  | zero => rfl
  | succ k => rw [slices_Clone_int_eq, d_slices_Clone_int]

noncomputable def d_slices_Clone_uint64 (k : Nat) (x0 : Option Addr × Nat × Nat) (σ : AMem) : Option (Value × AMem) := match k with
  | 0 => none
  | k + 1 => ((eqA P 91 (.slice x0.1 x0.2.1 x0.2.2) (.slice none 0 0)).bind fun e1 => bif e1 then (some (.slice none 0 0, σ)) else (allocK σ (.cells [] 96 true) fun h2 s3 => (appendD P 96 (some ⟨h2, 0, none⟩, 0, 0) (x0.1, x0.2.1, x0.2.2) s3).bind fun r4 => some (.slice r4.1.1 r4.1.2.1 r4.1.2.2, r4.2)))

theorem slices_Clone_uint64_is (k : Nat) (x0 : Option Addr × Nat × Nat) (σ : AMem) : slices_Clone_uint64 k x0 σ = d_slices_Clone_uint64 k x0 σ := by
  cases k with
  | zero => rfl
  | succ k => rw [slices_Clone_uint64_eq, d_slices_Clone_uint64]

noncomputable def d_side_Table_Clone (k : Nat) (x0 : Option Addr) (σ : AMem) : Option (Value × AMem) := match k with
  | 0 => none
  | k + 1 => ((d_side_Table_made k x0 σ).bind fun r1 => (toB r1.1).bind fun b2 => bif !b2 then (some (.pointer none, r1.2)) else (x0.bind fun a3 => (ldI .i64 r1.2 a3.block (a3.off + 0)).bind fun n4 => x0.bind fun a5 => (ldI .i64 r1.2 a5.block (a5.off + 1)).bind fun n6 => x0.bind fun a7 => (ldS r1.2 a7.block (a7.off + 2)).bind fun l8 => (d_slices_Clone_uint64 k (l8.1, l8.2.1, l8.2.2) r1.2).bind fun r9 => quietly r1.2 r9.2 ((toS r9.1).bind fun l10 => allocK r9.2 (.cells [.int .i64 n4, .int .i64 n6, .slice l10.1 l10.2.1 l10.2.2] 93 true) fun h11 s12 => some (.pointer (some ⟨h11, 0, none⟩), s12))))

theorem side_Table_Clone_is (k : Nat) (x0 : Option Addr) (σ : AMem) : side_Table_Clone k x0 σ = d_side_Table_Clone k x0 σ := by
  cases k with
  | zero => rfl
  | succ k => rw [side_Table_Clone_eq, d_side_Table_Clone]; simp only [side_Table_made_is, slices_Clone_uint64_is]

noncomputable def d_maps_Clone_int (k : Nat) (x0 : Option Nat) (σ : AMem) : Option (Value × AMem) := match k with
  | 0 => none
  | k + 1 => cloneA [.map x0] σ

theorem maps_Clone_int_is (k : Nat) (x0 : Option Nat) (σ : AMem) : maps_Clone_int k x0 σ = d_maps_Clone_int k x0 σ := by
  cases k with
  | zero => rfl
  | succ k => rw [maps_Clone_int_eq]; rfl

noncomputable def d_heap_Heap_Clone (k : Nat) (x0 : Option Addr) (σ : AMem) : Option (Value × AMem) := match k with
  | 0 => none
  | k + 1 => ((d_heap_Heap_made k x0 σ).bind fun r1 => (toB r1.1).bind fun b2 => bif !b2 then (some (.pointer none, r1.2)) else (x0.bind fun a3 => (ldS r1.2 a3.block (a3.off + 0)).bind fun l4 => (d_slices_Clone_heap_block k (l4.1, l4.2.1, l4.2.2) r1.2).bind fun r5 => quietly r1.2 r5.2 ((toS r5.1).bind fun l6 => x0.bind fun a7 => (ldS r5.2 a7.block (a7.off + 1)).bind fun l8 => (d_slices_Clone_int k (l8.1, l8.2.1, l8.2.2) r5.2).bind fun r9 => quietly r5.2 r9.2 ((toS r9.1).bind fun l10 => x0.bind fun a11 => (ldP r9.2 a11.block (a11.off + 2)).bind fun p12 => (d_side_Table_Clone k p12 r9.2).bind fun r13 => quietly r9.2 r13.2 ((toP r13.1).bind fun p14 => x0.bind fun a15 => (ldP r13.2 a15.block (a15.off + 3)).bind fun p16 => (d_side_Table_Clone k p16 r13.2).bind fun r17 => quietly r13.2 r17.2 ((toP r17.1).bind fun p18 => x0.bind fun a19 => (ldM r17.2 a19.block (a19.off + 4)).bind fun m20 => (d_maps_Clone_int k m20 r17.2).bind fun r21 => quietly r17.2 r21.2 ((toM r21.1).bind fun m22 => x0.bind fun a23 => (ldM r21.2 a23.block (a23.off + 5)).bind fun m24 => (d_maps_Clone_int k m24 r21.2).bind fun r25 => quietly r21.2 r25.2 ((toM r25.1).bind fun m26 => x0.bind fun a27 => (ldI .i64 r25.2 a27.block (a27.off + 6)).bind fun n28 => allocK r25.2 (.cells [.slice l6.1 l6.2.1 l6.2.2, .slice l10.1 l10.2.1 l10.2.2, .pointer p14, .pointer p18, .map m22, .map m26, .int .i64 n28] 72 true) fun h29 s30 => some (.pointer (some ⟨h29, 0, none⟩), s30)))))))))

theorem heap_Heap_Clone_is (k : Nat) (x0 : Option Addr) (σ : AMem) : heap_Heap_Clone k x0 σ = d_heap_Heap_Clone k x0 σ := by
  cases k with
  | zero => rfl
  | succ k => rw [heap_Heap_Clone_eq, d_heap_Heap_Clone]; simp only [heap_Heap_made_is, slices_Clone_heap_block_is, slices_Clone_int_is, side_Table_Clone_is, maps_Clone_int_is]

noncomputable def d_law02_HeapClones_l0 (k n : Nat) (p0 : Option Addr) (c1 : Nat) (c2 : Nat) (p3 : Option Addr) (x14 : Int) (σ : AMem) : Option LOut := match n with
  | 0 => none
  | n + 1 => (bif decide (x14 < ((c1 : Nat) : Int)) then (if 0 ≤ x14 ∧ x14 < (c1 : Nat) then p0.bind fun a22 => (ldI .i64 σ a22.block (a22.off + x14.toNat * 7)).bind fun n23 => (ldI .i64 σ a22.block (a22.off + x14.toNat * 7 + 1)).bind fun n24 => (ldI .i64 σ a22.block (a22.off + x14.toNat * 7 + 1 + 1)).bind fun n25 => (ldI .i64 σ a22.block (a22.off + x14.toNat * 7 + 1 + 1 + 1)).bind fun n26 => (ldI .i64 σ a22.block (a22.off + x14.toNat * 7 + 1 + 1 + 1 + 1)).bind fun n27 => (ldI .i64 σ a22.block (a22.off + x14.toNat * 7 + 1 + 1 + 1 + 1 + 1)).bind fun n28 => (ldI .i64 σ a22.block (a22.off + x14.toNat * 7 + 1 + 1 + 1 + 1 + 1 + 1)).bind fun n29 => (d_law02_do k p3 n23 n24 n25 n26 n27 n28 n29 σ).bind fun r30 => (toI .i64 r30.1).bind fun n31 => d_law02_HeapClones_l0 k n p0 c1 c2 p3 (w64 (x14 + (1 : Int))) r30.2 else none) else (some (.exit 0, [], σ)))
termination_by structural n

theorem law02_HeapClones_l0_is (k n : Nat) (p0 : Option Addr) (c1 : Nat) (c2 : Nat) (p3 : Option Addr) (x14 : Int) (σ : AMem) : law02_HeapClones_l0 k n p0 c1 c2 p3 x14 σ = d_law02_HeapClones_l0 k n p0 c1 c2 p3 x14 σ := by
  induction n generalizing p0 c1 c2 p3 x14 σ with
  | zero => rfl
  | succ n ih => rw [law02_HeapClones_l0_eq, d_law02_HeapClones_l0]; simp only [law02_alive_is, law02_Made_is, law02_ints_is, law02_state_is, law02_do_is, law02_Great_is, heap_Heap_Clone_is, ih]

noncomputable def d_law02_HeapClones (k : Nat) (x0 : Int) (x1 : Option Addr × Nat × Nat) (x2 : Option Addr × Nat × Nat) (x3 : Bool) (σ : AMem) : Option (Value × AMem) := match k with
  | 0 => none
  | k + 1 => ((d_law02_Made k x0 (x1.1, x1.2.1, x1.2.2) σ).bind fun r1 => (toP r1.1).bind fun p2 => (eqA P 28 (.pointer p2) (.pointer none)).bind fun e3 => (bif e3 then some (true, r1.2) else (d_law02_Great k (x2.1, x2.2.1, x2.2.2) r1.2).bind fun r4 => (toB r4.1).bind fun b5 => some (b5, r4.2)).bind fun r6 => bif r6.1 then ((d_law02_alive k  r6.2).bind fun r7 => (toB r7.1).bind fun b8 => some (.bool b8, r7.2)) else ((d_heap_Heap_Clone k p2 r6.2).bind fun r9 => (toP r9.1).bind fun p10 => (d_law02_state k p2 r9.2).bind fun r11 => (toS r11.1).bind fun l12 => (eqA P 28 (.pointer p10) (.pointer none)).bind fun e13 => (bif e13 then some (true, r11.2) else (d_law02_state k p10 r11.2).bind fun r14 => (toS r14.1).bind fun l15 => (d_law02_ints k (l15.1, l15.2.1, l15.2.2) (l12.1, l12.2.1, l12.2.2) r14.2).bind fun r16 => (toB r16.1).bind fun b17 => some (!b17, r16.2)).bind fun r18 => bif r18.1 then (some (.bool false, r18.2)) else ((bif x3 then (some (.normal, [.pointer p10, .pointer p2], r18.2)) else (some (.normal, [.pointer p2, .pointer p10], r18.2)) : Option LOut).bind fun r19 => if r19.1 = .normal then (u_pp r19.2.1 fun p20 p21 => (d_law02_HeapClones_l0 k k x2.1 x2.2.1 x2.2.2 p20 (0 : Int) r19.2.2).bind fun r32 => if r32.1 = .exit 0 then ((d_law02_state k p21 r32.2.2).bind fun r33 => (toS r33.1).bind fun l34 => (d_law02_ints k (l34.1, l34.2.1, l34.2.2) (l12.1, l12.2.1, l12.2.2) r33.2).bind fun r35 => (toB r35.1).bind fun b36 => (bif b36 then (d_law02_alive k  r35.2).bind fun r37 => (toB r37.1).bind fun b38 => some (b38, r37.2) else some (false, r35.2)).bind fun r39 => some (.bool r39.1, r39.2)) else none) else none)))

theorem law02_HeapClones_is (k : Nat) (x0 : Int) (x1 : Option Addr × Nat × Nat) (x2 : Option Addr × Nat × Nat) (x3 : Bool) (σ : AMem) : law02_HeapClones k x0 x1 x2 x3 σ = d_law02_HeapClones k x0 x1 x2 x3 σ := by
  cases k with
  | zero => rfl
  | succ k => rw [law02_HeapClones_eq, d_law02_HeapClones]; simp only [law02_alive_is, law02_Made_is, law02_ints_is, law02_state_is, law02_do_is, law02_Great_is, heap_Heap_Clone_is, law02_HeapClones_l0_is]

theorem eqA_ptrs (a : Addr) : eqA P 28 (.pointer (some a)) (.pointer none) = some false ∧ eqA P 28 (.pointer none) (.pointer none) = some true ∧ eqA P 69 (.pointer (some a)) (.pointer none) = some false ∧ eqA P 69 (.pointer none) (.pointer none) = some true := by
  refine ⟨?_, ?_, ?_, ?_⟩ <;> kernel_rfl

abbrev ty_i64 : TypeId := 2
abbrev ty_u8 : TypeId := 5
abbrev ty_internal_abi_BoundsErrorCode : TypeId := 6
abbrev ty_runtime_boundsError : TypeId := 8
abbrev ty_runtime_errorString : TypeId := 10
abbrev ty_runtime_plainError : TypeId := 11
abbrev ty_u64 : TypeId := 12
abbrev ty_runtime_errorAddressString : TypeId := 14
abbrev pt_runtime_TypeAssertionError : TypeId := 15
abbrev pt_runtime_PanicNilError : TypeId := 16
abbrev pt_internal_abi_Type : TypeId := 17
abbrev ty_internal_runtime_maps_unhashableTypeError : TypeId := 19
abbrev ty_i32 : TypeId := 21
abbrev ty_api_Shape : TypeId := 23
abbrev pt_heap_Heap : TypeId := 28
abbrev ty_api_Errno : TypeId := 34
abbrev ty_api_Run : TypeId := 46
abbrev ty_dustcartlaw02_Act : TypeId := 56
abbrev pt_side_Table : TypeId := 69
abbrev ty_heap_Heap : TypeId := 72
abbrev el_heap_Heap_blocks : TypeId := 77
abbrev el_heap_Heap_words : TypeId := 3
abbrev ty_heap_block : TypeId := 77
abbrev ty_side_Table : TypeId := 93
abbrev el_side_Table_words : TypeId := 96
abbrev ty_runtime_TypeAssertionError : TypeId := 108
abbrev ty_runtime_PanicNilError : TypeId := 111
abbrev ty_u32 : TypeId := 112
abbrev ty_internal_abi_TFlag : TypeId := 113
abbrev ty_internal_abi_Kind : TypeId := 114
abbrev ty_internal_abi_NameOff : TypeId := 117
abbrev ty_internal_abi_TypeOff : TypeId := 118
abbrev ty_internal_abi_Type : TypeId := 120
theorem heap_Heap_Gaps_c1_fn (k : Nat) (x0 : Int) (c0 : Option Addr) (c1 : Option Addr) (σ : AMem) : fn P X2 H k 56 [.int .i64 x0, .pointer c0, .pointer c1] σ = d_heap_Heap_Gaps_c1 k x0 c0 c1 σ := heap_Heap_Gaps_c1_is k x0 c0 c1 σ
theorem heap_Heap_claim_c1_fn (k : Nat) (x0_0 : Int) (x0_1 : Int) (σ : AMem) : fn P X2 H k 93 [.agg #[.int .i64 x0_0, .int .i64 x0_1]] σ = d_heap_Heap_claim_c1 k x0_0 x0_1 σ := heap_Heap_claim_c1_is k x0_0 x0_1 σ
theorem side_Table_check_c1_fn (k : Nat) (x0 : Int) (c0 : Option Addr) (σ : AMem) : fn P X2 H k 95 [.int .i64 x0, .pointer c0] σ = d_side_Table_check_c1 k x0 c0 σ := side_Table_check_c1_is k x0 c0 σ
end Go.Proofs.Ytdlihdgoobcoaaa
