/-
  PRINTED BY A PROGRAM OF THIS SESSION'S OWN (gen2.py): the functions that the examples reach, as definitions.
-/
import Derived.Test.YtilefhlamdiomaaGreatAXQ
import Derived.Test.YtilefhlamdiomaaGreatF1
set_option maxRecDepth 100000
set_option linter.unusedVariables false
set_option linter.unusedSimpArgs false
set_option linter.unusedSectionVars false
namespace Go.Proofs.YtilefhlamdiomaaGreat
open Go Go.AX
local instance kn1 : Kn := ⟨false⟩
variable [Quiet]

theorem apS_3 {ρ : Type} (d x : SlV) (σ : AMem) (K : SlV × AMem → Option ρ) : appendS 3 1 8 d x σ K = (appendD P 3 d x σ).bind K :=
  appendS_eq (z := (.int .i64 (0 : Int))) (by kernel_rfl) (by kernel_rfl) (by kernel_rfl) (by kernel_rfl) (by kernel_rfl) (by decide)

theorem apS_23 {ρ : Type} (d x : SlV) (σ : AMem) (K : SlV × AMem → Option ρ) : appendS 23 1 24 d x σ K = (appendD P 23 d x σ).bind K :=
  appendS_eq (z := (.slice none 0 0)) (by kernel_rfl) (by kernel_rfl) (by kernel_rfl) (by kernel_rfl) (by kernel_rfl) (by decide)

theorem apS_121 {ρ : Type} (d x : SlV) (σ : AMem) (K : SlV × AMem → Option ρ) : appendS 121 3 24 d x σ K = (appendD P 121 d x σ).bind K :=
  appendS_eq (z := (.agg #[.int .i64 (0 : Int), .int .i64 (0 : Int), .int .i64 (0 : Int)])) (by kernel_rfl) (by kernel_rfl) (by kernel_rfl) (by kernel_rfl) (by kernel_rfl) (by decide)

theorem apS_186 {ρ : Type} (d x : SlV) (σ : AMem) (K : SlV × AMem → Option ρ) : appendS 186 2 16 d x σ K = (appendD P 186 d x σ).bind K :=
  appendS_eq (z := (.agg #[.int .i64 (0 : Int), .int .i64 (0 : Int)])) (by kernel_rfl) (by kernel_rfl) (by kernel_rfl) (by kernel_rfl) (by kernel_rfl) (by decide)

noncomputable def s_slices_Index_int_l0 (k n : Nat) (p0 : Option Addr) (c1 : Nat) (c2 : Nat) (i3 : Int) (i4 : Int) (x8 : Int) (σ : AMem) : Option LOut := match n with
  | 0 => none
  | n + 1 => (fP p0 fun p0 => fN c1 fun c1 => fN c2 fun c2 => fI i3 fun i3 => fI i4 fun i4 => fI x8 fun x8 => fL σ fun σ => bif decide (x8 < i4) then (if 0 ≤ x8 ∧ x8 < (c1 : Nat) then p0.bind fun a1 => (ldIS .i64 σ a1.block (a1.off + x8.toNat * 1)).bind fun n2 => bif i3 == n2 then (some (.ret, [.int .i64 x8], σ)) else (s_slices_Index_int_l0 k n p0 c1 c2 i3 i4 (w64S (x8 + (1 : Int))) σ) else none) else (some (.exit 0, [], σ)))
termination_by structural n

theorem slices_Index_int_l0_is (k n : Nat) (p0 : Option Addr) (c1 : Nat) (c2 : Nat) (i3 : Int) (i4 : Int) (x8 : Int) (σ : AMem) : d_slices_Index_int_l0 k n p0 c1 c2 i3 i4 x8 σ = s_slices_Index_int_l0 k n p0 c1 c2 i3 i4 x8 σ := by
  induction n generalizing p0 c1 c2 i3 i4 x8 σ with
  | zero => simp only [d_slices_Index_int_l0, hide_eq]; rfl
  | succ n ih => rw [d_slices_Index_int_l0_eq, b_slices_Index_int_l0, s_slices_Index_int_l0]; simp only [ih, strA, strR, str0, apS_3, apS_23, apS_121, apS_186]

noncomputable def s_slices_Index_int (k : Nat) (x0 : Option Addr × Nat × Nat) (x1 : Int) (σ : AMem) : Option (Value × AMem) := match k with
  | 0 => none
  | k + 1 => (fS x0 fun x0 => fI x1 fun x1 => fL σ fun σ => (s_slices_Index_int_l0 k k x0.1 x0.2.1 x0.2.2 x1 ((x0.2.1 : Nat) : Int) (0 : Int) σ).bind fun r3 => if r3.1 = .exit 0 then (fI (-1 : Int) fun y4 => some (.int .i64 y4, r3.2.2)) else if r3.1 = .ret then (u_i r3.2.1 fun n5 => fI n5 fun y6 => some (.int .i64 y6, r3.2.2)) else none)

theorem slices_Index_int_is (k : Nat) (x0 : Option Addr × Nat × Nat) (x1 : Int) (σ : AMem) : d_slices_Index_int k x0 x1 σ = s_slices_Index_int k x0 x1 σ := by
  cases k with
  | zero => simp only [d_slices_Index_int, hide_eq]; rfl
  | succ k => rw [d_slices_Index_int_eq, b_slices_Index_int, s_slices_Index_int]; simp only [slices_Index_int_l0_is, strA, strR, str0, apS_3, apS_23, apS_121, apS_186]

noncomputable def s_slices_Contains_int (k : Nat) (x0 : Option Addr × Nat × Nat) (x1 : Int) (σ : AMem) : Option (Value × AMem) := match k with
  | 0 => none
  | k + 1 => (fS x0 fun x0 => fI x1 fun x1 => fL σ fun σ => (s_slices_Index_int k (x0.1, x0.2.1, x0.2.2) x1 σ).bind fun r1 => (toIS .i64 r1.1).bind fun n2 => fB (decide (n2 ≥ (0 : Int))) fun y3 => some (.bool y3, r1.2))

theorem slices_Contains_int_is (k : Nat) (x0 : Option Addr × Nat × Nat) (x1 : Int) (σ : AMem) : d_slices_Contains_int k x0 x1 σ = s_slices_Contains_int k x0 x1 σ := by
  cases k with
  | zero => simp only [d_slices_Contains_int, hide_eq]; rfl
  | succ k => rw [d_slices_Contains_int_eq, b_slices_Contains_int, s_slices_Contains_int]; simp only [slices_Index_int_is, strA, strR, str0, apS_3, apS_23, apS_121, apS_186]

noncomputable def s_side_New (k : Nat) (x0 : Int) (x1 : Int) (σ : AMem) : Option (Value × AMem) := match k with
  | 0 => none
  | k + 1 => (fI x0 fun x0 => fI x1 fun x1 => fL σ fun σ => (bif decide (x0 < (1 : Int)) then some (true, σ) else some (decide (x0 > (4096 : Int)), σ)).bind fun r1 => (bif r1.1 then some (true, r1.2) else allocS r1.2 (.cells [.int .i64 (1 : Int), .int .i64 (2 : Int), .int .i64 (4 : Int), .int .i64 (8 : Int)] 3 true) fun h2 s3 => (s_slices_Contains_int k (some ⟨h2, 0, none⟩, 4, 4) x1 s3).bind fun r4 => (toB r4.1).bind fun b5 => some (!b5, r4.2)).bind fun r6 => bif r6.1 then (fI (1 : Int) fun y7 => some (.tuple #[.pointer none, .int .i64 y7], r6.2)) else (if (64 : Int) = 0 then none else if 0 ≤ (w64S ((w64S ((w64S ((w64S (x0 * x1)) + (64 : Int))) - (1 : Int))).tdiv (64 : Int))) ∧ (w64S ((w64S ((w64S ((w64S (x0 * x1)) + (64 : Int))) - (1 : Int))).tdiv (64 : Int))) ≤ (w64S ((w64S ((w64S ((w64S (x0 * x1)) + (64 : Int))) - (1 : Int))).tdiv (64 : Int))) ∧ (w64S ((w64S ((w64S ((w64S (x0 * x1)) + (64 : Int))) - (1 : Int))).tdiv (64 : Int))) * (8 : Nat) ≤ 2 ^ 40 ∧ (w64S ((w64S ((w64S ((w64S (x0 * x1)) + (64 : Int))) - (1 : Int))).tdiv (64 : Int))) ≤ 2 ^ 40 then allocS r6.2 (.cells (rep (w64S ((w64S ((w64S ((w64S (x0 * x1)) + (64 : Int))) - (1 : Int))).tdiv (64 : Int))).toNat [.int .u64 (0 : Int)]) 212 true) fun h8 s9 => allocS s9 (.cells [.int .i64 x0, .int .i64 x1, .slice (some ⟨h8, 0, none⟩) ((w64S ((w64S ((w64S ((w64S (x0 * x1)) + (64 : Int))) - (1 : Int))).tdiv (64 : Int))).toNat) ((w64S ((w64S ((w64S ((w64S (x0 * x1)) + (64 : Int))) - (1 : Int))).tdiv (64 : Int))).toNat)] 32 true) fun h10 s11 => fI (0 : Int) fun y12 => some (.tuple #[.pointer (some ⟨h10, 0, none⟩), .int .i64 y12], s11) else none))

theorem side_New_is (k : Nat) (x0 : Int) (x1 : Int) (σ : AMem) : d_side_New k x0 x1 σ = s_side_New k x0 x1 σ := by
  cases k with
  | zero => simp only [d_side_New, hide_eq]; rfl
  | succ k => rw [d_side_New_eq, b_side_New, s_side_New]; simp only [slices_Contains_int_is, strA, strR, str0, apS_3, apS_23, apS_121, apS_186]

noncomputable def s_heap_New (k : Nat) (x0 : Int) (σ : AMem) : Option (Value × AMem) := match k with
  | 0 => none
  | k + 1 => (fI x0 fun x0 => fL σ fun σ => (bif decide (x0 < (2 : Int)) then some (true, σ) else some (decide (x0 > (64 : Int)), σ)).bind fun r1 => bif r1.1 then (fI (1 : Int) fun y2 => some (.tuple #[.pointer none, .int .i64 y2], r1.2)) else (if 0 ≤ x0 ∧ x0 ≤ x0 ∧ x0 * (16 : Nat) ≤ 2 ^ 40 ∧ x0 ≤ 2 ^ 40 then allocS r1.2 (.cells (rep x0.toNat [.int .i64 (0 : Int), .int .i64 (0 : Int)]) 221 true) fun h3 s4 => if 0 ≤ (w64S (x0 * (64 : Int))) ∧ (w64S (x0 * (64 : Int))) ≤ (w64S (x0 * (64 : Int))) ∧ (w64S (x0 * (64 : Int))) * (8 : Nat) ≤ 2 ^ 40 ∧ (w64S (x0 * (64 : Int))) ≤ 2 ^ 40 then allocS s4 (.cells (rep (w64S (x0 * (64 : Int))).toNat [.int .i64 (0 : Int)]) 3 true) fun h5 s6 => allocS s6 (.map []) fun h7 s8 => allocS s8 (.map []) fun h9 s10 => allocS s10 (.cells [.slice (some ⟨h3, 0, none⟩) x0.toNat x0.toNat, .slice (some ⟨h5, 0, none⟩) ((w64S (x0 * (64 : Int))).toNat) ((w64S (x0 * (64 : Int))).toNat), .pointer none, .pointer none, .map (some h7), .map (some h9), .int .i64 (0 : Int)] 27 true) fun h11 s12 => (ldSS s12 h11 (0 + 1)).bind fun l13 => if (2 : Int) = 0 then none else (s_side_New k (w64S (((l13.2.1 : Nat) : Int).tdiv (2 : Int))) (1 : Int) s12).bind fun r14 => r_pi r14.1 fun p15 n16 => st1S r14.2 h11 (0 + 2) (.pointer p15) fun s17 => (ldSS s17 h11 (0 + 1)).bind fun l18 => if (2 : Int) = 0 then none else (s_side_New k (w64S (((l18.2.1 : Nat) : Int).tdiv (2 : Int))) (1 : Int) s17).bind fun r19 => r_pi r19.1 fun p20 n21 => st1S r19.2 h11 (0 + 3) (.pointer p20) fun s22 => fI (0 : Int) fun y23 => some (.tuple #[.pointer (some ⟨h11, 0, none⟩), .int .i64 y23], s22) else none else none))

theorem heap_New_is (k : Nat) (x0 : Int) (σ : AMem) : d_heap_New k x0 σ = s_heap_New k x0 σ := by
  cases k with
  | zero => simp only [d_heap_New, hide_eq]; rfl
  | succ k => rw [d_heap_New_eq, b_heap_New, s_heap_New]; simp only [side_New_is, strA, strR, str0, apS_3, apS_23, apS_121, apS_186]

noncomputable def s_roots_New (k : Nat) (x0 : Int) (σ : AMem) : Option (Value × AMem) := match k with
  | 0 => none
  | k + 1 => (fI x0 fun x0 => fL σ fun σ => (bif decide (x0 < (1 : Int)) then some (true, σ) else some (decide (x0 > (4 : Int)), σ)).bind fun r1 => bif r1.1 then (fI (1 : Int) fun y2 => some (.tuple #[.pointer none, .int .i64 y2], r1.2)) else (if 0 ≤ (w64S (x0 * (16 : Int))) ∧ (w64S (x0 * (16 : Int))) ≤ (w64S (x0 * (16 : Int))) ∧ (w64S (x0 * (16 : Int))) * (8 : Nat) ≤ 2 ^ 40 ∧ (w64S (x0 * (16 : Int))) ≤ 2 ^ 40 then allocS r1.2 (.cells (rep (w64S (x0 * (16 : Int))).toNat [.int .i64 (0 : Int)]) 3 true) fun h3 s4 => if 0 ≤ (16 : Int) ∧ (16 : Int) ≤ (16 : Int) ∧ (16 : Int) * (8 : Nat) ≤ 2 ^ 40 ∧ (16 : Int) ≤ 2 ^ 40 then allocS s4 (.cells (rep (16 : Int).toNat [.int .i64 (0 : Int)]) 3 true) fun h5 s6 => allocS s6 (.cells [.int .i64 x0, .slice (some ⟨h3, 0, none⟩) ((w64S (x0 * (16 : Int))).toNat) ((w64S (x0 * (16 : Int))).toNat), .slice (some ⟨h5, 0, none⟩) ((16 : Int).toNat) ((16 : Int).toNat), .slice none 0 0] 29 true) fun h7 s8 => fI (0 : Int) fun y9 => some (.tuple #[.pointer (some ⟨h7, 0, none⟩), .int .i64 y9], s8) else none else none))

theorem roots_New_is (k : Nat) (x0 : Int) (σ : AMem) : d_roots_New k x0 σ = s_roots_New k x0 σ := by
  cases k with
  | zero => simp only [d_roots_New, hide_eq]; rfl
  | succ k => rw [d_roots_New_eq, b_roots_New, s_roots_New]; simp only [strA, strR, str0, apS_3, apS_23, apS_121, apS_186]

noncomputable def s_heap_Heap_made (k : Nat) (x0 : Option Addr) (σ : AMem) : Option (Value × AMem) := match k with
  | 0 => none
  | k + 1 => (fP x0 fun x0 => fL σ fun σ => (eqA P 33 (.pointer x0) (.pointer none)).bind fun e1 => (bif !e1 then x0.bind fun a2 => (ldSS σ a2.block (a2.off + 0)).bind fun l3 => some (decide (((l3.2.1 : Nat) : Int) > (0 : Int)), σ) else some (false, σ)).bind fun r4 => fB r4.1 fun y5 => some (.bool y5, r4.2))

theorem heap_Heap_made_is (k : Nat) (x0 : Option Addr) (σ : AMem) : d_heap_Heap_made k x0 σ = s_heap_Heap_made k x0 σ := by
  cases k with
  | zero => simp only [d_heap_Heap_made, hide_eq]; rfl
  | succ k => rw [d_heap_Heap_made_eq, b_heap_Heap_made, s_heap_Heap_made]; simp only [strA, strR, str0, apS_3, apS_23, apS_121, apS_186]

noncomputable def s_heap_Heap_Blocks (k : Nat) (x0 : Option Addr) (σ : AMem) : Option (Value × AMem) := match k with
  | 0 => none
  | k + 1 => (fP x0 fun x0 => fL σ fun σ => (s_heap_Heap_made k x0 σ).bind fun r1 => (toB r1.1).bind fun b2 => bif !b2 then (fI (0 : Int) fun y3 => some (.int .i64 y3, r1.2)) else (x0.bind fun a4 => (ldSS r1.2 a4.block (a4.off + 0)).bind fun l5 => fI ((l5.2.1 : Nat) : Int) fun y6 => some (.int .i64 y6, r1.2)))

theorem heap_Heap_Blocks_is (k : Nat) (x0 : Option Addr) (σ : AMem) : d_heap_Heap_Blocks k x0 σ = s_heap_Heap_Blocks k x0 σ := by
  cases k with
  | zero => simp only [d_heap_Heap_Blocks, hide_eq]; rfl
  | succ k => rw [d_heap_Heap_Blocks_eq, b_heap_Heap_Blocks, s_heap_Heap_Blocks]; simp only [heap_Heap_made_is, strA, strR, str0, apS_3, apS_23, apS_121, apS_186]

noncomputable def s_roots_Roots_made (k : Nat) (x0 : Option Addr) (σ : AMem) : Option (Value × AMem) := match k with
  | 0 => none
  | k + 1 => (fP x0 fun x0 => fL σ fun σ => (eqA P 37 (.pointer x0) (.pointer none)).bind fun e1 => (bif !e1 then x0.bind fun a2 => (ldIS .i64 σ a2.block (a2.off + 0)).bind fun n3 => some (decide (n3 > (0 : Int)), σ) else some (false, σ)).bind fun r4 => fB r4.1 fun y5 => some (.bool y5, r4.2))

theorem roots_Roots_made_is (k : Nat) (x0 : Option Addr) (σ : AMem) : d_roots_Roots_made k x0 σ = s_roots_Roots_made k x0 σ := by
  cases k with
  | zero => simp only [d_roots_Roots_made, hide_eq]; rfl
  | succ k => rw [d_roots_Roots_made_eq, b_roots_Roots_made, s_roots_Roots_made]; simp only [strA, strR, str0, apS_3, apS_23, apS_121, apS_186]

noncomputable def s_roots_Roots_Mutators (k : Nat) (x0 : Option Addr) (σ : AMem) : Option (Value × AMem) := match k with
  | 0 => none
  | k + 1 => (fP x0 fun x0 => fL σ fun σ => (s_roots_Roots_made k x0 σ).bind fun r1 => (toB r1.1).bind fun b2 => bif !b2 then (fI (0 : Int) fun y3 => some (.int .i64 y3, r1.2)) else (x0.bind fun a4 => (ldIS .i64 r1.2 a4.block (a4.off + 0)).bind fun n5 => fI n5 fun y6 => some (.int .i64 y6, r1.2)))

theorem roots_Roots_Mutators_is (k : Nat) (x0 : Option Addr) (σ : AMem) : d_roots_Roots_Mutators k x0 σ = s_roots_Roots_Mutators k x0 σ := by
  cases k with
  | zero => simp only [d_roots_Roots_Mutators, hide_eq]; rfl
  | succ k => rw [d_roots_Roots_Mutators_eq, b_roots_Roots_Mutators, s_roots_Roots_Mutators]; simp only [roots_Roots_made_is, strA, strR, str0, apS_3, apS_23, apS_121, apS_186]

noncomputable def s_trace_given (k : Nat) (x0 : Option Addr) (x1 : Option Addr) (σ : AMem) : Option (Value × AMem) := match k with
  | 0 => none
  | k + 1 => (fP x0 fun x0 => fP x1 fun x1 => fL σ fun σ => (s_heap_Heap_Blocks k x0 σ).bind fun r1 => (toIS .i64 r1.1).bind fun n2 => (bif decide (n2 > (0 : Int)) then (s_roots_Roots_Mutators k x1 r1.2).bind fun r3 => (toIS .i64 r3.1).bind fun n4 => some (decide (n4 > (0 : Int)), r3.2) else some (false, r1.2)).bind fun r5 => fB r5.1 fun y6 => some (.bool y6, r5.2))

theorem trace_given_is (k : Nat) (x0 : Option Addr) (x1 : Option Addr) (σ : AMem) : d_trace_given k x0 x1 σ = s_trace_given k x0 x1 σ := by
  cases k with
  | zero => simp only [d_trace_given, hide_eq]; rfl
  | succ k => rw [d_trace_given_eq, b_trace_given, s_trace_given]; simp only [heap_Heap_Blocks_is, roots_Roots_Mutators_is, strA, strR, str0, apS_3, apS_23, apS_121, apS_186]

noncomputable def s_trace_table (k : Nat) (x0 : Option Addr) (σ : AMem) : Option (Value × AMem) := match k with
  | 0 => none
  | k + 1 => (fP x0 fun x0 => fL σ fun σ => (s_heap_Heap_Blocks k x0 σ).bind fun r1 => (toIS .i64 r1.1).bind fun n2 => if (2 : Int) = 0 then none else (s_side_New k (w64S ((w64S (n2 * (64 : Int))).tdiv (2 : Int))) (1 : Int) r1.2).bind fun r3 => r_pi r3.1 fun p4 n5 => some (.pointer p4, r3.2))

theorem trace_table_is (k : Nat) (x0 : Option Addr) (σ : AMem) : d_trace_table k x0 σ = s_trace_table k x0 σ := by
  cases k with
  | zero => simp only [d_trace_table, hide_eq]; rfl
  | succ k => rw [d_trace_table_eq, b_trace_table, s_trace_table]; simp only [side_New_is, heap_Heap_Blocks_is, strA, strR, str0, apS_3, apS_23, apS_121, apS_186]

noncomputable def s_roots_Roots_all (k : Nat) (x0 : Option Addr) (σ : AMem) : Option (Value × AMem) := match k with
  | 0 => none
  | k + 1 => (fP x0 fun x0 => fL σ fun σ => allocS σ (.cells [.pointer x0] 37 true) fun h1 s2 => some (.func (.func 187) #[] #[.pointer (some ⟨h1, 0, none⟩)], s2))

theorem roots_Roots_all_is (k : Nat) (x0 : Option Addr) (σ : AMem) : d_roots_Roots_all k x0 σ = s_roots_Roots_all k x0 σ := by
  cases k with
  | zero => simp only [d_roots_Roots_all, hide_eq]; rfl
  | succ k => rw [d_roots_Roots_all_eq, b_roots_Roots_all, s_roots_Roots_all]; simp only [strA, strR, str0, apS_3, apS_23, apS_121, apS_186]

noncomputable def s_callN_iiip_t (k : Nat) (n : FuncId) (l : List Value) (σ : AMem) : Option (Value × AMem) :=
  fn P (XK Kn.b) H k n l σ

theorem callN_iiip_t_is (k : Nat) (n : FuncId) (l : List Value) (σ : AMem) : fn P (XK Kn.b) H k n l σ = s_callN_iiip_t k n l σ := by
  unfold s_callN_iiip_t
  rfl

noncomputable def s_roots_Roots_Places_r (k : Nat) (h : Nat) (qh0 : Nat) (z0_0 : Int) (z0_1 : Int) (z0_2 : Int) (z1 : Option Addr) (σ : AMem) : RV1 :=
  fN h fun h => fN qh0 fun qh0 => fI z0_0 fun z0_0 => fI z0_1 fun z0_1 => fI z0_2 fun z0_2 => fP z1 fun z1 => fL σ fun σ => allocS σ (.cells [.int .i64 (0 : Int), .int .i64 (0 : Int), .int .i64 (0 : Int)] 121 true) fun h1 s2 => stNS s2 h1 0 [.int .i64 z0_0, .int .i64 z0_1, .int .i64 z0_2] fun s3 => setLoopS h s3 .ready .busy fun _ _ s4 => (ldSS s4 qh0 0).bind fun l5 => (ldIS .i64 s4 h1 0).bind fun n6 => (ldIS .i64 s4 h1 (0 + 1)).bind fun n7 => (ldIS .i64 s4 h1 (0 + 1 + 1)).bind fun n8 => allocS s4 (.cells [.int .i64 n6, .int .i64 n7, .int .i64 n8] 121 true) fun h9 s10 => appendS 121 3 24 (l5.1, l5.2.1, l5.2.2) (some ⟨h9, 0, none⟩, 1, 1) s10 fun r11 => st1S r11.2 qh0 0 (.slice r11.1.1 r11.1.2.1 r11.1.2.2) fun s12 => setLoopS h s12 .busy .ready fun _ _ s13 => some (.bool true, s13)

theorem roots_Roots_Places_r_is (k : Nat) (h : Nat) (qh0 : Nat) (z0_0 : Int) (z0_1 : Int) (z0_2 : Int) (z1 : Option Addr) (σ : AMem) : b_roots_Roots_Places_r k  h qh0 z0_0 z0_1 z0_2 z1 σ = s_roots_Roots_Places_r k h qh0 z0_0 z0_1 z0_2 z1 σ := by
  rw [b_roots_Roots_Places_r, s_roots_Roots_Places_r]; simp only [strA, strR, str0, apS_3, apS_23, apS_121, apS_186]

noncomputable def s_roots_Roots_Leads_r (k : Nat) (h : Nat) (qh0 : Nat) (z0_0 : Int) (z0_1 : Int) (z0_2 : Int) (z1 : Option Addr) (σ : AMem) : RV1 :=
  fN h fun h => fN qh0 fun qh0 => fI z0_0 fun z0_0 => fI z0_1 fun z0_1 => fI z0_2 fun z0_2 => fP z1 fun z1 => fL σ fun σ => setLoopS h σ .ready .busy fun _ _ s1 => (ldSS s1 qh0 0).bind fun l2 => z1.bind fun a3 => (ldIS .i64 s1 a3.block a3.off).bind fun n4 => (s_slices_Contains_int k (l2.1, l2.2.1, l2.2.2) n4 s1).bind fun r5 => (toB r5.1).bind fun b6 => (bif !b6 then ((ldSS r5.2 qh0 0).bind fun l7 => z1.bind fun a8 => (ldIS .i64 r5.2 a8.block a8.off).bind fun n9 => allocS r5.2 (.cells [.int .i64 n9] 3 true) fun h10 s11 => appendS 3 1 8 (l7.1, l7.2.1, l7.2.2) (some ⟨h10, 0, none⟩, 1, 1) s11 fun r12 => st1S r12.2 qh0 0 (.slice r12.1.1 r12.1.2.1 r12.1.2.2) fun s13 => some (.normal, [], s13)) else (some (.normal, [], r5.2)) : Option LOut).bind fun r14 => if r14.1 = .normal then (setLoopS h r14.2.2 .busy .ready fun _ _ s15 => some (.bool true, s15)) else none

theorem roots_Roots_Leads_r_is (k : Nat) (h : Nat) (qh0 : Nat) (z0_0 : Int) (z0_1 : Int) (z0_2 : Int) (z1 : Option Addr) (σ : AMem) : b_roots_Roots_Leads_r k (d_slices_Contains_int k) h qh0 z0_0 z0_1 z0_2 z1 σ = s_roots_Roots_Leads_r k h qh0 z0_0 z0_1 z0_2 z1 σ := by
  rw [b_roots_Roots_Leads_r, s_roots_Roots_Leads_r]; simp only [slices_Contains_int_is, strA, strR, str0, apS_3, apS_23, apS_121, apS_186]

noncomputable def s_callY_iiip_t (k : Nat) (h : Nat) (args : List Value) (σ : AMem) : RV1 := match k with
  | 0 => none
  | k + 1 => match σ[h]? with
    | some (.loop f .ready regs) =>
      if f = 54 then (match regs, args with
        | [none, none, none, some (.pointer (some ⟨y1, 0, none⟩)), none, none, none, none, none, none, none, none, none, none, none, none, none], [.agg ⟨[.int .i64 y2, .int .i64 y3, .int .i64 y4]⟩, .pointer y5] => s_roots_Roots_Places_r k h y1 y2 y3 y4 y5 σ
        | _, _ => fn P (XK Kn.b) H (k + 1) YF (.pointer (some ⟨h, 0, none⟩) :: args) σ) else
      if f = 60 then (match regs, args with
        | [none, none, none, some (.pointer (some ⟨y1, 0, none⟩)), none, none, none, none, none, none, none, none, none, none, none, none, none, none, none, none, none, none, none, none, none, none], [.agg ⟨[.int .i64 y2, .int .i64 y3, .int .i64 y4]⟩, .pointer y5] => s_roots_Roots_Leads_r k h y1 y2 y3 y4 y5 σ
        | _, _ => fn P (XK Kn.b) H (k + 1) YF (.pointer (some ⟨h, 0, none⟩) :: args) σ) else
      fn P (XK Kn.b) H (k + 1) YF (.pointer (some ⟨h, 0, none⟩) :: args) σ
    | _ => fn P (XK Kn.b) H (k + 1) YF (.pointer (some ⟨h, 0, none⟩) :: args) σ

theorem callV_iiip_t_yv (k h : Nat) (args : List Value) (σ : AMem) : d_callV_iiip_t k (.func (.yield h) #[] #[]) args σ = fn P (XK Kn.b) H k YF (.pointer (some ⟨h, 0, none⟩) :: args) σ := by
  simp only [d_callV_iiip_t, hide_eq]; rfl

theorem callY_iiip_t_is (k : Nat) (h : Nat) (args : List Value) (σ : AMem) : fn P (XK Kn.b) H k YF (.pointer (some ⟨h, 0, none⟩) :: args) σ = s_callY_iiip_t k h args σ := by
  cases k with
  | zero => rfl
  | succ k =>
    unfold s_callY_iiip_t
    dsimp only
    split
    rotate_left
    · rfl
    rename_i hσ
    split
    · rename_i hn; subst hn
      split
      · exact ((callV_iiip_t_yv _ _ _ σ).symm.trans (callV_iiip_t_roots_Roots_Places_r k _ _ _ _ _ _ σ hσ)).trans (roots_Roots_Places_r_is k _ _ _ _ _ _ σ)
      · rfl
    split
    · rename_i hn; subst hn
      split
      · exact ((callV_iiip_t_yv _ _ _ σ).symm.trans (callV_iiip_t_roots_Roots_Leads_r k _ _ _ _ _ _ σ hσ)).trans (roots_Roots_Leads_r_is k _ _ _ _ _ _ σ)
      · rfl
    rfl

noncomputable def s_callV_iiip_t (k : Nat) (f : Value) (args : List Value) (σ : AMem) : Option (Value × AMem) := match f with
  | .func (.func n) first cap => bif Nat.beq n YF then none else s_callN_iiip_t k n (first.toList ++ args ++ cap.toList) σ
  | .func (.yield h) _ _ => s_callY_iiip_t k h args σ
  | .func (.method nm) first _ => (match first.toList ++ args with
    | .iface t v :: rest => (methodF P t nm).bind fun n => bif Nat.beq n YF then none else s_callN_iiip_t k n (v :: rest) σ
    | _ => none)
  | _ => none

theorem callV_iiip_t_is (k : Nat) (f : Value) (args : List Value) (σ : AMem) : d_callV_iiip_t k f args σ = s_callV_iiip_t k f args σ := by
  simp only [d_callV_iiip_t, hide_eq]
  unfold callVal s_callV_iiip_t
  simp only [callY_iiip_t_is]
  simp only [callN_iiip_t_is]
  rfl

noncomputable def s_roots_Roots_all_c1_l1 (k n : Nat) (v0 : Value) (i1 : Int) (p2 : Option Addr) (c3 : Nat) (c4 : Nat) (i5 : Int) (x28 : Int) (σ : AMem) : Option LOut := match n with
  | 0 => none
  | n + 1 => (fI i1 fun i1 => fP p2 fun p2 => fN c3 fun c3 => fN c4 fun c4 => fI i5 fun i5 => fI x28 fun x28 => fL σ fun σ => bif decide (x28 < i5) then (allocS σ (.cells [.int .i64 (0 : Int), .int .i64 (0 : Int), .int .i64 (0 : Int)] 121 true) fun h16 s17 => stNS s17 h16 0 [.int .i64 i1, .int .i64 (0 : Int), .int .i64 x28] fun s18 => (bif i1 == (0 : Int) then (if (16 : Int) = 0 then none else if (16 : Int) = 0 then none else st1S s18 h16 (0 + 1) (.int .i64 (w64S (x28.tdiv (16 : Int)))) fun s19 => st1S s19 h16 (0 + 2) (.int .i64 (x28.tmod (16 : Int))) fun s20 => some (.normal, [], s20)) else (some (.normal, [], s18)) : Option LOut).bind fun r21 => if r21.1 = .normal then (if 0 ≤ x28 ∧ x28 < (c3 : Nat) then p2.bind fun a22 => (ldIS .i64 r21.2.2 a22.block (a22.off + x28.toNat * 1)).bind fun n23 => (bif n23 != (0 : Int) then (ldIS .i64 r21.2.2 h16 0).bind fun n24 => (ldIS .i64 r21.2.2 h16 (0 + 1)).bind fun n25 => (ldIS .i64 r21.2.2 h16 (0 + 1 + 1)).bind fun n26 => if 0 ≤ x28 ∧ x28 < (c3 : Nat) then p2.bind fun a27 => (s_callV_iiip_t k v0 [.agg #[.int .i64 n24, .int .i64 n25, .int .i64 n26], .pointer (some ⟨a27.block, a27.off + x28.toNat * 1, none⟩)] r21.2.2).bind fun r28 => (toB r28.1).bind fun b29 => some (!b29, r28.2) else none else some (false, r21.2.2)).bind fun r30 => bif r30.1 then (some (.ret, [], r30.2)) else (s_roots_Roots_all_c1_l1 k n v0 i1 p2 c3 c4 i5 (w64S (x28 + (1 : Int))) r30.2) else none) else none) else (some (.exit 2, [], σ)))
termination_by structural n

theorem roots_Roots_all_c1_l1_is (k n : Nat) (v0 : Value) (i1 : Int) (p2 : Option Addr) (c3 : Nat) (c4 : Nat) (i5 : Int) (x28 : Int) (σ : AMem) : d_roots_Roots_all_c1_l1 k n v0 i1 p2 c3 c4 i5 x28 σ = s_roots_Roots_all_c1_l1 k n v0 i1 p2 c3 c4 i5 x28 σ := by
  induction n generalizing v0 i1 p2 c3 c4 i5 x28 σ with
  | zero => simp only [d_roots_Roots_all_c1_l1, hide_eq]; rfl
  | succ n ih => rw [d_roots_Roots_all_c1_l1_eq, b_roots_Roots_all_c1_l1, s_roots_Roots_all_c1_l1]; simp only [callV_iiip_t_is, ih, strA, strR, str0, apS_3, apS_23, apS_121, apS_186]

noncomputable def s_roots_Roots_all_c1_l0 (k n : Nat) (v0 : Value) (h1 : Nat) (i2 : Int) (x21 : Int) (σ : AMem) : Option LOut := match n with
  | 0 => none
  | n + 1 => (fN h1 fun h1 => fI i2 fun i2 => fI x21 fun x21 => fL σ fun σ => bif decide (x21 < i2) then (if 0 ≤ x21 ∧ x21 < (3 : Nat) then (ldSS σ h1 (0 + x21.toNat * 1)).bind fun l15 => (s_roots_Roots_all_c1_l1 k k v0 x21 l15.1 l15.2.1 l15.2.2 ((l15.2.1 : Nat) : Int) (0 : Int) σ).bind fun r31 => if r31.1 = .exit 2 then (s_roots_Roots_all_c1_l0 k n v0 h1 i2 (w64S (x21 + (1 : Int))) r31.2.2) else if r31.1 = .ret then (some (.ret, [], r31.2.2)) else none else none) else (some (.exit 0, [], σ)))
termination_by structural n

theorem roots_Roots_all_c1_l0_is (k n : Nat) (v0 : Value) (h1 : Nat) (i2 : Int) (x21 : Int) (σ : AMem) : d_roots_Roots_all_c1_l0 k n v0 h1 i2 x21 σ = s_roots_Roots_all_c1_l0 k n v0 h1 i2 x21 σ := by
  induction n generalizing v0 h1 i2 x21 σ with
  | zero => simp only [d_roots_Roots_all_c1_l0, hide_eq]; rfl
  | succ n ih => rw [d_roots_Roots_all_c1_l0_eq, b_roots_Roots_all_c1_l0, s_roots_Roots_all_c1_l0]; simp only [callV_iiip_t_is, roots_Roots_all_c1_l1_is, ih, strA, strR, str0, apS_3, apS_23, apS_121, apS_186]

noncomputable def s_roots_Roots_all_c1 (k : Nat) (x0 : Value) (c0 : Option Addr) (σ : AMem) : Option (Value × AMem) := match k with
  | 0 => none
  | k + 1 => (fP c0 fun c0 => fL σ fun σ => c0.bind fun a1 => (ldPS σ a1.block a1.off).bind fun p2 => p2.bind fun a3 => (ldSS σ a3.block (a3.off + 1)).bind fun l4 => c0.bind fun a5 => (ldPS σ a5.block a5.off).bind fun p6 => p6.bind fun a7 => (ldSS σ a7.block (a7.off + 2)).bind fun l8 => c0.bind fun a9 => (ldPS σ a9.block a9.off).bind fun p10 => p10.bind fun a11 => (ldSS σ a11.block (a11.off + 3)).bind fun l12 => allocS σ (.cells [.slice l4.1 l4.2.1 l4.2.2, .slice l8.1 l8.2.1 l8.2.2, .slice l12.1 l12.2.1 l12.2.2] 23 true) fun h13 s14 => (s_roots_Roots_all_c1_l0 k k x0 h13 ((3 : Nat) : Int) (0 : Int) s14).bind fun r32 => if r32.1 = .exit 0 then (some (.tuple #[], r32.2.2)) else if r32.1 = .ret then (some (.tuple #[], r32.2.2)) else none)

theorem roots_Roots_all_c1_is (k : Nat) (x0 : Value) (c0 : Option Addr) (σ : AMem) : d_roots_Roots_all_c1 k x0 c0 σ = s_roots_Roots_all_c1 k x0 c0 σ := by
  cases k with
  | zero => simp only [d_roots_Roots_all_c1, hide_eq]; rfl
  | succ k => rw [d_roots_Roots_all_c1_eq, b_roots_Roots_all_c1, s_roots_Roots_all_c1]; simp only [callV_iiip_t_is, roots_Roots_all_c1_l1_is, roots_Roots_all_c1_l0_is, strA, strR, str0, apS_3, apS_23, apS_121, apS_186]

theorem roots_Roots_all_c1_raw (k : Nat) (x0 : Value) (c0 : Option Addr) (σ : AMem) : fn P (XK Kn.b) H k 187 [x0, .pointer c0] σ = d_roots_Roots_all_c1 k x0 c0 σ := by
  simp only [d_roots_Roots_all_c1, hide_eq]

noncomputable def s_callN_f_0 (k : Nat) (n : FuncId) (l : List Value) (σ : AMem) : Option (Value × AMem) :=
  if n = 187 then (match l with
    | [y1, .pointer y2] => s_roots_Roots_all_c1 k y1 y2 σ
    | l => fn P (XK Kn.b) H k 187 l σ) else
  fn P (XK Kn.b) H k n l σ

theorem callN_f_0_is (k : Nat) (n : FuncId) (l : List Value) (σ : AMem) : fn P (XK Kn.b) H k n l σ = s_callN_f_0 k n l σ := by
  unfold s_callN_f_0
  split
  · rename_i hn; subst hn
    split
    · exact (roots_Roots_all_c1_raw k _ _ σ).trans (roots_Roots_all_c1_is k _ _ σ)
    · rfl
  rfl

noncomputable def s_callV_f_0 (k : Nat) (f : Value) (args : List Value) (σ : AMem) : Option (Value × AMem) := match f with
  | .func (.func n) first cap => bif Nat.beq n YF then none else s_callN_f_0 k n (first.toList ++ args ++ cap.toList) σ
  | .func (.yield h) _ _ => fn P (XK Kn.b) H k YF (.pointer (some ⟨h, 0, none⟩) :: args) σ
  | .func (.method nm) first _ => (match first.toList ++ args with
    | .iface t v :: rest => (methodF P t nm).bind fun n => bif Nat.beq n YF then none else s_callN_f_0 k n (v :: rest) σ
    | _ => none)
  | _ => none

theorem callV_f_0_is (k : Nat) (f : Value) (args : List Value) (σ : AMem) : d_callV_f_0 k f args σ = s_callV_f_0 k f args σ := by
  simp only [d_callV_f_0, hide_eq]
  unfold callVal s_callV_f_0
  simp only [callN_f_0_is]
  rfl

noncomputable def s_roots_Roots_Places (k : Nat) (x0 : Option Addr) (σ : AMem) : Option (Value × AMem) := match k with
  | 0 => none
  | k + 1 => (fP x0 fun x0 => fL σ fun σ => (s_roots_Roots_made k x0 σ).bind fun r1 => (toB r1.1).bind fun b2 => bif !b2 then (some (.slice none 0 0, r1.2)) else (allocS r1.2 (.cells [.slice none 0 0] 118 true) fun h3 s4 => (s_roots_Roots_all k x0 s4).bind fun r5 => bif isFn r5.1 then (allocS r5.2 (.loop 54 .ready (rgs 0 17 [(3, .pointer (some ⟨h3, 0, none⟩))])) fun h6 s7 => (s_callV_f_0 k r5.1 [.func (.yield h6) #[] #[]] s7).bind fun r8 => endLoopS h6 r8.2 fun x9 s10 => if x9 = .normal then ((ldSS s10 h3 0).bind fun l11 => some (.slice l11.1 l11.2.1 l11.2.2, s10)) else none) else none))

theorem roots_Roots_Places_is (k : Nat) (x0 : Option Addr) (σ : AMem) : d_roots_Roots_Places k x0 σ = s_roots_Roots_Places k x0 σ := by
  cases k with
  | zero => simp only [d_roots_Roots_Places, hide_eq]; rfl
  | succ k => rw [d_roots_Roots_Places_eq, b_roots_Roots_Places, s_roots_Roots_Places]; simp only [roots_Roots_made_is, roots_Roots_all_is, callV_f_0_is, strA, strR, str0, apS_3, apS_23, apS_121, apS_186]

noncomputable def s_roots_Roots_at_c1 (k : Nat) (x0 : Option Addr × Nat × Nat) (c0 : Option Addr) (σ : AMem) : Option (Value × AMem) := match k with
  | 0 => none
  | k + 1 => (fS x0 fun x0 => fP c0 fun c0 => fL σ fun σ => c0.bind fun a1 => (ldIS .i64 σ a1.block (a1.off + 2)).bind fun n2 => (bif decide (n2 < (0 : Int)) then some (true, σ) else c0.bind fun a3 => (ldIS .i64 σ a3.block (a3.off + 2)).bind fun n4 => some (decide (n4 ≥ ((x0.2.1 : Nat) : Int)), σ)).bind fun r5 => bif r5.1 then (some (.pointer none, r5.2)) else (c0.bind fun a6 => (ldIS .i64 r5.2 a6.block (a6.off + 2)).bind fun n7 => if 0 ≤ n7 ∧ n7 < (x0.2.1 : Nat) then x0.1.bind fun a8 => some (.pointer (some ⟨a8.block, a8.off + n7.toNat * 1, none⟩), r5.2) else none))

theorem roots_Roots_at_c1_is (k : Nat) (x0 : Option Addr × Nat × Nat) (c0 : Option Addr) (σ : AMem) : d_roots_Roots_at_c1 k x0 c0 σ = s_roots_Roots_at_c1 k x0 c0 σ := by
  cases k with
  | zero => simp only [d_roots_Roots_at_c1, hide_eq]; rfl
  | succ k => rw [d_roots_Roots_at_c1_eq, b_roots_Roots_at_c1, s_roots_Roots_at_c1]; simp only [strA, strR, str0, apS_3, apS_23, apS_121, apS_186]

noncomputable def s_roots_Roots_at (k : Nat) (x0 : Option Addr) (x1_0 : Int) (x1_1 : Int) (x1_2 : Int) (σ : AMem) : Option (Value × AMem) := match k with
  | 0 => none
  | k + 1 => (fP x0 fun x0 => fI x1_0 fun x1_0 => fI x1_1 fun x1_1 => fI x1_2 fun x1_2 => fL σ fun σ => allocS σ (.cells [.int .i64 x1_0, .int .i64 x1_1, .int .i64 x1_2] 121 true) fun h1 s2 => (ldIS .i64 s2 h1 (0 + 0)).bind fun n3 => (bif n3 == (0 : Int) then (ldIS .i64 s2 h1 (0 + 1)).bind fun n4 => some (decide (n4 ≥ (0 : Int)), s2) else some (false, s2)).bind fun r5 => (bif r5.1 then (ldIS .i64 r5.2 h1 (0 + 1)).bind fun n6 => x0.bind fun a7 => (ldIS .i64 r5.2 a7.block (a7.off + 0)).bind fun n8 => some (decide (n6 < n8), r5.2) else some (false, r5.2)).bind fun r9 => bif r9.1 then (x0.bind fun a10 => (ldSS r9.2 a10.block (a10.off + 1)).bind fun l11 => (ldIS .i64 r9.2 h1 (0 + 1)).bind fun n12 => (ldIS .i64 r9.2 h1 (0 + 1)).bind fun n13 => (sliceD 3 1 (l11.1, l11.2.1, l11.2.2) (some (.int .i64 (w64S (n12 * (16 : Int))))) (some (.int .i64 (w64S ((w64S (n13 + (1 : Int))) * (16 : Int))))) none r9.2).bind fun l14 => (s_roots_Roots_at_c1 k (l14.1, l14.2.1, l14.2.2) (some ⟨h1, 0, none⟩) r9.2).bind fun r15 => (toP r15.1).bind fun p16 => some (.pointer p16, r15.2)) else ((ldIS .i64 r9.2 h1 (0 + 0)).bind fun n17 => (bif n17 == (1 : Int) then (ldIS .i64 r9.2 h1 (0 + 1)).bind fun n18 => some (n18 == (0 : Int), r9.2) else some (false, r9.2)).bind fun r19 => bif r19.1 then (x0.bind fun a20 => (ldSS r19.2 a20.block (a20.off + 2)).bind fun l21 => (s_roots_Roots_at_c1 k (l21.1, l21.2.1, l21.2.2) (some ⟨h1, 0, none⟩) r19.2).bind fun r22 => (toP r22.1).bind fun p23 => some (.pointer p23, r22.2)) else ((ldIS .i64 r19.2 h1 (0 + 0)).bind fun n24 => (bif n24 == (2 : Int) then (ldIS .i64 r19.2 h1 (0 + 1)).bind fun n25 => some (n25 == (0 : Int), r19.2) else some (false, r19.2)).bind fun r26 => bif r26.1 then (x0.bind fun a27 => (ldSS r26.2 a27.block (a27.off + 3)).bind fun l28 => (s_roots_Roots_at_c1 k (l28.1, l28.2.1, l28.2.2) (some ⟨h1, 0, none⟩) r26.2).bind fun r29 => (toP r29.1).bind fun p30 => some (.pointer p30, r29.2)) else (some (.pointer none, r26.2)))))

theorem roots_Roots_at_is (k : Nat) (x0 : Option Addr) (x1_0 : Int) (x1_1 : Int) (x1_2 : Int) (σ : AMem) : d_roots_Roots_at k x0 x1_0 x1_1 x1_2 σ = s_roots_Roots_at k x0 x1_0 x1_1 x1_2 σ := by
  cases k with
  | zero => simp only [d_roots_Roots_at, hide_eq]; rfl
  | succ k => rw [d_roots_Roots_at_eq, b_roots_Roots_at, s_roots_Roots_at]; simp only [roots_Roots_at_c1_is, strA, strR, str0, apS_3, apS_23, apS_121, apS_186]

noncomputable def s_roots_Roots_place (k : Nat) (x0 : Option Addr) (x1_0 : Int) (x1_1 : Int) (x1_2 : Int) (σ : AMem) : Option (Value × AMem) := match k with
  | 0 => none
  | k + 1 => (fP x0 fun x0 => fI x1_0 fun x1_0 => fI x1_1 fun x1_1 => fI x1_2 fun x1_2 => fL σ fun σ => allocS σ (.cells [.int .i64 x1_0, .int .i64 x1_1, .int .i64 x1_2] 121 true) fun h1 s2 => (s_roots_Roots_made k x0 s2).bind fun r3 => (toB r3.1).bind fun b4 => bif !b4 then (fI (5 : Int) fun y5 => some (.tuple #[.pointer none, .int .i64 y5], r3.2)) else ((ldIS .i64 r3.2 h1 0).bind fun n6 => (ldIS .i64 r3.2 h1 (0 + 1)).bind fun n7 => (ldIS .i64 r3.2 h1 (0 + 1 + 1)).bind fun n8 => (s_roots_Roots_at k x0 n6 n7 n8 r3.2).bind fun r9 => (toP r9.1).bind fun p10 => (eqA P 166 (.pointer p10) (.pointer none)).bind fun e11 => bif e11 then (fI (1 : Int) fun y12 => some (.tuple #[.pointer none, .int .i64 y12], r9.2)) else (fI (0 : Int) fun y13 => some (.tuple #[.pointer p10, .int .i64 y13], r9.2))))

theorem roots_Roots_place_is (k : Nat) (x0 : Option Addr) (x1_0 : Int) (x1_1 : Int) (x1_2 : Int) (σ : AMem) : d_roots_Roots_place k x0 x1_0 x1_1 x1_2 σ = s_roots_Roots_place k x0 x1_0 x1_1 x1_2 σ := by
  cases k with
  | zero => simp only [d_roots_Roots_place, hide_eq]; rfl
  | succ k => rw [d_roots_Roots_place_eq, b_roots_Roots_place, s_roots_Roots_place]; simp only [roots_Roots_made_is, roots_Roots_at_is, strA, strR, str0, apS_3, apS_23, apS_121, apS_186]

noncomputable def s_roots_Roots_Get (k : Nat) (x0 : Option Addr) (x1_0 : Int) (x1_1 : Int) (x1_2 : Int) (σ : AMem) : Option (Value × AMem) := match k with
  | 0 => none
  | k + 1 => (fP x0 fun x0 => fI x1_0 fun x1_0 => fI x1_1 fun x1_1 => fI x1_2 fun x1_2 => fL σ fun σ => allocS σ (.cells [.int .i64 x1_0, .int .i64 x1_1, .int .i64 x1_2] 121 true) fun h1 s2 => (ldIS .i64 s2 h1 0).bind fun n3 => (ldIS .i64 s2 h1 (0 + 1)).bind fun n4 => (ldIS .i64 s2 h1 (0 + 1 + 1)).bind fun n5 => (s_roots_Roots_place k x0 n3 n4 n5 s2).bind fun r6 => r_pi r6.1 fun p7 n8 => bif n8 != (0 : Int) then (fI (0 : Int) fun y9 => fI n8 fun y10 => some (.tuple #[.int .i64 y9, .int .i64 y10], r6.2)) else (p7.bind fun a11 => (ldIS .i64 r6.2 a11.block a11.off).bind fun n12 => fI n12 fun y13 => fI (0 : Int) fun y14 => some (.tuple #[.int .i64 y13, .int .i64 y14], r6.2)))

theorem roots_Roots_Get_is (k : Nat) (x0 : Option Addr) (x1_0 : Int) (x1_1 : Int) (x1_2 : Int) (σ : AMem) : d_roots_Roots_Get k x0 x1_0 x1_1 x1_2 σ = s_roots_Roots_Get k x0 x1_0 x1_1 x1_2 σ := by
  cases k with
  | zero => simp only [d_roots_Roots_Get, hide_eq]; rfl
  | succ k => rw [d_roots_Roots_Get_eq, b_roots_Roots_Get, s_roots_Roots_Get]; simp only [roots_Roots_place_is, strA, strR, str0, apS_3, apS_23, apS_121, apS_186]

noncomputable def s___trace_line_int__add (k : Nat) (x0 : Option Addr) (x1 : Int) (σ : AMem) : Option (Value × AMem) := match k with
  | 0 => none
  | k + 1 => (fP x0 fun x0 => fI x1 fun x1 => fL σ fun σ => x0.bind fun a1 => (ldSS σ a1.block (a1.off + 0)).bind fun l2 => allocS σ (.cells [.int .i64 x1] 3 true) fun h3 s4 => appendS 3 1 8 (l2.1, l2.2.1, l2.2.2) (some ⟨h3, 0, none⟩, 1, 1) s4 fun r5 => x0.bind fun a6 => st1S r5.2 a6.block (a6.off + 0) (.slice r5.1.1 r5.1.2.1 r5.1.2.2) fun s7 => some (.tuple #[], s7))

theorem __trace_line_int__add_is (k : Nat) (x0 : Option Addr) (x1 : Int) (σ : AMem) : d___trace_line_int__add k x0 x1 σ = s___trace_line_int__add k x0 x1 σ := by
  cases k with
  | zero => simp only [d___trace_line_int__add, hide_eq]; rfl
  | succ k => rw [d___trace_line_int__add_eq, b___trace_line_int__add, s___trace_line_int__add]; simp only [strA, strR, str0, apS_3, apS_23, apS_121, apS_186]

noncomputable def s_side_Table_made (k : Nat) (x0 : Option Addr) (σ : AMem) : Option (Value × AMem) := match k with
  | 0 => none
  | k + 1 => (fP x0 fun x0 => fL σ fun σ => (eqA P 24 (.pointer x0) (.pointer none)).bind fun e1 => (bif !e1 then x0.bind fun a2 => (ldIS .i64 σ a2.block (a2.off + 0)).bind fun n3 => some (decide (n3 > (0 : Int)), σ) else some (false, σ)).bind fun r4 => fB r4.1 fun y5 => some (.bool y5, r4.2))

theorem side_Table_made_is (k : Nat) (x0 : Option Addr) (σ : AMem) : d_side_Table_made k x0 σ = s_side_Table_made k x0 σ := by
  cases k with
  | zero => simp only [d_side_Table_made, hide_eq]; rfl
  | succ k => rw [d_side_Table_made_eq, b_side_Table_made, s_side_Table_made]; simp only [strA, strR, str0, apS_3, apS_23, apS_121, apS_186]

noncomputable def s_side_Table_there (k : Nat) (x0 : Option Addr) (x1 : Int) (σ : AMem) : Option (Value × AMem) := match k with
  | 0 => none
  | k + 1 => (fP x0 fun x0 => fI x1 fun x1 => fL σ fun σ => (s_side_Table_made k x0 σ).bind fun r1 => (toB r1.1).bind fun b2 => (bif b2 then some (decide (x1 ≥ (0 : Int)), r1.2) else some (false, r1.2)).bind fun r3 => (bif r3.1 then x0.bind fun a4 => (ldIS .i64 r3.2 a4.block (a4.off + 0)).bind fun n5 => some (decide (x1 < n5), r3.2) else some (false, r3.2)).bind fun r6 => fB r6.1 fun y7 => some (.bool y7, r6.2))

theorem side_Table_there_is (k : Nat) (x0 : Option Addr) (x1 : Int) (σ : AMem) : d_side_Table_there k x0 x1 σ = s_side_Table_there k x0 x1 σ := by
  cases k with
  | zero => simp only [d_side_Table_there, hide_eq]; rfl
  | succ k => rw [d_side_Table_there_eq, b_side_Table_there, s_side_Table_there]; simp only [side_Table_made_is, strA, strR, str0, apS_3, apS_23, apS_121, apS_186]

noncomputable def s_side_Table_most (k : Nat) (x0 : Option Addr) (σ : AMem) : Option (Value × AMem) := match k with
  | 0 => none
  | k + 1 => (fP x0 fun x0 => fL σ fun σ => x0.bind fun a1 => (ldIS .i64 σ a1.block (a1.off + 1)).bind fun n2 => if n2 < 0 then none else fI (w64S ((w64S ((1 : Int) * 2 ^ (min n2.toNat 64))) - (1 : Int))) fun y3 => some (.int .i64 y3, σ))

theorem side_Table_most_is (k : Nat) (x0 : Option Addr) (σ : AMem) : d_side_Table_most k x0 σ = s_side_Table_most k x0 σ := by
  cases k with
  | zero => simp only [d_side_Table_most, hide_eq]; rfl
  | succ k => rw [d_side_Table_most_eq, b_side_Table_most, s_side_Table_most]; simp only [strA, strR, str0, apS_3, apS_23, apS_121, apS_186]

noncomputable def s_side_Table_get (k : Nat) (x0 : Option Addr) (x1 : Int) (σ : AMem) : Option (Value × AMem) := match k with
  | 0 => none
  | k + 1 => (fP x0 fun x0 => fI x1 fun x1 => fL σ fun σ => x0.bind fun a1 => (ldIS .i64 σ a1.block (a1.off + 1)).bind fun n2 => x0.bind fun a3 => (ldSS σ a3.block (a3.off + 2)).bind fun l4 => if (64 : Int) = 0 then none else if 0 ≤ (w64S ((w64S (x1 * n2)).tdiv (64 : Int))) ∧ (w64S ((w64S (x1 * n2)).tdiv (64 : Int))) < (l4.2.1 : Nat) then l4.1.bind fun a5 => (ldIS .u64 σ a5.block (a5.off + (w64S ((w64S (x1 * n2)).tdiv (64 : Int))).toNat * 1)).bind fun n6 => if (64 : Int) = 0 then none else if ((w64S (x1 * n2)).tmod (64 : Int)) < 0 then none else (s_side_Table_most k x0 σ).bind fun r7 => (toIS .i64 r7.1).bind fun n8 => fI (w64S ((BitVec.ofInt 64 (w64S (n6.fdiv (2 ^ (min ((w64S (x1 * n2)).tmod (64 : Int)).toNat 64)))) &&& BitVec.ofInt 64 n8).toNat)) fun y9 => some (.int .i64 y9, r7.2) else none)

theorem side_Table_get_is (k : Nat) (x0 : Option Addr) (x1 : Int) (σ : AMem) : d_side_Table_get k x0 x1 σ = s_side_Table_get k x0 x1 σ := by
  cases k with
  | zero => simp only [d_side_Table_get, hide_eq]; rfl
  | succ k => rw [d_side_Table_get_eq, b_side_Table_get, s_side_Table_get]; simp only [side_Table_most_is, strA, strR, str0, apS_3, apS_23, apS_121, apS_186]

noncomputable def s_side_Table_Get (k : Nat) (x0 : Option Addr) (x1 : Int) (σ : AMem) : Option (Value × AMem) := match k with
  | 0 => none
  | k + 1 => (fP x0 fun x0 => fI x1 fun x1 => fL σ fun σ => (s_side_Table_there k x0 x1 σ).bind fun r1 => (toB r1.1).bind fun b2 => bif !b2 then (fI (-1 : Int) fun y3 => some (.int .i64 y3, r1.2)) else ((s_side_Table_get k x0 x1 r1.2).bind fun r4 => (toIS .i64 r4.1).bind fun n5 => fI n5 fun y6 => some (.int .i64 y6, r4.2)))

theorem side_Table_Get_is (k : Nat) (x0 : Option Addr) (x1 : Int) (σ : AMem) : d_side_Table_Get k x0 x1 σ = s_side_Table_Get k x0 x1 σ := by
  cases k with
  | zero => simp only [d_side_Table_Get, hide_eq]; rfl
  | succ k => rw [d_side_Table_Get_eq, b_side_Table_Get, s_side_Table_Get]; simp only [side_Table_there_is, side_Table_get_is, strA, strR, str0, apS_3, apS_23, apS_121, apS_186]

noncomputable def s_heap_Heap_Has (k : Nat) (x0 : Option Addr) (x1 : Int) (σ : AMem) : Option (Value × AMem) := match k with
  | 0 => none
  | k + 1 => (fP x0 fun x0 => fI x1 fun x1 => fL σ fun σ => (s_heap_Heap_made k x0 σ).bind fun r1 => (toB r1.1).bind fun b2 => (bif b2 then some (decide (x1 ≥ (0 : Int)), r1.2) else some (false, r1.2)).bind fun r3 => (bif r3.1 then if (2 : Int) = 0 then none else some ((x1.tmod (2 : Int)) == (0 : Int), r3.2) else some (false, r3.2)).bind fun r4 => (bif r4.1 then x0.bind fun a5 => (ldPS r4.2 a5.block (a5.off + 2)).bind fun p6 => if (2 : Int) = 0 then none else (s_side_Table_Get k p6 (w64S (x1.tdiv (2 : Int))) r4.2).bind fun r7 => (toIS .i64 r7.1).bind fun n8 => some (n8 == (1 : Int), r7.2) else some (false, r4.2)).bind fun r9 => fB r9.1 fun y10 => some (.bool y10, r9.2))

theorem heap_Heap_Has_is (k : Nat) (x0 : Option Addr) (x1 : Int) (σ : AMem) : d_heap_Heap_Has k x0 x1 σ = s_heap_Heap_Has k x0 x1 σ := by
  cases k with
  | zero => simp only [d_heap_Heap_Has, hide_eq]; rfl
  | succ k => rw [d_heap_Heap_Has_eq, b_heap_Heap_Has, s_heap_Heap_Has]; simp only [heap_Heap_made_is, side_Table_Get_is, strA, strR, str0, apS_3, apS_23, apS_121, apS_186]

noncomputable def s_trace_marked (k : Nat) (x0 : Option Addr) (x1 : Option Addr) (x2 : Int) (σ : AMem) : Option (Value × AMem) := match k with
  | 0 => none
  | k + 1 => (fP x0 fun x0 => fP x1 fun x1 => fI x2 fun x2 => fL σ fun σ => (s_heap_Heap_Has k x0 x2 σ).bind fun r1 => (toB r1.1).bind fun b2 => (bif b2 then if (2 : Int) = 0 then none else (s_side_Table_Get k x1 (w64S (x2.tdiv (2 : Int))) r1.2).bind fun r3 => (toIS .i64 r3.1).bind fun n4 => some (n4 == (1 : Int), r3.2) else some (false, r1.2)).bind fun r5 => fB r5.1 fun y6 => some (.bool y6, r5.2))

theorem trace_marked_is (k : Nat) (x0 : Option Addr) (x1 : Option Addr) (x2 : Int) (σ : AMem) : d_trace_marked k x0 x1 x2 σ = s_trace_marked k x0 x1 x2 σ := by
  cases k with
  | zero => simp only [d_trace_marked, hide_eq]; rfl
  | succ k => rw [d_trace_marked_eq, b_trace_marked, s_trace_marked]; simp only [heap_Heap_Has_is, side_Table_Get_is, strA, strR, str0, apS_3, apS_23, apS_121, apS_186]

noncomputable def s_trace_all_c1 (k : Nat) (x0 : Int) (c0 : Option Addr) (c1 : Option Addr) (σ : AMem) : Option (Value × AMem) := match k with
  | 0 => none
  | k + 1 => (fI x0 fun x0 => fP c0 fun c0 => fP c1 fun c1 => fL σ fun σ => c0.bind fun a1 => (ldPS σ a1.block a1.off).bind fun p2 => c1.bind fun a3 => (ldPS σ a3.block a3.off).bind fun p4 => (s_trace_marked k p2 p4 x0 σ).bind fun r5 => (toB r5.1).bind fun b6 => fB (!b6) fun y7 => some (.bool y7, r5.2))

theorem trace_all_c1_is (k : Nat) (x0 : Int) (c0 : Option Addr) (c1 : Option Addr) (σ : AMem) : d_trace_all_c1 k x0 c0 c1 σ = s_trace_all_c1 k x0 c0 c1 σ := by
  cases k with
  | zero => simp only [d_trace_all_c1, hide_eq]; rfl
  | succ k => rw [d_trace_all_c1_eq, b_trace_all_c1, s_trace_all_c1]; simp only [trace_marked_is, strA, strR, str0, apS_3, apS_23, apS_121, apS_186]

theorem trace_all_c1_raw (k : Nat) (x0 : Int) (c0 : Option Addr) (c1 : Option Addr) (σ : AMem) : fn P (XK Kn.b) H k 134 [.int .i64 x0, .pointer c0, .pointer c1] σ = d_trace_all_c1 k x0 c0 c1 σ := by
  simp only [d_trace_all_c1, hide_eq]

noncomputable def s_side_Table_value (k : Nat) (x0 : Option Addr) (x1 : Int) (σ : AMem) : Option (Value × AMem) := match k with
  | 0 => none
  | k + 1 => (fP x0 fun x0 => fI x1 fun x1 => fL σ fun σ => (bif decide (x1 ≥ (0 : Int)) then (s_side_Table_most k x0 σ).bind fun r1 => (toIS .i64 r1.1).bind fun n2 => some (decide (x1 ≤ n2), r1.2) else some (false, σ)).bind fun r3 => fB r3.1 fun y4 => some (.bool y4, r3.2))

theorem side_Table_value_is (k : Nat) (x0 : Option Addr) (x1 : Int) (σ : AMem) : d_side_Table_value k x0 x1 σ = s_side_Table_value k x0 x1 σ := by
  cases k with
  | zero => simp only [d_side_Table_value, hide_eq]; rfl
  | succ k => rw [d_side_Table_value_eq, b_side_Table_value, s_side_Table_value]; simp only [side_Table_most_is, strA, strR, str0, apS_3, apS_23, apS_121, apS_186]

noncomputable def s_side_Table_check_c1 (k : Nat) (x0 : Int) (c0 : Option Addr) (σ : AMem) : Option (Value × AMem) := match k with
  | 0 => none
  | k + 1 => (fI x0 fun x0 => fP c0 fun c0 => fL σ fun σ => c0.bind fun a1 => (ldPS σ a1.block a1.off).bind fun p2 => (s_side_Table_value k p2 x0 σ).bind fun r3 => (toB r3.1).bind fun b4 => fB (!b4) fun y5 => some (.bool y5, r3.2))

theorem side_Table_check_c1_is (k : Nat) (x0 : Int) (c0 : Option Addr) (σ : AMem) : d_side_Table_check_c1 k x0 c0 σ = s_side_Table_check_c1 k x0 c0 σ := by
  cases k with
  | zero => simp only [d_side_Table_check_c1, hide_eq]; rfl
  | succ k => rw [d_side_Table_check_c1_eq, b_side_Table_check_c1, s_side_Table_check_c1]; simp only [side_Table_value_is, strA, strR, str0, apS_3, apS_23, apS_121, apS_186]

theorem side_Table_check_c1_raw (k : Nat) (x0 : Int) (c0 : Option Addr) (σ : AMem) : fn P (XK Kn.b) H k 237 [.int .i64 x0, .pointer c0] σ = d_side_Table_check_c1 k x0 c0 σ := by
  simp only [d_side_Table_check_c1, hide_eq]

noncomputable def s_callN_i_t (k : Nat) (n : FuncId) (l : List Value) (σ : AMem) : Option (Value × AMem) :=
  if n = 134 then (match l with
    | [.int .i64 y1, .pointer y2, .pointer y3] => s_trace_all_c1 k y1 y2 y3 σ
    | l => fn P (XK Kn.b) H k 134 l σ) else
  if n = 237 then (match l with
    | [.int .i64 y1, .pointer y2] => s_side_Table_check_c1 k y1 y2 σ
    | l => fn P (XK Kn.b) H k 237 l σ) else
  fn P (XK Kn.b) H k n l σ

theorem callN_i_t_is (k : Nat) (n : FuncId) (l : List Value) (σ : AMem) : fn P (XK Kn.b) H k n l σ = s_callN_i_t k n l σ := by
  unfold s_callN_i_t
  split
  · rename_i hn; subst hn
    split
    · exact (trace_all_c1_raw k _ _ _ σ).trans (trace_all_c1_is k _ _ _ σ)
    · rfl
  split
  · rename_i hn; subst hn
    split
    · exact (side_Table_check_c1_raw k _ _ σ).trans (side_Table_check_c1_is k _ _ σ)
    · rfl
  rfl

noncomputable def s_callV_i_t (k : Nat) (f : Value) (args : List Value) (σ : AMem) : Option (Value × AMem) := match f with
  | .func (.func n) first cap => bif Nat.beq n YF then none else s_callN_i_t k n (first.toList ++ args ++ cap.toList) σ
  | .func (.yield h) _ _ => fn P (XK Kn.b) H k YF (.pointer (some ⟨h, 0, none⟩) :: args) σ
  | .func (.method nm) first _ => (match first.toList ++ args with
    | .iface t v :: rest => (methodF P t nm).bind fun n => bif Nat.beq n YF then none else s_callN_i_t k n (v :: rest) σ
    | _ => none)
  | _ => none

theorem callV_i_t_is (k : Nat) (f : Value) (args : List Value) (σ : AMem) : d_callV_i_t k f args σ = s_callV_i_t k f args σ := by
  simp only [d_callV_i_t, hide_eq]
  unfold callVal s_callV_i_t
  simp only [callN_i_t_is]
  rfl

noncomputable def s_slices_IndexFunc_int_l0 (k n : Nat) (p0 : Option Addr) (c1 : Nat) (c2 : Nat) (v3 : Value) (i4 : Int) (x8 : Int) (σ : AMem) : Option LOut := match n with
  | 0 => none
  | n + 1 => (fP p0 fun p0 => fN c1 fun c1 => fN c2 fun c2 => fI i4 fun i4 => fI x8 fun x8 => fL σ fun σ => bif decide (x8 < i4) then (if 0 ≤ x8 ∧ x8 < (c1 : Nat) then p0.bind fun a1 => (ldIS .i64 σ a1.block (a1.off + x8.toNat * 1)).bind fun n2 => (s_callV_i_t k v3 [.int .i64 n2] σ).bind fun r3 => (toB r3.1).bind fun b4 => bif b4 then (some (.ret, [.int .i64 x8], r3.2)) else (s_slices_IndexFunc_int_l0 k n p0 c1 c2 v3 i4 (w64S (x8 + (1 : Int))) r3.2) else none) else (some (.exit 0, [], σ)))
termination_by structural n

theorem slices_IndexFunc_int_l0_is (k n : Nat) (p0 : Option Addr) (c1 : Nat) (c2 : Nat) (v3 : Value) (i4 : Int) (x8 : Int) (σ : AMem) : d_slices_IndexFunc_int_l0 k n p0 c1 c2 v3 i4 x8 σ = s_slices_IndexFunc_int_l0 k n p0 c1 c2 v3 i4 x8 σ := by
  induction n generalizing p0 c1 c2 v3 i4 x8 σ with
  | zero => simp only [d_slices_IndexFunc_int_l0, hide_eq]; rfl
  | succ n ih => rw [d_slices_IndexFunc_int_l0_eq, b_slices_IndexFunc_int_l0, s_slices_IndexFunc_int_l0]; simp only [callV_i_t_is, ih, strA, strR, str0, apS_3, apS_23, apS_121, apS_186]

noncomputable def s_slices_IndexFunc_int (k : Nat) (x0 : Option Addr × Nat × Nat) (x1 : Value) (σ : AMem) : Option (Value × AMem) := match k with
  | 0 => none
  | k + 1 => (fS x0 fun x0 => fL σ fun σ => (s_slices_IndexFunc_int_l0 k k x0.1 x0.2.1 x0.2.2 x1 ((x0.2.1 : Nat) : Int) (0 : Int) σ).bind fun r5 => if r5.1 = .exit 0 then (fI (-1 : Int) fun y6 => some (.int .i64 y6, r5.2.2)) else if r5.1 = .ret then (u_i r5.2.1 fun n7 => fI n7 fun y8 => some (.int .i64 y8, r5.2.2)) else none)

theorem slices_IndexFunc_int_is (k : Nat) (x0 : Option Addr × Nat × Nat) (x1 : Value) (σ : AMem) : d_slices_IndexFunc_int k x0 x1 σ = s_slices_IndexFunc_int k x0 x1 σ := by
  cases k with
  | zero => simp only [d_slices_IndexFunc_int, hide_eq]; rfl
  | succ k => rw [d_slices_IndexFunc_int_eq, b_slices_IndexFunc_int, s_slices_IndexFunc_int]; simp only [callV_i_t_is, slices_IndexFunc_int_l0_is, strA, strR, str0, apS_3, apS_23, apS_121, apS_186]

noncomputable def s_slices_ContainsFunc_int (k : Nat) (x0 : Option Addr × Nat × Nat) (x1 : Value) (σ : AMem) : Option (Value × AMem) := match k with
  | 0 => none
  | k + 1 => (fS x0 fun x0 => fL σ fun σ => (s_slices_IndexFunc_int k (x0.1, x0.2.1, x0.2.2) (x1) σ).bind fun r1 => (toIS .i64 r1.1).bind fun n2 => fB (decide (n2 ≥ (0 : Int))) fun y3 => some (.bool y3, r1.2))

theorem slices_ContainsFunc_int_is (k : Nat) (x0 : Option Addr × Nat × Nat) (x1 : Value) (σ : AMem) : d_slices_ContainsFunc_int k x0 x1 σ = s_slices_ContainsFunc_int k x0 x1 σ := by
  cases k with
  | zero => simp only [d_slices_ContainsFunc_int, hide_eq]; rfl
  | succ k => rw [d_slices_ContainsFunc_int_eq, b_slices_ContainsFunc_int, s_slices_ContainsFunc_int]; simp only [slices_IndexFunc_int_is, strA, strR, str0, apS_3, apS_23, apS_121, apS_186]

noncomputable def s_side_Table_check (k : Nat) (x0 : Option Addr) (x1 : Int) (x2 : Option Addr × Nat × Nat) (σ : AMem) : Option (Value × AMem) := match k with
  | 0 => none
  | k + 1 => (fP x0 fun x0 => fI x1 fun x1 => fS x2 fun x2 => fL σ fun σ => allocS σ (.cells [.pointer x0] 24 true) fun h1 s2 => (ldPS s2 h1 0).bind fun p3 => (s_side_Table_made k p3 s2).bind fun r4 => (toB r4.1).bind fun b5 => bif !b5 then (fI (5 : Int) fun y6 => some (.int .i64 y6, r4.2)) else ((ldPS r4.2 h1 0).bind fun p7 => (s_side_Table_there k p7 x1 r4.2).bind fun r8 => (toB r8.1).bind fun b9 => (bif !b9 then some (true, r8.2) else (s_slices_ContainsFunc_int k (x2.1, x2.2.1, x2.2.2) (.func (.func 237) #[] #[.pointer (some ⟨h1, 0, none⟩)]) r8.2).bind fun r10 => (toB r10.1).bind fun b11 => some (b11, r10.2)).bind fun r12 => bif r12.1 then (fI (1 : Int) fun y13 => some (.int .i64 y13, r12.2)) else (fI (0 : Int) fun y14 => some (.int .i64 y14, r12.2))))

theorem side_Table_check_is (k : Nat) (x0 : Option Addr) (x1 : Int) (x2 : Option Addr × Nat × Nat) (σ : AMem) : d_side_Table_check k x0 x1 x2 σ = s_side_Table_check k x0 x1 x2 σ := by
  cases k with
  | zero => simp only [d_side_Table_check, hide_eq]; rfl
  | succ k => rw [d_side_Table_check_eq, b_side_Table_check, s_side_Table_check]; simp only [side_Table_made_is, slices_ContainsFunc_int_is, side_Table_there_is, strA, strR, str0, apS_3, apS_23, apS_121, apS_186]

noncomputable def s_side_Table_put (k : Nat) (x0 : Option Addr) (x1 : Int) (x2 : Int) (σ : AMem) : Option (Value × AMem) := match k with
  | 0 => none
  | k + 1 => (fP x0 fun x0 => fI x1 fun x1 => fI x2 fun x2 => fL σ fun σ => x0.bind fun a1 => (ldIS .i64 σ a1.block (a1.off + 1)).bind fun n2 => x0.bind fun a3 => (ldSS σ a3.block (a3.off + 2)).bind fun l4 => if (64 : Int) = 0 then none else if 0 ≤ (w64S ((w64S (x1 * n2)).tdiv (64 : Int))) ∧ (w64S ((w64S (x1 * n2)).tdiv (64 : Int))) < (l4.2.1 : Nat) then l4.1.bind fun a5 => (ldIS .u64 σ a5.block (a5.off + (w64S ((w64S (x1 * n2)).tdiv (64 : Int))).toNat * 1)).bind fun n6 => (s_side_Table_most k x0 σ).bind fun r7 => (toIS .i64 r7.1).bind fun n8 => if (64 : Int) = 0 then none else if ((w64S (x1 * n2)).tmod (64 : Int)) < 0 then none else if (64 : Int) = 0 then none else if ((w64S (x1 * n2)).tmod (64 : Int)) < 0 then none else st1S r7.2 a5.block (a5.off + (w64S ((w64S (x1 * n2)).tdiv (64 : Int))).toNat * 1) (.int .u64 (u64 ((BitVec.ofInt 64 (u64 ((BitVec.ofInt 64 n6 &&& ~~~ (BitVec.ofInt 64 (u64 ((u64 (n8)) * 2 ^ (min ((w64S (x1 * n2)).tmod (64 : Int)).toNat 64))))).toNat)) ||| BitVec.ofInt 64 (u64 ((u64 (x2)) * 2 ^ (min ((w64S (x1 * n2)).tmod (64 : Int)).toNat 64)))).toNat))) fun s9 => some (.tuple #[], s9) else none)

theorem side_Table_put_is (k : Nat) (x0 : Option Addr) (x1 : Int) (x2 : Int) (σ : AMem) : d_side_Table_put k x0 x1 x2 σ = s_side_Table_put k x0 x1 x2 σ := by
  cases k with
  | zero => simp only [d_side_Table_put, hide_eq]; rfl
  | succ k => rw [d_side_Table_put_eq, b_side_Table_put, s_side_Table_put]; simp only [side_Table_most_is, strA, strR, str0, apS_3, apS_23, apS_121, apS_186]

noncomputable def s_side_Table_Swap (k : Nat) (x0 : Option Addr) (x1 : Int) (x2 : Int) (x3 : Int) (σ : AMem) : Option (Value × AMem) := match k with
  | 0 => none
  | k + 1 => (fP x0 fun x0 => fI x1 fun x1 => fI x2 fun x2 => fI x3 fun x3 => fL σ fun σ => allocS σ (.cells [.int .i64 x2, .int .i64 x3] 3 true) fun h1 s2 => (s_side_Table_check k x0 x1 (some ⟨h1, 0, none⟩, 2, 2) s2).bind fun r3 => (toIS .i64 r3.1).bind fun n4 => bif n4 != (0 : Int) then (fB false fun y5 => fI n4 fun y6 => some (.tuple #[.bool y5, .int .i64 y6], r3.2)) else ((s_side_Table_get k x0 x1 r3.2).bind fun r7 => (toIS .i64 r7.1).bind fun n8 => bif n8 != x2 then (fB false fun y9 => fI (0 : Int) fun y10 => some (.tuple #[.bool y9, .int .i64 y10], r7.2)) else ((s_side_Table_put k x0 x1 x3 r7.2).bind fun r11 => r_0 r11.1 (fB true fun y12 => fI (0 : Int) fun y13 => some (.tuple #[.bool y12, .int .i64 y13], r11.2)))))

theorem side_Table_Swap_is (k : Nat) (x0 : Option Addr) (x1 : Int) (x2 : Int) (x3 : Int) (σ : AMem) : d_side_Table_Swap k x0 x1 x2 x3 σ = s_side_Table_Swap k x0 x1 x2 x3 σ := by
  cases k with
  | zero => simp only [d_side_Table_Swap, hide_eq]; rfl
  | succ k => rw [d_side_Table_Swap_eq, b_side_Table_Swap, s_side_Table_Swap]; simp only [side_Table_get_is, side_Table_check_is, side_Table_put_is, strA, strR, str0, apS_3, apS_23, apS_121, apS_186]

noncomputable def s_trace_mark (k : Nat) (x0 : Option Addr) (x1 : Option Addr) (x2 : Int) (σ : AMem) : Option (Value × AMem) := match k with
  | 0 => none
  | k + 1 => (fP x0 fun x0 => fP x1 fun x1 => fI x2 fun x2 => fL σ fun σ => (s_heap_Heap_Has k x0 x2 σ).bind fun r1 => (toB r1.1).bind fun b2 => bif !b2 then (fB false fun y3 => some (.bool y3, r1.2)) else (if (2 : Int) = 0 then none else (s_side_Table_Swap k x1 (w64S (x2.tdiv (2 : Int))) (0 : Int) (1 : Int) r1.2).bind fun r4 => r_ti r4.1 fun b5 n6 => fB b5 fun y7 => some (.bool y7, r4.2)))

theorem trace_mark_is (k : Nat) (x0 : Option Addr) (x1 : Option Addr) (x2 : Int) (σ : AMem) : d_trace_mark k x0 x1 x2 σ = s_trace_mark k x0 x1 x2 σ := by
  cases k with
  | zero => simp only [d_trace_mark, hide_eq]; rfl
  | succ k => rw [d_trace_mark_eq, b_trace_mark, s_trace_mark]; simp only [heap_Heap_Has_is, side_Table_Swap_is, strA, strR, str0, apS_3, apS_23, apS_121, apS_186]

noncomputable def s_trace_marker_reach (k : Nat) (x0 : Option Addr) (x1 : Int) (σ : AMem) : Option (Value × AMem) := match k with
  | 0 => none
  | k + 1 => (fP x0 fun x0 => fI x1 fun x1 => fL σ fun σ => x0.bind fun a1 => (ldPS σ a1.block (a1.off + 0)).bind fun p2 => x0.bind fun a3 => (ldPS σ a3.block (a3.off + 1)).bind fun p4 => (s_trace_mark k p2 p4 x1 σ).bind fun r5 => (toB r5.1).bind fun b6 => bif !b6 then (fB false fun y7 => some (.bool y7, r5.2)) else (x0.bind fun a8 => (ldSS r5.2 a8.block (a8.off + 2 + 0)).bind fun l9 => x0.bind fun a10 => (ldIS .i64 r5.2 a10.block (a10.off + 4)).bind fun n11 => bif ((l9.2.1 : Nat) : Int) == n11 then (x0.bind fun a12 => st1S r5.2 a12.block (a12.off + 5) (.bool true) fun s13 => x0.bind fun a14 => (ldIS .i64 s13 a14.block (a14.off + 6 + 1)).bind fun n15 => x0.bind fun a16 => st1S s13 a16.block (a16.off + 6 + 1) (.int .i64 (w64S (n15 + (1 : Int)))) fun s17 => fB true fun y18 => some (.bool y18, s17)) else (x0.bind fun a19 => (s___trace_line_int__add k (some ⟨a19.block, a19.off + 2, none⟩) x1 r5.2).bind fun r20 => r_0 r20.1 (x0.bind fun a21 => (ldIS .i64 r20.2 a21.block (a21.off + 6 + 4)).bind fun n22 => x0.bind fun a23 => (ldSS r20.2 a23.block (a23.off + 2 + 0)).bind fun l24 => x0.bind fun a25 => st1S r20.2 a25.block (a25.off + 6 + 4) (.int .i64 (if ((l24.2.1 : Nat) : Int) > n22 then ((l24.2.1 : Nat) : Int) else n22)) fun s26 => fB true fun y27 => some (.bool y27, s26)))))

theorem trace_marker_reach_is (k : Nat) (x0 : Option Addr) (x1 : Int) (σ : AMem) : d_trace_marker_reach k x0 x1 σ = s_trace_marker_reach k x0 x1 σ := by
  cases k with
  | zero => simp only [d_trace_marker_reach, hide_eq]; rfl
  | succ k => rw [d_trace_marker_reach_eq, b_trace_marker_reach, s_trace_marker_reach]; simp only [__trace_line_int__add_is, trace_mark_is, strA, strR, str0, apS_3, apS_23, apS_121, apS_186]

noncomputable def s_side_Table_Next_l0 (k n : Nat) (p0 : Option Addr) (i1 : Int) (x8 : Int) (σ : AMem) : Option LOut := match n with
  | 0 => none
  | n + 1 => (fP p0 fun p0 => fI i1 fun i1 => fI x8 fun x8 => fL σ fun σ => p0.bind fun a5 => (ldIS .i64 σ a5.block (a5.off + 0)).bind fun n6 => bif decide (x8 < n6) then ((s_side_Table_get k p0 x8 σ).bind fun r7 => (toIS .i64 r7.1).bind fun n8 => bif n8 == i1 then (some (.ret, [.int .i64 x8, .int .i64 (0 : Int)], r7.2)) else (s_side_Table_Next_l0 k n p0 i1 (w64S (x8 + (1 : Int))) r7.2)) else (some (.exit 0, [], σ)))
termination_by structural n

theorem side_Table_Next_l0_is (k n : Nat) (p0 : Option Addr) (i1 : Int) (x8 : Int) (σ : AMem) : d_side_Table_Next_l0 k n p0 i1 x8 σ = s_side_Table_Next_l0 k n p0 i1 x8 σ := by
  induction n generalizing p0 i1 x8 σ with
  | zero => simp only [d_side_Table_Next_l0, hide_eq]; rfl
  | succ n ih => rw [d_side_Table_Next_l0_eq, b_side_Table_Next_l0, s_side_Table_Next_l0]; simp only [side_Table_made_is, side_Table_get_is, ih, strA, strR, str0, apS_3, apS_23, apS_121, apS_186]

noncomputable def s_side_Table_Next (k : Nat) (x0 : Option Addr) (x1 : Int) (x2 : Int) (σ : AMem) : Option (Value × AMem) := match k with
  | 0 => none
  | k + 1 => (fP x0 fun x0 => fI x1 fun x1 => fI x2 fun x2 => fL σ fun σ => (s_side_Table_made k x0 σ).bind fun r1 => (toB r1.1).bind fun b2 => bif !b2 then (fI (0 : Int) fun y3 => fI (5 : Int) fun y4 => some (.tuple #[.int .i64 y3, .int .i64 y4], r1.2)) else ((s_side_Table_Next_l0 k k x0 x2 (if (0 : Int) > x1 then (0 : Int) else x1) r1.2).bind fun r9 => if r9.1 = .exit 0 then (fI (0 : Int) fun y10 => fI (4 : Int) fun y11 => some (.tuple #[.int .i64 y10, .int .i64 y11], r9.2.2)) else if r9.1 = .ret then (u_ii r9.2.1 fun n12 n13 => fI n12 fun y14 => fI n13 fun y15 => some (.tuple #[.int .i64 y14, .int .i64 y15], r9.2.2)) else none))

theorem side_Table_Next_is (k : Nat) (x0 : Option Addr) (x1 : Int) (x2 : Int) (σ : AMem) : d_side_Table_Next k x0 x1 x2 σ = s_side_Table_Next k x0 x1 x2 σ := by
  cases k with
  | zero => simp only [d_side_Table_Next, hide_eq]; rfl
  | succ k => rw [d_side_Table_Next_eq, b_side_Table_Next, s_side_Table_Next]; simp only [side_Table_made_is, side_Table_get_is, side_Table_Next_l0_is, strA, strR, str0, apS_3, apS_23, apS_121, apS_186]

noncomputable def s_heap_Heap_between_l0 (k n : Nat) (p0 : Option Addr) (i1 : Int) (x7 : Option Addr × Nat × Nat) (x8 : Int) (x9 : Int) (σ : AMem) : Option LOut := match n with
  | 0 => none
  | n + 1 => (fP p0 fun p0 => fI i1 fun i1 => fS x7 fun x7 => fI x8 fun x8 => fI x9 fun x9 => fL σ fun σ => (bif x9 == (0 : Int) then some (decide ((w64S ((2 : Int) * x8)) < i1), σ) else some (false, σ)).bind fun r6 => bif r6.1 then (allocS r6.2 (.cells [.int .i64 (w64S ((2 : Int) * x8))] 3 true) fun h7 s8 => appendS 3 1 8 (x7.1, x7.2.1, x7.2.2) (some ⟨h7, 0, none⟩, 1, 1) s8 fun r9 => p0.bind fun a10 => (ldPS r9.2 a10.block (a10.off + 2)).bind fun p11 => (s_side_Table_Next k p11 (w64S (x8 + (1 : Int))) (1 : Int) r9.2).bind fun r12 => r_ii r12.1 fun n13 n14 => s_heap_Heap_between_l0 k n p0 i1 (r9.1.1, r9.1.2.1, r9.1.2.2) n13 n14 r12.2) else (some (.exit 0, [.slice x7.1 x7.2.1 x7.2.2], r6.2)))
termination_by structural n

theorem heap_Heap_between_l0_is (k n : Nat) (p0 : Option Addr) (i1 : Int) (x7 : Option Addr × Nat × Nat) (x8 : Int) (x9 : Int) (σ : AMem) : d_heap_Heap_between_l0 k n p0 i1 x7 x8 x9 σ = s_heap_Heap_between_l0 k n p0 i1 x7 x8 x9 σ := by
  induction n generalizing p0 i1 x7 x8 x9 σ with
  | zero => simp only [d_heap_Heap_between_l0, hide_eq]; rfl
  | succ n ih => rw [d_heap_Heap_between_l0_eq, b_heap_Heap_between_l0, s_heap_Heap_between_l0]; simp only [side_Table_Next_is, ih, strA, strR, str0, apS_3, apS_23, apS_121, apS_186]

noncomputable def s_heap_Heap_between (k : Nat) (x0 : Option Addr) (x1 : Int) (x2 : Int) (σ : AMem) : Option (Value × AMem) := match k with
  | 0 => none
  | k + 1 => (fP x0 fun x0 => fI x1 fun x1 => fI x2 fun x2 => fL σ fun σ => x0.bind fun a1 => (ldPS σ a1.block (a1.off + 2)).bind fun p2 => if (2 : Int) = 0 then none else (s_side_Table_Next k p2 (w64S (x1.tdiv (2 : Int))) (1 : Int) σ).bind fun r3 => r_ii r3.1 fun n4 n5 => (s_heap_Heap_between_l0 k k x0 x2 (none, 0, 0) n4 n5 r3.2).bind fun r15 => if r15.1 = .exit 0 then (u_l r15.2.1 fun l16 => some (.slice l16.1 l16.2.1 l16.2.2, r15.2.2)) else none)

theorem heap_Heap_between_is (k : Nat) (x0 : Option Addr) (x1 : Int) (x2 : Int) (σ : AMem) : d_heap_Heap_between k x0 x1 x2 σ = s_heap_Heap_between k x0 x1 x2 σ := by
  cases k with
  | zero => simp only [d_heap_Heap_between, hide_eq]; rfl
  | succ k => rw [d_heap_Heap_between_eq, b_heap_Heap_between, s_heap_Heap_between]; simp only [side_Table_Next_is, heap_Heap_between_l0_is, strA, strR, str0, apS_3, apS_23, apS_121, apS_186]

noncomputable def s_heap_Heap_All (k : Nat) (x0 : Option Addr) (σ : AMem) : Option (Value × AMem) := match k with
  | 0 => none
  | k + 1 => (fP x0 fun x0 => fL σ fun σ => (s_heap_Heap_made k x0 σ).bind fun r1 => (toB r1.1).bind fun b2 => bif !b2 then (some (.slice none 0 0, r1.2)) else (x0.bind fun a3 => (ldSS r1.2 a3.block (a3.off + 1)).bind fun l4 => (s_heap_Heap_between k x0 (0 : Int) ((l4.2.1 : Nat) : Int) r1.2).bind fun r5 => (toS r5.1).bind fun l6 => some (.slice l6.1 l6.2.1 l6.2.2, r5.2)))

theorem heap_Heap_All_is (k : Nat) (x0 : Option Addr) (σ : AMem) : d_heap_Heap_All k x0 σ = s_heap_Heap_All k x0 σ := by
  cases k with
  | zero => simp only [d_heap_Heap_All, hide_eq]; rfl
  | succ k => rw [d_heap_Heap_All_eq, b_heap_Heap_All, s_heap_Heap_All]; simp only [heap_Heap_made_is, heap_Heap_between_is, strA, strR, str0, apS_3, apS_23, apS_121, apS_186]

noncomputable def s_slices_DeleteFunc_int_l0 (k n : Nat) (p0 : Option Addr) (c1 : Nat) (c2 : Nat) (v3 : Value) (x5 : Int) (x6 : Int) (σ : AMem) : Option LOut := match n with
  | 0 => none
  | n + 1 => (fP p0 fun p0 => fN c1 fun c1 => fN c2 fun c2 => fI x5 fun x5 => fI x6 fun x6 => fL σ fun σ => bif decide (x6 < ((c1 : Nat) : Int)) then (if 0 ≤ x6 ∧ x6 < (c1 : Nat) then p0.bind fun a3 => (ldIS .i64 σ a3.block (a3.off + x6.toNat * 1)).bind fun n4 => (s_callV_i_t k v3 [.int .i64 n4] σ).bind fun r5 => (toB r5.1).bind fun b6 => (bif !b6 then (if 0 ≤ x5 ∧ x5 < (c1 : Nat) then p0.bind fun a7 => st1S r5.2 a7.block (a7.off + x5.toNat * 1) (.int .i64 n4) fun s8 => some (.normal, [.int .i64 (w64S (x5 + (1 : Int)))], s8) else none) else (some (.normal, [.int .i64 x5], r5.2)) : Option LOut).bind fun r9 => if r9.1 = .normal then (u_i r9.2.1 fun n10 => s_slices_DeleteFunc_int_l0 k n p0 c1 c2 v3 n10 (w64S (x6 + (1 : Int))) r9.2.2) else none else none) else (some (.exit 0, [.int .i64 x5], σ)))
termination_by structural n

theorem slices_DeleteFunc_int_l0_is (k n : Nat) (p0 : Option Addr) (c1 : Nat) (c2 : Nat) (v3 : Value) (x5 : Int) (x6 : Int) (σ : AMem) : d_slices_DeleteFunc_int_l0 k n p0 c1 c2 v3 x5 x6 σ = s_slices_DeleteFunc_int_l0 k n p0 c1 c2 v3 x5 x6 σ := by
  induction n generalizing p0 c1 c2 v3 x5 x6 σ with
  | zero => simp only [d_slices_DeleteFunc_int_l0, hide_eq]; rfl
  | succ n ih => rw [d_slices_DeleteFunc_int_l0_eq, b_slices_DeleteFunc_int_l0, s_slices_DeleteFunc_int_l0]; simp only [slices_IndexFunc_int_is, callV_i_t_is, ih, strA, strR, str0, apS_3, apS_23, apS_121, apS_186]

noncomputable def s_slices_DeleteFunc_int (k : Nat) (x0 : Option Addr × Nat × Nat) (x1 : Value) (σ : AMem) : Option (Value × AMem) := match k with
  | 0 => none
  | k + 1 => (fS x0 fun x0 => fL σ fun σ => (s_slices_IndexFunc_int k (x0.1, x0.2.1, x0.2.2) (x1) σ).bind fun r1 => (toIS .i64 r1.1).bind fun n2 => bif n2 == (-1 : Int) then (some (.slice x0.1 x0.2.1 x0.2.2, r1.2)) else ((s_slices_DeleteFunc_int_l0 k k x0.1 x0.2.1 x0.2.2 x1 n2 (w64S (n2 + (1 : Int))) r1.2).bind fun r11 => if r11.1 = .exit 0 then (u_i r11.2.1 fun n12 => (sliceD 3 1 (x0.1, x0.2.1, x0.2.2) (some (.int .i64 n12)) none none r11.2.2).bind fun l13 => (if l13.2.1 = 0 then some r11.2.2 else l13.1.bind fun a15 => stN r11.2.2 a15.block a15.off (rep l13.2.1 [.int .i64 (0 : Int)])).bind fun s14 => fMm s14 fun s14 => (sliceD 3 1 (x0.1, x0.2.1, x0.2.2) none (some (.int .i64 n12)) none s14).bind fun l16 => some (.slice l16.1 l16.2.1 l16.2.2, s14)) else none))

theorem slices_DeleteFunc_int_is (k : Nat) (x0 : Option Addr × Nat × Nat) (x1 : Value) (σ : AMem) : d_slices_DeleteFunc_int k x0 x1 σ = s_slices_DeleteFunc_int k x0 x1 σ := by
  cases k with
  | zero => simp only [d_slices_DeleteFunc_int, hide_eq]; rfl
  | succ k => rw [d_slices_DeleteFunc_int_eq, b_slices_DeleteFunc_int, s_slices_DeleteFunc_int]; simp only [slices_IndexFunc_int_is, callV_i_t_is, slices_DeleteFunc_int_l0_is, strA, strR, str0, apS_3, apS_23, apS_121, apS_186]

noncomputable def s_trace_all (k : Nat) (x0 : Option Addr) (x1 : Option Addr) (σ : AMem) : Option (Value × AMem) := match k with
  | 0 => none
  | k + 1 => (fP x0 fun x0 => fP x1 fun x1 => fL σ fun σ => allocS σ (.cells [.pointer x0] 33 true) fun h1 s2 => allocS s2 (.cells [.pointer x1] 24 true) fun h3 s4 => (ldPS s4 h1 0).bind fun p5 => (s_heap_Heap_All k p5 s4).bind fun r6 => (toS r6.1).bind fun l7 => (s_slices_DeleteFunc_int k (l7.1, l7.2.1, l7.2.2) (.func (.func 134) #[] #[.pointer (some ⟨h1, 0, none⟩), .pointer (some ⟨h3, 0, none⟩)]) r6.2).bind fun r8 => (toS r8.1).bind fun l9 => some (.slice l9.1 l9.2.1 l9.2.2, r8.2))

theorem trace_all_is (k : Nat) (x0 : Option Addr) (x1 : Option Addr) (σ : AMem) : d_trace_all k x0 x1 σ = s_trace_all k x0 x1 σ := by
  cases k with
  | zero => simp only [d_trace_all, hide_eq]; rfl
  | succ k => rw [d_trace_all_eq, b_trace_all, s_trace_all]; simp only [heap_Heap_All_is, slices_DeleteFunc_int_is, strA, strR, str0, apS_3, apS_23, apS_121, apS_186]

noncomputable def s___trace_line_int__oldest (k : Nat) (x0 : Option Addr) (σ : AMem) : Option (Value × AMem) := match k with
  | 0 => none
  | k + 1 => (fP x0 fun x0 => fL σ fun σ => x0.bind fun a1 => (ldSS σ a1.block (a1.off + 0)).bind fun l2 => if 0 ≤ (0 : Int) ∧ (0 : Int) < (l2.2.1 : Nat) then l2.1.bind fun a3 => (ldIS .i64 σ a3.block (a3.off + (0 : Int).toNat * 1)).bind fun n4 => x0.bind fun a5 => (ldSS σ a5.block (a5.off + 0)).bind fun l6 => (sliceD 3 1 (l6.1, l6.2.1, l6.2.2) (some (.int .i64 (1 : Int))) none none σ).bind fun l7 => x0.bind fun a8 => st1S σ a8.block (a8.off + 0) (.slice l7.1 l7.2.1 l7.2.2) fun s9 => fI n4 fun y10 => some (.int .i64 y10, s9) else none)

theorem __trace_line_int__oldest_is (k : Nat) (x0 : Option Addr) (σ : AMem) : d___trace_line_int__oldest k x0 σ = s___trace_line_int__oldest k x0 σ := by
  cases k with
  | zero => simp only [d___trace_line_int__oldest, hide_eq]; rfl
  | succ k => rw [d___trace_line_int__oldest_eq, b___trace_line_int__oldest, s___trace_line_int__oldest]; simp only [strA, strR, str0, apS_3, apS_23, apS_121, apS_186]

noncomputable def s_heap_Heap_object (k : Nat) (x0 : Option Addr) (x1 : Int) (σ : AMem) : Option (Value × AMem) := match k with
  | 0 => none
  | k + 1 => (fP x0 fun x0 => fI x1 fun x1 => fL σ fun σ => (s_heap_Heap_made k x0 σ).bind fun r1 => (toB r1.1).bind fun b2 => bif !b2 then (fI (5 : Int) fun y3 => some (.int .i64 y3, r1.2)) else ((s_heap_Heap_Has k x0 x1 r1.2).bind fun r4 => (toB r4.1).bind fun b5 => bif !b5 then (fI (4 : Int) fun y6 => some (.int .i64 y6, r4.2)) else (fI (0 : Int) fun y7 => some (.int .i64 y7, r4.2))))

theorem heap_Heap_object_is (k : Nat) (x0 : Option Addr) (x1 : Int) (σ : AMem) : d_heap_Heap_object k x0 x1 σ = s_heap_Heap_object k x0 x1 σ := by
  cases k with
  | zero => simp only [d_heap_Heap_object, hide_eq]; rfl
  | succ k => rw [d_heap_Heap_object_eq, b_heap_Heap_object, s_heap_Heap_object]; simp only [heap_Heap_Has_is, heap_Heap_made_is, strA, strR, str0, apS_3, apS_23, apS_121, apS_186]

noncomputable def s_heap_shape (k : Nat) (x0 : Int) (σ : AMem) : Option (Value × AMem) := match k with
  | 0 => none
  | k + 1 => (fI x0 fun x0 => fL σ fun σ => allocS σ (.cells [.int .i64 (0 : Int), .int .i64 (0 : Int), .int .i64 (0 : Int)] 57 true) fun h1 s2 => if (16 : Int) = 0 then none else if (4096 : Int) = 0 then none else if (16 : Int) = 0 then none else if (4096 : Int) = 0 then none else stNS s2 h1 0 [.int .i64 (x0.tmod (16 : Int)), .int .i64 (w64S ((x0.tmod (4096 : Int)).tdiv (16 : Int))), .int .i64 (w64S (x0.tdiv (4096 : Int)))] fun s3 => (((ldNS s3 h1 0 3).bind fun v4 => some (.agg v4.toArray)).bind fun v5 => some [v5]).bind fun vs6 => some (resOf vs6, s3))

theorem heap_shape_is (k : Nat) (x0 : Int) (σ : AMem) : d_heap_shape k x0 σ = s_heap_shape k x0 σ := by
  cases k with
  | zero => simp only [d_heap_shape, hide_eq]; rfl
  | succ k => rw [d_heap_shape_eq, b_heap_shape, s_heap_shape]; simp only [strA, strR, str0, apS_3, apS_23, apS_121, apS_186]

noncomputable def s_heap_Heap_Shape (k : Nat) (x0 : Option Addr) (x1 : Int) (σ : AMem) : Option (Value × AMem) := match k with
  | 0 => none
  | k + 1 => (fP x0 fun x0 => fI x1 fun x1 => fL σ fun σ => allocS σ (.cells [.int .i64 (0 : Int), .int .i64 (0 : Int), .int .i64 (0 : Int)] 57 true) fun h1 s2 => (s_heap_Heap_object k x0 x1 s2).bind fun r3 => (toIS .i64 r3.1).bind fun n4 => bif n4 != (0 : Int) then (stNS r3.2 h1 0 [.int .i64 (0 : Int), .int .i64 (0 : Int), .int .i64 (0 : Int)] fun s5 => (((ldNS s5 h1 0 3).bind fun v6 => some (.agg v6.toArray)).bind fun v7 => some [v7, .int .i64 n4]).bind fun vs8 => some (resOf vs8, s5)) else (x0.bind fun a9 => (ldSS r3.2 a9.block (a9.off + 1)).bind fun l10 => if 0 ≤ (w64S (x1 + (1 : Int))) ∧ (w64S (x1 + (1 : Int))) < (l10.2.1 : Nat) then l10.1.bind fun a11 => (ldIS .i64 r3.2 a11.block (a11.off + (w64S (x1 + (1 : Int))).toNat * 1)).bind fun n12 => (s_heap_shape k n12 r3.2).bind fun r13 => a_iii r13.1 fun n14 n15 n16 => stNS r13.2 h1 0 [.int .i64 n14, .int .i64 n15, .int .i64 n16] fun s17 => (((ldNS s17 h1 0 3).bind fun v18 => some (.agg v18.toArray)).bind fun v19 => some [v19, .int .i64 (0 : Int)]).bind fun vs20 => some (resOf vs20, s17) else none))

theorem heap_Heap_Shape_is (k : Nat) (x0 : Option Addr) (x1 : Int) (σ : AMem) : d_heap_Heap_Shape k x0 x1 σ = s_heap_Heap_Shape k x0 x1 σ := by
  cases k with
  | zero => simp only [d_heap_Heap_Shape, hide_eq]; rfl
  | succ k => rw [d_heap_Heap_Shape_eq, b_heap_Heap_Shape, s_heap_Heap_Shape]; simp only [heap_Heap_object_is, heap_shape_is, strA, strR, str0, apS_3, apS_23, apS_121, apS_186]

noncomputable def s_trace_softs (k : Nat) (x0_0 : Int) (x0_1 : Int) (x0_2 : Int) (σ : AMem) : Option (Value × AMem) := match k with
  | 0 => none
  | k + 1 => (fI x0_0 fun x0_0 => fI x0_1 fun x0_1 => fI x0_2 fun x0_2 => fL σ fun σ => allocS σ (.cells [.int .i64 x0_0, .int .i64 x0_1, .int .i64 x0_2] 57 true) fun h1 s2 => (ldIS .i64 s2 h1 (0 + 2)).bind fun n3 => bif n3 == (1 : Int) then (fI (1 : Int) fun y4 => some (.int .i64 y4, s2)) else (bif n3 == (2 : Int) then (fI (2 : Int) fun y5 => some (.int .i64 y5, s2)) else (fI (0 : Int) fun y6 => some (.int .i64 y6, s2))))

theorem trace_softs_is (k : Nat) (x0_0 : Int) (x0_1 : Int) (x0_2 : Int) (σ : AMem) : d_trace_softs k x0_0 x0_1 x0_2 σ = s_trace_softs k x0_0 x0_1 x0_2 σ := by
  cases k with
  | zero => simp only [d_trace_softs, hide_eq]; rfl
  | succ k => rw [d_trace_softs_eq, b_trace_softs, s_trace_softs]; simp only [strA, strR, str0, apS_3, apS_23, apS_121, apS_186]

noncomputable def s_heap_Heap_field (k : Nat) (x0 : Option Addr) (x1 : Int) (x2 : Int) (x3 : Bool) (σ : AMem) : Option (Value × AMem) := match k with
  | 0 => none
  | k + 1 => (fP x0 fun x0 => fI x1 fun x1 => fI x2 fun x2 => fB x3 fun x3 => fL σ fun σ => (s_heap_Heap_object k x0 x1 σ).bind fun r1 => (toIS .i64 r1.1).bind fun n2 => bif n2 != (0 : Int) then (fI (0 : Int) fun y3 => fI n2 fun y4 => some (.tuple #[.int .i64 y3, .int .i64 y4], r1.2)) else (x0.bind fun a5 => (ldSS r1.2 a5.block (a5.off + 1)).bind fun l6 => if 0 ≤ (w64S (x1 + (1 : Int))) ∧ (w64S (x1 + (1 : Int))) < (l6.2.1 : Nat) then l6.1.bind fun a7 => (ldIS .i64 r1.2 a7.block (a7.off + (w64S (x1 + (1 : Int))).toNat * 1)).bind fun n8 => (s_heap_shape k n8 r1.2).bind fun r9 => a_iii r9.1 fun n10 n11 n12 => allocS r9.2 (.cells [.int .i64 (0 : Int), .int .i64 (0 : Int), .int .i64 (0 : Int)] 57 true) fun h13 s14 => stNS s14 h13 0 [.int .i64 n10, .int .i64 n11, .int .i64 n12] fun s15 => (ldIS .i64 s15 h13 (0 + 0)).bind fun n16 => (bif x3 then ((ldIS .i64 s15 h13 (0 + 0)).bind fun n17 => (ldIS .i64 s15 h13 (0 + 1)).bind fun n18 => some (.normal, [.int .i64 (w64S ((w64S (x1 + (2 : Int))) + n17)), .int .i64 n18], s15)) else (some (.normal, [.int .i64 (w64S (x1 + (2 : Int))), .int .i64 n16], s15)) : Option LOut).bind fun r19 => if r19.1 = .normal then (u_ii r19.2.1 fun n20 n21 => (bif decide (x2 < (0 : Int)) then some (true, r19.2.2) else some (decide (x2 ≥ n21), r19.2.2)).bind fun r22 => bif r22.1 then (fI (0 : Int) fun y23 => fI (1 : Int) fun y24 => some (.tuple #[.int .i64 y23, .int .i64 y24], r22.2)) else (fI (w64S (n20 + x2)) fun y25 => fI (0 : Int) fun y26 => some (.tuple #[.int .i64 y25, .int .i64 y26], r22.2))) else none else none))

theorem heap_Heap_field_is (k : Nat) (x0 : Option Addr) (x1 : Int) (x2 : Int) (x3 : Bool) (σ : AMem) : d_heap_Heap_field k x0 x1 x2 x3 σ = s_heap_Heap_field k x0 x1 x2 x3 σ := by
  cases k with
  | zero => simp only [d_heap_Heap_field, hide_eq]; rfl
  | succ k => rw [d_heap_Heap_field_eq, b_heap_Heap_field, s_heap_Heap_field]; simp only [heap_Heap_object_is, heap_shape_is, strA, strR, str0, apS_3, apS_23, apS_121, apS_186]

noncomputable def s_heap_Heap_Ref (k : Nat) (x0 : Option Addr) (x1 : Int) (x2 : Int) (σ : AMem) : Option (Value × AMem) := match k with
  | 0 => none
  | k + 1 => (fP x0 fun x0 => fI x1 fun x1 => fI x2 fun x2 => fL σ fun σ => (s_heap_Heap_field k x0 x1 x2 false σ).bind fun r1 => r_ii r1.1 fun n2 n3 => bif n3 != (0 : Int) then (fI (0 : Int) fun y4 => fI n3 fun y5 => some (.tuple #[.int .i64 y4, .int .i64 y5], r1.2)) else (x0.bind fun a6 => (ldSS r1.2 a6.block (a6.off + 1)).bind fun l7 => if 0 ≤ n2 ∧ n2 < (l7.2.1 : Nat) then l7.1.bind fun a8 => (ldIS .i64 r1.2 a8.block (a8.off + n2.toNat * 1)).bind fun n9 => fI n9 fun y10 => fI (0 : Int) fun y11 => some (.tuple #[.int .i64 y10, .int .i64 y11], r1.2) else none))

theorem heap_Heap_Ref_is (k : Nat) (x0 : Option Addr) (x1 : Int) (x2 : Int) (σ : AMem) : d_heap_Heap_Ref k x0 x1 x2 σ = s_heap_Heap_Ref k x0 x1 x2 σ := by
  cases k with
  | zero => simp only [d_heap_Heap_Ref, hide_eq]; rfl
  | succ k => rw [d_heap_Heap_Ref_eq, b_heap_Heap_Ref, s_heap_Heap_Ref]; simp only [heap_Heap_field_is, strA, strR, str0, apS_3, apS_23, apS_121, apS_186]

noncomputable def s_trace_strong_l0 (k n : Nat) (p0 : Option Addr) (i1 : Int) (h2 : Nat) (x7 : Option Addr × Nat × Nat) (x8 : Int) (σ : AMem) : Option LOut := match n with
  | 0 => none
  | n + 1 => (fP p0 fun p0 => fI i1 fun i1 => fN h2 fun h2 => fS x7 fun x7 => fI x8 fun x8 => fL σ fun σ => (ldIS .i64 σ h2 (0 + 0)).bind fun n17 => bif decide (x8 < n17) then ((s_heap_Heap_Ref k p0 i1 x8 σ).bind fun r18 => r_ii r18.1 fun n19 n20 => allocS r18.2 (.cells [.int .i64 n19] 3 true) fun h21 s22 => appendS 3 1 8 (x7.1, x7.2.1, x7.2.2) (some ⟨h21, 0, none⟩, 1, 1) s22 fun r23 => s_trace_strong_l0 k n p0 i1 h2 (r23.1.1, r23.1.2.1, r23.1.2.2) (w64S (x8 + (1 : Int))) r23.2) else (some (.exit 0, [.slice x7.1 x7.2.1 x7.2.2], σ)))
termination_by structural n

theorem trace_strong_l0_is (k n : Nat) (p0 : Option Addr) (i1 : Int) (h2 : Nat) (x7 : Option Addr × Nat × Nat) (x8 : Int) (σ : AMem) : d_trace_strong_l0 k n p0 i1 h2 x7 x8 σ = s_trace_strong_l0 k n p0 i1 h2 x7 x8 σ := by
  induction n generalizing p0 i1 h2 x7 x8 σ with
  | zero => simp only [d_trace_strong_l0, hide_eq]; rfl
  | succ n ih => rw [d_trace_strong_l0_eq, b_trace_strong_l0, s_trace_strong_l0]; simp only [heap_Heap_Shape_is, trace_softs_is, heap_Heap_Ref_is, ih, strA, strR, str0, apS_3, apS_23, apS_121, apS_186]

noncomputable def s_trace_strong (k : Nat) (x0 : Option Addr) (x1 : Int) (σ : AMem) : Option (Value × AMem) := match k with
  | 0 => none
  | k + 1 => (fP x0 fun x0 => fI x1 fun x1 => fL σ fun σ => (s_heap_Heap_Shape k x0 x1 σ).bind fun r1 => (toT r1.1).bind fun q2 => if q2.length = 2 then q2.head?.bind fun v3 => a_iii v3 fun n4 n5 n6 => q2.tail.head?.bind fun v7 => (toIS .i64 v7).bind fun n8 => allocS r1.2 (.cells [.int .i64 (0 : Int), .int .i64 (0 : Int), .int .i64 (0 : Int)] 57 true) fun h9 s10 => stNS s10 h9 0 [.int .i64 n4, .int .i64 n5, .int .i64 n6] fun s11 => (ldIS .i64 s11 h9 0).bind fun n12 => (ldIS .i64 s11 h9 (0 + 1)).bind fun n13 => (ldIS .i64 s11 h9 (0 + 1 + 1)).bind fun n14 => (s_trace_softs k n12 n13 n14 s11).bind fun r15 => (toIS .i64 r15.1).bind fun n16 => (s_trace_strong_l0 k k x0 x1 h9 (none, 0, 0) n16 r15.2).bind fun r24 => if r24.1 = .exit 0 then (u_l r24.2.1 fun l25 => some (.slice l25.1 l25.2.1 l25.2.2, r24.2.2)) else none else none)

theorem trace_strong_is (k : Nat) (x0 : Option Addr) (x1 : Int) (σ : AMem) : d_trace_strong k x0 x1 σ = s_trace_strong k x0 x1 σ := by
  cases k with
  | zero => simp only [d_trace_strong, hide_eq]; rfl
  | succ k => rw [d_trace_strong_eq, b_trace_strong, s_trace_strong]; simp only [heap_Heap_Shape_is, trace_softs_is, heap_Heap_Ref_is, trace_strong_l0_is, strA, strR, str0, apS_3, apS_23, apS_121, apS_186]

noncomputable def s_trace_marker_scan_l0 (k n : Nat) (p0 : Option Addr) (p1 : Option Addr) (c2 : Nat) (c3 : Nat) (i4 : Int) (x22 : Int) (σ : AMem) : Option LOut := match n with
  | 0 => none
  | n + 1 => (fP p0 fun p0 => fP p1 fun p1 => fN c2 fun c2 => fN c3 fun c3 => fI i4 fun i4 => fI x22 fun x22 => fL σ fun σ => bif decide (x22 < i4) then (if 0 ≤ x22 ∧ x22 < (c2 : Nat) then p1.bind fun a9 => (ldIS .i64 σ a9.block (a9.off + x22.toNat * 1)).bind fun n10 => (s_trace_marker_reach k p0 n10 σ).bind fun r11 => (toB r11.1).bind fun b12 => s_trace_marker_scan_l0 k n p0 p1 c2 c3 i4 (w64S (x22 + (1 : Int))) r11.2 else none) else (some (.exit 0, [], σ)))
termination_by structural n

theorem trace_marker_scan_l0_is (k n : Nat) (p0 : Option Addr) (p1 : Option Addr) (c2 : Nat) (c3 : Nat) (i4 : Int) (x22 : Int) (σ : AMem) : d_trace_marker_scan_l0 k n p0 p1 c2 c3 i4 x22 σ = s_trace_marker_scan_l0 k n p0 p1 c2 c3 i4 x22 σ := by
  induction n generalizing p0 p1 c2 c3 i4 x22 σ with
  | zero => simp only [d_trace_marker_scan_l0, hide_eq]; rfl
  | succ n ih => rw [d_trace_marker_scan_l0_eq, b_trace_marker_scan_l0, s_trace_marker_scan_l0]; simp only [trace_marker_reach_is, trace_strong_is, ih, strA, strR, str0, apS_3, apS_23, apS_121, apS_186]

noncomputable def s_trace_marker_scan (k : Nat) (x0 : Option Addr) (x1 : Int) (σ : AMem) : Option (Value × AMem) := match k with
  | 0 => none
  | k + 1 => (fP x0 fun x0 => fI x1 fun x1 => fL σ fun σ => x0.bind fun a1 => (ldIS .i64 σ a1.block (a1.off + 6 + 0)).bind fun n2 => x0.bind fun a3 => st1S σ a3.block (a3.off + 6 + 0) (.int .i64 (w64S (n2 + (1 : Int)))) fun s4 => x0.bind fun a5 => (ldPS s4 a5.block (a5.off + 0)).bind fun p6 => (s_trace_strong k p6 x1 s4).bind fun r7 => (toS r7.1).bind fun l8 => (s_trace_marker_scan_l0 k k x0 l8.1 l8.2.1 l8.2.2 ((l8.2.1 : Nat) : Int) (0 : Int) r7.2).bind fun r13 => if r13.1 = .exit 0 then (some (.tuple #[], r13.2.2)) else none)

theorem trace_marker_scan_is (k : Nat) (x0 : Option Addr) (x1 : Int) (σ : AMem) : d_trace_marker_scan k x0 x1 σ = s_trace_marker_scan k x0 x1 σ := by
  cases k with
  | zero => simp only [d_trace_marker_scan, hide_eq]; rfl
  | succ k => rw [d_trace_marker_scan_eq, b_trace_marker_scan, s_trace_marker_scan]; simp only [trace_marker_reach_is, trace_strong_is, trace_marker_scan_l0_is, strA, strR, str0, apS_3, apS_23, apS_121, apS_186]

noncomputable def s___trace_line_int__newest (k : Nat) (x0 : Option Addr) (σ : AMem) : Option (Value × AMem) := match k with
  | 0 => none
  | k + 1 => (fP x0 fun x0 => fL σ fun σ => x0.bind fun a1 => (ldSS σ a1.block (a1.off + 0)).bind fun l2 => x0.bind fun a3 => (ldSS σ a3.block (a3.off + 0)).bind fun l4 => if 0 ≤ (w64S (((l4.2.1 : Nat) : Int) - (1 : Int))) ∧ (w64S (((l4.2.1 : Nat) : Int) - (1 : Int))) < (l2.2.1 : Nat) then l2.1.bind fun a5 => (ldIS .i64 σ a5.block (a5.off + (w64S (((l4.2.1 : Nat) : Int) - (1 : Int))).toNat * 1)).bind fun n6 => x0.bind fun a7 => (ldSS σ a7.block (a7.off + 0)).bind fun l8 => x0.bind fun a9 => (ldSS σ a9.block (a9.off + 0)).bind fun l10 => (sliceD 3 1 (l8.1, l8.2.1, l8.2.2) none (some (.int .i64 (w64S (((l10.2.1 : Nat) : Int) - (1 : Int))))) none σ).bind fun l11 => x0.bind fun a12 => st1S σ a12.block (a12.off + 0) (.slice l11.1 l11.2.1 l11.2.2) fun s13 => fI n6 fun y14 => some (.int .i64 y14, s13) else none)

theorem __trace_line_int__newest_is (k : Nat) (x0 : Option Addr) (σ : AMem) : d___trace_line_int__newest k x0 σ = s___trace_line_int__newest k x0 σ := by
  cases k with
  | zero => simp only [d___trace_line_int__newest, hide_eq]; rfl
  | succ k => rw [d___trace_line_int__newest_eq, b___trace_line_int__newest, s___trace_line_int__newest]; simp only [strA, strR, str0, apS_3, apS_23, apS_121, apS_186]

noncomputable def s_trace_marker_drain_l0 (k n : Nat) (p0 : Option Addr)  (σ : AMem) : Option LOut := match n with
  | 0 => none
  | n + 1 => (fP p0 fun p0 => fL σ fun σ => p0.bind fun a1 => (ldSS σ a1.block (a1.off + 2 + 0)).bind fun l2 => bif decide (((l2.2.1 : Nat) : Int) > (0 : Int)) then (p0.bind fun a3 => (ldIS .i64 σ a3.block (a3.off + 3)).bind fun n4 => (bif n4 == (0 : Int) then (p0.bind fun a5 => (s___trace_line_int__newest k (some ⟨a5.block, a5.off + 2, none⟩) σ).bind fun r6 => (toIS .i64 r6.1).bind fun n7 => (s_trace_marker_scan k p0 n7 r6.2).bind fun r8 => r_0 r8.1 (some (.normal, [], r8.2))) else (p0.bind fun a9 => (s___trace_line_int__oldest k (some ⟨a9.block, a9.off + 2, none⟩) σ).bind fun r10 => (toIS .i64 r10.1).bind fun n11 => (s_trace_marker_scan k p0 n11 r10.2).bind fun r12 => r_0 r12.1 (some (.normal, [], r12.2))) : Option LOut).bind fun r13 => if r13.1 = .normal then (s_trace_marker_drain_l0 k n p0  r13.2.2) else none) else (some (.exit 0, [], σ)))
termination_by structural n

theorem trace_marker_drain_l0_is (k n : Nat) (p0 : Option Addr)  (σ : AMem) : d_trace_marker_drain_l0 k n p0 σ = s_trace_marker_drain_l0 k n p0 σ := by
  induction n generalizing p0 σ with
  | zero => simp only [d_trace_marker_drain_l0, hide_eq]; rfl
  | succ n ih => rw [d_trace_marker_drain_l0_eq, b_trace_marker_drain_l0, s_trace_marker_drain_l0]; simp only [__trace_line_int__oldest_is, trace_marker_scan_is, __trace_line_int__newest_is, ih, strA, strR, str0, apS_3, apS_23, apS_121, apS_186]

noncomputable def s_trace_marker_drain (k : Nat) (x0 : Option Addr) (σ : AMem) : Option (Value × AMem) := match k with
  | 0 => none
  | k + 1 => (fP x0 fun x0 => fL σ fun σ => (s_trace_marker_drain_l0 k k x0  σ).bind fun r14 => if r14.1 = .exit 0 then (some (.tuple #[], r14.2.2)) else none)

theorem trace_marker_drain_is (k : Nat) (x0 : Option Addr) (σ : AMem) : d_trace_marker_drain k x0 σ = s_trace_marker_drain k x0 σ := by
  cases k with
  | zero => simp only [d_trace_marker_drain, hide_eq]; rfl
  | succ k => rw [d_trace_marker_drain_eq, b_trace_marker_drain, s_trace_marker_drain]; simp only [__trace_line_int__oldest_is, trace_marker_scan_is, __trace_line_int__newest_is, trace_marker_drain_l0_is, strA, strR, str0, apS_3, apS_23, apS_121, apS_186]

noncomputable def s_trace_marker_run_l1 (k n : Nat) (p0 : Option Addr) (p1 : Option Addr) (c2 : Nat) (c3 : Nat) (i4 : Int) (x32 : Int) (σ : AMem) : Option LOut := match n with
  | 0 => none
  | n + 1 => (fP p0 fun p0 => fP p1 fun p1 => fN c2 fun c2 => fN c3 fun c3 => fI i4 fun i4 => fI x32 fun x32 => fL σ fun σ => bif decide (x32 < i4) then (if 0 ≤ x32 ∧ x32 < (c2 : Nat) then p1.bind fun a16 => (ldIS .i64 σ a16.block (a16.off + x32.toNat * 1)).bind fun n17 => (s_trace_marker_scan k p0 n17 σ).bind fun r18 => r_0 r18.1 ((s_trace_marker_drain k p0 r18.2).bind fun r19 => r_0 r19.1 (s_trace_marker_run_l1 k n p0 p1 c2 c3 i4 (w64S (x32 + (1 : Int))) r19.2)) else none) else (some (.exit 2, [], σ)))
termination_by structural n

theorem trace_marker_run_l1_is (k n : Nat) (p0 : Option Addr) (p1 : Option Addr) (c2 : Nat) (c3 : Nat) (i4 : Int) (x32 : Int) (σ : AMem) : d_trace_marker_run_l1 k n p0 p1 c2 c3 i4 x32 σ = s_trace_marker_run_l1 k n p0 p1 c2 c3 i4 x32 σ := by
  induction n generalizing p0 p1 c2 c3 i4 x32 σ with
  | zero => simp only [d_trace_marker_run_l1, hide_eq]; rfl
  | succ n ih => rw [d_trace_marker_run_l1_eq, b_trace_marker_run_l1, s_trace_marker_run_l1]; simp only [trace_all_is, trace_marker_drain_is, trace_marker_scan_is, ih, strA, strR, str0, apS_3, apS_23, apS_121, apS_186]

noncomputable def s_trace_marker_run_l0 (k n : Nat) (p0 : Option Addr)  (σ : AMem) : Option LOut := match n with
  | 0 => none
  | n + 1 => (fP p0 fun p0 => fL σ fun σ => p0.bind fun a2 => (ldBS σ a2.block (a2.off + 5)).bind fun b3 => bif b3 then (p0.bind fun a4 => st1S σ a4.block (a4.off + 5) (.bool false) fun s5 => p0.bind fun a6 => (ldIS .i64 s5 a6.block (a6.off + 6 + 2)).bind fun n7 => p0.bind fun a8 => st1S s5 a8.block (a8.off + 6 + 2) (.int .i64 (w64S (n7 + (1 : Int)))) fun s9 => p0.bind fun a10 => (ldPS s9 a10.block (a10.off + 0)).bind fun p11 => p0.bind fun a12 => (ldPS s9 a12.block (a12.off + 1)).bind fun p13 => (s_trace_all k p11 p13 s9).bind fun r14 => (toS r14.1).bind fun l15 => (s_trace_marker_run_l1 k k p0 l15.1 l15.2.1 l15.2.2 ((l15.2.1 : Nat) : Int) (0 : Int) r14.2).bind fun r20 => if r20.1 = .exit 2 then (s_trace_marker_run_l0 k n p0  r20.2.2) else none) else (some (.exit 0, [], σ)))
termination_by structural n

theorem trace_marker_run_l0_is (k n : Nat) (p0 : Option Addr)  (σ : AMem) : d_trace_marker_run_l0 k n p0 σ = s_trace_marker_run_l0 k n p0 σ := by
  induction n generalizing p0 σ with
  | zero => simp only [d_trace_marker_run_l0, hide_eq]; rfl
  | succ n ih => rw [d_trace_marker_run_l0_eq, b_trace_marker_run_l0, s_trace_marker_run_l0]; simp only [trace_all_is, trace_marker_drain_is, trace_marker_scan_is, trace_marker_run_l1_is, ih, strA, strR, str0, apS_3, apS_23, apS_121, apS_186]

noncomputable def s_trace_marker_run (k : Nat) (x0 : Option Addr) (σ : AMem) : Option (Value × AMem) := match k with
  | 0 => none
  | k + 1 => (fP x0 fun x0 => fL σ fun σ => (s_trace_marker_drain k x0 σ).bind fun r1 => r_0 r1.1 ((s_trace_marker_run_l0 k k x0  r1.2).bind fun r21 => if r21.1 = .exit 0 then (some (.tuple #[], r21.2.2)) else none))

theorem trace_marker_run_is (k : Nat) (x0 : Option Addr) (σ : AMem) : d_trace_marker_run k x0 σ = s_trace_marker_run k x0 σ := by
  cases k with
  | zero => simp only [d_trace_marker_run, hide_eq]; rfl
  | succ k => rw [d_trace_marker_run_eq, b_trace_marker_run, s_trace_marker_run]; simp only [trace_all_is, trace_marker_drain_is, trace_marker_scan_is, trace_marker_run_l1_is, trace_marker_run_l0_is, strA, strR, str0, apS_3, apS_23, apS_121, apS_186]

noncomputable def s_trace_due_l0 (k n : Nat) (p0 : Option Addr) (p1 : Option Addr) (p2 : Option Addr) (c3 : Nat) (c4 : Nat) (i5 : Int) (x5 : Option Addr × Nat × Nat) (x18 : Int) (σ : AMem) : Option LOut := match n with
  | 0 => none
  | n + 1 => (fP p0 fun p0 => fP p1 fun p1 => fP p2 fun p2 => fN c3 fun c3 => fN c4 fun c4 => fI i5 fun i5 => fS x5 fun x5 => fI x18 fun x18 => fL σ fun σ => bif decide (x18 < i5) then (if 0 ≤ x18 ∧ x18 < (c3 : Nat) then p2.bind fun a3 => (ldIS .i64 σ a3.block (a3.off + x18.toNat * 1)).bind fun n4 => (s_heap_Heap_Shape k p0 n4 σ).bind fun r5 => (toT r5.1).bind fun q6 => if q6.length = 2 then q6.head?.bind fun v7 => a_iii v7 fun n8 n9 n10 => q6.tail.head?.bind fun v11 => (toIS .i64 v11).bind fun n12 => allocS r5.2 (.cells [.int .i64 (0 : Int), .int .i64 (0 : Int), .int .i64 (0 : Int)] 57 true) fun h13 s14 => stNS s14 h13 0 [.int .i64 n8, .int .i64 n9, .int .i64 n10] fun s15 => (s_heap_Heap_Ref k p0 n4 (0 : Int) s15).bind fun r16 => r_ii r16.1 fun n17 n18 => (ldIS .i64 r16.2 h13 (0 + 2)).bind fun n19 => (bif n19 == (2 : Int) then (s_trace_marked k p0 p1 n17 r16.2).bind fun r20 => (toB r20.1).bind fun b21 => some (b21, r20.2) else some (false, r16.2)).bind fun r22 => (bif r22.1 then ((s_heap_Heap_Ref k p0 n4 (1 : Int) r22.2).bind fun r23 => r_ii r23.1 fun n24 n25 => allocS r23.2 (.cells [.int .i64 n24] 3 true) fun h26 s27 => appendS 3 1 8 (x5.1, x5.2.1, x5.2.2) (some ⟨h26, 0, none⟩, 1, 1) s27 fun r28 => some (.normal, [.slice r28.1.1 r28.1.2.1 r28.1.2.2], r28.2)) else (some (.normal, [.slice x5.1 x5.2.1 x5.2.2], r22.2)) : Option LOut).bind fun r29 => if r29.1 = .normal then (u_l r29.2.1 fun l30 => s_trace_due_l0 k n p0 p1 p2 c3 c4 i5 (l30.1, l30.2.1, l30.2.2) (w64S (x18 + (1 : Int))) r29.2.2) else none else none else none) else (some (.exit 0, [.slice x5.1 x5.2.1 x5.2.2], σ)))
termination_by structural n

theorem trace_due_l0_is (k n : Nat) (p0 : Option Addr) (p1 : Option Addr) (p2 : Option Addr) (c3 : Nat) (c4 : Nat) (i5 : Int) (x5 : Option Addr × Nat × Nat) (x18 : Int) (σ : AMem) : d_trace_due_l0 k n p0 p1 p2 c3 c4 i5 x5 x18 σ = s_trace_due_l0 k n p0 p1 p2 c3 c4 i5 x5 x18 σ := by
  induction n generalizing p0 p1 p2 c3 c4 i5 x5 x18 σ with
  | zero => simp only [d_trace_due_l0, hide_eq]; rfl
  | succ n ih => rw [d_trace_due_l0_eq, b_trace_due_l0, s_trace_due_l0]; simp only [trace_all_is, heap_Heap_Shape_is, heap_Heap_Ref_is, trace_marked_is, ih, strA, strR, str0, apS_3, apS_23, apS_121, apS_186]

noncomputable def s_trace_due (k : Nat) (x0 : Option Addr) (x1 : Option Addr) (σ : AMem) : Option (Value × AMem) := match k with
  | 0 => none
  | k + 1 => (fP x0 fun x0 => fP x1 fun x1 => fL σ fun σ => (s_trace_all k x0 x1 σ).bind fun r1 => (toS r1.1).bind fun l2 => (s_trace_due_l0 k k x0 x1 l2.1 l2.2.1 l2.2.2 ((l2.2.1 : Nat) : Int) (none, 0, 0) (0 : Int) r1.2).bind fun r31 => if r31.1 = .exit 0 then (u_l r31.2.1 fun l32 => some (.slice l32.1 l32.2.1 l32.2.2, r31.2.2)) else none)

theorem trace_due_is (k : Nat) (x0 : Option Addr) (x1 : Option Addr) (σ : AMem) : d_trace_due k x0 x1 σ = s_trace_due k x0 x1 σ := by
  cases k with
  | zero => simp only [d_trace_due, hide_eq]; rfl
  | succ k => rw [d_trace_due_eq, b_trace_due, s_trace_due]; simp only [trace_all_is, heap_Heap_Shape_is, heap_Heap_Ref_is, trace_marked_is, trace_due_l0_is, strA, strR, str0, apS_3, apS_23, apS_121, apS_186]

noncomputable def s_trace_marker_round_l0 (k n : Nat) (p0 : Option Addr) (p1 : Option Addr) (c2 : Nat) (c3 : Nat) (i4 : Int) (x3 : Bool) (x25 : Int) (σ : AMem) : Option LOut := match n with
  | 0 => none
  | n + 1 => (fP p0 fun p0 => fP p1 fun p1 => fN c2 fun c2 => fN c3 fun c3 => fI i4 fun i4 => fB x3 fun x3 => fI x25 fun x25 => fL σ fun σ => bif decide (x25 < i4) then (if 0 ≤ x25 ∧ x25 < (c2 : Nat) then p1.bind fun a11 => (ldIS .i64 σ a11.block (a11.off + x25.toNat * 1)).bind fun n12 => (s_trace_marker_reach k p0 n12 σ).bind fun r13 => (toB r13.1).bind fun b14 => (bif b14 then some (true, r13.2) else some (x3, r13.2)).bind fun r15 => s_trace_marker_round_l0 k n p0 p1 c2 c3 i4 r15.1 (w64S (x25 + (1 : Int))) r15.2 else none) else (some (.exit 0, [.bool x3], σ)))
termination_by structural n

theorem trace_marker_round_l0_is (k n : Nat) (p0 : Option Addr) (p1 : Option Addr) (c2 : Nat) (c3 : Nat) (i4 : Int) (x3 : Bool) (x25 : Int) (σ : AMem) : d_trace_marker_round_l0 k n p0 p1 c2 c3 i4 x3 x25 σ = s_trace_marker_round_l0 k n p0 p1 c2 c3 i4 x3 x25 σ := by
  induction n generalizing p0 p1 c2 c3 i4 x3 x25 σ with
  | zero => simp only [d_trace_marker_round_l0, hide_eq]; rfl
  | succ n ih => rw [d_trace_marker_round_l0_eq, b_trace_marker_round_l0, s_trace_marker_round_l0]; simp only [trace_marker_reach_is, trace_due_is, ih, strA, strR, str0, apS_3, apS_23, apS_121, apS_186]

noncomputable def s_trace_marker_round (k : Nat) (x0 : Option Addr) (σ : AMem) : Option (Value × AMem) := match k with
  | 0 => none
  | k + 1 => (fP x0 fun x0 => fL σ fun σ => x0.bind fun a1 => (ldIS .i64 σ a1.block (a1.off + 6 + 3)).bind fun n2 => x0.bind fun a3 => st1S σ a3.block (a3.off + 6 + 3) (.int .i64 (w64S (n2 + (1 : Int)))) fun s4 => x0.bind fun a5 => (ldPS s4 a5.block (a5.off + 0)).bind fun p6 => x0.bind fun a7 => (ldPS s4 a7.block (a7.off + 1)).bind fun p8 => (s_trace_due k p6 p8 s4).bind fun r9 => (toS r9.1).bind fun l10 => (s_trace_marker_round_l0 k k x0 l10.1 l10.2.1 l10.2.2 ((l10.2.1 : Nat) : Int) false (0 : Int) r9.2).bind fun r16 => if r16.1 = .exit 0 then (u_t r16.2.1 fun b17 => fB b17 fun y18 => some (.bool y18, r16.2.2)) else none)

theorem trace_marker_round_is (k : Nat) (x0 : Option Addr) (σ : AMem) : d_trace_marker_round k x0 σ = s_trace_marker_round k x0 σ := by
  cases k with
  | zero => simp only [d_trace_marker_round, hide_eq]; rfl
  | succ k => rw [d_trace_marker_round_eq, b_trace_marker_round, s_trace_marker_round]; simp only [trace_marker_reach_is, trace_due_is, trace_marker_round_l0_is, strA, strR, str0, apS_3, apS_23, apS_121, apS_186]

noncomputable def s_trace_Mark_l0 (k n : Nat) (p0 : Option Addr) (h1 : Nat) (p2 : Option Addr) (c3 : Nat) (c4 : Nat) (i5 : Int) (x47 : Int) (σ : AMem) : Option LOut := match n with
  | 0 => none
  | n + 1 => (fP p0 fun p0 => fN h1 fun h1 => fP p2 fun p2 => fN c3 fun c3 => fN c4 fun c4 => fI x47 fun x47 => fL σ fun σ => bif decide (x47 < i5) then (if 0 ≤ x47 ∧ x47 < (c3 : Nat) then p2.bind fun a20 => (ldIS .i64 σ a20.block (a20.off + x47.toNat * 3)).bind fun n21 => (ldIS .i64 σ a20.block (a20.off + x47.toNat * 3 + 1)).bind fun n22 => (ldIS .i64 σ a20.block (a20.off + x47.toNat * 3 + 1 + 1)).bind fun n23 => allocS σ (.cells [.int .i64 (0 : Int), .int .i64 (0 : Int), .int .i64 (0 : Int)] 121 true) fun h24 s25 => stNS s25 h24 0 [.int .i64 n21, .int .i64 n22, .int .i64 n23] fun s26 => (ldIS .i64 s26 h24 0).bind fun n27 => (ldIS .i64 s26 h24 (0 + 1)).bind fun n28 => (ldIS .i64 s26 h24 (0 + 1 + 1)).bind fun n29 => (s_roots_Roots_Get k p0 n27 n28 n29 s26).bind fun r30 => r_ii r30.1 fun n31 n32 => (s_trace_marker_reach k (some ⟨h1, 0, none⟩) n31 r30.2).bind fun r33 => (toB r33.1).bind fun b34 => s_trace_Mark_l0 k n p0 h1 p2 c3 c4 i5 (w64S (x47 + (1 : Int))) r33.2 else none) else (some (.exit 0, [], σ)))
termination_by structural n

theorem trace_Mark_l0_is (k n : Nat) (p0 : Option Addr) (h1 : Nat) (p2 : Option Addr) (c3 : Nat) (c4 : Nat) (i5 : Int) (x47 : Int) (σ : AMem) : d_trace_Mark_l0 k n p0 h1 p2 c3 c4 i5 x47 σ = s_trace_Mark_l0 k n p0 h1 p2 c3 c4 i5 x47 σ := by
  induction n generalizing p0 h1 p2 c3 c4 i5 x47 σ with
  | zero => simp only [d_trace_Mark_l0, hide_eq]; rfl
  | succ n ih => rw [d_trace_Mark_l0_eq, b_trace_Mark_l0, s_trace_Mark_l0]; simp only [trace_given_is, trace_table_is, roots_Roots_Places_is, roots_Roots_Get_is, trace_marker_reach_is, trace_marker_run_is, trace_marker_round_is, ih, strA, strR, str0, apS_3, apS_23, apS_121, apS_186]

noncomputable def s_trace_Mark_l1 (k n : Nat) (h0 : Nat)  (σ : AMem) : Option LOut := match n with
  | 0 => none
  | n + 1 => (fN h0 fun h0 => fL σ fun σ => (s_trace_marker_round k (some ⟨h0, 0, none⟩) σ).bind fun r37 => (toB r37.1).bind fun b38 => bif b38 then ((s_trace_marker_run k (some ⟨h0, 0, none⟩) r37.2).bind fun r39 => r_0 r39.1 (s_trace_Mark_l1 k n h0  r39.2)) else (some (.exit 2, [], r37.2)))
termination_by structural n

theorem trace_Mark_l1_is (k n : Nat) (h0 : Nat)  (σ : AMem) : d_trace_Mark_l1 k n h0 σ = s_trace_Mark_l1 k n h0 σ := by
  induction n generalizing h0 σ with
  | zero => simp only [d_trace_Mark_l1, hide_eq]; rfl
  | succ n ih => rw [d_trace_Mark_l1_eq, b_trace_Mark_l1, s_trace_Mark_l1]; simp only [trace_given_is, trace_table_is, roots_Roots_Places_is, roots_Roots_Get_is, trace_marker_reach_is, trace_marker_run_is, trace_marker_round_is, trace_Mark_l0_is, ih, strA, strR, str0, apS_3, apS_23, apS_121, apS_186]

noncomputable def s_trace_Mark (k : Nat) (x0 : Option Addr) (x1 : Option Addr) (x2 : Int) (x3 : Int) (σ : AMem) : Option (Value × AMem) := match k with
  | 0 => none
  | k + 1 => (fP x0 fun x0 => fP x1 fun x1 => fL σ fun σ => allocS σ (.cells [.int .i64 (0 : Int), .int .i64 (0 : Int), .int .i64 (0 : Int), .int .i64 (0 : Int), .int .i64 (0 : Int)] 43 true) fun h1 s2 => (s_trace_given k x0 x1 s2).bind fun r3 => (toB r3.1).bind fun b4 => (bif !b4 then some (true, r3.2) else some (decide (x2 < (0 : Int)), r3.2)).bind fun r5 => (bif r5.1 then some (true, r5.2) else some (decide (x2 > (1 : Int)), r5.2)).bind fun r6 => (bif r6.1 then some (true, r6.2) else some (decide (x3 < (1 : Int)), r6.2)).bind fun r7 => (bif r7.1 then some (true, r7.2) else some (decide (x3 > (4096 : Int)), r7.2)).bind fun r8 => bif r8.1 then (stNS r8.2 h1 0 [.int .i64 (0 : Int), .int .i64 (0 : Int), .int .i64 (0 : Int), .int .i64 (0 : Int), .int .i64 (0 : Int)] fun s9 => ((((ldNS s9 h1 0 5).bind fun v10 => some (.agg v10.toArray)).bind fun v11 => some [v11, .int .i64 (1 : Int)]).bind fun vs12 => some (.pointer none :: vs12)).bind fun vs13 => some (resOf vs13, s9)) else ((s_trace_table k x0 r8.2).bind fun r14 => (toP r14.1).bind fun p15 => allocS r14.2 (.cells [.pointer x0, .pointer p15, .slice none 0 0, .int .i64 x2, .int .i64 x3, .bool false, .int .i64 (0 : Int), .int .i64 (0 : Int), .int .i64 (0 : Int), .int .i64 (0 : Int), .int .i64 (0 : Int)] 117 true) fun h16 s17 => (s_roots_Roots_Places k x1 s17).bind fun r18 => (toS r18.1).bind fun l19 => (s_trace_Mark_l0 k k x1 h16 l19.1 l19.2.1 l19.2.2 ((l19.2.1 : Nat) : Int) (0 : Int) r18.2).bind fun r35 => if r35.1 = .exit 0 then ((s_trace_marker_run k (some ⟨h16, 0, none⟩) r35.2.2).bind fun r36 => r_0 r36.1 ((s_trace_Mark_l1 k k h16  r36.2).bind fun r40 => if r40.1 = .exit 2 then ((ldPS r40.2.2 h16 (0 + 1)).bind fun p41 => (ldIS .i64 r40.2.2 h16 (0 + 6)).bind fun n42 => (ldIS .i64 r40.2.2 h16 (0 + 6 + 1)).bind fun n43 => (ldIS .i64 r40.2.2 h16 (0 + 6 + 1 + 1)).bind fun n44 => (ldIS .i64 r40.2.2 h16 (0 + 6 + 1 + 1 + 1)).bind fun n45 => (ldIS .i64 r40.2.2 h16 (0 + 6 + 1 + 1 + 1 + 1)).bind fun n46 => stNS r40.2.2 h1 0 [.int .i64 n42, .int .i64 n43, .int .i64 n44, .int .i64 n45, .int .i64 n46] fun s47 => ((((ldNS s47 h1 0 5).bind fun v48 => some (.agg v48.toArray)).bind fun v49 => some [v49, .int .i64 (0 : Int)]).bind fun vs50 => some (.pointer p41 :: vs50)).bind fun vs51 => some (resOf vs51, s47)) else none)) else none))

theorem trace_Mark_is (k : Nat) (x0 : Option Addr) (x1 : Option Addr) (x2 : Int) (x3 : Int) (σ : AMem) : d_trace_Mark k x0 x1 x2 x3 σ = s_trace_Mark k x0 x1 x2 x3 σ := by
  cases k with
  | zero => simp only [d_trace_Mark, hide_eq]; rfl
  | succ k => rw [d_trace_Mark_eq, b_trace_Mark, s_trace_Mark]; simp only [trace_given_is, trace_table_is, roots_Roots_Places_is, roots_Roots_Get_is, trace_marker_reach_is, trace_marker_run_is, trace_marker_round_is, trace_Mark_l0_is, trace_Mark_l1_is, strA, strR, str0, apS_3, apS_23, apS_121, apS_186]

noncomputable def s_trace_crew_deal_l0 (k n : Nat) (p0 : Option Addr) (p1 : Option Addr) (c2 : Nat) (c3 : Nat) (i4 : Int) (x5 : Int) (x10 : Int) (σ : AMem) : Option LOut := match n with
  | 0 => none
  | n + 1 => (fP p0 fun p0 => fP p1 fun p1 => fN c2 fun c2 => fN c3 fun c3 => fI i4 fun i4 => fI x5 fun x5 => fI x10 fun x10 => fL σ fun σ => bif decide (x10 < i4) then (if 0 ≤ x10 ∧ x10 < (c2 : Nat) then p1.bind fun a1 => (ldIS .i64 σ a1.block (a1.off + x10.toNat * 1)).bind fun n2 => p0.bind fun a3 => (ldPS σ a3.block (a3.off + 0)).bind fun p4 => p0.bind fun a5 => (ldPS σ a5.block (a5.off + 1)).bind fun p6 => (s_trace_mark k p4 p6 n2 σ).bind fun r7 => (toB r7.1).bind fun b8 => (bif b8 then (p0.bind fun a9 => (ldSS r7.2 a9.block (a9.off + 2)).bind fun l10 => p0.bind fun a11 => (ldSS r7.2 a11.block (a11.off + 2)).bind fun l12 => if ((l12.2.1 : Nat) : Int) = 0 then none else if 0 ≤ (x5.tmod ((l12.2.1 : Nat) : Int)) ∧ (x5.tmod ((l12.2.1 : Nat) : Int)) < (l10.2.1 : Nat) then l10.1.bind fun a13 => (s___trace_line_int__add k (some ⟨a13.block, a13.off + (x5.tmod ((l12.2.1 : Nat) : Int)).toNat * 2 + 0, none⟩) n2 r7.2).bind fun r14 => r_0 r14.1 (some (.normal, [.int .i64 (w64S (x5 + (1 : Int)))], r14.2)) else none) else (some (.normal, [.int .i64 x5], r7.2)) : Option LOut).bind fun r15 => if r15.1 = .normal then (u_i r15.2.1 fun n16 => s_trace_crew_deal_l0 k n p0 p1 c2 c3 i4 n16 (w64S (x10 + (1 : Int))) r15.2.2) else none else none) else (some (.exit 0, [.int .i64 x5], σ)))
termination_by structural n

theorem trace_crew_deal_l0_is (k n : Nat) (p0 : Option Addr) (p1 : Option Addr) (c2 : Nat) (c3 : Nat) (i4 : Int) (x5 : Int) (x10 : Int) (σ : AMem) : d_trace_crew_deal_l0 k n p0 p1 c2 c3 i4 x5 x10 σ = s_trace_crew_deal_l0 k n p0 p1 c2 c3 i4 x5 x10 σ := by
  induction n generalizing p0 p1 c2 c3 i4 x5 x10 σ with
  | zero => simp only [d_trace_crew_deal_l0, hide_eq]; rfl
  | succ n ih => rw [d_trace_crew_deal_l0_eq, b_trace_crew_deal_l0, s_trace_crew_deal_l0]; simp only [__trace_line_int__add_is, trace_mark_is, ih, strA, strR, str0, apS_3, apS_23, apS_121, apS_186]

noncomputable def s_trace_crew_deal (k : Nat) (x0 : Option Addr) (x1 : Option Addr × Nat × Nat) (σ : AMem) : Option (Value × AMem) := match k with
  | 0 => none
  | k + 1 => (fP x0 fun x0 => fS x1 fun x1 => fL σ fun σ => (s_trace_crew_deal_l0 k k x0 x1.1 x1.2.1 x1.2.2 ((x1.2.1 : Nat) : Int) (0 : Int) (0 : Int) σ).bind fun r17 => if r17.1 = .exit 0 then (u_i r17.2.1 fun n18 => fB (decide (n18 > (0 : Int))) fun y19 => some (.bool y19, r17.2.2)) else none)

theorem trace_crew_deal_is (k : Nat) (x0 : Option Addr) (x1 : Option Addr × Nat × Nat) (σ : AMem) : d_trace_crew_deal k x0 x1 σ = s_trace_crew_deal k x0 x1 σ := by
  cases k with
  | zero => simp only [d_trace_crew_deal, hide_eq]; rfl
  | succ k => rw [d_trace_crew_deal_eq, b_trace_crew_deal, s_trace_crew_deal]; simp only [__trace_line_int__add_is, trace_mark_is, trace_crew_deal_l0_is, strA, strR, str0, apS_3, apS_23, apS_121, apS_186]

noncomputable def s_roots_Roots_Leads (k : Nat) (x0 : Option Addr) (σ : AMem) : Option (Value × AMem) := match k with
  | 0 => none
  | k + 1 => (fP x0 fun x0 => fL σ fun σ => (s_roots_Roots_made k x0 σ).bind fun r1 => (toB r1.1).bind fun b2 => bif !b2 then (some (.slice none 0 0, r1.2)) else (allocS r1.2 (.cells [.slice none 0 0] 23 true) fun h3 s4 => (s_roots_Roots_all k x0 s4).bind fun r5 => bif isFn r5.1 then (allocS r5.2 (.loop 60 .ready (rgs 0 26 [(3, .pointer (some ⟨h3, 0, none⟩))])) fun h6 s7 => (s_callV_f_0 k r5.1 [.func (.yield h6) #[] #[]] s7).bind fun r8 => endLoopS h6 r8.2 fun x9 s10 => if x9 = .normal then ((ldSS s10 h3 0).bind fun l11 => some (.slice l11.1 l11.2.1 l11.2.2, s10)) else none) else none))

theorem roots_Roots_Leads_is (k : Nat) (x0 : Option Addr) (σ : AMem) : d_roots_Roots_Leads k x0 σ = s_roots_Roots_Leads k x0 σ := by
  cases k with
  | zero => simp only [d_roots_Roots_Leads, hide_eq]; rfl
  | succ k => rw [d_roots_Roots_Leads_eq, b_roots_Roots_Leads, s_roots_Roots_Leads]; simp only [slices_Contains_int_is, roots_Roots_made_is, roots_Roots_all_is, callV_f_0_is, strA, strR, str0, apS_3, apS_23, apS_121, apS_186]

noncomputable def s_trace_crew_longest_l0 (k n : Nat) (p0 : Option Addr) (i1 : Int) (x3 : Option Addr) (x16 : Int) (σ : AMem) : Option LOut := match n with
  | 0 => none
  | n + 1 => (fP p0 fun p0 => fI i1 fun i1 => fP x3 fun x3 => fI x16 fun x16 => fL σ fun σ => bif decide (x16 < i1) then (p0.bind fun a6 => (ldSS σ a6.block (a6.off + 2)).bind fun l7 => if 0 ≤ x16 ∧ x16 < (l7.2.1 : Nat) then l7.1.bind fun a8 => (ldSS σ a8.block (a8.off + x16.toNat * 2 + 0 + 0)).bind fun l9 => x3.bind fun a10 => (ldSS σ a10.block (a10.off + 0 + 0)).bind fun l11 => (bif decide (((l9.2.1 : Nat) : Int) > ((l11.2.1 : Nat) : Int)) then (some (.normal, [.pointer (some ⟨a8.block, a8.off + x16.toNat * 2, none⟩)], σ)) else (some (.normal, [.pointer x3], σ)) : Option LOut).bind fun r12 => if r12.1 = .normal then (u_p r12.2.1 fun p13 => s_trace_crew_longest_l0 k n p0 i1 p13 (w64S (x16 + (1 : Int))) r12.2.2) else none else none) else (some (.exit 0, [.pointer x3], σ)))
termination_by structural n

theorem trace_crew_longest_l0_is (k n : Nat) (p0 : Option Addr) (i1 : Int) (x3 : Option Addr) (x16 : Int) (σ : AMem) : d_trace_crew_longest_l0 k n p0 i1 x3 x16 σ = s_trace_crew_longest_l0 k n p0 i1 x3 x16 σ := by
  induction n generalizing p0 i1 x3 x16 σ with
  | zero => simp only [d_trace_crew_longest_l0, hide_eq]; rfl
  | succ n ih => rw [d_trace_crew_longest_l0_eq, b_trace_crew_longest_l0, s_trace_crew_longest_l0]; simp only [ih, strA, strR, str0, apS_3, apS_23, apS_121, apS_186]

noncomputable def s_trace_crew_longest (k : Nat) (x0 : Option Addr) (σ : AMem) : Option (Value × AMem) := match k with
  | 0 => none
  | k + 1 => (fP x0 fun x0 => fL σ fun σ => x0.bind fun a1 => (ldSS σ a1.block (a1.off + 2)).bind fun l2 => if 0 ≤ (0 : Int) ∧ (0 : Int) < (l2.2.1 : Nat) then l2.1.bind fun a3 => x0.bind fun a4 => (ldSS σ a4.block (a4.off + 2)).bind fun l5 => (s_trace_crew_longest_l0 k k x0 ((l5.2.1 : Nat) : Int) (some ⟨a3.block, a3.off + (0 : Int).toNat * 2, none⟩) (0 : Int) σ).bind fun r14 => if r14.1 = .exit 0 then (u_p r14.2.1 fun p15 => some (.pointer p15, r14.2.2)) else none else none)

theorem trace_crew_longest_is (k : Nat) (x0 : Option Addr) (σ : AMem) : d_trace_crew_longest k x0 σ = s_trace_crew_longest k x0 σ := by
  cases k with
  | zero => simp only [d_trace_crew_longest, hide_eq]; rfl
  | succ k => rw [d_trace_crew_longest_eq, b_trace_crew_longest, s_trace_crew_longest]; simp only [trace_crew_longest_l0_is, strA, strR, str0, apS_3, apS_23, apS_121, apS_186]

noncomputable def s_trace_crew_turn_l0 (k n : Nat) (p0 : Option Addr) (p1 : Option Addr) (p2 : Option Addr) (c3 : Nat) (c4 : Nat) (i5 : Int) (x55 : Int) (σ : AMem) : Option LOut := match n with
  | 0 => none
  | n + 1 => (fP p0 fun p0 => fP p1 fun p1 => fP p2 fun p2 => fN c3 fun c3 => fN c4 fun c4 => fI i5 fun i5 => fI x55 fun x55 => fL σ fun σ => bif decide (x55 < i5) then (if 0 ≤ x55 ∧ x55 < (c3 : Nat) then p2.bind fun a28 => (ldIS .i64 σ a28.block (a28.off + x55.toNat * 1)).bind fun n29 => p0.bind fun a30 => (ldPS σ a30.block (a30.off + 0)).bind fun p31 => p0.bind fun a32 => (ldPS σ a32.block (a32.off + 1)).bind fun p33 => (s_trace_mark k p31 p33 n29 σ).bind fun r34 => (toB r34.1).bind fun b35 => (bif b35 then (p1.bind fun a36 => (s___trace_line_int__add k (some ⟨a36.block, a36.off + 0, none⟩) n29 r34.2).bind fun r37 => r_0 r37.1 (some (.normal, [], r37.2))) else (some (.normal, [], r34.2)) : Option LOut).bind fun r38 => if r38.1 = .normal then (s_trace_crew_turn_l0 k n p0 p1 p2 c3 c4 i5 (w64S (x55 + (1 : Int))) r38.2.2) else none else none) else (some (.exit 0, [], σ)))
termination_by structural n

theorem trace_crew_turn_l0_is (k n : Nat) (p0 : Option Addr) (p1 : Option Addr) (p2 : Option Addr) (c3 : Nat) (c4 : Nat) (i5 : Int) (x55 : Int) (σ : AMem) : d_trace_crew_turn_l0 k n p0 p1 p2 c3 c4 i5 x55 σ = s_trace_crew_turn_l0 k n p0 p1 p2 c3 c4 i5 x55 σ := by
  induction n generalizing p0 p1 p2 c3 c4 i5 x55 σ with
  | zero => simp only [d_trace_crew_turn_l0, hide_eq]; rfl
  | succ n ih => rw [d_trace_crew_turn_l0_eq, b_trace_crew_turn_l0, s_trace_crew_turn_l0]; simp only [trace_strong_is, __trace_line_int__oldest_is, __trace_line_int__add_is, trace_mark_is, trace_crew_longest_is, __trace_line_int__newest_is, ih, strA, strR, str0, apS_3, apS_23, apS_121, apS_186]

noncomputable def s_trace_crew_turn (k : Nat) (x0 : Option Addr) (x1 : Option Addr) (σ : AMem) : Option (Value × AMem) := match k with
  | 0 => none
  | k + 1 => (fP x0 fun x0 => fP x1 fun x1 => fL σ fun σ => x1.bind fun a1 => (ldSS σ a1.block (a1.off + 0 + 0)).bind fun l2 => bif ((l2.2.1 : Nat) : Int) == (0 : Int) then ((s_trace_crew_longest k x0 σ).bind fun r3 => (toP r3.1).bind fun p4 => p4.bind fun a5 => (ldSS r3.2 a5.block (a5.off + 0 + 0)).bind fun l6 => (bif decide (((l6.2.1 : Nat) : Int) ≥ (2 : Int)) then (x1.bind fun a7 => p4.bind fun a8 => (s___trace_line_int__oldest k (some ⟨a8.block, a8.off + 0, none⟩) r3.2).bind fun r9 => (toIS .i64 r9.1).bind fun n10 => (s___trace_line_int__add k (some ⟨a7.block, a7.off + 0, none⟩) n10 r9.2).bind fun r11 => r_0 r11.1 (x0.bind fun a12 => (ldIS .i64 r11.2 a12.block (a12.off + 3)).bind fun n13 => x0.bind fun a14 => st1S r11.2 a14.block (a14.off + 3) (.int .i64 (w64S (n13 + (1 : Int)))) fun s15 => some (.normal, [], s15))) else (some (.normal, [], r3.2)) : Option LOut).bind fun r16 => if r16.1 = .normal then (some (.tuple #[], r16.2.2)) else none) else (x1.bind fun a17 => (ldIS .i64 σ a17.block (a17.off + 1)).bind fun n18 => x1.bind fun a19 => st1S σ a19.block (a19.off + 1) (.int .i64 (w64S (n18 + (1 : Int)))) fun s20 => x0.bind fun a21 => (ldPS s20 a21.block (a21.off + 0)).bind fun p22 => x1.bind fun a23 => (s___trace_line_int__newest k (some ⟨a23.block, a23.off + 0, none⟩) s20).bind fun r24 => quietly s20 r24.2 ((toIS .i64 r24.1).bind fun n25 => (s_trace_strong k p22 n25 r24.2).bind fun r26 => (toS r26.1).bind fun l27 => (s_trace_crew_turn_l0 k k x0 x1 l27.1 l27.2.1 l27.2.2 ((l27.2.1 : Nat) : Int) (0 : Int) r26.2).bind fun r39 => if r39.1 = .exit 0 then (some (.tuple #[], r39.2.2)) else none)))

theorem trace_crew_turn_is (k : Nat) (x0 : Option Addr) (x1 : Option Addr) (σ : AMem) : d_trace_crew_turn k x0 x1 σ = s_trace_crew_turn k x0 x1 σ := by
  cases k with
  | zero => simp only [d_trace_crew_turn, hide_eq]; rfl
  | succ k => rw [d_trace_crew_turn_eq, b_trace_crew_turn, s_trace_crew_turn]; simp only [trace_strong_is, __trace_line_int__oldest_is, __trace_line_int__add_is, trace_mark_is, trace_crew_longest_is, __trace_line_int__newest_is, trace_crew_turn_l0_is, strA, strR, str0, apS_3, apS_23, apS_121, apS_186]

noncomputable def s_trace_crew_work_l1 (k n : Nat) (p0 : Option Addr) (i1 : Int) (x8 : Int) (σ : AMem) : Option LOut := match n with
  | 0 => none
  | n + 1 => (fP p0 fun p0 => fI i1 fun i1 => fI x8 fun x8 => fL σ fun σ => bif decide (x8 < i1) then ((s_trace_crew_longest k p0 σ).bind fun r3 => (toP r3.1).bind fun p4 => p4.bind fun a5 => (ldSS r3.2 a5.block (a5.off + 0 + 0)).bind fun l6 => bif ((l6.2.1 : Nat) : Int) == (0 : Int) then (some (.exit 0, [], r3.2)) else (p0.bind fun a7 => (ldSS r3.2 a7.block (a7.off + 2)).bind fun l8 => if 0 ≤ x8 ∧ x8 < (l8.2.1 : Nat) then l8.1.bind fun a9 => (s_trace_crew_turn k p0 (some ⟨a9.block, a9.off + x8.toNat * 2, none⟩) r3.2).bind fun r10 => r_0 r10.1 (s_trace_crew_work_l1 k n p0 i1 (w64S (x8 + (1 : Int))) r10.2) else none)) else (some (.exit 2, [], σ)))
termination_by structural n

theorem trace_crew_work_l1_is (k n : Nat) (p0 : Option Addr) (i1 : Int) (x8 : Int) (σ : AMem) : d_trace_crew_work_l1 k n p0 i1 x8 σ = s_trace_crew_work_l1 k n p0 i1 x8 σ := by
  induction n generalizing p0 i1 x8 σ with
  | zero => simp only [d_trace_crew_work_l1, hide_eq]; rfl
  | succ n ih => rw [d_trace_crew_work_l1_eq, b_trace_crew_work_l1, s_trace_crew_work_l1]; simp only [trace_crew_longest_is, trace_crew_turn_is, ih, strA, strR, str0, apS_3, apS_23, apS_121, apS_186]

noncomputable def s_trace_crew_work_l0 (k n : Nat) (p0 : Option Addr)  (σ : AMem) : Option LOut := match n with
  | 0 => none
  | n + 1 => (fP p0 fun p0 => fL σ fun σ => p0.bind fun a1 => (ldSS σ a1.block (a1.off + 2)).bind fun l2 => (s_trace_crew_work_l1 k k p0 ((l2.2.1 : Nat) : Int) (0 : Int) σ).bind fun r11 => if r11.1 = .exit 0 then (some (.exit 0, [], r11.2.2)) else if r11.1 = .exit 2 then (s_trace_crew_work_l0 k n p0  r11.2.2) else none)
termination_by structural n

theorem trace_crew_work_l0_is (k n : Nat) (p0 : Option Addr)  (σ : AMem) : d_trace_crew_work_l0 k n p0 σ = s_trace_crew_work_l0 k n p0 σ := by
  induction n generalizing p0 σ with
  | zero => simp only [d_trace_crew_work_l0, hide_eq]; rfl
  | succ n ih => rw [d_trace_crew_work_l0_eq, b_trace_crew_work_l0, s_trace_crew_work_l0]; simp only [trace_crew_longest_is, trace_crew_turn_is, trace_crew_work_l1_is, ih, strA, strR, str0, apS_3, apS_23, apS_121, apS_186]

noncomputable def s_trace_crew_work (k : Nat) (x0 : Option Addr) (σ : AMem) : Option (Value × AMem) := match k with
  | 0 => none
  | k + 1 => (fP x0 fun x0 => fL σ fun σ => (s_trace_crew_work_l0 k k x0  σ).bind fun r12 => if r12.1 = .exit 0 then (some (.tuple #[], r12.2.2)) else none)

theorem trace_crew_work_is (k : Nat) (x0 : Option Addr) (σ : AMem) : d_trace_crew_work k x0 σ = s_trace_crew_work k x0 σ := by
  cases k with
  | zero => simp only [d_trace_crew_work, hide_eq]; rfl
  | succ k => rw [d_trace_crew_work_eq, b_trace_crew_work, s_trace_crew_work]; simp only [trace_crew_longest_is, trace_crew_turn_is, trace_crew_work_l1_is, trace_crew_work_l0_is, strA, strR, str0, apS_3, apS_23, apS_121, apS_186]

noncomputable def s_trace_Share_l0 (k n : Nat) (p0 : Option Addr) (h1 : Nat) (x11 : Bool) (σ : AMem) : Option LOut := match n with
  | 0 => none
  | n + 1 => (fP p0 fun p0 => fN h1 fun h1 => fB x11 fun x11 => fL σ fun σ => bif x11 then ((s_trace_crew_work k (some ⟨h1, 0, none⟩) σ).bind fun r17 => r_0 r17.1 ((ldPS r17.2 h1 (0 + 1)).bind fun p18 => (s_trace_due k p0 p18 r17.2).bind fun r19 => (toS r19.1).bind fun l20 => (s_trace_crew_deal k (some ⟨h1, 0, none⟩) (l20.1, l20.2.1, l20.2.2) r19.2).bind fun r21 => (toB r21.1).bind fun b22 => s_trace_Share_l0 k n p0 h1 b22 r21.2)) else (some (.exit 0, [], σ)))
termination_by structural n

theorem trace_Share_l0_is (k n : Nat) (p0 : Option Addr) (h1 : Nat) (x11 : Bool) (σ : AMem) : d_trace_Share_l0 k n p0 h1 x11 σ = s_trace_Share_l0 k n p0 h1 x11 σ := by
  induction n generalizing p0 h1 x11 σ with
  | zero => simp only [d_trace_Share_l0, hide_eq]; rfl
  | succ n ih => rw [d_trace_Share_l0_eq, b_trace_Share_l0, s_trace_Share_l0]; simp only [trace_given_is, trace_table_is, trace_crew_deal_is, roots_Roots_Leads_is, trace_due_is, trace_crew_work_is, ih, strA, strR, str0, apS_3, apS_23, apS_121, apS_186]

noncomputable def s_trace_Share_l1 (k n : Nat) (p0 : Option Addr) (c1 : Nat) (c2 : Nat) (i3 : Int) (x12 : Option Addr × Nat × Nat) (x54 : Int) (σ : AMem) : Option LOut := match n with
  | 0 => none
  | n + 1 => (fP p0 fun p0 => fN c1 fun c1 => fN c2 fun c2 => fS x12 fun x12 => fI x54 fun x54 => fL σ fun σ => bif decide (x54 < i3) then (if 0 ≤ x54 ∧ x54 < (c1 : Nat) then p0.bind fun a25 => (ldSS σ a25.block (a25.off + x54.toNat * 2)).bind fun l26 => (ldIS .i64 σ a25.block (a25.off + x54.toNat * 2 + 1)).bind fun n27 => allocS σ (.cells [.slice none 0 0, .int .i64 (0 : Int)] 131 true) fun h28 s29 => stNS s29 h28 0 [.slice l26.1 l26.2.1 l26.2.2, .int .i64 n27] fun s30 => (ldIS .i64 s30 h28 (0 + 1)).bind fun n31 => allocS s30 (.cells [.int .i64 n31] 3 true) fun h32 s33 => appendS 3 1 8 (x12.1, x12.2.1, x12.2.2) (some ⟨h32, 0, none⟩, 1, 1) s33 fun r34 => s_trace_Share_l1 k n p0 c1 c2 i3 (r34.1.1, r34.1.2.1, r34.1.2.2) (w64S (x54 + (1 : Int))) r34.2 else none) else (some (.exit 2, [.slice x12.1 x12.2.1 x12.2.2], σ)))
termination_by structural n

theorem trace_Share_l1_is (k n : Nat) (p0 : Option Addr) (c1 : Nat) (c2 : Nat) (i3 : Int) (x12 : Option Addr × Nat × Nat) (x54 : Int) (σ : AMem) : d_trace_Share_l1 k n p0 c1 c2 i3 x12 x54 σ = s_trace_Share_l1 k n p0 c1 c2 i3 x12 x54 σ := by
  induction n generalizing p0 c1 c2 i3 x12 x54 σ with
  | zero => simp only [d_trace_Share_l1, hide_eq]; rfl
  | succ n ih => rw [d_trace_Share_l1_eq, b_trace_Share_l1, s_trace_Share_l1]; simp only [trace_given_is, trace_table_is, trace_crew_deal_is, roots_Roots_Leads_is, trace_due_is, trace_crew_work_is, trace_Share_l0_is, ih, strA, strR, str0, apS_3, apS_23, apS_121, apS_186]

noncomputable def s_trace_Share (k : Nat) (x0 : Option Addr) (x1 : Option Addr) (x2 : Int) (σ : AMem) : Option (Value × AMem) := match k with
  | 0 => none
  | k + 1 => (fP x0 fun x0 => fP x1 fun x1 => fL σ fun σ => (s_trace_given k x0 x1 σ).bind fun r1 => (toB r1.1).bind fun b2 => (bif !b2 then some (true, r1.2) else some (decide (x2 < (1 : Int)), r1.2)).bind fun r3 => (bif r3.1 then some (true, r3.2) else some (decide (x2 > (8 : Int)), r3.2)).bind fun r4 => bif r4.1 then (fI (0 : Int) fun y5 => fI (1 : Int) fun y6 => some (.tuple #[.pointer none, .slice none 0 0, .int .i64 y5, .int .i64 y6], r4.2)) else ((s_trace_table k x0 r4.2).bind fun r7 => (toP r7.1).bind fun p8 => if 0 ≤ x2 ∧ x2 ≤ x2 ∧ x2 * (32 : Nat) ≤ 2 ^ 40 ∧ x2 ≤ 2 ^ 40 then allocS r7.2 (.cells (rep x2.toNat [.slice none 0 0, .int .i64 (0 : Int)]) 131 true) fun h9 s10 => allocS s10 (.cells [.pointer x0, .pointer p8, .slice (some ⟨h9, 0, none⟩) x2.toNat x2.toNat, .int .i64 (0 : Int)] 127 true) fun h11 s12 => (s_roots_Roots_Leads k x1 s12).bind fun r13 => (toS r13.1).bind fun l14 => (s_trace_crew_deal k (some ⟨h11, 0, none⟩) (l14.1, l14.2.1, l14.2.2) r13.2).bind fun r15 => (toB r15.1).bind fun b16 => (s_trace_Share_l0 k k x0 h11 b16 r15.2).bind fun r23 => if r23.1 = .exit 0 then ((ldSS r23.2.2 h11 (0 + 2)).bind fun l24 => (s_trace_Share_l1 k k l24.1 l24.2.1 l24.2.2 ((l24.2.1 : Nat) : Int) (none, 0, 0) (0 : Int) r23.2.2).bind fun r35 => if r35.1 = .exit 2 then (u_l r35.2.1 fun l36 => (ldPS r35.2.2 h11 (0 + 1)).bind fun p37 => (ldIS .i64 r35.2.2 h11 (0 + 3)).bind fun n38 => fI n38 fun y39 => fI (0 : Int) fun y40 => some (.tuple #[.pointer p37, .slice l36.1 l36.2.1 l36.2.2, .int .i64 y39, .int .i64 y40], r35.2.2)) else none) else none else none))

theorem trace_Share_is (k : Nat) (x0 : Option Addr) (x1 : Option Addr) (x2 : Int) (σ : AMem) : d_trace_Share k x0 x1 x2 σ = s_trace_Share k x0 x1 x2 σ := by
  cases k with
  | zero => simp only [d_trace_Share, hide_eq]; rfl
  | succ k => rw [d_trace_Share_eq, b_trace_Share, s_trace_Share]; simp only [trace_given_is, trace_table_is, trace_crew_deal_is, roots_Roots_Leads_is, trace_due_is, trace_crew_work_is, trace_Share_l0_is, trace_Share_l1_is, strA, strR, str0, apS_3, apS_23, apS_121, apS_186]

noncomputable def s_trace_Kept (k : Nat) (x0 : Option Addr) (x1 : Option Addr) (σ : AMem) : Option (Value × AMem) := match k with
  | 0 => none
  | k + 1 => (fP x0 fun x0 => fP x1 fun x1 => fL σ fun σ => (s_trace_Mark k x0 x1 (0 : Int) (4096 : Int) σ).bind fun r1 => (toT r1.1).bind fun q2 => if q2.length = 3 then q2.head?.bind fun v3 => (toP v3).bind fun p4 => q2.tail.head?.bind fun v5 => a_iiiii v5 fun n6 n7 n8 n9 n10 => q2.tail.tail.head?.bind fun v11 => (toIS .i64 v11).bind fun n12 => allocS r1.2 (.cells [.int .i64 (0 : Int), .int .i64 (0 : Int), .int .i64 (0 : Int), .int .i64 (0 : Int), .int .i64 (0 : Int)] 43 true) fun h13 s14 => stNS s14 h13 0 [.int .i64 n6, .int .i64 n7, .int .i64 n8, .int .i64 n9, .int .i64 n10] fun s15 => bif n12 != (0 : Int) then (fI n12 fun y16 => some (.tuple #[.slice none 0 0, .int .i64 y16], s15)) else ((s_trace_all k x0 p4 s15).bind fun r17 => (toS r17.1).bind fun l18 => fI (0 : Int) fun y19 => some (.tuple #[.slice l18.1 l18.2.1 l18.2.2, .int .i64 y19], r17.2)) else none)

theorem trace_Kept_is (k : Nat) (x0 : Option Addr) (x1 : Option Addr) (σ : AMem) : d_trace_Kept k x0 x1 σ = s_trace_Kept k x0 x1 σ := by
  cases k with
  | zero => simp only [d_trace_Kept, hide_eq]; rfl
  | succ k => rw [d_trace_Kept_eq, b_trace_Kept, s_trace_Kept]; simp only [trace_Mark_is, trace_all_is, strA, strR, str0, apS_3, apS_23, apS_121, apS_186]

noncomputable def s_trace_Shortest (k : Nat) (x0 : Option Addr) (x1 : Option Addr) (x2 : Int) (σ : AMem) : Option (Value × AMem) := match k with
  | 0 => none
  | k + 1 => (fP x0 fun x0 => fP x1 fun x1 => fL σ fun σ => (s_trace_given k x0 x1 σ).bind fun r1 => (toB r1.1).bind fun b2 => bif !b2 then (fI (1 : Int) fun y3 => some (.tuple #[.slice none 0 0, .int .i64 y3], r1.2)) else ((s_heap_Heap_Has k x0 x2 r1.2).bind fun r4 => (toB r4.1).bind fun b5 => bif !b5 then (fI (4 : Int) fun y6 => some (.tuple #[.slice none 0 0, .int .i64 y6], r4.2)) else (allocS r4.2 (.map []) fun h7 s8 => none)))

theorem trace_Shortest_is (k : Nat) (x0 : Option Addr) (x1 : Option Addr) (x2 : Int) (σ : AMem) : d_trace_Shortest k x0 x1 x2 σ = s_trace_Shortest k x0 x1 x2 σ := by
  cases k with
  | zero => simp only [d_trace_Shortest, hide_eq]; rfl
  | succ k => rw [d_trace_Shortest_eq, b_trace_Shortest, s_trace_Shortest]; simp only [trace_given_is, heap_Heap_Has_is, strA, strR, str0, apS_3, apS_23, apS_121, apS_186]

noncomputable def s_side_Table_Width (k : Nat) (x0 : Option Addr) (σ : AMem) : Option (Value × AMem) := match k with
  | 0 => none
  | k + 1 => (fP x0 fun x0 => fL σ fun σ => (s_side_Table_made k x0 σ).bind fun r1 => (toB r1.1).bind fun b2 => bif !b2 then (fI (0 : Int) fun y3 => some (.int .i64 y3, r1.2)) else (x0.bind fun a4 => (ldIS .i64 r1.2 a4.block (a4.off + 1)).bind fun n5 => fI n5 fun y6 => some (.int .i64 y6, r1.2)))

theorem side_Table_Width_is (k : Nat) (x0 : Option Addr) (σ : AMem) : d_side_Table_Width k x0 σ = s_side_Table_Width k x0 σ := by
  cases k with
  | zero => simp only [d_side_Table_Width, hide_eq]; rfl
  | succ k => rw [d_side_Table_Width_eq, b_side_Table_Width, s_side_Table_Width]; simp only [side_Table_made_is, strA, strR, str0, apS_3, apS_23, apS_121, apS_186]

noncomputable def s_side_Table_Entries (k : Nat) (x0 : Option Addr) (σ : AMem) : Option (Value × AMem) := match k with
  | 0 => none
  | k + 1 => (fP x0 fun x0 => fL σ fun σ => (s_side_Table_made k x0 σ).bind fun r1 => (toB r1.1).bind fun b2 => bif !b2 then (fI (0 : Int) fun y3 => some (.int .i64 y3, r1.2)) else (x0.bind fun a4 => (ldIS .i64 r1.2 a4.block (a4.off + 0)).bind fun n5 => fI n5 fun y6 => some (.int .i64 y6, r1.2)))

theorem side_Table_Entries_is (k : Nat) (x0 : Option Addr) (σ : AMem) : d_side_Table_Entries k x0 σ = s_side_Table_Entries k x0 σ := by
  cases k with
  | zero => simp only [d_side_Table_Entries, hide_eq]; rfl
  | succ k => rw [d_side_Table_Entries_eq, b_side_Table_Entries, s_side_Table_Entries]; simp only [side_Table_made_is, strA, strR, str0, apS_3, apS_23, apS_121, apS_186]

noncomputable def s_trace_fits (k : Nat) (x0 : Option Addr) (x1 : Option Addr) (σ : AMem) : Option (Value × AMem) := match k with
  | 0 => none
  | k + 1 => (fP x0 fun x0 => fP x1 fun x1 => fL σ fun σ => (s_heap_Heap_Blocks k x0 σ).bind fun r1 => (toIS .i64 r1.1).bind fun n2 => (bif decide (n2 > (0 : Int)) then (s_side_Table_Width k x1 r1.2).bind fun r3 => (toIS .i64 r3.1).bind fun n4 => some (n4 == (1 : Int), r3.2) else some (false, r1.2)).bind fun r5 => (bif r5.1 then (s_side_Table_Entries k x1 r5.2).bind fun r6 => (toIS .i64 r6.1).bind fun n7 => (s_heap_Heap_Blocks k x0 r6.2).bind fun r8 => (toIS .i64 r8.1).bind fun n9 => if (2 : Int) = 0 then none else some (n7 == (w64S ((w64S (n9 * (64 : Int))).tdiv (2 : Int))), r8.2) else some (false, r5.2)).bind fun r10 => fB r10.1 fun y11 => some (.bool y11, r10.2))

theorem trace_fits_is (k : Nat) (x0 : Option Addr) (x1 : Option Addr) (σ : AMem) : d_trace_fits k x0 x1 σ = s_trace_fits k x0 x1 σ := by
  cases k with
  | zero => simp only [d_trace_fits, hide_eq]; rfl
  | succ k => rw [d_trace_fits_eq, b_trace_fits, s_trace_fits]; simp only [heap_Heap_Blocks_is, side_Table_Width_is, side_Table_Entries_is, strA, strR, str0, apS_3, apS_23, apS_121, apS_186]

noncomputable def s_heap_Heap_SetRef (k : Nat) (x0 : Option Addr) (x1 : Int) (x2 : Int) (x3 : Int) (σ : AMem) : Option (Value × AMem) := match k with
  | 0 => none
  | k + 1 => (fP x0 fun x0 => fI x1 fun x1 => fI x2 fun x2 => fI x3 fun x3 => fL σ fun σ => (s_heap_Heap_field k x0 x1 x2 false σ).bind fun r1 => r_ii r1.1 fun n2 n3 => bif n3 != (0 : Int) then (fI n3 fun y4 => some (.int .i64 y4, r1.2)) else ((bif x3 != (0 : Int) then (s_heap_Heap_Has k x0 x3 r1.2).bind fun r5 => (toB r5.1).bind fun b6 => some (!b6, r5.2) else some (false, r1.2)).bind fun r7 => bif r7.1 then (fI (1 : Int) fun y8 => some (.int .i64 y8, r7.2)) else (x0.bind fun a9 => (ldSS r7.2 a9.block (a9.off + 1)).bind fun l10 => if 0 ≤ n2 ∧ n2 < (l10.2.1 : Nat) then l10.1.bind fun a11 => st1S r7.2 a11.block (a11.off + n2.toNat * 1) (.int .i64 x3) fun s12 => fI (0 : Int) fun y13 => some (.int .i64 y13, s12) else none)))

theorem heap_Heap_SetRef_is (k : Nat) (x0 : Option Addr) (x1 : Int) (x2 : Int) (x3 : Int) (σ : AMem) : d_heap_Heap_SetRef k x0 x1 x2 x3 σ = s_heap_Heap_SetRef k x0 x1 x2 x3 σ := by
  cases k with
  | zero => simp only [d_heap_Heap_SetRef, hide_eq]; rfl
  | succ k => rw [d_heap_Heap_SetRef_eq, b_heap_Heap_SetRef, s_heap_Heap_SetRef]; simp only [heap_Heap_Has_is, heap_Heap_field_is, strA, strR, str0, apS_3, apS_23, apS_121, apS_186]

noncomputable def s_trace_Clear_l1 (k n : Nat) (p0 : Option Addr) (i1 : Int) (i2 : Int) (x14 : Bool) (x53 : Int) (σ : AMem) : Option LOut := match n with
  | 0 => none
  | n + 1 => (fP p0 fun p0 => fB x14 fun x14 => fI x53 fun x53 => fL σ fun σ => bif decide (x53 < i2) then ((s_heap_Heap_Ref k p0 i1 x53 σ).bind fun r31 => r_ii r31.1 fun n32 n33 => (bif x14 then some (true, r31.2) else some (n32 != (0 : Int), r31.2)).bind fun r34 => (s_heap_Heap_SetRef k p0 i1 x53 (0 : Int) r34.2).bind fun r35 => (toIS .i64 r35.1).bind fun n36 => s_trace_Clear_l1 k n p0 i1 i2 r34.1 (w64S (x53 + (1 : Int))) r35.2) else (some (.exit 2, [.bool x14], σ)))
termination_by structural n

theorem trace_Clear_l1_is (k n : Nat) (p0 : Option Addr) (i1 : Int) (i2 : Int) (x14 : Bool) (x53 : Int) (σ : AMem) : d_trace_Clear_l1 k n p0 i1 i2 x14 x53 σ = s_trace_Clear_l1 k n p0 i1 i2 x14 x53 σ := by
  induction n generalizing p0 i1 i2 x14 x53 σ with
  | zero => simp only [d_trace_Clear_l1, hide_eq]; rfl
  | succ n ih => rw [d_trace_Clear_l1_eq, b_trace_Clear_l1, s_trace_Clear_l1]; simp only [trace_all_is, trace_fits_is, heap_Heap_Shape_is, trace_softs_is, heap_Heap_Ref_is, trace_marked_is, heap_Heap_SetRef_is, ih, strA, strR, str0, apS_3, apS_23, apS_121, apS_186]

noncomputable def s_trace_Clear_l0 (k n : Nat) (p0 : Option Addr) (p1 : Option Addr) (p2 : Option Addr) (c3 : Nat) (c4 : Nat) (i5 : Int) (x6 : Int) (x26 : Int) (σ : AMem) : Option LOut := match n with
  | 0 => none
  | n + 1 => (fP p0 fun p0 => fP p1 fun p1 => fP p2 fun p2 => fN c3 fun c3 => fN c4 fun c4 => fI x6 fun x6 => fI x26 fun x26 => fL σ fun σ => bif decide (x26 < i5) then (if 0 ≤ x26 ∧ x26 < (c3 : Nat) then p2.bind fun a7 => (ldIS .i64 σ a7.block (a7.off + x26.toNat * 1)).bind fun n8 => (s_heap_Heap_Shape k p0 n8 σ).bind fun r9 => (toT r9.1).bind fun q10 => if q10.length = 2 then q10.head?.bind fun v11 => a_iii v11 fun n12 n13 n14 => q10.tail.head?.bind fun v15 => (toIS .i64 v15).bind fun n16 => allocS r9.2 (.cells [.int .i64 (0 : Int), .int .i64 (0 : Int), .int .i64 (0 : Int)] 57 true) fun h17 s18 => stNS s18 h17 0 [.int .i64 n12, .int .i64 n13, .int .i64 n14] fun s19 => (ldIS .i64 s19 h17 0).bind fun n20 => (ldIS .i64 s19 h17 (0 + 1)).bind fun n21 => (ldIS .i64 s19 h17 (0 + 1 + 1)).bind fun n22 => (s_trace_softs k n20 n21 n22 s19).bind fun r23 => (toIS .i64 r23.1).bind fun n24 => (s_heap_Heap_Ref k p0 n8 (0 : Int) r23.2).bind fun r25 => r_ii r25.1 fun n26 n27 => (bif n24 == (0 : Int) then some (true, r25.2) else (s_trace_marked k p0 p1 n26 r25.2).bind fun r28 => (toB r28.1).bind fun b29 => some (b29, r28.2)).bind fun r30 => bif r30.1 then (s_trace_Clear_l0 k n p0 p1 p2 c3 c4 i5 x6 (w64S (x26 + (1 : Int))) r30.2) else ((s_trace_Clear_l1 k k p0 n8 n24 false (0 : Int) r30.2).bind fun r37 => if r37.1 = .exit 2 then (u_t r37.2.1 fun b38 => (bif b38 then (some (.normal, [.int .i64 (w64S (x6 + (1 : Int)))], r37.2.2)) else (some (.normal, [.int .i64 x6], r37.2.2)) : Option LOut).bind fun r39 => if r39.1 = .normal then (u_i r39.2.1 fun n40 => s_trace_Clear_l0 k n p0 p1 p2 c3 c4 i5 n40 (w64S (x26 + (1 : Int))) r39.2.2) else none) else none) else none else none) else (some (.exit 0, [.int .i64 x6], σ)))
termination_by structural n

theorem trace_Clear_l0_is (k n : Nat) (p0 : Option Addr) (p1 : Option Addr) (p2 : Option Addr) (c3 : Nat) (c4 : Nat) (i5 : Int) (x6 : Int) (x26 : Int) (σ : AMem) : d_trace_Clear_l0 k n p0 p1 p2 c3 c4 i5 x6 x26 σ = s_trace_Clear_l0 k n p0 p1 p2 c3 c4 i5 x6 x26 σ := by
  induction n generalizing p0 p1 p2 c3 c4 i5 x6 x26 σ with
  | zero => simp only [d_trace_Clear_l0, hide_eq]; rfl
  | succ n ih => rw [d_trace_Clear_l0_eq, b_trace_Clear_l0, s_trace_Clear_l0]; simp only [trace_all_is, trace_fits_is, heap_Heap_Shape_is, trace_softs_is, heap_Heap_Ref_is, trace_marked_is, heap_Heap_SetRef_is, trace_Clear_l1_is, ih, strA, strR, str0, apS_3, apS_23, apS_121, apS_186]

noncomputable def s_trace_Clear (k : Nat) (x0 : Option Addr) (x1 : Option Addr) (σ : AMem) : Option (Value × AMem) := match k with
  | 0 => none
  | k + 1 => (fP x0 fun x0 => fP x1 fun x1 => fL σ fun σ => (s_trace_fits k x0 x1 σ).bind fun r1 => (toB r1.1).bind fun b2 => bif !b2 then (fI (0 : Int) fun y3 => fI (1 : Int) fun y4 => some (.tuple #[.int .i64 y3, .int .i64 y4], r1.2)) else ((s_trace_all k x0 x1 r1.2).bind fun r5 => (toS r5.1).bind fun l6 => (s_trace_Clear_l0 k k x0 x1 l6.1 l6.2.1 l6.2.2 ((l6.2.1 : Nat) : Int) (0 : Int) (0 : Int) r5.2).bind fun r41 => if r41.1 = .exit 0 then (u_i r41.2.1 fun n42 => fI n42 fun y43 => fI (0 : Int) fun y44 => some (.tuple #[.int .i64 y43, .int .i64 y44], r41.2.2)) else none))

theorem trace_Clear_is (k : Nat) (x0 : Option Addr) (x1 : Option Addr) (σ : AMem) : d_trace_Clear k x0 x1 σ = s_trace_Clear k x0 x1 σ := by
  cases k with
  | zero => simp only [d_trace_Clear, hide_eq]; rfl
  | succ k => rw [d_trace_Clear_eq, b_trace_Clear, s_trace_Clear]; simp only [trace_all_is, trace_fits_is, heap_Heap_Shape_is, trace_softs_is, heap_Heap_Ref_is, trace_marked_is, heap_Heap_SetRef_is, trace_Clear_l1_is, trace_Clear_l0_is, strA, strR, str0, apS_3, apS_23, apS_121, apS_186]

noncomputable def s_trace_Marked (k : Nat) (x0 : Option Addr) (x1 : Option Addr) (x2 : Int) (σ : AMem) : Option (Value × AMem) := match k with
  | 0 => none
  | k + 1 => (fP x0 fun x0 => fP x1 fun x1 => fL σ fun σ => (s_trace_fits k x0 x1 σ).bind fun r1 => (toB r1.1).bind fun b2 => (bif b2 then (s_trace_marked k x0 x1 x2 r1.2).bind fun r3 => (toB r3.1).bind fun b4 => some (b4, r3.2) else some (false, r1.2)).bind fun r5 => fB r5.1 fun y6 => some (.bool y6, r5.2))

theorem trace_Marked_is (k : Nat) (x0 : Option Addr) (x1 : Option Addr) (x2 : Int) (σ : AMem) : d_trace_Marked k x0 x1 x2 σ = s_trace_Marked k x0 x1 x2 σ := by
  cases k with
  | zero => simp only [d_trace_Marked, hide_eq]; rfl
  | succ k => rw [d_trace_Marked_eq, b_trace_Marked, s_trace_Marked]; simp only [trace_fits_is, trace_marked_is, strA, strR, str0, apS_3, apS_23, apS_121, apS_186]

noncomputable def s_alloc_Allocator_made (k : Nat) (x0 : Option Addr) (σ : AMem) : Option (Value × AMem) := match k with
  | 0 => none
  | k + 1 => (fP x0 fun x0 => fL σ fun σ => (eqA P 67 (.pointer x0) (.pointer none)).bind fun e1 => (bif !e1 then x0.bind fun a2 => (ldPS σ a2.block (a2.off + 0)).bind fun p3 => (eqA P 33 (.pointer p3) (.pointer none)).bind fun e4 => some (!e4, σ) else some (false, σ)).bind fun r5 => fB r5.1 fun y6 => some (.bool y6, r5.2))

theorem alloc_Allocator_made_is (k : Nat) (x0 : Option Addr) (σ : AMem) : d_alloc_Allocator_made k x0 σ = s_alloc_Allocator_made k x0 σ := by
  cases k with
  | zero => simp only [d_alloc_Allocator_made, hide_eq]; rfl
  | succ k => rw [d_alloc_Allocator_made_eq, b_alloc_Allocator_made, s_alloc_Allocator_made]; simp only [strA, strR, str0, apS_3, apS_23, apS_121, apS_186]

noncomputable def s_heap_Valid (k : Nat) (x0_0 : Int) (x0_1 : Int) (x0_2 : Int) (σ : AMem) : Option (Value × AMem) := match k with
  | 0 => none
  | k + 1 => (fI x0_0 fun x0_0 => fI x0_1 fun x0_1 => fI x0_2 fun x0_2 => fL σ fun σ => allocS σ (.cells [.int .i64 x0_0, .int .i64 x0_1, .int .i64 x0_2] 57 true) fun h1 s2 => (ldIS .i64 s2 h1 (0 + 0)).bind fun n3 => (bif decide (n3 ≥ (0 : Int)) then (ldIS .i64 s2 h1 (0 + 0)).bind fun n4 => some (decide (n4 ≤ (15 : Int)), s2) else some (false, s2)).bind fun r5 => (bif r5.1 then (ldIS .i64 r5.2 h1 (0 + 1)).bind fun n6 => some (decide (n6 ≥ (0 : Int)), r5.2) else some (false, r5.2)).bind fun r7 => (bif r7.1 then (ldIS .i64 r7.2 h1 (0 + 1)).bind fun n8 => some (decide (n8 ≤ (200 : Int)), r7.2) else some (false, r7.2)).bind fun r9 => (bif r9.1 then (ldIS .i64 r9.2 h1 (0 + 2)).bind fun n10 => some (decide (n10 ≥ (0 : Int)), r9.2) else some (false, r9.2)).bind fun r11 => (bif r11.1 then (ldIS .i64 r11.2 h1 (0 + 2)).bind fun n12 => some (decide (n12 ≤ (3 : Int)), r11.2) else some (false, r11.2)).bind fun r13 => (bif r13.1 then (ldIS .i64 r13.2 h1 (0 + 2)).bind fun n14 => (bif n14 != (1 : Int) then some (true, r13.2) else (ldIS .i64 r13.2 h1 (0 + 0)).bind fun n15 => some (decide (n15 ≥ (1 : Int)), r13.2)).bind fun r16 => some (r16.1, r16.2) else some (false, r13.2)).bind fun r17 => (bif r17.1 then (ldIS .i64 r17.2 h1 (0 + 2)).bind fun n18 => (bif n18 != (2 : Int) then some (true, r17.2) else (ldIS .i64 r17.2 h1 (0 + 0)).bind fun n19 => some (decide (n19 ≥ (2 : Int)), r17.2)).bind fun r20 => some (r20.1, r20.2) else some (false, r17.2)).bind fun r21 => fB r21.1 fun y22 => some (.bool y22, r21.2))

theorem heap_Valid_is (k : Nat) (x0_0 : Int) (x0_1 : Int) (x0_2 : Int) (σ : AMem) : d_heap_Valid k x0_0 x0_1 x0_2 σ = s_heap_Valid k x0_0 x0_1 x0_2 σ := by
  cases k with
  | zero => simp only [d_heap_Valid, hide_eq]; rfl
  | succ k => rw [d_heap_Valid_eq, b_heap_Valid, s_heap_Valid]; simp only [strA, strR, str0, apS_3, apS_23, apS_121, apS_186]

noncomputable def s_heap_Words (k : Nat) (x0_0 : Int) (x0_1 : Int) (x0_2 : Int) (σ : AMem) : Option (Value × AMem) := match k with
  | 0 => none
  | k + 1 => (fI x0_0 fun x0_0 => fI x0_1 fun x0_1 => fI x0_2 fun x0_2 => fL σ fun σ => allocS σ (.cells [.int .i64 x0_0, .int .i64 x0_1, .int .i64 x0_2] 57 true) fun h1 s2 => (ldIS .i64 s2 h1 0).bind fun n3 => (ldIS .i64 s2 h1 (0 + 1)).bind fun n4 => (ldIS .i64 s2 h1 (0 + 1 + 1)).bind fun n5 => (s_heap_Valid k n3 n4 n5 s2).bind fun r6 => (toB r6.1).bind fun b7 => bif !b7 then (fI (0 : Int) fun y8 => some (.int .i64 y8, r6.2)) else ((ldIS .i64 r6.2 h1 (0 + 0)).bind fun n9 => (ldIS .i64 r6.2 h1 (0 + 1)).bind fun n10 => if (2 : Int) = 0 then none else fI (w64S ((w64S ((w64S ((w64S ((w64S ((2 : Int) + n9)) + n10)) + (1 : Int))).tdiv (2 : Int))) * (2 : Int))) fun y11 => some (.int .i64 y11, r6.2)))

theorem heap_Words_is (k : Nat) (x0_0 : Int) (x0_1 : Int) (x0_2 : Int) (σ : AMem) : d_heap_Words k x0_0 x0_1 x0_2 σ = s_heap_Words k x0_0 x0_1 x0_2 σ := by
  cases k with
  | zero => simp only [d_heap_Words, hide_eq]; rfl
  | succ k => rw [d_heap_Words_eq, b_heap_Words, s_heap_Words]; simp only [heap_Valid_is, strA, strR, str0, apS_3, apS_23, apS_121, apS_186]

noncomputable def s_alloc_policies (k : Nat)  (σ : AMem) : Option (Value × AMem) := match k with
  | 0 => none
  | k + 1 => (fL σ fun σ => allocS σ (.cells [.iface 239 (.agg #[]), .iface 240 (.agg #[]), .iface 241 (.agg #[]), .iface 242 (.agg #[]), .iface 243 (.agg #[])] 198 true) fun h1 s2 => some (.slice (some ⟨h1, 0, none⟩) 5 5, s2))

theorem alloc_policies_is (k : Nat)  (σ : AMem) : d_alloc_policies k  σ = s_alloc_policies k  σ := by
  cases k with
  | zero => simp only [d_alloc_policies, hide_eq]; rfl
  | succ k => rw [d_alloc_policies_eq, b_alloc_policies, s_alloc_policies]; simp only [strA, strR, str0, apS_3, apS_23, apS_121, apS_186]

noncomputable def s_heap_Heap_Space (k : Nat) (x0 : Option Addr) (x1 : Int) (σ : AMem) : Option (Value × AMem) := match k with
  | 0 => none
  | k + 1 => (fP x0 fun x0 => fI x1 fun x1 => fL σ fun σ => (bif decide (x1 < (0 : Int)) then some (true, σ) else (s_heap_Heap_Blocks k x0 σ).bind fun r1 => (toIS .i64 r1.1).bind fun n2 => some (decide (x1 ≥ n2), r1.2)).bind fun r3 => bif r3.1 then (fI (-1 : Int) fun y4 => some (.int .i64 y4, r3.2)) else (x0.bind fun a5 => (ldSS r3.2 a5.block (a5.off + 0)).bind fun l6 => if 0 ≤ x1 ∧ x1 < (l6.2.1 : Nat) then l6.1.bind fun a7 => (ldIS .i64 r3.2 a7.block (a7.off + x1.toNat * 2 + 1)).bind fun n8 => fI n8 fun y9 => some (.int .i64 y9, r3.2) else none))

theorem heap_Heap_Space_is (k : Nat) (x0 : Option Addr) (x1 : Int) (σ : AMem) : d_heap_Heap_Space k x0 x1 σ = s_heap_Heap_Space k x0 x1 σ := by
  cases k with
  | zero => simp only [d_heap_Heap_Space, hide_eq]; rfl
  | succ k => rw [d_heap_Heap_Space_eq, b_heap_Heap_Space, s_heap_Heap_Space]; simp only [heap_Heap_Blocks_is, strA, strR, str0, apS_3, apS_23, apS_121, apS_186]

noncomputable def s_side_Table_Set (k : Nat) (x0 : Option Addr) (x1 : Int) (x2 : Int) (σ : AMem) : Option (Value × AMem) := match k with
  | 0 => none
  | k + 1 => (fP x0 fun x0 => fI x1 fun x1 => fI x2 fun x2 => fL σ fun σ => allocS σ (.cells [.int .i64 x2] 3 true) fun h1 s2 => (s_side_Table_check k x0 x1 (some ⟨h1, 0, none⟩, 1, 1) s2).bind fun r3 => (toIS .i64 r3.1).bind fun n4 => bif n4 != (0 : Int) then (fI n4 fun y5 => some (.int .i64 y5, r3.2)) else ((s_side_Table_put k x0 x1 x2 r3.2).bind fun r6 => r_0 r6.1 (fI (0 : Int) fun y7 => some (.int .i64 y7, r6.2))))

theorem side_Table_Set_is (k : Nat) (x0 : Option Addr) (x1 : Int) (x2 : Int) (σ : AMem) : d_side_Table_Set k x0 x1 x2 σ = s_side_Table_Set k x0 x1 x2 σ := by
  cases k with
  | zero => simp only [d_side_Table_Set, hide_eq]; rfl
  | succ k => rw [d_side_Table_Set_eq, b_side_Table_Set, s_side_Table_Set]; simp only [side_Table_check_is, side_Table_put_is, strA, strR, str0, apS_3, apS_23, apS_121, apS_186]

noncomputable def s_heap_Heap_span_l0 (k n : Nat) (p0 : Option Addr) (i1 : Int) (x5 : Int) (σ : AMem) : Option LOut := match n with
  | 0 => none
  | n + 1 => (fP p0 fun p0 => fI i1 fun i1 => fI x5 fun x5 => fL σ fun σ => p0.bind fun a1 => (ldSS σ a1.block (a1.off + 0)).bind fun l2 => if 0 ≤ i1 ∧ i1 < (l2.2.1 : Nat) then l2.1.bind fun a3 => (ldIS .i64 σ a3.block (a3.off + i1.toNat * 2 + 0)).bind fun n4 => (bif n4 == (2 : Int) then p0.bind fun a5 => (ldSS σ a5.block (a5.off + 0)).bind fun l6 => some (decide ((w64S (i1 + x5)) < ((l6.2.1 : Nat) : Int)), σ) else some (false, σ)).bind fun r7 => (bif r7.1 then p0.bind fun a8 => (ldSS r7.2 a8.block (a8.off + 0)).bind fun l9 => if 0 ≤ (w64S (i1 + x5)) ∧ (w64S (i1 + x5)) < (l9.2.1 : Nat) then l9.1.bind fun a10 => (ldIS .i64 r7.2 a10.block (a10.off + (w64S (i1 + x5)).toNat * 2 + 0)).bind fun n11 => some (n11 == (3 : Int), r7.2) else none else some (false, r7.2)).bind fun r12 => bif r12.1 then (s_heap_Heap_span_l0 k n p0 i1 (w64S (x5 + (1 : Int))) r12.2) else (some (.exit 0, [.int .i64 x5], r12.2)) else none)
termination_by structural n

theorem heap_Heap_span_l0_is (k n : Nat) (p0 : Option Addr) (i1 : Int) (x5 : Int) (σ : AMem) : d_heap_Heap_span_l0 k n p0 i1 x5 σ = s_heap_Heap_span_l0 k n p0 i1 x5 σ := by
  induction n generalizing p0 i1 x5 σ with
  | zero => simp only [d_heap_Heap_span_l0, hide_eq]; rfl
  | succ n ih => rw [d_heap_Heap_span_l0_eq, b_heap_Heap_span_l0, s_heap_Heap_span_l0]; simp only [ih, strA, strR, str0, apS_3, apS_23, apS_121, apS_186]

noncomputable def s_heap_Heap_span (k : Nat) (x0 : Option Addr) (x1 : Int) (σ : AMem) : Option (Value × AMem) := match k with
  | 0 => none
  | k + 1 => (fP x0 fun x0 => fI x1 fun x1 => fL σ fun σ => (s_heap_Heap_span_l0 k k x0 x1 (1 : Int) σ).bind fun r13 => if r13.1 = .exit 0 then (u_i r13.2.1 fun n14 => fI n14 fun y15 => some (.int .i64 y15, r13.2.2)) else none)

theorem heap_Heap_span_is (k : Nat) (x0 : Option Addr) (x1 : Int) (σ : AMem) : d_heap_Heap_span k x0 x1 σ = s_heap_Heap_span k x0 x1 σ := by
  cases k with
  | zero => simp only [d_heap_Heap_span, hide_eq]; rfl
  | succ k => rw [d_heap_Heap_span_eq, b_heap_Heap_span, s_heap_Heap_span]; simp only [heap_Heap_span_l0_is, strA, strR, str0, apS_3, apS_23, apS_121, apS_186]

noncomputable def s_heap_Heap_size (k : Nat) (x0 : Option Addr) (x1 : Int) (σ : AMem) : Option (Value × AMem) := match k with
  | 0 => none
  | k + 1 => (fP x0 fun x0 => fI x1 fun x1 => fL σ fun σ => x0.bind fun a1 => (ldSS σ a1.block (a1.off + 1)).bind fun l2 => if 0 ≤ (w64S (x1 + (1 : Int))) ∧ (w64S (x1 + (1 : Int))) < (l2.2.1 : Nat) then l2.1.bind fun a3 => (ldIS .i64 σ a3.block (a3.off + (w64S (x1 + (1 : Int))).toNat * 1)).bind fun n4 => (s_heap_shape k n4 σ).bind fun r5 => a_iii r5.1 fun n6 n7 n8 => (s_heap_Words k n6 n7 n8 r5.2).bind fun r9 => (toIS .i64 r9.1).bind fun n10 => fI n10 fun y11 => some (.int .i64 y11, r9.2) else none)

theorem heap_Heap_size_is (k : Nat) (x0 : Option Addr) (x1 : Int) (σ : AMem) : d_heap_Heap_size k x0 x1 σ = s_heap_Heap_size k x0 x1 σ := by
  cases k with
  | zero => simp only [d_heap_Heap_size, hide_eq]; rfl
  | succ k => rw [d_heap_Heap_size_eq, b_heap_Heap_size, s_heap_Heap_size]; simp only [heap_shape_is, heap_Words_is, strA, strR, str0, apS_3, apS_23, apS_121, apS_186]

noncomputable def s_side_Table_Last_l0 (k n : Nat) (p0 : Option Addr) (i1 : Int) (x8 : Int) (σ : AMem) : Option LOut := match n with
  | 0 => none
  | n + 1 => (fP p0 fun p0 => fI i1 fun i1 => fI x8 fun x8 => fL σ fun σ => bif decide (x8 ≥ (0 : Int)) then ((s_side_Table_get k p0 x8 σ).bind fun r7 => (toIS .i64 r7.1).bind fun n8 => bif n8 == i1 then (some (.ret, [.int .i64 x8, .int .i64 (0 : Int)], r7.2)) else (s_side_Table_Last_l0 k n p0 i1 (w64S (x8 - (1 : Int))) r7.2)) else (some (.exit 0, [], σ)))
termination_by structural n

theorem side_Table_Last_l0_is (k n : Nat) (p0 : Option Addr) (i1 : Int) (x8 : Int) (σ : AMem) : d_side_Table_Last_l0 k n p0 i1 x8 σ = s_side_Table_Last_l0 k n p0 i1 x8 σ := by
  induction n generalizing p0 i1 x8 σ with
  | zero => simp only [d_side_Table_Last_l0, hide_eq]; rfl
  | succ n ih => rw [d_side_Table_Last_l0_eq, b_side_Table_Last_l0, s_side_Table_Last_l0]; simp only [side_Table_made_is, side_Table_get_is, ih, strA, strR, str0, apS_3, apS_23, apS_121, apS_186]

noncomputable def s_side_Table_Last (k : Nat) (x0 : Option Addr) (x1 : Int) (x2 : Int) (σ : AMem) : Option (Value × AMem) := match k with
  | 0 => none
  | k + 1 => (fP x0 fun x0 => fI x1 fun x1 => fI x2 fun x2 => fL σ fun σ => (s_side_Table_made k x0 σ).bind fun r1 => (toB r1.1).bind fun b2 => bif !b2 then (fI (0 : Int) fun y3 => fI (5 : Int) fun y4 => some (.tuple #[.int .i64 y3, .int .i64 y4], r1.2)) else (x0.bind fun a5 => (ldIS .i64 r1.2 a5.block (a5.off + 0)).bind fun n6 => (s_side_Table_Last_l0 k k x0 x2 (w64S ((if n6 < (if (0 : Int) > x1 then (0 : Int) else x1) then n6 else (if (0 : Int) > x1 then (0 : Int) else x1)) - (1 : Int))) r1.2).bind fun r9 => if r9.1 = .exit 0 then (fI (0 : Int) fun y10 => fI (4 : Int) fun y11 => some (.tuple #[.int .i64 y10, .int .i64 y11], r9.2.2)) else if r9.1 = .ret then (u_ii r9.2.1 fun n12 n13 => fI n12 fun y14 => fI n13 fun y15 => some (.tuple #[.int .i64 y14, .int .i64 y15], r9.2.2)) else none))

theorem side_Table_Last_is (k : Nat) (x0 : Option Addr) (x1 : Int) (x2 : Int) (σ : AMem) : d_side_Table_Last k x0 x1 x2 σ = s_side_Table_Last k x0 x1 x2 σ := by
  cases k with
  | zero => simp only [d_side_Table_Last, hide_eq]; rfl
  | succ k => rw [d_side_Table_Last_eq, b_side_Table_Last, s_side_Table_Last]; simp only [side_Table_made_is, side_Table_get_is, side_Table_Last_l0_is, strA, strR, str0, apS_3, apS_23, apS_121, apS_186]

noncomputable def s_heap_Heap_Find (k : Nat) (x0 : Option Addr) (x1 : Int) (σ : AMem) : Option (Value × AMem) := match k with
  | 0 => none
  | k + 1 => (fP x0 fun x0 => fI x1 fun x1 => fL σ fun σ => (s_heap_Heap_made k x0 σ).bind fun r1 => (toB r1.1).bind fun b2 => bif !b2 then (fI (0 : Int) fun y3 => fI (5 : Int) fun y4 => some (.tuple #[.int .i64 y3, .int .i64 y4], r1.2)) else ((bif decide (x1 < (0 : Int)) then some (true, r1.2) else x0.bind fun a5 => (ldSS r1.2 a5.block (a5.off + 1)).bind fun l6 => some (decide (x1 ≥ ((l6.2.1 : Nat) : Int)), r1.2)).bind fun r7 => bif r7.1 then (fI (0 : Int) fun y8 => fI (4 : Int) fun y9 => some (.tuple #[.int .i64 y8, .int .i64 y9], r7.2)) else (x0.bind fun a10 => (ldPS r7.2 a10.block (a10.off + 2)).bind fun p11 => if (2 : Int) = 0 then none else (s_side_Table_Last k p11 (w64S ((w64S (x1.tdiv (2 : Int))) + (1 : Int))) (1 : Int) r7.2).bind fun r12 => r_ii r12.1 fun n13 n14 => (bif n14 != (0 : Int) then some (true, r12.2) else (s_heap_Heap_size k x0 (w64S ((2 : Int) * n13)) r12.2).bind fun r15 => (toIS .i64 r15.1).bind fun n16 => some (decide (x1 ≥ (w64S ((w64S ((2 : Int) * n13)) + n16))), r15.2)).bind fun r17 => bif r17.1 then (fI (0 : Int) fun y18 => fI (4 : Int) fun y19 => some (.tuple #[.int .i64 y18, .int .i64 y19], r17.2)) else (fI (w64S ((2 : Int) * n13)) fun y20 => fI (0 : Int) fun y21 => some (.tuple #[.int .i64 y20, .int .i64 y21], r17.2)))))

theorem heap_Heap_Find_is (k : Nat) (x0 : Option Addr) (x1 : Int) (σ : AMem) : d_heap_Heap_Find k x0 x1 σ = s_heap_Heap_Find k x0 x1 σ := by
  cases k with
  | zero => simp only [d_heap_Heap_Find, hide_eq]; rfl
  | succ k => rw [d_heap_Heap_Find_eq, b_heap_Heap_Find, s_heap_Heap_Find]; simp only [heap_Heap_made_is, heap_Heap_size_is, side_Table_Last_is, strA, strR, str0, apS_3, apS_23, apS_121, apS_186]

noncomputable def s_heap_Heap_fits_l0 (k n : Nat) (p0 : Option Addr) (i1 : Int) (i2 : Int) (i3 : Int) (x10 : Int) (σ : AMem) : Option LOut := match n with
  | 0 => none
  | n + 1 => (fP p0 fun p0 => fI i1 fun i1 => fI i2 fun i2 => fI i3 fun i3 => fI x10 fun x10 => fL σ fun σ => bif decide (x10 < (w64S (i1 + i2))) then ((s_heap_Heap_Find k p0 x10 σ).bind fun r20 => r_ii r20.1 fun n21 n22 => (bif n22 == (0 : Int) then some (n21 != i3, r20.2) else some (false, r20.2)).bind fun r23 => bif r23.1 then (some (.ret, [.int .i64 (8 : Int)], r23.2)) else (s_heap_Heap_fits_l0 k n p0 i1 i2 i3 (w64S (x10 + (2 : Int))) r23.2)) else (some (.exit 0, [], σ)))
termination_by structural n

theorem heap_Heap_fits_l0_is (k n : Nat) (p0 : Option Addr) (i1 : Int) (i2 : Int) (i3 : Int) (x10 : Int) (σ : AMem) : d_heap_Heap_fits_l0 k n p0 i1 i2 i3 x10 σ = s_heap_Heap_fits_l0 k n p0 i1 i2 i3 x10 σ := by
  induction n generalizing p0 i1 i2 i3 x10 σ with
  | zero => simp only [d_heap_Heap_fits_l0, hide_eq]; rfl
  | succ n ih => rw [d_heap_Heap_fits_l0_eq, b_heap_Heap_fits_l0, s_heap_Heap_fits_l0]; simp only [heap_Heap_span_is, heap_Heap_Find_is, ih, strA, strR, str0, apS_3, apS_23, apS_121, apS_186]

noncomputable def s_heap_Heap_fits (k : Nat) (x0 : Option Addr) (x1 : Int) (x2 : Int) (x3 : Int) (σ : AMem) : Option (Value × AMem) := match k with
  | 0 => none
  | k + 1 => (fP x0 fun x0 => fI x1 fun x1 => fI x2 fun x2 => fI x3 fun x3 => fL σ fun σ => (bif decide (x1 < (0 : Int)) then some (true, σ) else x0.bind fun a1 => (ldSS σ a1.block (a1.off + 1)).bind fun l2 => some (decide (x1 ≥ ((l2.2.1 : Nat) : Int)), σ)).bind fun r3 => (bif r3.1 then some (true, r3.2) else if (2 : Int) = 0 then none else some ((x1.tmod (2 : Int)) != (0 : Int), r3.2)).bind fun r4 => bif r4.1 then (fI (1 : Int) fun y5 => some (.int .i64 y5, r4.2)) else (if (64 : Int) = 0 then none else (bif decide (x2 ≤ (32 : Int)) then (x0.bind fun a6 => (ldSS r4.2 a6.block (a6.off + 0)).bind fun l7 => if 0 ≤ (w64S (x1.tdiv (64 : Int))) ∧ (w64S (x1.tdiv (64 : Int))) < (l7.2.1 : Nat) then l7.1.bind fun a8 => (ldIS .i64 r4.2 a8.block (a8.off + (w64S (x1.tdiv (64 : Int))).toNat * 2 + 0)).bind fun n9 => (bif n9 != (1 : Int) then some (true, r4.2) else if (64 : Int) = 0 then none else some ((w64S ((w64S ((w64S (x1 + x2)) - (1 : Int))).tdiv (64 : Int))) != (w64S (x1.tdiv (64 : Int))), r4.2)).bind fun r10 => bif r10.1 then (some (.ret, [.int .i64 (5 : Int)], r10.2)) else (some (.normal, [], r10.2)) else none) else (x0.bind fun a11 => (ldSS r4.2 a11.block (a11.off + 0)).bind fun l12 => if 0 ≤ (w64S (x1.tdiv (64 : Int))) ∧ (w64S (x1.tdiv (64 : Int))) < (l12.2.1 : Nat) then l12.1.bind fun a13 => (ldIS .i64 r4.2 a13.block (a13.off + (w64S (x1.tdiv (64 : Int))).toNat * 2 + 0)).bind fun n14 => (bif n14 != (2 : Int) then some (true, r4.2) else if (64 : Int) = 0 then none else some ((x1.tmod (64 : Int)) != (0 : Int), r4.2)).bind fun r15 => (bif r15.1 then some (true, r15.2) else (s_heap_Heap_span k x0 (w64S (x1.tdiv (64 : Int))) r15.2).bind fun r16 => (toIS .i64 r16.1).bind fun n17 => if (64 : Int) = 0 then none else some (n17 != (w64S ((w64S ((w64S (x2 + (64 : Int))) - (1 : Int))).tdiv (64 : Int))), r16.2)).bind fun r18 => bif r18.1 then (some (.ret, [.int .i64 (5 : Int)], r18.2)) else (some (.normal, [], r18.2)) else none) : Option LOut).bind fun r19 => if r19.1 = .normal then ((s_heap_Heap_fits_l0 k k x0 x1 x2 x3 x1 r19.2.2).bind fun r24 => if r24.1 = .exit 0 then (fI (0 : Int) fun y25 => some (.int .i64 y25, r24.2.2)) else if r24.1 = .ret then (u_i r24.2.1 fun n26 => fI n26 fun y27 => some (.int .i64 y27, r24.2.2)) else none) else if r19.1 = .ret then (u_i r19.2.1 fun n28 => fI n28 fun y29 => some (.int .i64 y29, r19.2.2)) else none))

theorem heap_Heap_fits_is (k : Nat) (x0 : Option Addr) (x1 : Int) (x2 : Int) (x3 : Int) (σ : AMem) : d_heap_Heap_fits k x0 x1 x2 x3 σ = s_heap_Heap_fits k x0 x1 x2 x3 σ := by
  cases k with
  | zero => simp only [d_heap_Heap_fits, hide_eq]; rfl
  | succ k => rw [d_heap_Heap_fits_eq, b_heap_Heap_fits, s_heap_Heap_fits]; simp only [heap_Heap_span_is, heap_Heap_Find_is, heap_Heap_fits_l0_is, strA, strR, str0, apS_3, apS_23, apS_121, apS_186]

noncomputable def s_heap_number (k : Nat) (x0_0 : Int) (x0_1 : Int) (x0_2 : Int) (σ : AMem) : Option (Value × AMem) := match k with
  | 0 => none
  | k + 1 => (fI x0_0 fun x0_0 => fI x0_1 fun x0_1 => fI x0_2 fun x0_2 => fL σ fun σ => allocS σ (.cells [.int .i64 x0_0, .int .i64 x0_1, .int .i64 x0_2] 57 true) fun h1 s2 => (ldIS .i64 s2 h1 (0 + 0)).bind fun n3 => (ldIS .i64 s2 h1 (0 + 1)).bind fun n4 => (ldIS .i64 s2 h1 (0 + 2)).bind fun n5 => fI (w64S ((w64S (n3 + (w64S ((16 : Int) * n4)))) + (w64S ((4096 : Int) * n5)))) fun y6 => some (.int .i64 y6, s2))

theorem heap_number_is (k : Nat) (x0_0 : Int) (x0_1 : Int) (x0_2 : Int) (σ : AMem) : d_heap_number k x0_0 x0_1 x0_2 σ = s_heap_number k x0_0 x0_1 x0_2 σ := by
  cases k with
  | zero => simp only [d_heap_number, hide_eq]; rfl
  | succ k => rw [d_heap_number_eq, b_heap_number, s_heap_number]; simp only [strA, strR, str0, apS_3, apS_23, apS_121, apS_186]

noncomputable def s_heap_Heap_Place (k : Nat) (x0 : Option Addr) (x1 : Int) (x2_0 : Int) (x2_1 : Int) (x2_2 : Int) (σ : AMem) : Option (Value × AMem) := match k with
  | 0 => none
  | k + 1 => (fP x0 fun x0 => fI x1 fun x1 => fI x2_0 fun x2_0 => fI x2_1 fun x2_1 => fI x2_2 fun x2_2 => fL σ fun σ => allocS σ (.cells [.int .i64 x2_0, .int .i64 x2_1, .int .i64 x2_2] 57 true) fun h1 s2 => (s_heap_Heap_made k x0 s2).bind fun r3 => (toB r3.1).bind fun b4 => bif !b4 then (fI (0 : Int) fun y5 => fI (5 : Int) fun y6 => some (.tuple #[.int .i64 y5, .int .i64 y6], r3.2)) else ((ldIS .i64 r3.2 h1 0).bind fun n7 => (ldIS .i64 r3.2 h1 (0 + 1)).bind fun n8 => (ldIS .i64 r3.2 h1 (0 + 1 + 1)).bind fun n9 => (s_heap_Valid k n7 n8 n9 r3.2).bind fun r10 => (toB r10.1).bind fun b11 => bif !b11 then (fI (0 : Int) fun y12 => fI (2 : Int) fun y13 => some (.tuple #[.int .i64 y12, .int .i64 y13], r10.2)) else ((ldIS .i64 r10.2 h1 0).bind fun n14 => (ldIS .i64 r10.2 h1 (0 + 1)).bind fun n15 => (ldIS .i64 r10.2 h1 (0 + 1 + 1)).bind fun n16 => (s_heap_Words k n14 n15 n16 r10.2).bind fun r17 => (toIS .i64 r17.1).bind fun n18 => (s_heap_Heap_fits k x0 x1 n18 (-1 : Int) r17.2).bind fun r19 => (toIS .i64 r19.1).bind fun n20 => bif n20 != (0 : Int) then (fI (0 : Int) fun y21 => fI n20 fun y22 => some (.tuple #[.int .i64 y21, .int .i64 y22], r19.2)) else (x0.bind fun a23 => (ldIS .i64 r19.2 a23.block (a23.off + 6)).bind fun n24 => x0.bind fun a25 => st1S r19.2 a25.block (a25.off + 6) (.int .i64 (w64S (n24 + (1 : Int)))) fun s26 => x0.bind fun a27 => (ldSS s26 a27.block (a27.off + 1)).bind fun l28 => x0.bind fun a29 => (ldSS s26 a29.block (a29.off + 1)).bind fun l30 => x0.bind fun a31 => (ldIS .i64 s26 a31.block (a31.off + 6)).bind fun n32 => (ldIS .i64 s26 h1 0).bind fun n33 => (ldIS .i64 s26 h1 (0 + 1)).bind fun n34 => (ldIS .i64 s26 h1 (0 + 1 + 1)).bind fun n35 => (s_heap_number k n33 n34 n35 s26).bind fun r36 => (toIS .i64 r36.1).bind fun n37 => if 0 ≤ x1 ∧ x1 < (l28.2.1 : Nat) then l28.1.bind fun a38 => st1S r36.2 a38.block (a38.off + x1.toNat * 1) (.int .i64 n32) fun s39 => if 0 ≤ (w64S (x1 + (1 : Int))) ∧ (w64S (x1 + (1 : Int))) < (l30.2.1 : Nat) then l30.1.bind fun a40 => st1S s39 a40.block (a40.off + (w64S (x1 + (1 : Int))).toNat * 1) (.int .i64 n37) fun s41 => x0.bind fun a42 => (ldPS s41 a42.block (a42.off + 2)).bind fun p43 => if (2 : Int) = 0 then none else (s_side_Table_Set k p43 (w64S (x1.tdiv (2 : Int))) (1 : Int) s41).bind fun r44 => (toIS .i64 r44.1).bind fun n45 => x0.bind fun a46 => (ldMS r44.2 a46.block (a46.off + 4)).bind fun m47 => x0.bind fun a48 => (ldIS .i64 r44.2 a48.block (a48.off + 6)).bind fun n49 => m47.bind fun h51 => (ldMapS r44.2 h51).bind fun es50 => setMS r44.2 h51 (mapSet n49 (.int .i64 x1) es50) fun s52 => x0.bind fun a53 => (ldIS .i64 s52 a53.block (a53.off + 6)).bind fun n54 => fI n54 fun y55 => fI (0 : Int) fun y56 => some (.tuple #[.int .i64 y55, .int .i64 y56], s52) else none else none))))

theorem heap_Heap_Place_is (k : Nat) (x0 : Option Addr) (x1 : Int) (x2_0 : Int) (x2_1 : Int) (x2_2 : Int) (σ : AMem) : d_heap_Heap_Place k x0 x1 x2_0 x2_1 x2_2 σ = s_heap_Heap_Place k x0 x1 x2_0 x2_1 x2_2 σ := by
  cases k with
  | zero => simp only [d_heap_Heap_Place, hide_eq]; rfl
  | succ k => rw [d_heap_Heap_Place_eq, b_heap_Heap_Place, s_heap_Heap_Place]; simp only [heap_Heap_made_is, side_Table_Set_is, heap_Valid_is, heap_Words_is, heap_Heap_fits_is, heap_number_is, strA, strR, str0, apS_3, apS_23, apS_121, apS_186]

noncomputable def s_heap_Heap_there (k : Nat) (x0 : Option Addr) (x1 : Int) (σ : AMem) : Option (Value × AMem) := match k with
  | 0 => none
  | k + 1 => (fP x0 fun x0 => fI x1 fun x1 => fL σ fun σ => (s_heap_Heap_made k x0 σ).bind fun r1 => (toB r1.1).bind fun b2 => (bif b2 then some (decide (x1 ≥ (1 : Int)), r1.2) else some (false, r1.2)).bind fun r3 => (bif r3.1 then x0.bind fun a4 => (ldSS r3.2 a4.block (a4.off + 0)).bind fun l5 => some (decide (x1 < ((l5.2.1 : Nat) : Int)), r3.2) else some (false, r3.2)).bind fun r6 => fB r6.1 fun y7 => some (.bool y7, r6.2))

theorem heap_Heap_there_is (k : Nat) (x0 : Option Addr) (x1 : Int) (σ : AMem) : d_heap_Heap_there k x0 x1 σ = s_heap_Heap_there k x0 x1 σ := by
  cases k with
  | zero => simp only [d_heap_Heap_there, hide_eq]; rfl
  | succ k => rw [d_heap_Heap_there_eq, b_heap_Heap_there, s_heap_Heap_there]; simp only [heap_Heap_made_is, strA, strR, str0, apS_3, apS_23, apS_121, apS_186]

noncomputable def s_heap_space (k : Nat) (x0 : Int) (σ : AMem) : Option (Value × AMem) := match k with
  | 0 => none
  | k + 1 => (fI x0 fun x0 => fL σ fun σ => (bif decide (x0 ≥ (0 : Int)) then some (decide (x0 < (8 : Int)), σ) else some (false, σ)).bind fun r1 => fB r1.1 fun y2 => some (.bool y2, r1.2))

theorem heap_space_is (k : Nat) (x0 : Int) (σ : AMem) : d_heap_space k x0 σ = s_heap_space k x0 σ := by
  cases k with
  | zero => simp only [d_heap_space, hide_eq]; rfl
  | succ k => rw [d_heap_space_eq, b_heap_space, s_heap_space]; simp only [strA, strR, str0, apS_3, apS_23, apS_121, apS_186]

noncomputable def s_heap_Heap_claim_c1 (k : Nat) (x0_0 : Int) (x0_1 : Int) (σ : AMem) : Option (Value × AMem) := match k with
  | 0 => none
  | k + 1 => (fI x0_0 fun x0_0 => fI x0_1 fun x0_1 => fL σ fun σ => allocS σ (.cells [.int .i64 x0_0, .int .i64 x0_1] 221 true) fun h1 s2 => (ldIS .i64 s2 h1 0).bind fun n3 => (ldIS .i64 s2 h1 (0 + 1)).bind fun n4 => (eqA P 221 (.agg #[.int .i64 n3, .int .i64 n4]) (.agg #[.int .i64 (0 : Int), .int .i64 (0 : Int)])).bind fun e5 => fB (!e5) fun y6 => some (.bool y6, s2))

theorem heap_Heap_claim_c1_is (k : Nat) (x0_0 : Int) (x0_1 : Int) (σ : AMem) : d_heap_Heap_claim_c1 k x0_0 x0_1 σ = s_heap_Heap_claim_c1 k x0_0 x0_1 σ := by
  cases k with
  | zero => simp only [d_heap_Heap_claim_c1, hide_eq]; rfl
  | succ k => rw [d_heap_Heap_claim_c1_eq, b_heap_Heap_claim_c1, s_heap_Heap_claim_c1]; simp only [strA, strR, str0, apS_3, apS_23, apS_121, apS_186]

theorem heap_Heap_claim_c1_raw (k : Nat) (x0_0 : Int) (x0_1 : Int) (σ : AMem) : fn P (XK Kn.b) H k 252 [.agg #[.int .i64 x0_0, .int .i64 x0_1]] σ = d_heap_Heap_claim_c1 k x0_0 x0_1 σ := by
  simp only [d_heap_Heap_claim_c1, hide_eq]

noncomputable def s_callN_ii_t (k : Nat) (n : FuncId) (l : List Value) (σ : AMem) : Option (Value × AMem) :=
  if n = 252 then (match l with
    | [.agg ⟨[.int .i64 y1, .int .i64 y2]⟩] => s_heap_Heap_claim_c1 k y1 y2 σ
    | l => fn P (XK Kn.b) H k 252 l σ) else
  fn P (XK Kn.b) H k n l σ

theorem callN_ii_t_is (k : Nat) (n : FuncId) (l : List Value) (σ : AMem) : fn P (XK Kn.b) H k n l σ = s_callN_ii_t k n l σ := by
  unfold s_callN_ii_t
  split
  · rename_i hn; subst hn
    split
    · exact (heap_Heap_claim_c1_raw k _ _ σ).trans (heap_Heap_claim_c1_is k _ _ σ)
    · rfl
  rfl

noncomputable def s_callV_ii_t (k : Nat) (f : Value) (args : List Value) (σ : AMem) : Option (Value × AMem) := match f with
  | .func (.func n) first cap => bif Nat.beq n YF then none else s_callN_ii_t k n (first.toList ++ args ++ cap.toList) σ
  | .func (.yield h) _ _ => fn P (XK Kn.b) H k YF (.pointer (some ⟨h, 0, none⟩) :: args) σ
  | .func (.method nm) first _ => (match first.toList ++ args with
    | .iface t v :: rest => (methodF P t nm).bind fun n => bif Nat.beq n YF then none else s_callN_ii_t k n (v :: rest) σ
    | _ => none)
  | _ => none

theorem callV_ii_t_is (k : Nat) (f : Value) (args : List Value) (σ : AMem) : d_callV_ii_t k f args σ = s_callV_ii_t k f args σ := by
  simp only [d_callV_ii_t, hide_eq]
  unfold callVal s_callV_ii_t
  simp only [callN_ii_t_is]
  rfl

noncomputable def s_slices_IndexFunc_heap_block_l0 (k n : Nat) (p0 : Option Addr) (c1 : Nat) (c2 : Nat) (v3 : Value) (i4 : Int) (x8 : Int) (σ : AMem) : Option LOut := match n with
  | 0 => none
  | n + 1 => (fP p0 fun p0 => fN c1 fun c1 => fN c2 fun c2 => fI i4 fun i4 => fI x8 fun x8 => fL σ fun σ => bif decide (x8 < i4) then (if 0 ≤ x8 ∧ x8 < (c1 : Nat) then p0.bind fun a1 => (ldIS .i64 σ a1.block (a1.off + x8.toNat * 2)).bind fun n2 => (ldIS .i64 σ a1.block (a1.off + x8.toNat * 2 + 1)).bind fun n3 => (s_callV_ii_t k v3 [.agg #[.int .i64 n2, .int .i64 n3]] σ).bind fun r4 => (toB r4.1).bind fun b5 => bif b5 then (some (.ret, [.int .i64 x8], r4.2)) else (s_slices_IndexFunc_heap_block_l0 k n p0 c1 c2 v3 i4 (w64S (x8 + (1 : Int))) r4.2) else none) else (some (.exit 0, [], σ)))
termination_by structural n

theorem slices_IndexFunc_heap_block_l0_is (k n : Nat) (p0 : Option Addr) (c1 : Nat) (c2 : Nat) (v3 : Value) (i4 : Int) (x8 : Int) (σ : AMem) : d_slices_IndexFunc_heap_block_l0 k n p0 c1 c2 v3 i4 x8 σ = s_slices_IndexFunc_heap_block_l0 k n p0 c1 c2 v3 i4 x8 σ := by
  induction n generalizing p0 c1 c2 v3 i4 x8 σ with
  | zero => simp only [d_slices_IndexFunc_heap_block_l0, hide_eq]; rfl
  | succ n ih => rw [d_slices_IndexFunc_heap_block_l0_eq, b_slices_IndexFunc_heap_block_l0, s_slices_IndexFunc_heap_block_l0]; simp only [callV_ii_t_is, ih, strA, strR, str0, apS_3, apS_23, apS_121, apS_186]

noncomputable def s_slices_IndexFunc_heap_block (k : Nat) (x0 : Option Addr × Nat × Nat) (x1 : Value) (σ : AMem) : Option (Value × AMem) := match k with
  | 0 => none
  | k + 1 => (fS x0 fun x0 => fL σ fun σ => (s_slices_IndexFunc_heap_block_l0 k k x0.1 x0.2.1 x0.2.2 x1 ((x0.2.1 : Nat) : Int) (0 : Int) σ).bind fun r6 => if r6.1 = .exit 0 then (fI (-1 : Int) fun y7 => some (.int .i64 y7, r6.2.2)) else if r6.1 = .ret then (u_i r6.2.1 fun n8 => fI n8 fun y9 => some (.int .i64 y9, r6.2.2)) else none)

theorem slices_IndexFunc_heap_block_is (k : Nat) (x0 : Option Addr × Nat × Nat) (x1 : Value) (σ : AMem) : d_slices_IndexFunc_heap_block k x0 x1 σ = s_slices_IndexFunc_heap_block k x0 x1 σ := by
  cases k with
  | zero => simp only [d_slices_IndexFunc_heap_block, hide_eq]; rfl
  | succ k => rw [d_slices_IndexFunc_heap_block_eq, b_slices_IndexFunc_heap_block, s_slices_IndexFunc_heap_block]; simp only [callV_ii_t_is, slices_IndexFunc_heap_block_l0_is, strA, strR, str0, apS_3, apS_23, apS_121, apS_186]

noncomputable def s_slices_ContainsFunc_heap_block (k : Nat) (x0 : Option Addr × Nat × Nat) (x1 : Value) (σ : AMem) : Option (Value × AMem) := match k with
  | 0 => none
  | k + 1 => (fS x0 fun x0 => fL σ fun σ => (s_slices_IndexFunc_heap_block k (x0.1, x0.2.1, x0.2.2) (x1) σ).bind fun r1 => (toIS .i64 r1.1).bind fun n2 => fB (decide (n2 ≥ (0 : Int))) fun y3 => some (.bool y3, r1.2))

theorem slices_ContainsFunc_heap_block_is (k : Nat) (x0 : Option Addr × Nat × Nat) (x1 : Value) (σ : AMem) : d_slices_ContainsFunc_heap_block k x0 x1 σ = s_slices_ContainsFunc_heap_block k x0 x1 σ := by
  cases k with
  | zero => simp only [d_slices_ContainsFunc_heap_block, hide_eq]; rfl
  | succ k => rw [d_slices_ContainsFunc_heap_block_eq, b_slices_ContainsFunc_heap_block, s_slices_ContainsFunc_heap_block]; simp only [slices_IndexFunc_heap_block_is, strA, strR, str0, apS_3, apS_23, apS_121, apS_186]

noncomputable def s_heap_Heap_claim_l0 (k n : Nat) (p0 : Option Addr) (i1 : Int) (h2 : Nat) (i3 : Int) (x54 : Int) (σ : AMem) : Option LOut := match n with
  | 0 => none
  | n + 1 => (fP p0 fun p0 => fI i1 fun i1 => fN h2 fun h2 => fI i3 fun i3 => fI x54 fun x54 => fL σ fun σ => bif decide (x54 < i3) then (p0.bind fun a25 => (ldSS σ a25.block (a25.off + 0)).bind fun l26 => (ldIS .i64 σ h2 0).bind fun n27 => (ldIS .i64 σ h2 (0 + 1)).bind fun n28 => if 0 ≤ (w64S (i1 + x54)) ∧ (w64S (i1 + x54)) < (l26.2.1 : Nat) then l26.1.bind fun a29 => stNS σ a29.block (a29.off + (w64S (i1 + x54)).toNat * 2) [.int .i64 n27, .int .i64 n28] fun s30 => s_heap_Heap_claim_l0 k n p0 i1 h2 i3 (w64S (x54 + (1 : Int))) s30 else none) else (some (.exit 1, [], σ)))
termination_by structural n

theorem heap_Heap_claim_l0_is (k n : Nat) (p0 : Option Addr) (i1 : Int) (h2 : Nat) (i3 : Int) (x54 : Int) (σ : AMem) : d_heap_Heap_claim_l0 k n p0 i1 h2 i3 x54 σ = s_heap_Heap_claim_l0 k n p0 i1 h2 i3 x54 σ := by
  induction n generalizing p0 i1 h2 i3 x54 σ with
  | zero => simp only [d_heap_Heap_claim_l0, hide_eq]; rfl
  | succ n ih => rw [d_heap_Heap_claim_l0_eq, b_heap_Heap_claim_l0, s_heap_Heap_claim_l0]; simp only [heap_Heap_made_is, heap_Heap_there_is, heap_space_is, slices_ContainsFunc_heap_block_is, ih, strA, strR, str0, apS_3, apS_23, apS_121, apS_186]

noncomputable def s_heap_Heap_claim (k : Nat) (x0 : Option Addr) (x1 : Int) (x2 : Int) (x3_0 : Int) (x3_1 : Int) (x4_0 : Int) (x4_1 : Int) (σ : AMem) : Option (Value × AMem) := match k with
  | 0 => none
  | k + 1 => (fP x0 fun x0 => fI x1 fun x1 => fI x2 fun x2 => fI x3_0 fun x3_0 => fI x3_1 fun x3_1 => fI x4_0 fun x4_0 => fI x4_1 fun x4_1 => fL σ fun σ => allocS σ (.cells [.int .i64 x3_0, .int .i64 x3_1] 221 true) fun h1 s2 => allocS s2 (.cells [.int .i64 x4_0, .int .i64 x4_1] 221 true) fun h3 s4 => (s_heap_Heap_made k x0 s4).bind fun r5 => (toB r5.1).bind fun b6 => bif !b6 then (fI (5 : Int) fun y7 => some (.int .i64 y7, r5.2)) else ((s_heap_Heap_there k x0 x1 r5.2).bind fun r8 => (toB r8.1).bind fun b9 => (bif !b9 then some (true, r8.2) else some (decide (x2 < (1 : Int)), r8.2)).bind fun r10 => (bif r10.1 then some (true, r10.2) else x0.bind fun a11 => (ldSS r10.2 a11.block (a11.off + 0)).bind fun l12 => some (decide (x2 > (w64S (((l12.2.1 : Nat) : Int) - x1))), r10.2)).bind fun r13 => (bif r13.1 then some (true, r13.2) else (ldIS .i64 r13.2 h1 (0 + 1)).bind fun n14 => (s_heap_space k n14 r13.2).bind fun r15 => (toB r15.1).bind fun b16 => some (!b16, r15.2)).bind fun r17 => bif r17.1 then (fI (1 : Int) fun y18 => some (.int .i64 y18, r17.2)) else (x0.bind fun a19 => (ldSS r17.2 a19.block (a19.off + 0)).bind fun l20 => (sliceD 221 2 (l20.1, l20.2.1, l20.2.2) (some (.int .i64 x1)) (some (.int .i64 (w64S (x1 + x2)))) none r17.2).bind fun l21 => (s_slices_ContainsFunc_heap_block k (l21.1, l21.2.1, l21.2.2) (.func (.func 252) #[] #[]) r17.2).bind fun r22 => (toB r22.1).bind fun b23 => bif b23 then (fI (8 : Int) fun y24 => some (.int .i64 y24, r22.2)) else ((s_heap_Heap_claim_l0 k k x0 x1 h3 x2 (0 : Int) r22.2).bind fun r31 => if r31.1 = .exit 1 then (x0.bind fun a32 => (ldSS r31.2.2 a32.block (a32.off + 0)).bind fun l33 => (ldIS .i64 r31.2.2 h1 0).bind fun n34 => (ldIS .i64 r31.2.2 h1 (0 + 1)).bind fun n35 => if 0 ≤ x1 ∧ x1 < (l33.2.1 : Nat) then l33.1.bind fun a36 => stNS r31.2.2 a36.block (a36.off + x1.toNat * 2) [.int .i64 n34, .int .i64 n35] fun s37 => fI (0 : Int) fun y38 => some (.int .i64 y38, s37) else none) else none))))

theorem heap_Heap_claim_is (k : Nat) (x0 : Option Addr) (x1 : Int) (x2 : Int) (x3_0 : Int) (x3_1 : Int) (x4_0 : Int) (x4_1 : Int) (σ : AMem) : d_heap_Heap_claim k x0 x1 x2 x3_0 x3_1 x4_0 x4_1 σ = s_heap_Heap_claim k x0 x1 x2 x3_0 x3_1 x4_0 x4_1 σ := by
  cases k with
  | zero => simp only [d_heap_Heap_claim, hide_eq]; rfl
  | succ k => rw [d_heap_Heap_claim_eq, b_heap_Heap_claim, s_heap_Heap_claim]; simp only [heap_Heap_made_is, heap_Heap_there_is, heap_space_is, slices_ContainsFunc_heap_block_is, heap_Heap_claim_l0_is, strA, strR, str0, apS_3, apS_23, apS_121, apS_186]

noncomputable def s_heap_Heap_ClaimLarge (k : Nat) (x0 : Option Addr) (x1 : Int) (x2 : Int) (x3 : Int) (σ : AMem) : Option (Value × AMem) := match k with
  | 0 => none
  | k + 1 => (fP x0 fun x0 => fI x1 fun x1 => fI x2 fun x2 => fI x3 fun x3 => fL σ fun σ => (s_heap_Heap_claim k x0 x1 x2 (2 : Int) x3 (3 : Int) x3 σ).bind fun r1 => (toIS .i64 r1.1).bind fun n2 => fI n2 fun y3 => some (.int .i64 y3, r1.2))

theorem heap_Heap_ClaimLarge_is (k : Nat) (x0 : Option Addr) (x1 : Int) (x2 : Int) (x3 : Int) (σ : AMem) : d_heap_Heap_ClaimLarge k x0 x1 x2 x3 σ = s_heap_Heap_ClaimLarge k x0 x1 x2 x3 σ := by
  cases k with
  | zero => simp only [d_heap_Heap_ClaimLarge, hide_eq]; rfl
  | succ k => rw [d_heap_Heap_ClaimLarge_eq, b_heap_Heap_ClaimLarge, s_heap_Heap_ClaimLarge]; simp only [heap_Heap_claim_is, strA, strR, str0, apS_3, apS_23, apS_121, apS_186]

noncomputable def s_alloc_Allocator_large_l0 (k n : Nat) (p0 : Option Addr) (i1 : Int) (x7 : Int) (σ : AMem) : Option LOut := match n with
  | 0 => none
  | n + 1 => (fP p0 fun p0 => fI i1 fun i1 => fI x7 fun x7 => fL σ fun σ => p0.bind fun a1 => (ldPS σ a1.block (a1.off + 0)).bind fun p2 => (s_heap_Heap_Blocks k p2 σ).bind fun r3 => (toIS .i64 r3.1).bind fun n4 => bif decide ((w64S (x7 + i1)) ≤ n4) then (p0.bind fun a5 => (ldPS r3.2 a5.block (a5.off + 0)).bind fun p6 => p0.bind fun a7 => (ldIS .i64 r3.2 a7.block (a7.off + 1)).bind fun n8 => (s_heap_Heap_ClaimLarge k p6 x7 i1 n8 r3.2).bind fun r9 => (toIS .i64 r9.1).bind fun n10 => bif n10 == (0 : Int) then (some (.ret, [.int .i64 (w64S (x7 * (64 : Int))), .bool true], r9.2)) else (s_alloc_Allocator_large_l0 k n p0 i1 (w64S (x7 + (1 : Int))) r9.2)) else (some (.exit 0, [], r3.2)))
termination_by structural n

theorem alloc_Allocator_large_l0_is (k n : Nat) (p0 : Option Addr) (i1 : Int) (x7 : Int) (σ : AMem) : d_alloc_Allocator_large_l0 k n p0 i1 x7 σ = s_alloc_Allocator_large_l0 k n p0 i1 x7 σ := by
  induction n generalizing p0 i1 x7 σ with
  | zero => simp only [d_alloc_Allocator_large_l0, hide_eq]; rfl
  | succ n ih => rw [d_alloc_Allocator_large_l0_eq, b_alloc_Allocator_large_l0, s_alloc_Allocator_large_l0]; simp only [heap_Heap_Blocks_is, heap_Heap_ClaimLarge_is, ih, strA, strR, str0, apS_3, apS_23, apS_121, apS_186]

noncomputable def s_alloc_Allocator_large (k : Nat) (x0 : Option Addr) (x1 : Int) (σ : AMem) : Option (Value × AMem) := match k with
  | 0 => none
  | k + 1 => (fP x0 fun x0 => fI x1 fun x1 => fL σ fun σ => if (64 : Int) = 0 then none else (s_alloc_Allocator_large_l0 k k x0 (w64S ((w64S ((w64S (x1 + (64 : Int))) - (1 : Int))).tdiv (64 : Int))) (1 : Int) σ).bind fun r11 => if r11.1 = .exit 0 then (fI (0 : Int) fun y12 => fB false fun y13 => some (.tuple #[.int .i64 y12, .bool y13], r11.2.2)) else if r11.1 = .ret then (u_it r11.2.1 fun n14 b15 => fI n14 fun y16 => fB b15 fun y17 => some (.tuple #[.int .i64 y16, .bool y17], r11.2.2)) else none)

theorem alloc_Allocator_large_is (k : Nat) (x0 : Option Addr) (x1 : Int) (σ : AMem) : d_alloc_Allocator_large k x0 x1 σ = s_alloc_Allocator_large k x0 x1 σ := by
  cases k with
  | zero => simp only [d_alloc_Allocator_large, hide_eq]; rfl
  | succ k => rw [d_alloc_Allocator_large_eq, b_alloc_Allocator_large, s_alloc_Allocator_large]; simp only [heap_Heap_Blocks_is, heap_Heap_ClaimLarge_is, alloc_Allocator_large_l0_is, strA, strR, str0, apS_3, apS_23, apS_121, apS_186]

theorem alloc_Allocator_large_raw (k : Nat) (x0 : Option Addr) (x1 : Int) (σ : AMem) : fn P (XK Kn.b) H k 156 [.pointer x0, .int .i64 x1] σ = d_alloc_Allocator_large k x0 x1 σ := by
  simp only [d_alloc_Allocator_large, hide_eq]

noncomputable def s_heap_Heap_Claim (k : Nat) (x0 : Option Addr) (x1 : Int) (x2 : Int) (σ : AMem) : Option (Value × AMem) := match k with
  | 0 => none
  | k + 1 => (fP x0 fun x0 => fI x1 fun x1 => fI x2 fun x2 => fL σ fun σ => (s_heap_Heap_claim k x0 x1 (1 : Int) (1 : Int) x2 (0 : Int) (0 : Int) σ).bind fun r1 => (toIS .i64 r1.1).bind fun n2 => fI n2 fun y3 => some (.int .i64 y3, r1.2))

theorem heap_Heap_Claim_is (k : Nat) (x0 : Option Addr) (x1 : Int) (x2 : Int) (σ : AMem) : d_heap_Heap_Claim k x0 x1 x2 σ = s_heap_Heap_Claim k x0 x1 x2 σ := by
  cases k with
  | zero => simp only [d_heap_Heap_Claim, hide_eq]; rfl
  | succ k => rw [d_heap_Heap_Claim_eq, b_heap_Heap_Claim, s_heap_Heap_Claim]; simp only [heap_Heap_claim_is, strA, strR, str0, apS_3, apS_23, apS_121, apS_186]

noncomputable def s_alloc_Allocator_begin_l0 (k n : Nat) (p0 : Option Addr) (h1 : Nat) (x4 : Int) (σ : AMem) : Option LOut := match n with
  | 0 => none
  | n + 1 => (fP p0 fun p0 => fN h1 fun h1 => fI x4 fun x4 => fL σ fun σ => p0.bind fun a3 => (ldPS σ a3.block (a3.off + 0)).bind fun p4 => (s_heap_Heap_Blocks k p4 σ).bind fun r5 => (toIS .i64 r5.1).bind fun n6 => bif decide (x4 < n6) then (p0.bind fun a7 => (ldPS r5.2 a7.block (a7.off + 0)).bind fun p8 => p0.bind fun a9 => (ldIS .i64 r5.2 a9.block (a9.off + 1)).bind fun n10 => (s_heap_Heap_Claim k p8 x4 n10 r5.2).bind fun r11 => (toIS .i64 r11.1).bind fun n12 => bif n12 == (0 : Int) then (stNS r11.2 h1 0 [.int .i64 (w64S (x4 * (64 : Int))), .int .i64 (w64S ((w64S (x4 + (1 : Int))) * (64 : Int)))] fun s13 => some (.ret, [.bool true], s13)) else (s_alloc_Allocator_begin_l0 k n p0 h1 (w64S (x4 + (1 : Int))) r11.2)) else (some (.exit 0, [], r5.2)))
termination_by structural n

theorem alloc_Allocator_begin_l0_is (k n : Nat) (p0 : Option Addr) (h1 : Nat) (x4 : Int) (σ : AMem) : d_alloc_Allocator_begin_l0 k n p0 h1 x4 σ = s_alloc_Allocator_begin_l0 k n p0 h1 x4 σ := by
  induction n generalizing p0 h1 x4 σ with
  | zero => simp only [d_alloc_Allocator_begin_l0, hide_eq]; rfl
  | succ n ih => rw [d_alloc_Allocator_begin_l0_eq, b_alloc_Allocator_begin_l0, s_alloc_Allocator_begin_l0]; simp only [heap_Heap_Blocks_is, heap_Heap_Claim_is, ih, strA, strR, str0, apS_3, apS_23, apS_121, apS_186]

noncomputable def s_alloc_Allocator_begin (k : Nat) (x0 : Option Addr) (σ : AMem) : Option (Value × AMem) := match k with
  | 0 => none
  | k + 1 => (fP x0 fun x0 => fL σ fun σ => allocS σ (.cells [.int .i64 (0 : Int), .int .i64 (0 : Int)] 202 true) fun h1 s2 => (s_alloc_Allocator_begin_l0 k k x0 h1 (1 : Int) s2).bind fun r14 => if r14.1 = .exit 0 then (stNS r14.2.2 h1 0 [.int .i64 (0 : Int), .int .i64 (0 : Int)] fun s15 => (((ldNS s15 h1 0 2).bind fun v16 => some (.agg v16.toArray)).bind fun v17 => some [v17, .bool false]).bind fun vs18 => some (resOf vs18, s15)) else if r14.1 = .ret then (u_t r14.2.1 fun b19 => (((ldNS r14.2.2 h1 0 2).bind fun v20 => some (.agg v20.toArray)).bind fun v21 => some [v21, .bool b19]).bind fun vs22 => some (resOf vs22, r14.2.2)) else none)

theorem alloc_Allocator_begin_is (k : Nat) (x0 : Option Addr) (σ : AMem) : d_alloc_Allocator_begin k x0 σ = s_alloc_Allocator_begin k x0 σ := by
  cases k with
  | zero => simp only [d_alloc_Allocator_begin, hide_eq]; rfl
  | succ k => rw [d_alloc_Allocator_begin_eq, b_alloc_Allocator_begin, s_alloc_Allocator_begin]; simp only [heap_Heap_Blocks_is, heap_Heap_Claim_is, alloc_Allocator_begin_l0_is, strA, strR, str0, apS_3, apS_23, apS_121, apS_186]

noncomputable def s_alloc_Allocator_start (k : Nat) (x0 : Option Addr) (x1 : Option Addr × Nat × Nat) (σ : AMem) : Option (Value × AMem) := match k with
  | 0 => none
  | k + 1 => (fP x0 fun x0 => fS x1 fun x1 => fL σ fun σ => bif decide (((x1.2.1 : Nat) : Int) > (0 : Int)) then (if 0 ≤ (0 : Int) ∧ (0 : Int) < (x1.2.1 : Nat) then x1.1.bind fun a1 => (ldIS .i64 σ a1.block (a1.off + (0 : Int).toNat * 2 + 0)).bind fun n2 => fI n2 fun y3 => fB true fun y4 => some (.tuple #[.int .i64 y3, .bool y4], σ) else none) else ((s_alloc_Allocator_begin k x0 σ).bind fun r5 => (toT r5.1).bind fun q6 => if q6.length = 2 then q6.head?.bind fun v7 => a_ii v7 fun n8 n9 => q6.tail.head?.bind fun v10 => (toB v10).bind fun b11 => allocS r5.2 (.cells [.int .i64 (0 : Int), .int .i64 (0 : Int)] 202 true) fun h12 s13 => stNS s13 h12 0 [.int .i64 n8, .int .i64 n9] fun s14 => (ldIS .i64 s14 h12 (0 + 0)).bind fun n15 => fI n15 fun y16 => fB b11 fun y17 => some (.tuple #[.int .i64 y16, .bool y17], s14) else none))

theorem alloc_Allocator_start_is (k : Nat) (x0 : Option Addr) (x1 : Option Addr × Nat × Nat) (σ : AMem) : d_alloc_Allocator_start k x0 x1 σ = s_alloc_Allocator_start k x0 x1 σ := by
  cases k with
  | zero => simp only [d_alloc_Allocator_start, hide_eq]; rfl
  | succ k => rw [d_alloc_Allocator_start_eq, b_alloc_Allocator_start, s_alloc_Allocator_start]; simp only [alloc_Allocator_begin_is, strA, strR, str0, apS_3, apS_23, apS_121, apS_186]

noncomputable def s_heap_Heap_Objects (k : Nat) (x0 : Option Addr) (x1 : Int) (σ : AMem) : Option (Value × AMem) := match k with
  | 0 => none
  | k + 1 => (fP x0 fun x0 => fI x1 fun x1 => fL σ fun σ => (s_heap_Heap_made k x0 σ).bind fun r1 => (toB r1.1).bind fun b2 => (bif !b2 then some (true, r1.2) else some (decide (x1 < (0 : Int)), r1.2)).bind fun r3 => (bif r3.1 then some (true, r3.2) else x0.bind fun a4 => (ldSS r3.2 a4.block (a4.off + 0)).bind fun l5 => some (decide (x1 ≥ ((l5.2.1 : Nat) : Int)), r3.2)).bind fun r6 => bif r6.1 then (some (.slice none 0 0, r6.2)) else ((s_heap_Heap_between k x0 (w64S (x1 * (64 : Int))) (w64S ((w64S (x1 + (1 : Int))) * (64 : Int))) r6.2).bind fun r7 => (toS r7.1).bind fun l8 => some (.slice l8.1 l8.2.1 l8.2.2, r7.2)))

theorem heap_Heap_Objects_is (k : Nat) (x0 : Option Addr) (x1 : Int) (σ : AMem) : d_heap_Heap_Objects k x0 x1 σ = s_heap_Heap_Objects k x0 x1 σ := by
  cases k with
  | zero => simp only [d_heap_Heap_Objects, hide_eq]; rfl
  | succ k => rw [d_heap_Heap_Objects_eq, b_heap_Heap_Objects, s_heap_Heap_Objects]; simp only [heap_Heap_made_is, heap_Heap_between_is, strA, strR, str0, apS_3, apS_23, apS_121, apS_186]

noncomputable def s_heap_Heap_used (k : Nat) (x0 : Option Addr) (x1 : Int) (σ : AMem) : Option (Value × AMem) := match k with
  | 0 => none
  | k + 1 => (fP x0 fun x0 => fI x1 fun x1 => fL σ fun σ => (s_heap_Heap_there k x0 x1 σ).bind fun r1 => (toB r1.1).bind fun b2 => (bif b2 then x0.bind fun a3 => (ldSS r1.2 a3.block (a3.off + 0)).bind fun l4 => if 0 ≤ x1 ∧ x1 < (l4.2.1 : Nat) then l4.1.bind fun a5 => (ldIS .i64 r1.2 a5.block (a5.off + x1.toNat * 2 + 0)).bind fun n6 => some (n6 == (1 : Int), r1.2) else none else some (false, r1.2)).bind fun r7 => fB r7.1 fun y8 => some (.bool y8, r7.2))

theorem heap_Heap_used_is (k : Nat) (x0 : Option Addr) (x1 : Int) (σ : AMem) : d_heap_Heap_used k x0 x1 σ = s_heap_Heap_used k x0 x1 σ := by
  cases k with
  | zero => simp only [d_heap_Heap_used, hide_eq]; rfl
  | succ k => rw [d_heap_Heap_used_eq, b_heap_Heap_used, s_heap_Heap_used]; simp only [heap_Heap_there_is, strA, strR, str0, apS_3, apS_23, apS_121, apS_186]

noncomputable def s_heap_Heap_Gaps_c1 (k : Nat) (x0 : Int) (c0 : Option Addr) (c1 : Option Addr) (σ : AMem) : Option (Value × AMem) := match k with
  | 0 => none
  | k + 1 => (fI x0 fun x0 => fP c0 fun c0 => fP c1 fun c1 => fL σ fun σ => c0.bind fun a1 => (ldIS .i64 σ a1.block a1.off).bind fun n2 => (bif decide (x0 > n2) then (c1.bind fun a3 => (ldSS σ a3.block a3.off).bind fun l4 => c0.bind fun a5 => (ldIS .i64 σ a5.block a5.off).bind fun n6 => c0.bind fun a7 => (ldIS .i64 σ a7.block a7.off).bind fun n8 => allocS σ (.cells [.int .i64 n6, .int .i64 (w64S (x0 - n8))] 186 true) fun h9 s10 => appendS 186 2 16 (l4.1, l4.2.1, l4.2.2) (some ⟨h9, 0, none⟩, 1, 1) s10 fun r11 => c1.bind fun a12 => st1S r11.2 a12.block a12.off (.slice r11.1.1 r11.1.2.1 r11.1.2.2) fun s13 => some (.normal, [], s13)) else (some (.normal, [], σ)) : Option LOut).bind fun r14 => if r14.1 = .normal then (some (.tuple #[], r14.2.2)) else none)

theorem heap_Heap_Gaps_c1_is (k : Nat) (x0 : Int) (c0 : Option Addr) (c1 : Option Addr) (σ : AMem) : d_heap_Heap_Gaps_c1 k x0 c0 c1 σ = s_heap_Heap_Gaps_c1 k x0 c0 c1 σ := by
  cases k with
  | zero => simp only [d_heap_Heap_Gaps_c1, hide_eq]; rfl
  | succ k => rw [d_heap_Heap_Gaps_c1_eq, b_heap_Heap_Gaps_c1, s_heap_Heap_Gaps_c1]; simp only [strA, strR, str0, apS_3, apS_23, apS_121, apS_186]

noncomputable def s_heap_Heap_Gaps_l0 (k n : Nat) (p0 : Option Addr) (h1 : Nat) (h2 : Nat) (p3 : Option Addr) (c4 : Nat) (c5 : Nat) (i6 : Int) (x21 : Int) (σ : AMem) : Option LOut := match n with
  | 0 => none
  | n + 1 => (fP p0 fun p0 => fN h1 fun h1 => fN h2 fun h2 => fP p3 fun p3 => fN c4 fun c4 => fN c5 fun c5 => fI i6 fun i6 => fI x21 fun x21 => fL σ fun σ => bif decide (x21 < i6) then (if 0 ≤ x21 ∧ x21 < (c4 : Nat) then p3.bind fun a10 => (ldIS .i64 σ a10.block (a10.off + x21.toNat * 1)).bind fun n11 => (s_heap_Heap_Gaps_c1 k n11 (some ⟨h1, 0, none⟩) (some ⟨h2, 0, none⟩) σ).bind fun r12 => r_0 r12.1 ((s_heap_Heap_size k p0 n11 r12.2).bind fun r13 => (toIS .i64 r13.1).bind fun n14 => st1S r13.2 h1 0 (.int .i64 (w64S (n11 + n14))) fun s15 => s_heap_Heap_Gaps_l0 k n p0 h1 h2 p3 c4 c5 i6 (w64S (x21 + (1 : Int))) s15) else none) else (some (.exit 0, [], σ)))
termination_by structural n

theorem heap_Heap_Gaps_l0_is (k n : Nat) (p0 : Option Addr) (h1 : Nat) (h2 : Nat) (p3 : Option Addr) (c4 : Nat) (c5 : Nat) (i6 : Int) (x21 : Int) (σ : AMem) : d_heap_Heap_Gaps_l0 k n p0 h1 h2 p3 c4 c5 i6 x21 σ = s_heap_Heap_Gaps_l0 k n p0 h1 h2 p3 c4 c5 i6 x21 σ := by
  induction n generalizing p0 h1 h2 p3 c4 c5 i6 x21 σ with
  | zero => simp only [d_heap_Heap_Gaps_l0, hide_eq]; rfl
  | succ n ih => rw [d_heap_Heap_Gaps_l0_eq, b_heap_Heap_Gaps_l0, s_heap_Heap_Gaps_l0]; simp only [heap_Heap_Objects_is, heap_Heap_size_is, heap_Heap_used_is, heap_Heap_Gaps_c1_is, ih, strA, strR, str0, apS_3, apS_23, apS_121, apS_186]

noncomputable def s_heap_Heap_Gaps (k : Nat) (x0 : Option Addr) (x1 : Int) (σ : AMem) : Option (Value × AMem) := match k with
  | 0 => none
  | k + 1 => (fP x0 fun x0 => fI x1 fun x1 => fL σ fun σ => (s_heap_Heap_used k x0 x1 σ).bind fun r1 => (toB r1.1).bind fun b2 => bif !b2 then (some (.slice none 0 0, r1.2)) else (allocS r1.2 (.cells [.slice none 0 0] 183 true) fun h3 s4 => allocS s4 (.cells [.int .i64 (0 : Int)] 3 true) fun h5 s6 => st1S s6 h5 0 (.int .i64 (w64S (x1 * (64 : Int)))) fun s7 => (s_heap_Heap_Objects k x0 x1 s7).bind fun r8 => (toS r8.1).bind fun l9 => (s_heap_Heap_Gaps_l0 k k x0 h5 h3 l9.1 l9.2.1 l9.2.2 ((l9.2.1 : Nat) : Int) (0 : Int) r8.2).bind fun r16 => if r16.1 = .exit 0 then ((s_heap_Heap_Gaps_c1 k (w64S ((w64S (x1 + (1 : Int))) * (64 : Int))) (some ⟨h5, 0, none⟩) (some ⟨h3, 0, none⟩) r16.2.2).bind fun r17 => r_0 r17.1 ((ldSS r17.2 h3 0).bind fun l18 => some (.slice l18.1 l18.2.1 l18.2.2, r17.2))) else none))

theorem heap_Heap_Gaps_is (k : Nat) (x0 : Option Addr) (x1 : Int) (σ : AMem) : d_heap_Heap_Gaps k x0 x1 σ = s_heap_Heap_Gaps k x0 x1 σ := by
  cases k with
  | zero => simp only [d_heap_Heap_Gaps, hide_eq]; rfl
  | succ k => rw [d_heap_Heap_Gaps_eq, b_heap_Heap_Gaps, s_heap_Heap_Gaps]; simp only [heap_Heap_Objects_is, heap_Heap_size_is, heap_Heap_used_is, heap_Heap_Gaps_c1_is, heap_Heap_Gaps_l0_is, strA, strR, str0, apS_3, apS_23, apS_121, apS_186]

noncomputable def s_heap_Heap_State (k : Nat) (x0 : Option Addr) (x1 : Int) (σ : AMem) : Option (Value × AMem) := match k with
  | 0 => none
  | k + 1 => (fP x0 fun x0 => fI x1 fun x1 => fL σ fun σ => (bif decide (x1 < (0 : Int)) then some (true, σ) else (s_heap_Heap_Blocks k x0 σ).bind fun r1 => (toIS .i64 r1.1).bind fun n2 => some (decide (x1 ≥ n2), r1.2)).bind fun r3 => bif r3.1 then (fI (-1 : Int) fun y4 => some (.int .i64 y4, r3.2)) else (x0.bind fun a5 => (ldSS r3.2 a5.block (a5.off + 0)).bind fun l6 => if 0 ≤ x1 ∧ x1 < (l6.2.1 : Nat) then l6.1.bind fun a7 => (ldIS .i64 r3.2 a7.block (a7.off + x1.toNat * 2 + 0)).bind fun n8 => fI n8 fun y9 => some (.int .i64 y9, r3.2) else none))

theorem heap_Heap_State_is (k : Nat) (x0 : Option Addr) (x1 : Int) (σ : AMem) : d_heap_Heap_State k x0 x1 σ = s_heap_Heap_State k x0 x1 σ := by
  cases k with
  | zero => simp only [d_heap_Heap_State, hide_eq]; rfl
  | succ k => rw [d_heap_Heap_State_eq, b_heap_Heap_State, s_heap_Heap_State]; simp only [heap_Heap_Blocks_is, strA, strR, str0, apS_3, apS_23, apS_121, apS_186]

noncomputable def s_alloc_Allocator_blocks_l0 (k n : Nat) (p0 : Option Addr) (i1 : Int) (x3 : Option Addr × Nat × Nat) (x10 : Int) (σ : AMem) : Option LOut := match n with
  | 0 => none
  | n + 1 => (fP p0 fun p0 => fI i1 fun i1 => fS x3 fun x3 => fI x10 fun x10 => fL σ fun σ => bif decide (x10 < i1) then (p0.bind fun a5 => (ldPS σ a5.block (a5.off + 0)).bind fun p6 => (s_heap_Heap_State k p6 x10 σ).bind fun r7 => (toIS .i64 r7.1).bind fun n8 => (bif n8 == (1 : Int) then p0.bind fun a9 => (ldPS r7.2 a9.block (a9.off + 0)).bind fun p10 => (s_heap_Heap_Space k p10 x10 r7.2).bind fun r11 => (toIS .i64 r11.1).bind fun n12 => p0.bind fun a13 => (ldIS .i64 r11.2 a13.block (a13.off + 1)).bind fun n14 => some (n12 == n14, r11.2) else some (false, r7.2)).bind fun r15 => (bif r15.1 then (allocS r15.2 (.cells [.int .i64 x10] 3 true) fun h16 s17 => appendS 3 1 8 (x3.1, x3.2.1, x3.2.2) (some ⟨h16, 0, none⟩, 1, 1) s17 fun r18 => some (.normal, [.slice r18.1.1 r18.1.2.1 r18.1.2.2], r18.2)) else (some (.normal, [.slice x3.1 x3.2.1 x3.2.2], r15.2)) : Option LOut).bind fun r19 => if r19.1 = .normal then (u_l r19.2.1 fun l20 => s_alloc_Allocator_blocks_l0 k n p0 i1 (l20.1, l20.2.1, l20.2.2) (w64S (x10 + (1 : Int))) r19.2.2) else none) else (some (.exit 0, [.slice x3.1 x3.2.1 x3.2.2], σ)))
termination_by structural n

theorem alloc_Allocator_blocks_l0_is (k n : Nat) (p0 : Option Addr) (i1 : Int) (x3 : Option Addr × Nat × Nat) (x10 : Int) (σ : AMem) : d_alloc_Allocator_blocks_l0 k n p0 i1 x3 x10 σ = s_alloc_Allocator_blocks_l0 k n p0 i1 x3 x10 σ := by
  induction n generalizing p0 i1 x3 x10 σ with
  | zero => simp only [d_alloc_Allocator_blocks_l0, hide_eq]; rfl
  | succ n ih => rw [d_alloc_Allocator_blocks_l0_eq, b_alloc_Allocator_blocks_l0, s_alloc_Allocator_blocks_l0]; simp only [heap_Heap_Blocks_is, heap_Heap_State_is, heap_Heap_Space_is, ih, strA, strR, str0, apS_3, apS_23, apS_121, apS_186]

noncomputable def s_alloc_Allocator_blocks (k : Nat) (x0 : Option Addr) (σ : AMem) : Option (Value × AMem) := match k with
  | 0 => none
  | k + 1 => (fP x0 fun x0 => fL σ fun σ => x0.bind fun a1 => (ldPS σ a1.block (a1.off + 0)).bind fun p2 => (s_heap_Heap_Blocks k p2 σ).bind fun r3 => (toIS .i64 r3.1).bind fun n4 => (s_alloc_Allocator_blocks_l0 k k x0 n4 (none, 0, 0) (0 : Int) r3.2).bind fun r21 => if r21.1 = .exit 0 then (u_l r21.2.1 fun l22 => some (.slice l22.1 l22.2.1 l22.2.2, r21.2.2)) else none)

theorem alloc_Allocator_blocks_is (k : Nat) (x0 : Option Addr) (σ : AMem) : d_alloc_Allocator_blocks k x0 σ = s_alloc_Allocator_blocks k x0 σ := by
  cases k with
  | zero => simp only [d_alloc_Allocator_blocks, hide_eq]; rfl
  | succ k => rw [d_alloc_Allocator_blocks_eq, b_alloc_Allocator_blocks, s_alloc_Allocator_blocks]; simp only [heap_Heap_Blocks_is, heap_Heap_State_is, heap_Heap_Space_is, alloc_Allocator_blocks_l0_is, strA, strR, str0, apS_3, apS_23, apS_121, apS_186]

noncomputable def s_alloc_Allocator_gaps_l1 (k n : Nat) (i0 : Int) (i1 : Int) (p2 : Option Addr) (c3 : Nat) (c4 : Nat) (i5 : Int) (x7 : Option Addr × Nat × Nat) (x27 : Int) (σ : AMem) : Option LOut := match n with
  | 0 => none
  | n + 1 => (fI i0 fun i0 => fI i1 fun i1 => fP p2 fun p2 => fN c3 fun c3 => fN c4 fun c4 => fI i5 fun i5 => fS x7 fun x7 => fI x27 fun x27 => fL σ fun σ => bif decide (x27 < i5) then (if 0 ≤ x27 ∧ x27 < (c3 : Nat) then p2.bind fun a9 => (ldIS .i64 σ a9.block (a9.off + x27.toNat * 2)).bind fun n10 => (ldIS .i64 σ a9.block (a9.off + x27.toNat * 2 + 1)).bind fun n11 => allocS σ (.cells [.int .i64 (0 : Int), .int .i64 (0 : Int)] 186 true) fun h12 s13 => stNS s13 h12 0 [.int .i64 n10, .int .i64 n11] fun s14 => (ldIS .i64 s14 h12 (0 + 0)).bind fun n15 => (bif decide ((w64S (i0 - n15)) > (0 : Int)) then ((ldIS .i64 s14 h12 (0 + 1)).bind fun n16 => st1S s14 h12 (0 + 0) (.int .i64 i0) fun s17 => st1S s17 h12 (0 + 1) (.int .i64 (w64S (n16 - (w64S (i0 - n15))))) fun s18 => some (.normal, [], s18)) else (some (.normal, [], s14)) : Option LOut).bind fun r19 => if r19.1 = .normal then ((ldIS .i64 r19.2.2 h12 (0 + 1)).bind fun n20 => (bif decide (n20 ≥ i1) then ((ldIS .i64 r19.2.2 h12 0).bind fun n21 => (ldIS .i64 r19.2.2 h12 (0 + 1)).bind fun n22 => allocS r19.2.2 (.cells [.int .i64 n21, .int .i64 n22] 186 true) fun h23 s24 => appendS 186 2 16 (x7.1, x7.2.1, x7.2.2) (some ⟨h23, 0, none⟩, 1, 1) s24 fun r25 => some (.normal, [.slice r25.1.1 r25.1.2.1 r25.1.2.2], r25.2)) else (some (.normal, [.slice x7.1 x7.2.1 x7.2.2], r19.2.2)) : Option LOut).bind fun r26 => if r26.1 = .normal then (u_l r26.2.1 fun l27 => s_alloc_Allocator_gaps_l1 k n i0 i1 p2 c3 c4 i5 (l27.1, l27.2.1, l27.2.2) (w64S (x27 + (1 : Int))) r26.2.2) else none) else none else none) else (some (.exit 2, [.slice x7.1 x7.2.1 x7.2.2], σ)))
termination_by structural n

theorem alloc_Allocator_gaps_l1_is (k n : Nat) (i0 : Int) (i1 : Int) (p2 : Option Addr) (c3 : Nat) (c4 : Nat) (i5 : Int) (x7 : Option Addr × Nat × Nat) (x27 : Int) (σ : AMem) : d_alloc_Allocator_gaps_l1 k n i0 i1 p2 c3 c4 i5 x7 x27 σ = s_alloc_Allocator_gaps_l1 k n i0 i1 p2 c3 c4 i5 x7 x27 σ := by
  induction n generalizing i0 i1 p2 c3 c4 i5 x7 x27 σ with
  | zero => simp only [d_alloc_Allocator_gaps_l1, hide_eq]; rfl
  | succ n ih => rw [d_alloc_Allocator_gaps_l1_eq, b_alloc_Allocator_gaps_l1, s_alloc_Allocator_gaps_l1]; simp only [heap_Heap_Gaps_is, alloc_Allocator_blocks_is, ih, strA, strR, str0, apS_3, apS_23, apS_121, apS_186]

noncomputable def s_alloc_Allocator_gaps_l0 (k n : Nat) (p0 : Option Addr) (i1 : Int) (i2 : Int) (p3 : Option Addr) (c4 : Nat) (c5 : Nat) (i6 : Int) (x7 : Option Addr × Nat × Nat) (x16 : Int) (σ : AMem) : Option LOut := match n with
  | 0 => none
  | n + 1 => (fP p0 fun p0 => fI i1 fun i1 => fI i2 fun i2 => fP p3 fun p3 => fN c4 fun c4 => fN c5 fun c5 => fI i6 fun i6 => fS x7 fun x7 => fI x16 fun x16 => fL σ fun σ => bif decide (x16 < i6) then (if 0 ≤ x16 ∧ x16 < (c4 : Nat) then p3.bind fun a3 => (ldIS .i64 σ a3.block (a3.off + x16.toNat * 1)).bind fun n4 => p0.bind fun a5 => (ldPS σ a5.block (a5.off + 0)).bind fun p6 => (s_heap_Heap_Gaps k p6 n4 σ).bind fun r7 => (toS r7.1).bind fun l8 => (s_alloc_Allocator_gaps_l1 k k i1 i2 l8.1 l8.2.1 l8.2.2 ((l8.2.1 : Nat) : Int) (x7.1, x7.2.1, x7.2.2) (0 : Int) r7.2).bind fun r28 => if r28.1 = .exit 2 then (u_l r28.2.1 fun l29 => s_alloc_Allocator_gaps_l0 k n p0 i1 i2 p3 c4 c5 i6 (l29.1, l29.2.1, l29.2.2) (w64S (x16 + (1 : Int))) r28.2.2) else none else none) else (some (.exit 0, [.slice x7.1 x7.2.1 x7.2.2], σ)))
termination_by structural n

theorem alloc_Allocator_gaps_l0_is (k n : Nat) (p0 : Option Addr) (i1 : Int) (i2 : Int) (p3 : Option Addr) (c4 : Nat) (c5 : Nat) (i6 : Int) (x7 : Option Addr × Nat × Nat) (x16 : Int) (σ : AMem) : d_alloc_Allocator_gaps_l0 k n p0 i1 i2 p3 c4 c5 i6 x7 x16 σ = s_alloc_Allocator_gaps_l0 k n p0 i1 i2 p3 c4 c5 i6 x7 x16 σ := by
  induction n generalizing p0 i1 i2 p3 c4 c5 i6 x7 x16 σ with
  | zero => simp only [d_alloc_Allocator_gaps_l0, hide_eq]; rfl
  | succ n ih => rw [d_alloc_Allocator_gaps_l0_eq, b_alloc_Allocator_gaps_l0, s_alloc_Allocator_gaps_l0]; simp only [heap_Heap_Gaps_is, alloc_Allocator_blocks_is, alloc_Allocator_gaps_l1_is, ih, strA, strR, str0, apS_3, apS_23, apS_121, apS_186]

noncomputable def s_alloc_Allocator_gaps (k : Nat) (x0 : Option Addr) (x1 : Int) (x2 : Int) (σ : AMem) : Option (Value × AMem) := match k with
  | 0 => none
  | k + 1 => (fP x0 fun x0 => fI x1 fun x1 => fI x2 fun x2 => fL σ fun σ => (s_alloc_Allocator_blocks k x0 σ).bind fun r1 => (toS r1.1).bind fun l2 => (s_alloc_Allocator_gaps_l0 k k x0 x1 x2 l2.1 l2.2.1 l2.2.2 ((l2.2.1 : Nat) : Int) (none, 0, 0) (0 : Int) r1.2).bind fun r30 => if r30.1 = .exit 0 then (u_l r30.2.1 fun l31 => some (.slice l31.1 l31.2.1 l31.2.2, r30.2.2)) else none)

theorem alloc_Allocator_gaps_is (k : Nat) (x0 : Option Addr) (x1 : Int) (x2 : Int) (σ : AMem) : d_alloc_Allocator_gaps k x0 x1 x2 σ = s_alloc_Allocator_gaps k x0 x1 x2 σ := by
  cases k with
  | zero => simp only [d_alloc_Allocator_gaps, hide_eq]; rfl
  | succ k => rw [d_alloc_Allocator_gaps_eq, b_alloc_Allocator_gaps, s_alloc_Allocator_gaps]; simp only [heap_Heap_Gaps_is, alloc_Allocator_blocks_is, alloc_Allocator_gaps_l1_is, alloc_Allocator_gaps_l0_is, strA, strR, str0, apS_3, apS_23, apS_121, apS_186]

noncomputable def s_alloc_first_place (k : Nat) (x1 : Option Addr) (x2 : Int) (σ : AMem) : Option (Value × AMem) := match k with
  | 0 => none
  | k + 1 => (fP x1 fun x1 => fI x2 fun x2 => fL σ fun σ => allocS σ (.cells [] 239 true) fun h1 s2 => (s_alloc_Allocator_gaps k x1 (0 : Int) x2 s2).bind fun r3 => (toS r3.1).bind fun l4 => (s_alloc_Allocator_start k x1 (l4.1, l4.2.1, l4.2.2) r3.2).bind fun r5 => r_it r5.1 fun n6 b7 => fI n6 fun y8 => fB b7 fun y9 => some (.tuple #[.int .i64 y8, .bool y9], r5.2))

theorem alloc_first_place_is (k : Nat) (x1 : Option Addr) (x2 : Int) (σ : AMem) : d_alloc_first_place k x1 x2 σ = s_alloc_first_place k x1 x2 σ := by
  cases k with
  | zero => simp only [d_alloc_first_place, hide_eq]; rfl
  | succ k => rw [d_alloc_first_place_eq, b_alloc_first_place, s_alloc_first_place]; simp only [alloc_Allocator_start_is, alloc_Allocator_gaps_is, strA, strR, str0, apS_3, apS_23, apS_121, apS_186]

theorem alloc_first_place_raw (k : Nat) (x1 : Option Addr) (x2 : Int) (σ : AMem) : fn P (XK Kn.b) H k 280 [.agg #[], .pointer x1, .int .i64 x2] σ = d_alloc_first_place k x1 x2 σ := by
  simp only [d_alloc_first_place, hide_eq]

noncomputable def s_alloc_best_place_c1 (k : Nat) (x0_0 : Int) (x0_1 : Int) (x1_0 : Int) (x1_1 : Int) (σ : AMem) : Option (Value × AMem) := match k with
  | 0 => none
  | k + 1 => (fI x0_0 fun x0_0 => fI x0_1 fun x0_1 => fI x1_0 fun x1_0 => fI x1_1 fun x1_1 => fL σ fun σ => allocS σ (.cells [.int .i64 x0_0, .int .i64 x0_1] 186 true) fun h1 s2 => allocS s2 (.cells [.int .i64 x1_0, .int .i64 x1_1] 186 true) fun h3 s4 => (ldIS .i64 s4 h1 (0 + 1)).bind fun n5 => (ldIS .i64 s4 h3 (0 + 1)).bind fun n6 => fI (w64S (n5 - n6)) fun y7 => some (.int .i64 y7, s4))

theorem alloc_best_place_c1_is (k : Nat) (x0_0 : Int) (x0_1 : Int) (x1_0 : Int) (x1_1 : Int) (σ : AMem) : d_alloc_best_place_c1 k x0_0 x0_1 x1_0 x1_1 σ = s_alloc_best_place_c1 k x0_0 x0_1 x1_0 x1_1 σ := by
  cases k with
  | zero => simp only [d_alloc_best_place_c1, hide_eq]; rfl
  | succ k => rw [d_alloc_best_place_c1_eq, b_alloc_best_place_c1, s_alloc_best_place_c1]; simp only [strA, strR, str0, apS_3, apS_23, apS_121, apS_186]

theorem alloc_best_place_c1_raw (k : Nat) (x0_0 : Int) (x0_1 : Int) (x1_0 : Int) (x1_1 : Int) (σ : AMem) : fn P (XK Kn.b) H k 288 [.agg #[.int .i64 x0_0, .int .i64 x0_1], .agg #[.int .i64 x1_0, .int .i64 x1_1]] σ = d_alloc_best_place_c1 k x0_0 x0_1 x1_0 x1_1 σ := by
  simp only [d_alloc_best_place_c1, hide_eq]

noncomputable def s_callN_iiii_i (k : Nat) (n : FuncId) (l : List Value) (σ : AMem) : Option (Value × AMem) :=
  if n = 288 then (match l with
    | [.agg ⟨[.int .i64 y1, .int .i64 y2]⟩, .agg ⟨[.int .i64 y3, .int .i64 y4]⟩] => s_alloc_best_place_c1 k y1 y2 y3 y4 σ
    | l => fn P (XK Kn.b) H k 288 l σ) else
  fn P (XK Kn.b) H k n l σ

theorem callN_iiii_i_is (k : Nat) (n : FuncId) (l : List Value) (σ : AMem) : fn P (XK Kn.b) H k n l σ = s_callN_iiii_i k n l σ := by
  unfold s_callN_iiii_i
  split
  · rename_i hn; subst hn
    split
    · exact (alloc_best_place_c1_raw k _ _ _ _ σ).trans (alloc_best_place_c1_is k _ _ _ _ σ)
    · rfl
  rfl

noncomputable def s_callV_iiii_i (k : Nat) (f : Value) (args : List Value) (σ : AMem) : Option (Value × AMem) := match f with
  | .func (.func n) first cap => bif Nat.beq n YF then none else s_callN_iiii_i k n (first.toList ++ args ++ cap.toList) σ
  | .func (.yield h) _ _ => fn P (XK Kn.b) H k YF (.pointer (some ⟨h, 0, none⟩) :: args) σ
  | .func (.method nm) first _ => (match first.toList ++ args with
    | .iface t v :: rest => (methodF P t nm).bind fun n => bif Nat.beq n YF then none else s_callN_iiii_i k n (v :: rest) σ
    | _ => none)
  | _ => none

theorem callV_iiii_i_is (k : Nat) (f : Value) (args : List Value) (σ : AMem) : d_callV_iiii_i k f args σ = s_callV_iiii_i k f args σ := by
  simp only [d_callV_iiii_i, hide_eq]
  unfold callVal s_callV_iiii_i
  simp only [callN_iiii_i_is]
  rfl

noncomputable def s_slices_insertionSortCmpFunc_api_Run_l1 (k n : Nat) (p0 : Option Addr) (c1 : Nat) (c2 : Nat) (i3 : Int) (v4 : Value) (x9 : Int) (σ : AMem) : Option LOut := match n with
  | 0 => none
  | n + 1 => (fP p0 fun p0 => fN c1 fun c1 => fN c2 fun c2 => fI i3 fun i3 => fI x9 fun x9 => fL σ fun σ => (bif decide (x9 > i3) then if 0 ≤ x9 ∧ x9 < (c1 : Nat) then p0.bind fun a1 => (ldIS .i64 σ a1.block (a1.off + x9.toNat * 2)).bind fun n2 => (ldIS .i64 σ a1.block (a1.off + x9.toNat * 2 + 1)).bind fun n3 => if 0 ≤ (w64S (x9 - (1 : Int))) ∧ (w64S (x9 - (1 : Int))) < (c1 : Nat) then p0.bind fun a4 => (ldIS .i64 σ a4.block (a4.off + (w64S (x9 - (1 : Int))).toNat * 2)).bind fun n5 => (ldIS .i64 σ a4.block (a4.off + (w64S (x9 - (1 : Int))).toNat * 2 + 1)).bind fun n6 => (s_callV_iiii_i k v4 [.agg #[.int .i64 n2, .int .i64 n3], .agg #[.int .i64 n5, .int .i64 n6]] σ).bind fun r7 => (toIS .i64 r7.1).bind fun n8 => some (decide (n8 < (0 : Int)), r7.2) else none else none else some (false, σ)).bind fun r9 => bif r9.1 then (if 0 ≤ (w64S (x9 - (1 : Int))) ∧ (w64S (x9 - (1 : Int))) < (c1 : Nat) then p0.bind fun a10 => (ldIS .i64 r9.2 a10.block (a10.off + (w64S (x9 - (1 : Int))).toNat * 2)).bind fun n11 => (ldIS .i64 r9.2 a10.block (a10.off + (w64S (x9 - (1 : Int))).toNat * 2 + 1)).bind fun n12 => if 0 ≤ x9 ∧ x9 < (c1 : Nat) then p0.bind fun a13 => (ldIS .i64 r9.2 a13.block (a13.off + x9.toNat * 2)).bind fun n14 => (ldIS .i64 r9.2 a13.block (a13.off + x9.toNat * 2 + 1)).bind fun n15 => if 0 ≤ x9 ∧ x9 < (c1 : Nat) then p0.bind fun a16 => stNS r9.2 a16.block (a16.off + x9.toNat * 2) [.int .i64 n11, .int .i64 n12] fun s17 => if 0 ≤ (w64S (x9 - (1 : Int))) ∧ (w64S (x9 - (1 : Int))) < (c1 : Nat) then p0.bind fun a18 => stNS s17 a18.block (a18.off + (w64S (x9 - (1 : Int))).toNat * 2) [.int .i64 n14, .int .i64 n15] fun s19 => s_slices_insertionSortCmpFunc_api_Run_l1 k n p0 c1 c2 i3 v4 (w64S (x9 - (1 : Int))) s19 else none else none else none else none) else (some (.exit 2, [], r9.2)))
termination_by structural n

theorem slices_insertionSortCmpFunc_api_Run_l1_is (k n : Nat) (p0 : Option Addr) (c1 : Nat) (c2 : Nat) (i3 : Int) (v4 : Value) (x9 : Int) (σ : AMem) : d_slices_insertionSortCmpFunc_api_Run_l1 k n p0 c1 c2 i3 v4 x9 σ = s_slices_insertionSortCmpFunc_api_Run_l1 k n p0 c1 c2 i3 v4 x9 σ := by
  induction n generalizing p0 c1 c2 i3 v4 x9 σ with
  | zero => simp only [d_slices_insertionSortCmpFunc_api_Run_l1, hide_eq]; rfl
  | succ n ih => rw [d_slices_insertionSortCmpFunc_api_Run_l1_eq, b_slices_insertionSortCmpFunc_api_Run_l1, s_slices_insertionSortCmpFunc_api_Run_l1]; simp only [callV_iiii_i_is, ih, strA, strR, str0, apS_3, apS_23, apS_121, apS_186]

noncomputable def s_slices_insertionSortCmpFunc_api_Run_l0 (k n : Nat) (p0 : Option Addr) (c1 : Nat) (c2 : Nat) (i3 : Int) (i4 : Int) (v5 : Value) (x8 : Int) (σ : AMem) : Option LOut := match n with
  | 0 => none
  | n + 1 => (fP p0 fun p0 => fN c1 fun c1 => fN c2 fun c2 => fI i3 fun i3 => fI i4 fun i4 => fI x8 fun x8 => fL σ fun σ => bif decide (x8 < i4) then ((s_slices_insertionSortCmpFunc_api_Run_l1 k k p0 c1 c2 i3 v5 x8 σ).bind fun r20 => if r20.1 = .exit 2 then (s_slices_insertionSortCmpFunc_api_Run_l0 k n p0 c1 c2 i3 i4 v5 (w64S (x8 + (1 : Int))) r20.2.2) else none) else (some (.exit 0, [], σ)))
termination_by structural n

theorem slices_insertionSortCmpFunc_api_Run_l0_is (k n : Nat) (p0 : Option Addr) (c1 : Nat) (c2 : Nat) (i3 : Int) (i4 : Int) (v5 : Value) (x8 : Int) (σ : AMem) : d_slices_insertionSortCmpFunc_api_Run_l0 k n p0 c1 c2 i3 i4 v5 x8 σ = s_slices_insertionSortCmpFunc_api_Run_l0 k n p0 c1 c2 i3 i4 v5 x8 σ := by
  induction n generalizing p0 c1 c2 i3 i4 v5 x8 σ with
  | zero => simp only [d_slices_insertionSortCmpFunc_api_Run_l0, hide_eq]; rfl
  | succ n ih => rw [d_slices_insertionSortCmpFunc_api_Run_l0_eq, b_slices_insertionSortCmpFunc_api_Run_l0, s_slices_insertionSortCmpFunc_api_Run_l0]; simp only [callV_iiii_i_is, slices_insertionSortCmpFunc_api_Run_l1_is, ih, strA, strR, str0, apS_3, apS_23, apS_121, apS_186]

noncomputable def s_slices_insertionSortCmpFunc_api_Run (k : Nat) (x0 : Option Addr × Nat × Nat) (x1 : Int) (x2 : Int) (x3 : Value) (σ : AMem) : Option (Value × AMem) := match k with
  | 0 => none
  | k + 1 => (fS x0 fun x0 => fI x1 fun x1 => fI x2 fun x2 => fL σ fun σ => (s_slices_insertionSortCmpFunc_api_Run_l0 k k x0.1 x0.2.1 x0.2.2 x1 x2 x3 (w64S (x1 + (1 : Int))) σ).bind fun r21 => if r21.1 = .exit 0 then (some (.tuple #[], r21.2.2)) else none)

theorem slices_insertionSortCmpFunc_api_Run_is (k : Nat) (x0 : Option Addr × Nat × Nat) (x1 : Int) (x2 : Int) (x3 : Value) (σ : AMem) : d_slices_insertionSortCmpFunc_api_Run k x0 x1 x2 x3 σ = s_slices_insertionSortCmpFunc_api_Run k x0 x1 x2 x3 σ := by
  cases k with
  | zero => simp only [d_slices_insertionSortCmpFunc_api_Run, hide_eq]; rfl
  | succ k => rw [d_slices_insertionSortCmpFunc_api_Run_eq, b_slices_insertionSortCmpFunc_api_Run, s_slices_insertionSortCmpFunc_api_Run]; simp only [callV_iiii_i_is, slices_insertionSortCmpFunc_api_Run_l1_is, slices_insertionSortCmpFunc_api_Run_l0_is, strA, strR, str0, apS_3, apS_23, apS_121, apS_186]

noncomputable def s_slices_symMergeCmpFunc_api_Run (k : Nat) (x0 : Option Addr × Nat × Nat) (x1 : Int) (x2 : Int) (x3 : Int) (x4 : Value) (σ : AMem) : Option (Value × AMem) := d_slices_symMergeCmpFunc_api_Run k x0 x1 x2 x3 x4 σ
theorem slices_symMergeCmpFunc_api_Run_is (k : Nat) (x0 : Option Addr × Nat × Nat) (x1 : Int) (x2 : Int) (x3 : Int) (x4 : Value) (σ : AMem) : d_slices_symMergeCmpFunc_api_Run k x0 x1 x2 x3 x4 σ = s_slices_symMergeCmpFunc_api_Run k x0 x1 x2 x3 x4 σ := rfl

noncomputable def s_slices_stableCmpFunc_api_Run_l0 (k n : Nat) (p0 : Option Addr) (c1 : Nat) (c2 : Nat) (i3 : Int) (v4 : Value) (x7 : Int) (x8 : Int) (σ : AMem) : Option LOut := match n with
  | 0 => none
  | n + 1 => (fP p0 fun p0 => fN c1 fun c1 => fN c2 fun c2 => fI i3 fun i3 => fI x7 fun x7 => fI x8 fun x8 => fL σ fun σ => bif decide (x8 ≤ i3) then ((s_slices_insertionSortCmpFunc_api_Run k (p0, c1, c2) x7 x8 (v4) σ).bind fun r1 => r_0 r1.1 (s_slices_stableCmpFunc_api_Run_l0 k n p0 c1 c2 i3 v4 x8 (w64S (x8 + (20 : Int))) r1.2)) else (some (.exit 0, [.int .i64 x7], σ)))
termination_by structural n

theorem slices_stableCmpFunc_api_Run_l0_is (k n : Nat) (p0 : Option Addr) (c1 : Nat) (c2 : Nat) (i3 : Int) (v4 : Value) (x7 : Int) (x8 : Int) (σ : AMem) : d_slices_stableCmpFunc_api_Run_l0 k n p0 c1 c2 i3 v4 x7 x8 σ = s_slices_stableCmpFunc_api_Run_l0 k n p0 c1 c2 i3 v4 x7 x8 σ := by
  induction n generalizing p0 c1 c2 i3 v4 x7 x8 σ with
  | zero => simp only [d_slices_stableCmpFunc_api_Run_l0, hide_eq]; rfl
  | succ n ih => rw [d_slices_stableCmpFunc_api_Run_l0_eq, b_slices_stableCmpFunc_api_Run_l0, s_slices_stableCmpFunc_api_Run_l0]; simp only [slices_insertionSortCmpFunc_api_Run_is, slices_symMergeCmpFunc_api_Run_is, ih, strA, strR, str0, apS_3, apS_23, apS_121, apS_186]

noncomputable def s_slices_stableCmpFunc_api_Run_l2 (k n : Nat) (p0 : Option Addr) (c1 : Nat) (c2 : Nat) (i3 : Int) (v4 : Value) (i5 : Int) (x7 : Int) (x8 : Int) (σ : AMem) : Option LOut := match n with
  | 0 => none
  | n + 1 => (fP p0 fun p0 => fN c1 fun c1 => fN c2 fun c2 => fI i3 fun i3 => fI i5 fun i5 => fI x7 fun x7 => fI x8 fun x8 => fL σ fun σ => bif decide (x8 ≤ i3) then ((s_slices_symMergeCmpFunc_api_Run k (p0, c1, c2) x7 (w64S (x7 + i5)) x8 (v4) σ).bind fun r5 => r_0 r5.1 (s_slices_stableCmpFunc_api_Run_l2 k n p0 c1 c2 i3 v4 i5 x8 (w64S (x8 + (w64S ((2 : Int) * i5)))) r5.2)) else (some (.exit 4, [.int .i64 x7], σ)))
termination_by structural n

theorem slices_stableCmpFunc_api_Run_l2_is (k n : Nat) (p0 : Option Addr) (c1 : Nat) (c2 : Nat) (i3 : Int) (v4 : Value) (i5 : Int) (x7 : Int) (x8 : Int) (σ : AMem) : d_slices_stableCmpFunc_api_Run_l2 k n p0 c1 c2 i3 v4 i5 x7 x8 σ = s_slices_stableCmpFunc_api_Run_l2 k n p0 c1 c2 i3 v4 i5 x7 x8 σ := by
  induction n generalizing p0 c1 c2 i3 v4 i5 x7 x8 σ with
  | zero => simp only [d_slices_stableCmpFunc_api_Run_l2, hide_eq]; rfl
  | succ n ih => rw [d_slices_stableCmpFunc_api_Run_l2_eq, b_slices_stableCmpFunc_api_Run_l2, s_slices_stableCmpFunc_api_Run_l2]; simp only [slices_insertionSortCmpFunc_api_Run_is, slices_symMergeCmpFunc_api_Run_is, slices_stableCmpFunc_api_Run_l0_is, ih, strA, strR, str0, apS_3, apS_23, apS_121, apS_186]

noncomputable def s_slices_stableCmpFunc_api_Run_l1 (k n : Nat) (p0 : Option Addr) (c1 : Nat) (c2 : Nat) (i3 : Int) (v4 : Value) (x6 : Int) (σ : AMem) : Option LOut := match n with
  | 0 => none
  | n + 1 => (fP p0 fun p0 => fN c1 fun c1 => fN c2 fun c2 => fI i3 fun i3 => fI x6 fun x6 => fL σ fun σ => bif decide (x6 < i3) then ((s_slices_stableCmpFunc_api_Run_l2 k k p0 c1 c2 i3 v4 x6 (0 : Int) (w64S ((2 : Int) * x6)) σ).bind fun r6 => if r6.1 = .exit 4 then (u_i r6.2.1 fun n7 => (bif decide ((w64S (n7 + x6)) < i3) then ((s_slices_symMergeCmpFunc_api_Run k (p0, c1, c2) n7 (w64S (n7 + x6)) i3 (v4) r6.2.2).bind fun r8 => r_0 r8.1 (some (.normal, [], r8.2))) else (some (.normal, [], r6.2.2)) : Option LOut).bind fun r9 => if r9.1 = .normal then (s_slices_stableCmpFunc_api_Run_l1 k n p0 c1 c2 i3 v4 (w64S (x6 * (2 : Int))) r9.2.2) else none) else none) else (some (.exit 2, [], σ)))
termination_by structural n

theorem slices_stableCmpFunc_api_Run_l1_is (k n : Nat) (p0 : Option Addr) (c1 : Nat) (c2 : Nat) (i3 : Int) (v4 : Value) (x6 : Int) (σ : AMem) : d_slices_stableCmpFunc_api_Run_l1 k n p0 c1 c2 i3 v4 x6 σ = s_slices_stableCmpFunc_api_Run_l1 k n p0 c1 c2 i3 v4 x6 σ := by
  induction n generalizing p0 c1 c2 i3 v4 x6 σ with
  | zero => simp only [d_slices_stableCmpFunc_api_Run_l1, hide_eq]; rfl
  | succ n ih => rw [d_slices_stableCmpFunc_api_Run_l1_eq, b_slices_stableCmpFunc_api_Run_l1, s_slices_stableCmpFunc_api_Run_l1]; simp only [slices_insertionSortCmpFunc_api_Run_is, slices_symMergeCmpFunc_api_Run_is, slices_stableCmpFunc_api_Run_l0_is, slices_stableCmpFunc_api_Run_l2_is, ih, strA, strR, str0, apS_3, apS_23, apS_121, apS_186]

noncomputable def s_slices_stableCmpFunc_api_Run (k : Nat) (x0 : Option Addr × Nat × Nat) (x1 : Int) (x2 : Value) (σ : AMem) : Option (Value × AMem) := match k with
  | 0 => none
  | k + 1 => (fS x0 fun x0 => fI x1 fun x1 => fL σ fun σ => (s_slices_stableCmpFunc_api_Run_l0 k k x0.1 x0.2.1 x0.2.2 x1 x2 (0 : Int) (20 : Int) σ).bind fun r2 => if r2.1 = .exit 0 then (u_i r2.2.1 fun n3 => (s_slices_insertionSortCmpFunc_api_Run k (x0.1, x0.2.1, x0.2.2) n3 x1 (x2) r2.2.2).bind fun r4 => r_0 r4.1 ((s_slices_stableCmpFunc_api_Run_l1 k k x0.1 x0.2.1 x0.2.2 x1 x2 (20 : Int) r4.2).bind fun r10 => if r10.1 = .exit 2 then (some (.tuple #[], r10.2.2)) else none)) else none)

theorem slices_stableCmpFunc_api_Run_is (k : Nat) (x0 : Option Addr × Nat × Nat) (x1 : Int) (x2 : Value) (σ : AMem) : d_slices_stableCmpFunc_api_Run k x0 x1 x2 σ = s_slices_stableCmpFunc_api_Run k x0 x1 x2 σ := by
  cases k with
  | zero => simp only [d_slices_stableCmpFunc_api_Run, hide_eq]; rfl
  | succ k => rw [d_slices_stableCmpFunc_api_Run_eq, b_slices_stableCmpFunc_api_Run, s_slices_stableCmpFunc_api_Run]; simp only [slices_insertionSortCmpFunc_api_Run_is, slices_symMergeCmpFunc_api_Run_is, slices_stableCmpFunc_api_Run_l0_is, slices_stableCmpFunc_api_Run_l2_is, slices_stableCmpFunc_api_Run_l1_is, strA, strR, str0, apS_3, apS_23, apS_121, apS_186]

noncomputable def s_slices_SortStableFunc_api_Run (k : Nat) (x0 : Option Addr × Nat × Nat) (x1 : Value) (σ : AMem) : Option (Value × AMem) := match k with
  | 0 => none
  | k + 1 => (fS x0 fun x0 => fL σ fun σ => (s_slices_stableCmpFunc_api_Run k (x0.1, x0.2.1, x0.2.2) ((x0.2.1 : Nat) : Int) (x1) σ).bind fun r1 => r_0 r1.1 (some (.tuple #[], r1.2)))

theorem slices_SortStableFunc_api_Run_is (k : Nat) (x0 : Option Addr × Nat × Nat) (x1 : Value) (σ : AMem) : d_slices_SortStableFunc_api_Run k x0 x1 σ = s_slices_SortStableFunc_api_Run k x0 x1 σ := by
  cases k with
  | zero => simp only [d_slices_SortStableFunc_api_Run, hide_eq]; rfl
  | succ k => rw [d_slices_SortStableFunc_api_Run_eq, b_slices_SortStableFunc_api_Run, s_slices_SortStableFunc_api_Run]; simp only [slices_stableCmpFunc_api_Run_is, strA, strR, str0, apS_3, apS_23, apS_121, apS_186]

noncomputable def s_alloc_best_place (k : Nat) (x1 : Option Addr) (x2 : Int) (σ : AMem) : Option (Value × AMem) := match k with
  | 0 => none
  | k + 1 => (fP x1 fun x1 => fI x2 fun x2 => fL σ fun σ => allocS σ (.cells [] 240 true) fun h1 s2 => (s_alloc_Allocator_gaps k x1 (0 : Int) x2 s2).bind fun r3 => (toS r3.1).bind fun l4 => (s_slices_SortStableFunc_api_Run k (l4.1, l4.2.1, l4.2.2) (.func (.func 288) #[] #[]) r3.2).bind fun r5 => r_0 r5.1 ((s_alloc_Allocator_start k x1 (l4.1, l4.2.1, l4.2.2) r5.2).bind fun r6 => r_it r6.1 fun n7 b8 => fI n7 fun y9 => fB b8 fun y10 => some (.tuple #[.int .i64 y9, .bool y10], r6.2)))

theorem alloc_best_place_is (k : Nat) (x1 : Option Addr) (x2 : Int) (σ : AMem) : d_alloc_best_place k x1 x2 σ = s_alloc_best_place k x1 x2 σ := by
  cases k with
  | zero => simp only [d_alloc_best_place, hide_eq]; rfl
  | succ k => rw [d_alloc_best_place_eq, b_alloc_best_place, s_alloc_best_place]; simp only [alloc_Allocator_start_is, alloc_Allocator_gaps_is, slices_SortStableFunc_api_Run_is, strA, strR, str0, apS_3, apS_23, apS_121, apS_186]

theorem alloc_best_place_raw (k : Nat) (x1 : Option Addr) (x2 : Int) (σ : AMem) : fn P (XK Kn.b) H k 286 [.agg #[], .pointer x1, .int .i64 x2] σ = d_alloc_best_place k x1 x2 σ := by
  simp only [d_alloc_best_place, hide_eq]

noncomputable def s_alloc_next_place (k : Nat) (x1 : Option Addr) (x2 : Int) (σ : AMem) : Option (Value × AMem) := match k with
  | 0 => none
  | k + 1 => (fP x1 fun x1 => fI x2 fun x2 => fL σ fun σ => allocS σ (.cells [] 241 true) fun h1 s2 => x1.bind fun a3 => (ldIS .i64 s2 a3.block (a3.off + 3 + 0)).bind fun n4 => (s_alloc_Allocator_gaps k x1 n4 x2 s2).bind fun r5 => (toS r5.1).bind fun l6 => (s_alloc_Allocator_gaps k x1 (0 : Int) x2 r5.2).bind fun r7 => (toS r7.1).bind fun l8 => appendS 186 2 16 (l6.1, l6.2.1, l6.2.2) (l8.1, l8.2.1, l8.2.2) r7.2 fun r9 => (s_alloc_Allocator_start k x1 (r9.1.1, r9.1.2.1, r9.1.2.2) r9.2).bind fun r10 => r_it r10.1 fun n11 b12 => (bif b12 then (x1.bind fun a13 => st1S r10.2 a13.block (a13.off + 3 + 0) (.int .i64 (w64S (n11 + x2))) fun s14 => some (.normal, [], s14)) else (some (.normal, [], r10.2)) : Option LOut).bind fun r15 => if r15.1 = .normal then (fI n11 fun y16 => fB b12 fun y17 => some (.tuple #[.int .i64 y16, .bool y17], r15.2.2)) else none)

theorem alloc_next_place_is (k : Nat) (x1 : Option Addr) (x2 : Int) (σ : AMem) : d_alloc_next_place k x1 x2 σ = s_alloc_next_place k x1 x2 σ := by
  cases k with
  | zero => simp only [d_alloc_next_place, hide_eq]; rfl
  | succ k => rw [d_alloc_next_place_eq, b_alloc_next_place, s_alloc_next_place]; simp only [alloc_Allocator_start_is, alloc_Allocator_gaps_is, strA, strR, str0, apS_3, apS_23, apS_121, apS_186]

theorem alloc_next_place_raw (k : Nat) (x1 : Option Addr) (x2 : Int) (σ : AMem) : fn P (XK Kn.b) H k 294 [.agg #[], .pointer x1, .int .i64 x2] σ = d_alloc_next_place k x1 x2 σ := by
  simp only [d_alloc_next_place, hide_eq]

noncomputable def s_alloc_area_has (k : Nat) (x0 : Option Addr) (x1 : Int) (σ : AMem) : Option (Value × AMem) := match k with
  | 0 => none
  | k + 1 => (fP x0 fun x0 => fI x1 fun x1 => fL σ fun σ => x0.bind fun a1 => (ldIS .i64 σ a1.block (a1.off + 1)).bind fun n2 => x0.bind fun a3 => (ldIS .i64 σ a3.block (a3.off + 0)).bind fun n4 => fB (decide ((w64S (n2 - n4)) ≥ x1)) fun y5 => some (.bool y5, σ))

theorem alloc_area_has_is (k : Nat) (x0 : Option Addr) (x1 : Int) (σ : AMem) : d_alloc_area_has k x0 x1 σ = s_alloc_area_has k x0 x1 σ := by
  cases k with
  | zero => simp only [d_alloc_area_has, hide_eq]; rfl
  | succ k => rw [d_alloc_area_has_eq, b_alloc_area_has, s_alloc_area_has]; simp only [strA, strR, str0, apS_3, apS_23, apS_121, apS_186]

noncomputable def s_alloc_area_take (k : Nat) (x0 : Option Addr) (x1 : Int) (σ : AMem) : Option (Value × AMem) := match k with
  | 0 => none
  | k + 1 => (fP x0 fun x0 => fI x1 fun x1 => fL σ fun σ => x0.bind fun a1 => (ldIS .i64 σ a1.block (a1.off + 0)).bind fun n2 => x0.bind fun a3 => st1S σ a3.block (a3.off + 0) (.int .i64 (w64S (n2 + x1))) fun s4 => x0.bind fun a5 => (ldIS .i64 s4 a5.block (a5.off + 0)).bind fun n6 => fI (w64S (n6 - x1)) fun y7 => some (.int .i64 y7, s4))

theorem alloc_area_take_is (k : Nat) (x0 : Option Addr) (x1 : Int) (σ : AMem) : d_alloc_area_take k x0 x1 σ = s_alloc_area_take k x0 x1 σ := by
  cases k with
  | zero => simp only [d_alloc_area_take, hide_eq]; rfl
  | succ k => rw [d_alloc_area_take_eq, b_alloc_area_take, s_alloc_area_take]; simp only [strA, strR, str0, apS_3, apS_23, apS_121, apS_186]

noncomputable def s_alloc_Allocator_bumped (k : Nat) (x0 : Option Addr) (x1 : Option Addr) (x2 : Int) (σ : AMem) : Option (Value × AMem) := match k with
  | 0 => none
  | k + 1 => (fP x0 fun x0 => fP x1 fun x1 => fI x2 fun x2 => fL σ fun σ => (s_alloc_area_has k x1 x2 σ).bind fun r1 => (toB r1.1).bind fun b2 => (bif !b2 then ((s_alloc_Allocator_begin k x0 r1.2).bind fun r3 => (toT r3.1).bind fun q4 => if q4.length = 2 then q4.head?.bind fun v5 => a_ii v5 fun n6 n7 => q4.tail.head?.bind fun v8 => (toB v8).bind fun b9 => allocS r3.2 (.cells [.int .i64 (0 : Int), .int .i64 (0 : Int)] 202 true) fun h10 s11 => stNS s11 h10 0 [.int .i64 n6, .int .i64 n7] fun s12 => bif !b9 then (some (.ret, [.int .i64 (0 : Int), .bool false], s12)) else ((ldIS .i64 s12 h10 0).bind fun n13 => (ldIS .i64 s12 h10 (0 + 1)).bind fun n14 => x1.bind fun a15 => stNS s12 a15.block a15.off [.int .i64 n13, .int .i64 n14] fun s16 => some (.normal, [], s16)) else none) else (some (.normal, [], r1.2)) : Option LOut).bind fun r17 => if r17.1 = .normal then ((s_alloc_area_take k x1 x2 r17.2.2).bind fun r18 => (toIS .i64 r18.1).bind fun n19 => fI n19 fun y20 => fB true fun y21 => some (.tuple #[.int .i64 y20, .bool y21], r18.2)) else if r17.1 = .ret then (u_it r17.2.1 fun n22 b23 => fI n22 fun y24 => fB b23 fun y25 => some (.tuple #[.int .i64 y24, .bool y25], r17.2.2)) else none)

theorem alloc_Allocator_bumped_is (k : Nat) (x0 : Option Addr) (x1 : Option Addr) (x2 : Int) (σ : AMem) : d_alloc_Allocator_bumped k x0 x1 x2 σ = s_alloc_Allocator_bumped k x0 x1 x2 σ := by
  cases k with
  | zero => simp only [d_alloc_Allocator_bumped, hide_eq]; rfl
  | succ k => rw [d_alloc_Allocator_bumped_eq, b_alloc_Allocator_bumped, s_alloc_Allocator_bumped]; simp only [alloc_Allocator_begin_is, alloc_area_has_is, alloc_area_take_is, strA, strR, str0, apS_3, apS_23, apS_121, apS_186]

noncomputable def s_alloc_bump_place (k : Nat) (x1 : Option Addr) (x2 : Int) (σ : AMem) : Option (Value × AMem) := match k with
  | 0 => none
  | k + 1 => (fP x1 fun x1 => fI x2 fun x2 => fL σ fun σ => allocS σ (.cells [] 242 true) fun h1 s2 => x1.bind fun a3 => (s_alloc_Allocator_bumped k x1 (some ⟨a3.block, a3.off + 3, none⟩) x2 s2).bind fun r4 => r_it r4.1 fun n5 b6 => fI n5 fun y7 => fB b6 fun y8 => some (.tuple #[.int .i64 y7, .bool y8], r4.2))

theorem alloc_bump_place_is (k : Nat) (x1 : Option Addr) (x2 : Int) (σ : AMem) : d_alloc_bump_place k x1 x2 σ = s_alloc_bump_place k x1 x2 σ := by
  cases k with
  | zero => simp only [d_alloc_bump_place, hide_eq]; rfl
  | succ k => rw [d_alloc_bump_place_eq, b_alloc_bump_place, s_alloc_bump_place]; simp only [alloc_Allocator_bumped_is, strA, strR, str0, apS_3, apS_23, apS_121, apS_186]

theorem alloc_bump_place_raw (k : Nat) (x1 : Option Addr) (x2 : Int) (σ : AMem) : fn P (XK Kn.b) H k 295 [.agg #[], .pointer x1, .int .i64 x2] σ = d_alloc_bump_place k x1 x2 σ := by
  simp only [d_alloc_bump_place, hide_eq]

noncomputable def s_heap_Heap_Lines_l1 (k n : Nat) (h0 : Nat) (c1 : Nat) (i2 : Int) (x10 : Int) (σ : AMem) : Option LOut := match n with
  | 0 => none
  | n + 1 => (fN h0 fun h0 => fN c1 fun c1 => fI i2 fun i2 => fI x10 fun x10 => fL σ fun σ => if (8 : Int) = 0 then none else bif decide (x10 ≤ (w64S (i2.tdiv (8 : Int)))) then (if 0 ≤ x10 ∧ x10 < (c1 : Nat) then st1S σ h0 (0 + x10.toNat * 1) (.bool true) fun s11 => s_heap_Heap_Lines_l1 k n h0 c1 i2 (w64S (x10 + (1 : Int))) s11 else none) else (some (.exit 2, [], σ)))
termination_by structural n

theorem heap_Heap_Lines_l1_is (k n : Nat) (h0 : Nat) (c1 : Nat) (i2 : Int) (x10 : Int) (σ : AMem) : d_heap_Heap_Lines_l1 k n h0 c1 i2 x10 σ = s_heap_Heap_Lines_l1 k n h0 c1 i2 x10 σ := by
  induction n generalizing h0 c1 i2 x10 σ with
  | zero => simp only [d_heap_Heap_Lines_l1, hide_eq]; rfl
  | succ n ih => rw [d_heap_Heap_Lines_l1_eq, b_heap_Heap_Lines_l1, s_heap_Heap_Lines_l1]; simp only [heap_Heap_Objects_is, heap_Heap_size_is, heap_Heap_used_is, ih, strA, strR, str0, apS_3, apS_23, apS_121, apS_186]

noncomputable def s_heap_Heap_Lines_l0 (k n : Nat) (p0 : Option Addr) (h1 : Nat) (c2 : Nat) (p3 : Option Addr) (c4 : Nat) (c5 : Nat) (i6 : Int) (x20 : Int) (σ : AMem) : Option LOut := match n with
  | 0 => none
  | n + 1 => (fP p0 fun p0 => fN h1 fun h1 => fN c2 fun c2 => fP p3 fun p3 => fN c4 fun c4 => fN c5 fun c5 => fI i6 fun i6 => fI x20 fun x20 => fL σ fun σ => bif decide (x20 < i6) then (if 0 ≤ x20 ∧ x20 < (c4 : Nat) then p3.bind fun a7 => (ldIS .i64 σ a7.block (a7.off + x20.toNat * 1)).bind fun n8 => if (64 : Int) = 0 then none else if (64 : Int) = 0 then none else (s_heap_Heap_size k p0 n8 σ).bind fun r9 => (toIS .i64 r9.1).bind fun n10 => if (8 : Int) = 0 then none else (s_heap_Heap_Lines_l1 k k h1 c2 (w64S ((w64S ((n8.tmod (64 : Int)) + n10)) - (1 : Int))) (w64S ((n8.tmod (64 : Int)).tdiv (8 : Int))) r9.2).bind fun r12 => if r12.1 = .exit 2 then (s_heap_Heap_Lines_l0 k n p0 h1 c2 p3 c4 c5 i6 (w64S (x20 + (1 : Int))) r12.2.2) else none else none) else (some (.exit 0, [], σ)))
termination_by structural n

theorem heap_Heap_Lines_l0_is (k n : Nat) (p0 : Option Addr) (h1 : Nat) (c2 : Nat) (p3 : Option Addr) (c4 : Nat) (c5 : Nat) (i6 : Int) (x20 : Int) (σ : AMem) : d_heap_Heap_Lines_l0 k n p0 h1 c2 p3 c4 c5 i6 x20 σ = s_heap_Heap_Lines_l0 k n p0 h1 c2 p3 c4 c5 i6 x20 σ := by
  induction n generalizing p0 h1 c2 p3 c4 c5 i6 x20 σ with
  | zero => simp only [d_heap_Heap_Lines_l0, hide_eq]; rfl
  | succ n ih => rw [d_heap_Heap_Lines_l0_eq, b_heap_Heap_Lines_l0, s_heap_Heap_Lines_l0]; simp only [heap_Heap_Objects_is, heap_Heap_size_is, heap_Heap_used_is, heap_Heap_Lines_l1_is, ih, strA, strR, str0, apS_3, apS_23, apS_121, apS_186]

noncomputable def s_heap_Heap_Lines (k : Nat) (x0 : Option Addr) (x1 : Int) (σ : AMem) : Option (Value × AMem) := match k with
  | 0 => none
  | k + 1 => (fP x0 fun x0 => fI x1 fun x1 => fL σ fun σ => (s_heap_Heap_used k x0 x1 σ).bind fun r1 => (toB r1.1).bind fun b2 => bif !b2 then (some (.slice none 0 0, r1.2)) else (if 0 ≤ (8 : Int) ∧ (8 : Int) ≤ (8 : Int) ∧ (8 : Int) * (1 : Nat) ≤ 2 ^ 40 ∧ (8 : Int) ≤ 2 ^ 40 then allocS r1.2 (.cells (rep (8 : Int).toNat [.bool false]) 4 true) fun h3 s4 => (s_heap_Heap_Objects k x0 x1 s4).bind fun r5 => (toS r5.1).bind fun l6 => (s_heap_Heap_Lines_l0 k k x0 h3 ((8 : Int).toNat) l6.1 l6.2.1 l6.2.2 ((l6.2.1 : Nat) : Int) (0 : Int) r5.2).bind fun r13 => if r13.1 = .exit 0 then (some (.slice (some ⟨h3, 0, none⟩) ((8 : Int).toNat) ((8 : Int).toNat), r13.2.2)) else none else none))

theorem heap_Heap_Lines_is (k : Nat) (x0 : Option Addr) (x1 : Int) (σ : AMem) : d_heap_Heap_Lines k x0 x1 σ = s_heap_Heap_Lines k x0 x1 σ := by
  cases k with
  | zero => simp only [d_heap_Heap_Lines, hide_eq]; rfl
  | succ k => rw [d_heap_Heap_Lines_eq, b_heap_Heap_Lines, s_heap_Heap_Lines]; simp only [heap_Heap_Objects_is, heap_Heap_size_is, heap_Heap_used_is, heap_Heap_Lines_l1_is, heap_Heap_Lines_l0_is, strA, strR, str0, apS_3, apS_23, apS_121, apS_186]

noncomputable def s_alloc_Allocator_hole_l2 (k n : Nat) (p0 : Option Addr) (c1 : Nat) (c2 : Nat) (x8 : Int) (σ : AMem) : Option LOut := match n with
  | 0 => none
  | n + 1 => (fP p0 fun p0 => fN c1 fun c1 => fN c2 fun c2 => fI x8 fun x8 => fL σ fun σ => (bif decide (x8 < ((c1 : Nat) : Int)) then if 0 ≤ x8 ∧ x8 < (c1 : Nat) then p0.bind fun a11 => (ldBS σ a11.block (a11.off + x8.toNat * 1)).bind fun b12 => some (!b12, σ) else none else some (false, σ)).bind fun r13 => bif r13.1 then (s_alloc_Allocator_hole_l2 k n p0 c1 c2 (w64S (x8 + (1 : Int))) r13.2) else (some (.exit 4, [.int .i64 x8], r13.2)))
termination_by structural n

theorem alloc_Allocator_hole_l2_is (k n : Nat) (p0 : Option Addr) (c1 : Nat) (c2 : Nat) (x8 : Int) (σ : AMem) : d_alloc_Allocator_hole_l2 k n p0 c1 c2 x8 σ = s_alloc_Allocator_hole_l2 k n p0 c1 c2 x8 σ := by
  induction n generalizing p0 c1 c2 x8 σ with
  | zero => simp only [d_alloc_Allocator_hole_l2, hide_eq]; rfl
  | succ n ih => rw [d_alloc_Allocator_hole_l2_eq, b_alloc_Allocator_hole_l2, s_alloc_Allocator_hole_l2]; simp only [alloc_Allocator_begin_is, alloc_Allocator_blocks_is, heap_Heap_Lines_is, ih, strA, strR, str0, apS_3, apS_23, apS_121, apS_186]

noncomputable def s_alloc_Allocator_hole_l1 (k n : Nat) (p0 : Option Addr) (h1 : Nat) (i2 : Int) (p3 : Option Addr) (c4 : Nat) (c5 : Nat) (x7 : Int) (σ : AMem) : Option LOut := match n with
  | 0 => none
  | n + 1 => (fP p0 fun p0 => fN h1 fun h1 => fI i2 fun i2 => fP p3 fun p3 => fN c4 fun c4 => fN c5 fun c5 => fI x7 fun x7 => fL σ fun σ => bif decide (x7 < ((c4 : Nat) : Int)) then ((s_alloc_Allocator_hole_l2 k k p3 c4 c5 x7 σ).bind fun r14 => if r14.1 = .exit 4 then (u_i r14.2.1 fun n15 => (bif decide (n15 > x7) then p0.bind fun a16 => (ldIS .i64 r14.2.2 a16.block (a16.off + 3 + 1)).bind fun n17 => some (decide ((w64S ((w64S (i2 * (64 : Int))) + (w64S (x7 * (8 : Int))))) ≥ n17), r14.2.2) else some (false, r14.2.2)).bind fun r18 => bif r18.1 then (stNS r18.2 h1 0 [.int .i64 (w64S ((w64S (i2 * (64 : Int))) + (w64S (x7 * (8 : Int))))), .int .i64 (w64S ((w64S (i2 * (64 : Int))) + (w64S (n15 * (8 : Int)))))] fun s19 => some (.ret, [.bool true], s19)) else (s_alloc_Allocator_hole_l1 k n p0 h1 i2 p3 c4 c5 (w64S ((if n15 > x7 then n15 else x7) + (1 : Int))) r18.2)) else none) else (some (.exit 2, [], σ)))
termination_by structural n

theorem alloc_Allocator_hole_l1_is (k n : Nat) (p0 : Option Addr) (h1 : Nat) (i2 : Int) (p3 : Option Addr) (c4 : Nat) (c5 : Nat) (x7 : Int) (σ : AMem) : d_alloc_Allocator_hole_l1 k n p0 h1 i2 p3 c4 c5 x7 σ = s_alloc_Allocator_hole_l1 k n p0 h1 i2 p3 c4 c5 x7 σ := by
  induction n generalizing p0 h1 i2 p3 c4 c5 x7 σ with
  | zero => simp only [d_alloc_Allocator_hole_l1, hide_eq]; rfl
  | succ n ih => rw [d_alloc_Allocator_hole_l1_eq, b_alloc_Allocator_hole_l1, s_alloc_Allocator_hole_l1]; simp only [alloc_Allocator_begin_is, alloc_Allocator_blocks_is, heap_Heap_Lines_is, alloc_Allocator_hole_l2_is, ih, strA, strR, str0, apS_3, apS_23, apS_121, apS_186]

noncomputable def s_alloc_Allocator_hole_l0 (k n : Nat) (p0 : Option Addr) (h1 : Nat) (p2 : Option Addr) (c3 : Nat) (c4 : Nat) (i5 : Int) (x13 : Int) (σ : AMem) : Option LOut := match n with
  | 0 => none
  | n + 1 => (fP p0 fun p0 => fN h1 fun h1 => fP p2 fun p2 => fN c3 fun c3 => fN c4 fun c4 => fI i5 fun i5 => fI x13 fun x13 => fL σ fun σ => bif decide (x13 < i5) then (if 0 ≤ x13 ∧ x13 < (c3 : Nat) then p2.bind fun a5 => (ldIS .i64 σ a5.block (a5.off + x13.toNat * 1)).bind fun n6 => p0.bind fun a7 => (ldPS σ a7.block (a7.off + 0)).bind fun p8 => (s_heap_Heap_Lines k p8 n6 σ).bind fun r9 => (toS r9.1).bind fun l10 => (s_alloc_Allocator_hole_l1 k k p0 h1 n6 l10.1 l10.2.1 l10.2.2 (0 : Int) r9.2).bind fun r20 => if r20.1 = .exit 2 then (s_alloc_Allocator_hole_l0 k n p0 h1 p2 c3 c4 i5 (w64S (x13 + (1 : Int))) r20.2.2) else if r20.1 = .ret then (u_t r20.2.1 fun b21 => some (.ret, [.bool b21], r20.2.2)) else none else none) else (some (.exit 0, [], σ)))
termination_by structural n

theorem alloc_Allocator_hole_l0_is (k n : Nat) (p0 : Option Addr) (h1 : Nat) (p2 : Option Addr) (c3 : Nat) (c4 : Nat) (i5 : Int) (x13 : Int) (σ : AMem) : d_alloc_Allocator_hole_l0 k n p0 h1 p2 c3 c4 i5 x13 σ = s_alloc_Allocator_hole_l0 k n p0 h1 p2 c3 c4 i5 x13 σ := by
  induction n generalizing p0 h1 p2 c3 c4 i5 x13 σ with
  | zero => simp only [d_alloc_Allocator_hole_l0, hide_eq]; rfl
  | succ n ih => rw [d_alloc_Allocator_hole_l0_eq, b_alloc_Allocator_hole_l0, s_alloc_Allocator_hole_l0]; simp only [alloc_Allocator_begin_is, alloc_Allocator_blocks_is, heap_Heap_Lines_is, alloc_Allocator_hole_l2_is, alloc_Allocator_hole_l1_is, ih, strA, strR, str0, apS_3, apS_23, apS_121, apS_186]

noncomputable def s_alloc_Allocator_hole (k : Nat) (x0 : Option Addr) (σ : AMem) : Option (Value × AMem) := match k with
  | 0 => none
  | k + 1 => (fP x0 fun x0 => fL σ fun σ => allocS σ (.cells [.int .i64 (0 : Int), .int .i64 (0 : Int)] 202 true) fun h1 s2 => (s_alloc_Allocator_blocks k x0 s2).bind fun r3 => (toS r3.1).bind fun l4 => (s_alloc_Allocator_hole_l0 k k x0 h1 l4.1 l4.2.1 l4.2.2 ((l4.2.1 : Nat) : Int) (0 : Int) r3.2).bind fun r22 => if r22.1 = .exit 0 then ((s_alloc_Allocator_begin k x0 r22.2.2).bind fun r23 => (toT r23.1).bind fun q24 => if q24.length = 2 then q24.head?.bind fun v25 => a_ii v25 fun n26 n27 => q24.tail.head?.bind fun v28 => (toB v28).bind fun b29 => stNS r23.2 h1 0 [.int .i64 n26, .int .i64 n27] fun s30 => (((ldNS s30 h1 0 2).bind fun v31 => some (.agg v31.toArray)).bind fun v32 => some [v32, .bool b29]).bind fun vs33 => some (resOf vs33, s30) else none) else if r22.1 = .ret then (u_t r22.2.1 fun b34 => (((ldNS r22.2.2 h1 0 2).bind fun v35 => some (.agg v35.toArray)).bind fun v36 => some [v36, .bool b34]).bind fun vs37 => some (resOf vs37, r22.2.2)) else none)

theorem alloc_Allocator_hole_is (k : Nat) (x0 : Option Addr) (σ : AMem) : d_alloc_Allocator_hole k x0 σ = s_alloc_Allocator_hole k x0 σ := by
  cases k with
  | zero => simp only [d_alloc_Allocator_hole, hide_eq]; rfl
  | succ k => rw [d_alloc_Allocator_hole_eq, b_alloc_Allocator_hole, s_alloc_Allocator_hole]; simp only [alloc_Allocator_begin_is, alloc_Allocator_blocks_is, heap_Heap_Lines_is, alloc_Allocator_hole_l2_is, alloc_Allocator_hole_l1_is, alloc_Allocator_hole_l0_is, strA, strR, str0, apS_3, apS_23, apS_121, apS_186]

noncomputable def s_alloc_lines_place (k : Nat) (x1 : Option Addr) (x2 : Int) (σ : AMem) : Option (Value × AMem) := match k with
  | 0 => none
  | k + 1 => (fP x1 fun x1 => fI x2 fun x2 => fL σ fun σ => allocS σ (.cells [] 243 true) fun h1 s2 => x1.bind fun a3 => (s_alloc_area_has k (some ⟨a3.block, a3.off + 3, none⟩) x2 s2).bind fun r4 => (toB r4.1).bind fun b5 => bif b5 then (x1.bind fun a6 => (s_alloc_area_take k (some ⟨a6.block, a6.off + 3, none⟩) x2 r4.2).bind fun r7 => (toIS .i64 r7.1).bind fun n8 => fI n8 fun y9 => fB true fun y10 => some (.tuple #[.int .i64 y9, .bool y10], r7.2)) else (bif decide (x2 > (8 : Int)) then (x1.bind fun a11 => (s_alloc_Allocator_bumped k x1 (some ⟨a11.block, a11.off + 5, none⟩) x2 r4.2).bind fun r12 => r_it r12.1 fun n13 b14 => fI n13 fun y15 => fB b14 fun y16 => some (.tuple #[.int .i64 y15, .bool y16], r12.2)) else ((s_alloc_Allocator_hole k x1 r4.2).bind fun r17 => (toT r17.1).bind fun q18 => if q18.length = 2 then q18.head?.bind fun v19 => a_ii v19 fun n20 n21 => q18.tail.head?.bind fun v22 => (toB v22).bind fun b23 => allocS r17.2 (.cells [.int .i64 (0 : Int), .int .i64 (0 : Int)] 202 true) fun h24 s25 => stNS s25 h24 0 [.int .i64 n20, .int .i64 n21] fun s26 => bif !b23 then (fI (0 : Int) fun y27 => fB false fun y28 => some (.tuple #[.int .i64 y27, .bool y28], s26)) else ((ldIS .i64 s26 h24 0).bind fun n29 => (ldIS .i64 s26 h24 (0 + 1)).bind fun n30 => x1.bind fun a31 => stNS s26 a31.block (a31.off + 3) [.int .i64 n29, .int .i64 n30] fun s32 => x1.bind fun a33 => (s_alloc_area_take k (some ⟨a33.block, a33.off + 3, none⟩) x2 s32).bind fun r34 => (toIS .i64 r34.1).bind fun n35 => fI n35 fun y36 => fB true fun y37 => some (.tuple #[.int .i64 y36, .bool y37], r34.2)) else none)))

theorem alloc_lines_place_is (k : Nat) (x1 : Option Addr) (x2 : Int) (σ : AMem) : d_alloc_lines_place k x1 x2 σ = s_alloc_lines_place k x1 x2 σ := by
  cases k with
  | zero => simp only [d_alloc_lines_place, hide_eq]; rfl
  | succ k => rw [d_alloc_lines_place_eq, b_alloc_lines_place, s_alloc_lines_place]; simp only [alloc_Allocator_bumped_is, alloc_area_has_is, alloc_area_take_is, alloc_Allocator_hole_is, strA, strR, str0, apS_3, apS_23, apS_121, apS_186]

theorem alloc_lines_place_raw (k : Nat) (x1 : Option Addr) (x2 : Int) (σ : AMem) : fn P (XK Kn.b) H k 299 [.agg #[], .pointer x1, .int .i64 x2] σ = d_alloc_lines_place k x1 x2 σ := by
  simp only [d_alloc_lines_place, hide_eq]

noncomputable def s_callN_pi_it (k : Nat) (n : FuncId) (l : List Value) (σ : AMem) : Option (Value × AMem) :=
  if n = 156 then (match l with
    | [.pointer y1, .int .i64 y2] => s_alloc_Allocator_large k y1 y2 σ
    | l => fn P (XK Kn.b) H k 156 l σ) else
  if n = 280 then (match l with
    | [.agg ⟨[]⟩, .pointer y1, .int .i64 y2] => s_alloc_first_place k y1 y2 σ
    | l => fn P (XK Kn.b) H k 280 l σ) else
  if n = 286 then (match l with
    | [.agg ⟨[]⟩, .pointer y1, .int .i64 y2] => s_alloc_best_place k y1 y2 σ
    | l => fn P (XK Kn.b) H k 286 l σ) else
  if n = 294 then (match l with
    | [.agg ⟨[]⟩, .pointer y1, .int .i64 y2] => s_alloc_next_place k y1 y2 σ
    | l => fn P (XK Kn.b) H k 294 l σ) else
  if n = 295 then (match l with
    | [.agg ⟨[]⟩, .pointer y1, .int .i64 y2] => s_alloc_bump_place k y1 y2 σ
    | l => fn P (XK Kn.b) H k 295 l σ) else
  if n = 299 then (match l with
    | [.agg ⟨[]⟩, .pointer y1, .int .i64 y2] => s_alloc_lines_place k y1 y2 σ
    | l => fn P (XK Kn.b) H k 299 l σ) else
  fn P (XK Kn.b) H k n l σ

theorem callN_pi_it_is (k : Nat) (n : FuncId) (l : List Value) (σ : AMem) : fn P (XK Kn.b) H k n l σ = s_callN_pi_it k n l σ := by
  unfold s_callN_pi_it
  split
  · rename_i hn; subst hn
    split
    · exact (alloc_Allocator_large_raw k _ _ σ).trans (alloc_Allocator_large_is k _ _ σ)
    · rfl
  split
  · rename_i hn; subst hn
    split
    · exact (alloc_first_place_raw k _ _ σ).trans (alloc_first_place_is k _ _ σ)
    · rfl
  split
  · rename_i hn; subst hn
    split
    · exact (alloc_best_place_raw k _ _ σ).trans (alloc_best_place_is k _ _ σ)
    · rfl
  split
  · rename_i hn; subst hn
    split
    · exact (alloc_next_place_raw k _ _ σ).trans (alloc_next_place_is k _ _ σ)
    · rfl
  split
  · rename_i hn; subst hn
    split
    · exact (alloc_bump_place_raw k _ _ σ).trans (alloc_bump_place_is k _ _ σ)
    · rfl
  split
  · rename_i hn; subst hn
    split
    · exact (alloc_lines_place_raw k _ _ σ).trans (alloc_lines_place_is k _ _ σ)
    · rfl
  rfl

noncomputable def s_callV_pi_it (k : Nat) (f : Value) (args : List Value) (σ : AMem) : Option (Value × AMem) := match f with
  | .func (.func n) first cap => bif Nat.beq n YF then none else s_callN_pi_it k n (first.toList ++ args ++ cap.toList) σ
  | .func (.yield h) _ _ => fn P (XK Kn.b) H k YF (.pointer (some ⟨h, 0, none⟩) :: args) σ
  | .func (.method nm) first _ => (match first.toList ++ args with
    | .iface t v :: rest => (methodF P t nm).bind fun n => bif Nat.beq n YF then none else s_callN_pi_it k n (v :: rest) σ
    | _ => none)
  | _ => none

theorem callV_pi_it_is (k : Nat) (f : Value) (args : List Value) (σ : AMem) : d_callV_pi_it k f args σ = s_callV_pi_it k f args σ := by
  simp only [d_callV_pi_it, hide_eq]
  unfold callVal s_callV_pi_it
  simp only [callN_pi_it_is]
  rfl

noncomputable def s_alloc_Allocator_Alloc (k : Nat) (x0 : Option Addr) (x1_0 : Int) (x1_1 : Int) (x1_2 : Int) (σ : AMem) : Option (Value × AMem) := match k with
  | 0 => none
  | k + 1 => (fP x0 fun x0 => fI x1_0 fun x1_0 => fI x1_1 fun x1_1 => fI x1_2 fun x1_2 => fL σ fun σ => allocS σ (.cells [.int .i64 x1_0, .int .i64 x1_1, .int .i64 x1_2] 57 true) fun h1 s2 => (s_alloc_Allocator_made k x0 s2).bind fun r3 => (toB r3.1).bind fun b4 => bif !b4 then (fI (0 : Int) fun y5 => fI (5 : Int) fun y6 => some (.tuple #[.int .i64 y5, .int .i64 y6], r3.2)) else ((ldIS .i64 r3.2 h1 0).bind fun n7 => (ldIS .i64 r3.2 h1 (0 + 1)).bind fun n8 => (ldIS .i64 r3.2 h1 (0 + 1 + 1)).bind fun n9 => (s_heap_Valid k n7 n8 n9 r3.2).bind fun r10 => (toB r10.1).bind fun b11 => bif !b11 then (fI (0 : Int) fun y12 => fI (2 : Int) fun y13 => some (.tuple #[.int .i64 y12, .int .i64 y13], r10.2)) else ((ldIS .i64 r10.2 h1 0).bind fun n14 => (ldIS .i64 r10.2 h1 (0 + 1)).bind fun n15 => (ldIS .i64 r10.2 h1 (0 + 1 + 1)).bind fun n16 => (s_heap_Words k n14 n15 n16 r10.2).bind fun r17 => (toIS .i64 r17.1).bind fun n18 => (s_alloc_policies k  r17.2).bind fun r19 => (toS r19.1).bind fun l20 => x0.bind fun a21 => (ldIS .i64 r19.2 a21.block (a21.off + 2)).bind fun n22 => if 0 ≤ n22 ∧ n22 < (l20.2.1 : Nat) then l20.1.bind fun a23 => (ld1S r19.2 a23.block (a23.off + n22.toNat * 1)).bind fun v24 => nilV v24 fun v25 => (bif decide (n18 > (32 : Int)) then (some (.normal, [.func (.func 156) #[] #[]], r19.2)) else (some (.normal, [(.func (.method "dustcart/alloc.place") #[v25] #[])], r19.2)) : Option LOut).bind fun r26 => if r26.1 = .normal then (u_f r26.2.1 fun f27 => x0.bind fun a28 => (ldPS r26.2.2 a28.block a28.off).bind fun p29 => (ldIS .i64 r26.2.2 a28.block (a28.off + 1)).bind fun n30 => (ldIS .i64 r26.2.2 a28.block (a28.off + 1 + 1)).bind fun n31 => (ldIS .i64 r26.2.2 a28.block (a28.off + 1 + 1 + 1)).bind fun n32 => (ldIS .i64 r26.2.2 a28.block (a28.off + 1 + 1 + 1 + 1)).bind fun n33 => (ldIS .i64 r26.2.2 a28.block (a28.off + 1 + 1 + 1 + 1 + 1)).bind fun n34 => (ldIS .i64 r26.2.2 a28.block (a28.off + 1 + 1 + 1 + 1 + 1 + 1)).bind fun n35 => allocS r26.2.2 (.cells [.pointer none, .int .i64 (0 : Int), .int .i64 (0 : Int), .int .i64 (0 : Int), .int .i64 (0 : Int), .int .i64 (0 : Int), .int .i64 (0 : Int)] 204 true) fun h36 s37 => stNS s37 h36 0 [.pointer p29, .int .i64 n30, .int .i64 n31, .int .i64 n32, .int .i64 n33, .int .i64 n34, .int .i64 n35] fun s38 => (s_callV_pi_it k f27 [.pointer x0, .int .i64 n18] s38).bind fun r39 => r_it r39.1 fun n40 b41 => bif !b41 then (fI (0 : Int) fun y42 => fI (6 : Int) fun y43 => some (.tuple #[.int .i64 y42, .int .i64 y43], r39.2)) else (x0.bind fun a44 => (ldPS r39.2 a44.block (a44.off + 0)).bind fun p45 => if (64 : Int) = 0 then none else (s_heap_Heap_Space k p45 (w64S (n40.tdiv (64 : Int))) r39.2).bind fun r46 => (toIS .i64 r46.1).bind fun n47 => x0.bind fun a48 => (ldIS .i64 r46.2 a48.block (a48.off + 1)).bind fun n49 => (bif n47 == n49 then (x0.bind fun a50 => (ldPS r46.2 a50.block (a50.off + 0)).bind fun p51 => (ldIS .i64 r46.2 h1 0).bind fun n52 => (ldIS .i64 r46.2 h1 (0 + 1)).bind fun n53 => (ldIS .i64 r46.2 h1 (0 + 1 + 1)).bind fun n54 => (s_heap_Heap_Place k p51 n40 n52 n53 n54 r46.2).bind fun r55 => r_ii r55.1 fun n56 n57 => some (.normal, [.int .i64 n57], r55.2)) else (some (.normal, [.int .i64 (5 : Int)], r46.2)) : Option LOut).bind fun r58 => if r58.1 = .normal then (u_i r58.2.1 fun n59 => bif n59 != (0 : Int) then ((ldPS r58.2.2 h36 0).bind fun p60 => (ldIS .i64 r58.2.2 h36 (0 + 1)).bind fun n61 => (ldIS .i64 r58.2.2 h36 (0 + 1 + 1)).bind fun n62 => (ldIS .i64 r58.2.2 h36 (0 + 1 + 1 + 1)).bind fun n63 => (ldIS .i64 r58.2.2 h36 (0 + 1 + 1 + 1 + 1)).bind fun n64 => (ldIS .i64 r58.2.2 h36 (0 + 1 + 1 + 1 + 1 + 1)).bind fun n65 => (ldIS .i64 r58.2.2 h36 (0 + 1 + 1 + 1 + 1 + 1 + 1)).bind fun n66 => x0.bind fun a67 => stNS r58.2.2 a67.block a67.off [.pointer p60, .int .i64 n61, .int .i64 n62, .int .i64 n63, .int .i64 n64, .int .i64 n65, .int .i64 n66] fun s68 => fI (0 : Int) fun y69 => fI (6 : Int) fun y70 => some (.tuple #[.int .i64 y69, .int .i64 y70], s68)) else (fI n40 fun y71 => fI (0 : Int) fun y72 => some (.tuple #[.int .i64 y71, .int .i64 y72], r58.2.2))) else none)) else none else none)))

theorem alloc_Allocator_Alloc_is (k : Nat) (x0 : Option Addr) (x1_0 : Int) (x1_1 : Int) (x1_2 : Int) (σ : AMem) : d_alloc_Allocator_Alloc k x0 x1_0 x1_1 x1_2 σ = s_alloc_Allocator_Alloc k x0 x1_0 x1_1 x1_2 σ := by
  cases k with
  | zero => simp only [d_alloc_Allocator_Alloc, hide_eq]; rfl
  | succ k => rw [d_alloc_Allocator_Alloc_eq, b_alloc_Allocator_Alloc, s_alloc_Allocator_Alloc]; simp only [alloc_Allocator_made_is, heap_Valid_is, heap_Words_is, alloc_policies_is, heap_Heap_Space_is, heap_Heap_Place_is, callV_pi_it_is, strA, strR, str0, apS_3, apS_23, apS_121, apS_186]

noncomputable def s_law06_blocks (k : Nat) (x0_0 : Int) (x0_1 : Int) (x0_2 : Int) (x0_3 : Option Addr × Nat × Nat) (σ : AMem) : Option (Value × AMem) := match k with
  | 0 => none
  | k + 1 => (fI x0_0 fun x0_0 => fI x0_1 fun x0_1 => fI x0_2 fun x0_2 => fS x0_3 fun x0_3 => fL σ fun σ => allocS σ (.cells [.int .u8 x0_0, .int .u8 x0_1, .int .u8 x0_2, .slice x0_3.1 x0_3.2.1 x0_3.2.2] 152 true) fun h1 s2 => (ldIS .u8 s2 h1 (0 + 0)).bind fun n3 => if (12 : Int) = 0 then none else fI (w64S ((2 : Int) + ((w64S (n3)).tmod (12 : Int)))) fun y4 => some (.int .i64 y4, s2))

theorem law06_blocks_is (k : Nat) (x0_0 : Int) (x0_1 : Int) (x0_2 : Int) (x0_3 : Option Addr × Nat × Nat) (σ : AMem) : d_law06_blocks k x0_0 x0_1 x0_2 x0_3 σ = s_law06_blocks k x0_0 x0_1 x0_2 x0_3 σ := by
  cases k with
  | zero => simp only [d_law06_blocks, hide_eq]; rfl
  | succ k => rw [d_law06_blocks_eq, b_law06_blocks, s_law06_blocks]; simp only [strA, strR, str0, apS_3, apS_23, apS_121, apS_186]

noncomputable def s_law06_mutators (k : Nat) (x0_0 : Int) (x0_1 : Int) (x0_2 : Int) (x0_3 : Option Addr × Nat × Nat) (σ : AMem) : Option (Value × AMem) := match k with
  | 0 => none
  | k + 1 => (fI x0_0 fun x0_0 => fI x0_1 fun x0_1 => fI x0_2 fun x0_2 => fS x0_3 fun x0_3 => fL σ fun σ => allocS σ (.cells [.int .u8 x0_0, .int .u8 x0_1, .int .u8 x0_2, .slice x0_3.1 x0_3.2.1 x0_3.2.2] 152 true) fun h1 s2 => (ldIS .u8 s2 h1 (0 + 1)).bind fun n3 => if (3 : Int) = 0 then none else fI (w64S ((1 : Int) + ((w64S (n3)).tmod (3 : Int)))) fun y4 => some (.int .i64 y4, s2))

theorem law06_mutators_is (k : Nat) (x0_0 : Int) (x0_1 : Int) (x0_2 : Int) (x0_3 : Option Addr × Nat × Nat) (σ : AMem) : d_law06_mutators k x0_0 x0_1 x0_2 x0_3 σ = s_law06_mutators k x0_0 x0_1 x0_2 x0_3 σ := by
  cases k with
  | zero => simp only [d_law06_mutators, hide_eq]; rfl
  | succ k => rw [d_law06_mutators_eq, b_law06_mutators, s_law06_mutators]; simp only [strA, strR, str0, apS_3, apS_23, apS_121, apS_186]

noncomputable def s_model_New_l0 (k n : Nat) (h0 : Nat) (i1 : Int) (x15 : Int) (σ : AMem) : Option LOut := match n with
  | 0 => none
  | n + 1 => (fN h0 fun h0 => fI i1 fun i1 => fI x15 fun x15 => fL σ fun σ => bif decide (x15 < i1) then ((ldSS σ h0 (0 + 0)).bind fun l7 => if 0 ≤ (16 : Int) ∧ (16 : Int) ≤ (16 : Int) ∧ (16 : Int) * (8 : Nat) ≤ 2 ^ 40 ∧ (16 : Int) ≤ 2 ^ 40 then allocS σ (.cells (rep (16 : Int).toNat [.int .i64 (0 : Int)]) 3 true) fun h8 s9 => allocS s9 (.cells [.slice (some ⟨h8, 0, none⟩) ((16 : Int).toNat) ((16 : Int).toNat)] 23 true) fun h10 s11 => appendS 23 1 24 (l7.1, l7.2.1, l7.2.2) (some ⟨h10, 0, none⟩, 1, 1) s11 fun r12 => st1S r12.2 h0 (0 + 0) (.slice r12.1.1 r12.1.2.1 r12.1.2.2) fun s13 => s_model_New_l0 k n h0 i1 (w64S (x15 + (1 : Int))) s13 else none) else (some (.exit 0, [], σ)))
termination_by structural n

theorem model_New_l0_is (k n : Nat) (h0 : Nat) (i1 : Int) (x15 : Int) (σ : AMem) : d_model_New_l0 k n h0 i1 x15 σ = s_model_New_l0 k n h0 i1 x15 σ := by
  induction n generalizing h0 i1 x15 σ with
  | zero => simp only [d_model_New_l0, hide_eq]; rfl
  | succ n ih => rw [d_model_New_l0_eq, b_model_New_l0, s_model_New_l0]; simp only [ih, strA, strR, str0, apS_3, apS_23, apS_121, apS_186]

noncomputable def s_model_New (k : Nat) (x0 : Int) (σ : AMem) : Option (Value × AMem) := match k with
  | 0 => none
  | k + 1 => (fI x0 fun x0 => fL σ fun σ => (bif decide (x0 < (1 : Int)) then some (true, σ) else some (decide (x0 > (4 : Int)), σ)).bind fun r1 => bif r1.1 then (fI (1 : Int) fun y2 => some (.tuple #[.pointer none, .int .i64 y2], r1.2)) else (if 0 ≤ (16 : Int) ∧ (16 : Int) ≤ (16 : Int) ∧ (16 : Int) * (8 : Nat) ≤ 2 ^ 40 ∧ (16 : Int) ≤ 2 ^ 40 then allocS r1.2 (.cells (rep (16 : Int).toNat [.int .i64 (0 : Int)]) 3 true) fun h3 s4 => allocS s4 (.cells [.slice none 0 0, .slice (some ⟨h3, 0, none⟩) ((16 : Int).toNat) ((16 : Int).toNat), .slice none 0 0, .slice none 0 0] 249 true) fun h5 s6 => (s_model_New_l0 k k h5 x0 (0 : Int) s6).bind fun r14 => if r14.1 = .exit 0 then (fI (0 : Int) fun y15 => some (.tuple #[.pointer (some ⟨h5, 0, none⟩), .int .i64 y15], r14.2.2)) else none else none))

theorem model_New_is (k : Nat) (x0 : Int) (σ : AMem) : d_model_New k x0 σ = s_model_New k x0 σ := by
  cases k with
  | zero => simp only [d_model_New, hide_eq]; rfl
  | succ k => rw [d_model_New_eq, b_model_New, s_model_New]; simp only [model_New_l0_is, strA, strR, str0, apS_3, apS_23, apS_121, apS_186]

noncomputable def s_alloc_New (k : Nat) (x0 : Option Addr) (x1 : Int) (x2 : Int) (σ : AMem) : Option (Value × AMem) := match k with
  | 0 => none
  | k + 1 => (fP x0 fun x0 => fI x1 fun x1 => fI x2 fun x2 => fL σ fun σ => (s_heap_Heap_Blocks k x0 σ).bind fun r1 => (toIS .i64 r1.1).bind fun n2 => (bif n2 == (0 : Int) then some (true, r1.2) else some (decide (x1 < (0 : Int)), r1.2)).bind fun r3 => (bif r3.1 then some (true, r3.2) else some (decide (x1 ≥ (8 : Int)), r3.2)).bind fun r4 => (bif r4.1 then some (true, r4.2) else some (decide (x2 < (0 : Int)), r4.2)).bind fun r5 => (bif r5.1 then some (true, r5.2) else (s_alloc_policies k  r5.2).bind fun r6 => (toS r6.1).bind fun l7 => some (decide (x2 ≥ ((l7.2.1 : Nat) : Int)), r6.2)).bind fun r8 => bif r8.1 then (fI (1 : Int) fun y9 => some (.tuple #[.pointer none, .int .i64 y9], r8.2)) else (allocS r8.2 (.cells [.pointer x0, .int .i64 x1, .int .i64 x2, .int .i64 (0 : Int), .int .i64 (0 : Int), .int .i64 (0 : Int), .int .i64 (0 : Int)] 204 true) fun h10 s11 => fI (0 : Int) fun y12 => some (.tuple #[.pointer (some ⟨h10, 0, none⟩), .int .i64 y12], s11)))

theorem alloc_New_is (k : Nat) (x0 : Option Addr) (x1 : Int) (x2 : Int) (σ : AMem) : d_alloc_New k x0 x1 x2 σ = s_alloc_New k x0 x1 x2 σ := by
  cases k with
  | zero => simp only [d_alloc_New, hide_eq]; rfl
  | succ k => rw [d_alloc_New_eq, b_alloc_New, s_alloc_New]; simp only [heap_Heap_Blocks_is, alloc_policies_is, strA, strR, str0, apS_3, apS_23, apS_121, apS_186]

noncomputable def s_law06_NewWorld_l0 (k n : Nat) (h0 : Nat) (h1 : Nat) (x4 : Int) (σ : AMem) : Option LOut := match n with
  | 0 => none
  | n + 1 => (fN h0 fun h0 => fN h1 fun h1 => fI x4 fun x4 => fL σ fun σ => bif decide (x4 < (2 : Int)) then ((ldPS σ h1 (0 + 0)).bind fun p37 => (ldIS .u8 σ h0 (0 + 2)).bind fun n38 => if (5 : Int) = 0 then none else (s_alloc_New k p37 x4 ((w64S (n38)).tmod (5 : Int)) σ).bind fun r39 => r_pi r39.1 fun p40 n41 => if 0 ≤ x4 ∧ x4 < (2 : Nat) then st1S r39.2 h1 (0 + 2 + x4.toNat * 1) (.pointer p40) fun s42 => s_law06_NewWorld_l0 k n h0 h1 (w64S (x4 + (1 : Int))) s42 else none) else (some (.exit 0, [], σ)))
termination_by structural n

theorem law06_NewWorld_l0_is (k n : Nat) (h0 : Nat) (h1 : Nat) (x4 : Int) (σ : AMem) : d_law06_NewWorld_l0 k n h0 h1 x4 σ = s_law06_NewWorld_l0 k n h0 h1 x4 σ := by
  induction n generalizing h0 h1 x4 σ with
  | zero => simp only [d_law06_NewWorld_l0, hide_eq]; rfl
  | succ n ih => rw [d_law06_NewWorld_l0_eq, b_law06_NewWorld_l0, s_law06_NewWorld_l0]; simp only [heap_New_is, roots_New_is, law06_blocks_is, law06_mutators_is, model_New_is, alloc_New_is, ih, strA, strR, str0, apS_3, apS_23, apS_121, apS_186]

noncomputable def s_law06_NewWorld (k : Nat) (x0_0 : Int) (x0_1 : Int) (x0_2 : Int) (x0_3 : Option Addr × Nat × Nat) (σ : AMem) : Option (Value × AMem) := match k with
  | 0 => none
  | k + 1 => (fI x0_0 fun x0_0 => fI x0_1 fun x0_1 => fI x0_2 fun x0_2 => fS x0_3 fun x0_3 => fL σ fun σ => allocS σ (.cells [.int .u8 x0_0, .int .u8 x0_1, .int .u8 x0_2, .slice x0_3.1 x0_3.2.1 x0_3.2.2] 152 true) fun h1 s2 => allocS s2 (.cells [.pointer none, .pointer none, .pointer none, .pointer none, .pointer none] 71 true) fun h3 s4 => allocS s4 (.cells [.pointer none, .pointer none, .pointer none, .pointer none, .pointer none] 71 true) fun h5 s6 => (ldIS .u8 s6 h1 0).bind fun n7 => (ldIS .u8 s6 h1 (0 + 1)).bind fun n8 => (ldIS .u8 s6 h1 (0 + 1 + 1)).bind fun n9 => (ldSS s6 h1 (0 + 1 + 1 + 1)).bind fun l10 => (s_law06_blocks k n7 n8 n9 (l10.1, l10.2.1, l10.2.2) s6).bind fun r11 => (toIS .i64 r11.1).bind fun n12 => (s_heap_New k n12 r11.2).bind fun r13 => r_pi r13.1 fun p14 n15 => st1S r13.2 h5 (0 + 0) (.pointer p14) fun s16 => (ldIS .u8 s16 h1 0).bind fun n17 => (ldIS .u8 s16 h1 (0 + 1)).bind fun n18 => (ldIS .u8 s16 h1 (0 + 1 + 1)).bind fun n19 => (ldSS s16 h1 (0 + 1 + 1 + 1)).bind fun l20 => (s_law06_mutators k n17 n18 n19 (l20.1, l20.2.1, l20.2.2) s16).bind fun r21 => (toIS .i64 r21.1).bind fun n22 => (s_roots_New k n22 r21.2).bind fun r23 => r_pi r23.1 fun p24 n25 => st1S r23.2 h5 (0 + 1) (.pointer p24) fun s26 => (ldIS .u8 s26 h1 0).bind fun n27 => (ldIS .u8 s26 h1 (0 + 1)).bind fun n28 => (ldIS .u8 s26 h1 (0 + 1 + 1)).bind fun n29 => (ldSS s26 h1 (0 + 1 + 1 + 1)).bind fun l30 => (s_law06_mutators k n27 n28 n29 (l30.1, l30.2.1, l30.2.2) s26).bind fun r31 => (toIS .i64 r31.1).bind fun n32 => (s_model_New k n32 r31.2).bind fun r33 => r_pi r33.1 fun p34 n35 => st1S r33.2 h5 (0 + 4) (.pointer p34) fun s36 => (s_law06_NewWorld_l0 k k h1 h5 (0 : Int) s36).bind fun r43 => if r43.1 = .exit 0 then ((ldPS r43.2.2 h5 0).bind fun p44 => (ldPS r43.2.2 h5 (0 + 1)).bind fun p45 => (ldPS r43.2.2 h5 (0 + 1 + 1)).bind fun p46 => (ldPS r43.2.2 h5 (0 + 1 + 1 + 1)).bind fun p47 => (ldPS r43.2.2 h5 (0 + 1 + 1 + 1 + 1)).bind fun p48 => stNS r43.2.2 h3 0 [.pointer p44, .pointer p45, .pointer p46, .pointer p47, .pointer p48] fun s49 => (((ldNS s49 h3 0 5).bind fun v50 => some (.agg v50.toArray)).bind fun v51 => some [v51]).bind fun vs52 => some (resOf vs52, s49)) else none)

theorem law06_NewWorld_is (k : Nat) (x0_0 : Int) (x0_1 : Int) (x0_2 : Int) (x0_3 : Option Addr × Nat × Nat) (σ : AMem) : d_law06_NewWorld k x0_0 x0_1 x0_2 x0_3 σ = s_law06_NewWorld k x0_0 x0_1 x0_2 x0_3 σ := by
  cases k with
  | zero => simp only [d_law06_NewWorld, hide_eq]; rfl
  | succ k => rw [d_law06_NewWorld_eq, b_law06_NewWorld, s_law06_NewWorld]; simp only [heap_New_is, roots_New_is, law06_blocks_is, law06_mutators_is, model_New_is, alloc_New_is, law06_NewWorld_l0_is, strA, strR, str0, apS_3, apS_23, apS_121, apS_186]

noncomputable def s_roots_Roots_Set (k : Nat) (x0 : Option Addr) (x1_0 : Int) (x1_1 : Int) (x1_2 : Int) (x2 : Int) (σ : AMem) : Option (Value × AMem) := match k with
  | 0 => none
  | k + 1 => (fP x0 fun x0 => fI x1_0 fun x1_0 => fI x1_1 fun x1_1 => fI x1_2 fun x1_2 => fI x2 fun x2 => fL σ fun σ => allocS σ (.cells [.int .i64 x1_0, .int .i64 x1_1, .int .i64 x1_2] 121 true) fun h1 s2 => (ldIS .i64 s2 h1 0).bind fun n3 => (ldIS .i64 s2 h1 (0 + 1)).bind fun n4 => (ldIS .i64 s2 h1 (0 + 1 + 1)).bind fun n5 => (s_roots_Roots_place k x0 n3 n4 n5 s2).bind fun r6 => r_pi r6.1 fun p7 n8 => bif n8 != (0 : Int) then (fI n8 fun y9 => some (.int .i64 y9, r6.2)) else ((bif decide (x2 < (0 : Int)) then some (true, r6.2) else (bif x2 == (0 : Int) then (ldIS .i64 r6.2 h1 (0 + 0)).bind fun n10 => some (n10 == (2 : Int), r6.2) else some (false, r6.2)).bind fun r11 => some (r11.1, r11.2)).bind fun r12 => bif r12.1 then (fI (1 : Int) fun y13 => some (.int .i64 y13, r12.2)) else (p7.bind fun a14 => st1S r12.2 a14.block a14.off (.int .i64 x2) fun s15 => fI (0 : Int) fun y16 => some (.int .i64 y16, s15))))

theorem roots_Roots_Set_is (k : Nat) (x0 : Option Addr) (x1_0 : Int) (x1_1 : Int) (x1_2 : Int) (x2 : Int) (σ : AMem) : d_roots_Roots_Set k x0 x1_0 x1_1 x1_2 x2 σ = s_roots_Roots_Set k x0 x1_0 x1_1 x1_2 x2 σ := by
  cases k with
  | zero => simp only [d_roots_Roots_Set, hide_eq]; rfl
  | succ k => rw [d_roots_Roots_Set_eq, b_roots_Roots_Set, s_roots_Roots_Set]; simp only [roots_Roots_place_is, strA, strR, str0, apS_3, apS_23, apS_121, apS_186]

noncomputable def s_law07_Chain_l0 (k n : Nat) (p0 : Option Addr) (c1 : Nat) (c2 : Nat) (h3 : Nat) (x4 : Int) (σ : AMem) : Option LOut := match n with
  | 0 => none
  | n + 1 => (fP p0 fun p0 => fN c1 fun c1 => fN c2 fun c2 => fN h3 fun h3 => fI x4 fun x4 => fL σ fun σ => bif decide (x4 < ((c1 : Nat) : Int)) then (if 0 ≤ (0 : Int) ∧ (0 : Int) < (2 : Nat) then (ldPS σ h3 (0 + 2 + (0 : Int).toNat * 1)).bind fun p12 => if 0 ≤ x4 ∧ x4 < (c1 : Nat) then p0.bind fun a13 => (ldSS σ a13.block (a13.off + x4.toNat * 1)).bind fun l14 => (s_alloc_Allocator_Alloc k p12 ((l14.2.1 : Nat) : Int) (0 : Int) (0 : Int) σ).bind fun r15 => r_ii r15.1 fun n16 n17 => (bif x4 == (0 : Int) then ((ldPS r15.2 h3 (0 + 1)).bind fun p18 => (s_roots_Roots_Set k p18 (0 : Int) (0 : Int) (0 : Int) n16 r15.2).bind fun r19 => (toIS .i64 r19.1).bind fun n20 => some (.normal, [], r19.2)) else (some (.normal, [], r15.2)) : Option LOut).bind fun r21 => if r21.1 = .normal then (s_law07_Chain_l0 k n p0 c1 c2 h3 (w64S (x4 + (1 : Int))) r21.2.2) else none else none else none) else (some (.exit 0, [], σ)))
termination_by structural n

theorem law07_Chain_l0_is (k n : Nat) (p0 : Option Addr) (c1 : Nat) (c2 : Nat) (h3 : Nat) (x4 : Int) (σ : AMem) : d_law07_Chain_l0 k n p0 c1 c2 h3 x4 σ = s_law07_Chain_l0 k n p0 c1 c2 h3 x4 σ := by
  induction n generalizing p0 c1 c2 h3 x4 σ with
  | zero => simp only [d_law07_Chain_l0, hide_eq]; rfl
  | succ n ih => rw [d_law07_Chain_l0_eq, b_law07_Chain_l0, s_law07_Chain_l0]; simp only [heap_Heap_All_is, heap_Heap_SetRef_is, alloc_Allocator_Alloc_is, law06_NewWorld_is, roots_Roots_Set_is, ih, strA, strR, str0, apS_3, apS_23, apS_121, apS_186]

noncomputable def s_law07_Chain_l2 (k n : Nat) (p0 : Option Addr) (c1 : Nat) (c2 : Nat) (h3 : Nat) (p4 : Option Addr) (c5 : Nat) (c6 : Nat) (i7 : Int) (x9 : Int) (σ : AMem) : Option LOut := match n with
  | 0 => none
  | n + 1 => (fP p0 fun p0 => fN c1 fun c1 => fN c2 fun c2 => fN h3 fun h3 => fP p4 fun p4 => fN c5 fun c5 => fN c6 fun c6 => fI i7 fun i7 => fI x9 fun x9 => fL σ fun σ => if 0 ≤ i7 ∧ i7 < (c1 : Nat) then p0.bind fun a26 => (ldSS σ a26.block (a26.off + i7.toNat * 1)).bind fun l27 => bif decide (x9 < ((l27.2.1 : Nat) : Int)) then ((ldPS σ h3 (0 + 0)).bind fun p28 => if 0 ≤ i7 ∧ i7 < (c5 : Nat) then p4.bind fun a29 => (ldIS .i64 σ a29.block (a29.off + i7.toNat * 1)).bind fun n30 => if 0 ≤ i7 ∧ i7 < (c1 : Nat) then p0.bind fun a31 => (ldSS σ a31.block (a31.off + i7.toNat * 1)).bind fun l32 => if 0 ≤ x9 ∧ x9 < (l32.2.1 : Nat) then l32.1.bind fun a33 => (ldIS .i64 σ a33.block (a33.off + x9.toNat * 1)).bind fun n34 => if 0 ≤ n34 ∧ n34 < (c5 : Nat) then p4.bind fun a35 => (ldIS .i64 σ a35.block (a35.off + n34.toNat * 1)).bind fun n36 => (s_heap_Heap_SetRef k p28 n30 x9 n36 σ).bind fun r37 => (toIS .i64 r37.1).bind fun n38 => s_law07_Chain_l2 k n p0 c1 c2 h3 p4 c5 c6 i7 (w64S (x9 + (1 : Int))) r37.2 else none else none else none else none) else (some (.exit 4, [], σ)) else none)
termination_by structural n

theorem law07_Chain_l2_is (k n : Nat) (p0 : Option Addr) (c1 : Nat) (c2 : Nat) (h3 : Nat) (p4 : Option Addr) (c5 : Nat) (c6 : Nat) (i7 : Int) (x9 : Int) (σ : AMem) : d_law07_Chain_l2 k n p0 c1 c2 h3 p4 c5 c6 i7 x9 σ = s_law07_Chain_l2 k n p0 c1 c2 h3 p4 c5 c6 i7 x9 σ := by
  induction n generalizing p0 c1 c2 h3 p4 c5 c6 i7 x9 σ with
  | zero => simp only [d_law07_Chain_l2, hide_eq]; rfl
  | succ n ih => rw [d_law07_Chain_l2_eq, b_law07_Chain_l2, s_law07_Chain_l2]; simp only [heap_Heap_All_is, heap_Heap_SetRef_is, alloc_Allocator_Alloc_is, law06_NewWorld_is, roots_Roots_Set_is, law07_Chain_l0_is, ih, strA, strR, str0, apS_3, apS_23, apS_121, apS_186]

noncomputable def s_law07_Chain_l1 (k n : Nat) (p0 : Option Addr) (c1 : Nat) (c2 : Nat) (h3 : Nat) (p4 : Option Addr) (c5 : Nat) (c6 : Nat) (x8 : Int) (σ : AMem) : Option LOut := match n with
  | 0 => none
  | n + 1 => (fP p0 fun p0 => fN c1 fun c1 => fN c2 fun c2 => fN h3 fun h3 => fP p4 fun p4 => fN c5 fun c5 => fN c6 fun c6 => fI x8 fun x8 => fL σ fun σ => bif decide (x8 < ((c1 : Nat) : Int)) then ((s_law07_Chain_l2 k k p0 c1 c2 h3 p4 c5 c6 x8 (0 : Int) σ).bind fun r39 => if r39.1 = .exit 4 then (s_law07_Chain_l1 k n p0 c1 c2 h3 p4 c5 c6 (w64S (x8 + (1 : Int))) r39.2.2) else none) else (some (.exit 2, [], σ)))
termination_by structural n

theorem law07_Chain_l1_is (k n : Nat) (p0 : Option Addr) (c1 : Nat) (c2 : Nat) (h3 : Nat) (p4 : Option Addr) (c5 : Nat) (c6 : Nat) (x8 : Int) (σ : AMem) : d_law07_Chain_l1 k n p0 c1 c2 h3 p4 c5 c6 x8 σ = s_law07_Chain_l1 k n p0 c1 c2 h3 p4 c5 c6 x8 σ := by
  induction n generalizing p0 c1 c2 h3 p4 c5 c6 x8 σ with
  | zero => simp only [d_law07_Chain_l1, hide_eq]; rfl
  | succ n ih => rw [d_law07_Chain_l1_eq, b_law07_Chain_l1, s_law07_Chain_l1]; simp only [heap_Heap_All_is, heap_Heap_SetRef_is, alloc_Allocator_Alloc_is, law06_NewWorld_is, roots_Roots_Set_is, law07_Chain_l0_is, law07_Chain_l2_is, ih, strA, strR, str0, apS_3, apS_23, apS_121, apS_186]

noncomputable def s_law07_Chain (k : Nat) (x0 : Option Addr × Nat × Nat) (σ : AMem) : Option (Value × AMem) := match k with
  | 0 => none
  | k + 1 => (fS x0 fun x0 => fL σ fun σ => allocS σ (.cells [.pointer none, .pointer none, .pointer none, .pointer none, .pointer none] 71 true) fun h1 s2 => (s_law06_NewWorld k (2 : Int) (0 : Int) (0 : Int) (none, 0, 0) s2).bind fun r3 => a_ppppp r3.1 fun p4 p5 p6 p7 p8 => allocS r3.2 (.cells [.pointer none, .pointer none, .pointer none, .pointer none, .pointer none] 71 true) fun h9 s10 => stNS s10 h9 0 [.pointer p4, .pointer p5, .pointer p6, .pointer p7, .pointer p8] fun s11 => (s_law07_Chain_l0 k k x0.1 x0.2.1 x0.2.2 h9 (0 : Int) s11).bind fun r22 => if r22.1 = .exit 0 then ((ldPS r22.2.2 h9 (0 + 0)).bind fun p23 => (s_heap_Heap_All k p23 r22.2.2).bind fun r24 => (toS r24.1).bind fun l25 => (s_law07_Chain_l1 k k x0.1 x0.2.1 x0.2.2 h9 l25.1 l25.2.1 l25.2.2 (0 : Int) r24.2).bind fun r40 => if r40.1 = .exit 2 then ((ldPS r40.2.2 h9 0).bind fun p41 => (ldPS r40.2.2 h9 (0 + 1)).bind fun p42 => (ldPS r40.2.2 h9 (0 + 1 + 1)).bind fun p43 => (ldPS r40.2.2 h9 (0 + 1 + 1 + 1)).bind fun p44 => (ldPS r40.2.2 h9 (0 + 1 + 1 + 1 + 1)).bind fun p45 => stNS r40.2.2 h1 0 [.pointer p41, .pointer p42, .pointer p43, .pointer p44, .pointer p45] fun s46 => (((ldNS s46 h1 0 5).bind fun v47 => some (.agg v47.toArray)).bind fun v48 => some [v48]).bind fun vs49 => some (resOf vs49, s46)) else none) else none)

theorem law07_Chain_is (k : Nat) (x0 : Option Addr × Nat × Nat) (σ : AMem) : d_law07_Chain k x0 σ = s_law07_Chain k x0 σ := by
  cases k with
  | zero => simp only [d_law07_Chain, hide_eq]; rfl
  | succ k => rw [d_law07_Chain_eq, b_law07_Chain, s_law07_Chain]; simp only [heap_Heap_All_is, heap_Heap_SetRef_is, alloc_Allocator_Alloc_is, law06_NewWorld_is, roots_Roots_Set_is, law07_Chain_l0_is, law07_Chain_l2_is, law07_Chain_l1_is, strA, strR, str0, apS_3, apS_23, apS_121, apS_186]

noncomputable def s_law07_alive (k : Nat)  (σ : AMem) : Option (Value × AMem) := match k with
  | 0 => none
  | k + 1 => (fL σ fun σ => allocS σ (.cells [.int .i64 (1 : Int)] 3 true) fun h1 s2 => allocS s2 (.cells [.int .i64 (2 : Int)] 3 true) fun h3 s4 => allocS s4 (.cells [] 3 true) fun h5 s6 => allocS s6 (.cells [.slice (some ⟨h1, 0, none⟩) 1 1, .slice (some ⟨h3, 0, none⟩) 1 1, .slice (some ⟨h5, 0, some 0⟩) 0 0] 23 true) fun h7 s8 => (s_law07_Chain k (some ⟨h7, 0, none⟩, 3, 3) s8).bind fun r9 => a_ppppp r9.1 fun p10 p11 p12 p13 p14 => allocS r9.2 (.cells [.pointer none, .pointer none, .pointer none, .pointer none, .pointer none] 71 true) fun h15 s16 => stNS s16 h15 0 [.pointer p10, .pointer p11, .pointer p12, .pointer p13, .pointer p14] fun s17 => (ldPS s17 h15 (0 + 0)).bind fun p18 => (ldPS s17 h15 (0 + 1)).bind fun p19 => (s_trace_Mark k p18 p19 (0 : Int) (1 : Int) s17).bind fun r20 => (toT r20.1).bind fun q21 => if q21.length = 3 then q21.head?.bind fun v22 => (toP v22).bind fun p23 => q21.tail.head?.bind fun v24 => a_iiiii v24 fun n25 n26 n27 n28 n29 => q21.tail.tail.head?.bind fun v30 => (toIS .i64 v30).bind fun n31 => allocS r20.2 (.cells [.int .i64 (0 : Int), .int .i64 (0 : Int), .int .i64 (0 : Int), .int .i64 (0 : Int), .int .i64 (0 : Int)] 43 true) fun h32 s33 => stNS s33 h32 0 [.int .i64 n25, .int .i64 n26, .int .i64 n27, .int .i64 n28, .int .i64 n29] fun s34 => allocS s34 (.cells [.int .i64 (1 : Int), .int .i64 (2 : Int), .int .i64 (3 : Int)] 3 true) fun h35 s36 => allocS s36 (.cells [] 3 true) fun h37 s38 => allocS s38 (.cells [] 3 true) fun h39 s40 => allocS s40 (.cells [] 3 true) fun h41 s42 => allocS s42 (.cells [.slice (some ⟨h35, 0, none⟩) 3 3, .slice (some ⟨h37, 0, some 0⟩) 0 0, .slice (some ⟨h39, 0, some 0⟩) 0 0, .slice (some ⟨h41, 0, some 0⟩) 0 0] 23 true) fun h43 s44 => (s_law07_Chain k (some ⟨h43, 0, none⟩, 4, 4) s44).bind fun r45 => a_ppppp r45.1 fun p46 p47 p48 p49 p50 => allocS r45.2 (.cells [.pointer none, .pointer none, .pointer none, .pointer none, .pointer none] 71 true) fun h51 s52 => stNS s52 h51 0 [.pointer p46, .pointer p47, .pointer p48, .pointer p49, .pointer p50] fun s53 => (ldPS s53 h51 (0 + 0)).bind fun p54 => (ldPS s53 h51 (0 + 1)).bind fun p55 => (s_trace_Mark k p54 p55 (0 : Int) (1 : Int) s53).bind fun r56 => (toT r56.1).bind fun q57 => if q57.length = 3 then q57.head?.bind fun v58 => (toP v58).bind fun p59 => q57.tail.head?.bind fun v60 => a_iiiii v60 fun n61 n62 n63 n64 n65 => q57.tail.tail.head?.bind fun v66 => (toIS .i64 v66).bind fun n67 => allocS r56.2 (.cells [.int .i64 (0 : Int), .int .i64 (0 : Int), .int .i64 (0 : Int), .int .i64 (0 : Int), .int .i64 (0 : Int)] 43 true) fun h68 s69 => stNS s69 h68 0 [.int .i64 n61, .int .i64 n62, .int .i64 n63, .int .i64 n64, .int .i64 n65] fun s70 => (bif n31 == (0 : Int) then (ldIS .i64 s70 h32 (0 + 1)).bind fun n71 => some (n71 == (0 : Int), s70) else some (false, s70)).bind fun r72 => (bif r72.1 then (ldIS .i64 r72.2 h32 (0 + 0)).bind fun n73 => some (n73 == (3 : Int), r72.2) else some (false, r72.2)).bind fun r74 => (bif r74.1 then (ldIS .i64 r74.2 h32 (0 + 4)).bind fun n75 => some (n75 == (1 : Int), r74.2) else some (false, r74.2)).bind fun r76 => (bif r76.1 then some (n67 == (0 : Int), r76.2) else some (false, r76.2)).bind fun r77 => (bif r77.1 then (ldIS .i64 r77.2 h68 (0 + 1)).bind fun n78 => some (n78 == (2 : Int), r77.2) else some (false, r77.2)).bind fun r79 => (bif r79.1 then (ldIS .i64 r79.2 h68 (0 + 2)).bind fun n80 => some (n80 == (1 : Int), r79.2) else some (false, r79.2)).bind fun r81 => (bif r81.1 then (ldIS .i64 r81.2 h68 (0 + 0)).bind fun n82 => some (n82 == (6 : Int), r81.2) else some (false, r81.2)).bind fun r83 => fB r83.1 fun y84 => some (.bool y84, r83.2) else none else none)

theorem law07_alive_is (k : Nat)  (σ : AMem) : d_law07_alive k  σ = s_law07_alive k  σ := by
  cases k with
  | zero => simp only [d_law07_alive, hide_eq]; rfl
  | succ k => rw [d_law07_alive_eq, b_law07_alive, s_law07_alive]; simp only [trace_Mark_is, law07_Chain_is, strA, strR, str0, apS_3, apS_23, apS_121, apS_186]

noncomputable def s_law07_TraceNone_l0 (k n : Nat) (i0 : Int) (i1 : Int) (i2 : Int) (i3 : Int) (h4 : Nat) (h5 : Nat) (x18 : Int) (σ : AMem) : Option LOut := match n with
  | 0 => none
  | n + 1 => (fN h4 fun h4 => fN h5 fun h5 => fI x18 fun x18 => fL σ fun σ => bif decide (x18 < (4 : Int)) then (if 0 ≤ x18 ∧ x18 < (4 : Nat) then (ldPS σ h4 (0 + x18.toNat * 1)).bind fun p17 => if 0 ≤ x18 ∧ x18 < (4 : Nat) then (ldPS σ h5 (0 + x18.toNat * 1)).bind fun p18 => (s_trace_Mark k p17 p18 i0 i1 σ).bind fun r19 => quietly σ r19.2 ((toT r19.1).bind fun q20 => if q20.length = 3 then q20.head?.bind fun v21 => (toP v21).bind fun p22 => q20.tail.head?.bind fun v23 => a_iiiii v23 fun n24 n25 n26 n27 n28 => q20.tail.tail.head?.bind fun v29 => (toIS .i64 v29).bind fun n30 => allocS r19.2 (.cells [.int .i64 (0 : Int), .int .i64 (0 : Int), .int .i64 (0 : Int), .int .i64 (0 : Int), .int .i64 (0 : Int)] 43 true) fun h31 s32 => stNS s32 h31 0 [.int .i64 n24, .int .i64 n25, .int .i64 n26, .int .i64 n27, .int .i64 n28] fun s33 => if 0 ≤ x18 ∧ x18 < (4 : Nat) then (ldPS s33 h4 (0 + x18.toNat * 1)).bind fun p34 => if 0 ≤ x18 ∧ x18 < (4 : Nat) then (ldPS s33 h5 (0 + x18.toNat * 1)).bind fun p35 => (s_trace_Share k p34 p35 i2 s33).bind fun r36 => r_plii r36.1 fun p37 l38 n39 n40 => if 0 ≤ x18 ∧ x18 < (4 : Nat) then (ldPS r36.2 h4 (0 + x18.toNat * 1)).bind fun p41 => if 0 ≤ x18 ∧ x18 < (4 : Nat) then (ldPS r36.2 h5 (0 + x18.toNat * 1)).bind fun p42 => (s_trace_Kept k p41 p42 r36.2).bind fun r43 => r_li r43.1 fun l44 n45 => if 0 ≤ x18 ∧ x18 < (4 : Nat) then (ldPS r43.2 h4 (0 + x18.toNat * 1)).bind fun p46 => if 0 ≤ x18 ∧ x18 < (4 : Nat) then (ldPS r43.2 h5 (0 + x18.toNat * 1)).bind fun p47 => (s_trace_Shortest k p46 p47 i3 r43.2).bind fun r48 => r_li r48.1 fun l49 n50 => (eqA P 24 (.pointer p22) (.pointer none)).bind fun e51 => (bif !e51 then some (true, r48.2) else (ldIS .i64 r48.2 h31 0).bind fun n52 => (ldIS .i64 r48.2 h31 (0 + 1)).bind fun n53 => (ldIS .i64 r48.2 h31 (0 + 1 + 1)).bind fun n54 => (ldIS .i64 r48.2 h31 (0 + 1 + 1 + 1)).bind fun n55 => (ldIS .i64 r48.2 h31 (0 + 1 + 1 + 1 + 1)).bind fun n56 => (eqA P 43 (.agg #[.int .i64 n52, .int .i64 n53, .int .i64 n54, .int .i64 n55, .int .i64 n56]) (.agg #[.int .i64 (0 : Int), .int .i64 (0 : Int), .int .i64 (0 : Int), .int .i64 (0 : Int), .int .i64 (0 : Int)])).bind fun e57 => some (!e57, r48.2)).bind fun r58 => (bif r58.1 then some (true, r58.2) else some (n30 != (1 : Int), r58.2)).bind fun r59 => (bif r59.1 then some (true, r59.2) else (eqA P 24 (.pointer p37) (.pointer none)).bind fun e60 => some (!e60, r59.2)).bind fun r61 => (bif r61.1 then some (true, r61.2) else some (((l38.2.1 : Nat) : Int) != (0 : Int), r61.2)).bind fun r62 => (bif r62.1 then some (true, r62.2) else some (n39 != (0 : Int), r62.2)).bind fun r63 => (bif r63.1 then some (true, r63.2) else some (n40 != (1 : Int), r63.2)).bind fun r64 => (bif r64.1 then some (true, r64.2) else some (((l44.2.1 : Nat) : Int) != (0 : Int), r64.2)).bind fun r65 => (bif r65.1 then some (true, r65.2) else some (n45 != (1 : Int), r65.2)).bind fun r66 => (bif r66.1 then some (true, r66.2) else some (((l49.2.1 : Nat) : Int) != (0 : Int), r66.2)).bind fun r67 => (bif r67.1 then some (true, r67.2) else some (n50 != (1 : Int), r67.2)).bind fun r68 => bif r68.1 then (some (.ret, [.bool false], r68.2)) else (s_law07_TraceNone_l0 k n i0 i1 i2 i3 h4 h5 (w64S (x18 + (1 : Int))) r68.2) else none else none else none else none else none else none else none) else none else none) else (some (.exit 0, [], σ)))
termination_by structural n

theorem law07_TraceNone_l0_is (k n : Nat) (i0 : Int) (i1 : Int) (i2 : Int) (i3 : Int) (h4 : Nat) (h5 : Nat) (x18 : Int) (σ : AMem) : d_law07_TraceNone_l0 k n i0 i1 i2 i3 h4 h5 x18 σ = s_law07_TraceNone_l0 k n i0 i1 i2 i3 h4 h5 x18 σ := by
  induction n generalizing i0 i1 i2 i3 h4 h5 x18 σ with
  | zero => simp only [d_law07_TraceNone_l0, hide_eq]; rfl
  | succ n ih => rw [d_law07_TraceNone_l0_eq, b_law07_TraceNone_l0, s_law07_TraceNone_l0]; simp only [heap_New_is, roots_New_is, trace_Mark_is, trace_Share_is, trace_Kept_is, trace_Shortest_is, trace_Clear_is, trace_Marked_is, law07_alive_is, ih, strA, strR, str0, apS_3, apS_23, apS_121, apS_186]

noncomputable def s_law07_TraceNone (k : Nat) (x0 : Int) (x1 : Int) (x2 : Int) (x3 : Int) (σ : AMem) : Option (Value × AMem) := match k with
  | 0 => none
  | k + 1 => (fL σ fun σ => allocS σ (.cells [.slice none 0 0, .slice none 0 0, .pointer none, .pointer none, .map none, .map none, .int .i64 (0 : Int)] 27 true) fun h1 s2 => allocS s2 (.cells [.int .i64 (0 : Int), .slice none 0 0, .slice none 0 0, .slice none 0 0] 29 true) fun h3 s4 => allocS s4 (.cells [.int .i64 (0 : Int), .int .i64 (0 : Int), .slice none 0 0] 32 true) fun h5 s6 => (s_heap_New k (2 : Int) s6).bind fun r7 => r_pi r7.1 fun p8 n9 => (s_roots_New k (1 : Int) r7.2).bind fun r10 => r_pi r10.1 fun p11 n12 => allocS r10.2 (.cells [.pointer none, .pointer (some ⟨h1, 0, none⟩), .pointer p8, .pointer p8] 33 true) fun h13 s14 => allocS s14 (.cells [.pointer p11, .pointer p11, .pointer none, .pointer (some ⟨h3, 0, none⟩)] 37 true) fun h15 s16 => (s_law07_TraceNone_l0 k k x0 x1 x2 x3 h13 h15 (0 : Int) s16).bind fun r69 => if r69.1 = .exit 0 then ((s_trace_Clear k none none r69.2.2).bind fun r70 => r_ii r70.1 fun n71 n72 => (s_trace_Clear k p8 (some ⟨h5, 0, none⟩) r70.2).bind fun r73 => r_ii r73.1 fun n74 n75 => (bif n71 == (0 : Int) then some (n72 == (1 : Int), r73.2) else some (false, r73.2)).bind fun r76 => (bif r76.1 then some (n74 == (0 : Int), r76.2) else some (false, r76.2)).bind fun r77 => (bif r77.1 then some (n75 == (1 : Int), r77.2) else some (false, r77.2)).bind fun r78 => (bif r78.1 then (s_trace_Marked k none none x3 r78.2).bind fun r79 => (toB r79.1).bind fun b80 => some (!b80, r79.2) else some (false, r78.2)).bind fun r81 => (bif r81.1 then (s_trace_Marked k p8 (some ⟨h5, 0, none⟩) x3 r81.2).bind fun r82 => (toB r82.1).bind fun b83 => some (!b83, r82.2) else some (false, r81.2)).bind fun r84 => (bif r84.1 then (s_law07_alive k  r84.2).bind fun r85 => (toB r85.1).bind fun b86 => some (b86, r85.2) else some (false, r84.2)).bind fun r87 => fB r87.1 fun y88 => some (.bool y88, r87.2)) else if r69.1 = .ret then (u_t r69.2.1 fun b89 => fB b89 fun y90 => some (.bool y90, r69.2.2)) else none)

theorem law07_TraceNone_is (k : Nat) (x0 : Int) (x1 : Int) (x2 : Int) (x3 : Int) (σ : AMem) : d_law07_TraceNone k x0 x1 x2 x3 σ = s_law07_TraceNone k x0 x1 x2 x3 σ := by
  cases k with
  | zero => simp only [d_law07_TraceNone, hide_eq]; rfl
  | succ k => rw [d_law07_TraceNone_eq, b_law07_TraceNone, s_law07_TraceNone]; simp only [heap_New_is, roots_New_is, trace_Mark_is, trace_Share_is, trace_Kept_is, trace_Shortest_is, trace_Clear_is, trace_Marked_is, law07_alive_is, law07_TraceNone_l0_is, strA, strR, str0, apS_3, apS_23, apS_121, apS_186]

noncomputable def s_slices_swapRangeCmpFunc_api_Run_l0 (k n : Nat) (p0 : Option Addr) (c1 : Nat) (c2 : Nat) (i3 : Int) (i4 : Int) (i5 : Int) (x10 : Int) (σ : AMem) : Option LOut := match n with
  | 0 => none
  | n + 1 => (fP p0 fun p0 => fN c1 fun c1 => fN c2 fun c2 => fI i3 fun i3 => fI i4 fun i4 => fI i5 fun i5 => fI x10 fun x10 => fL σ fun σ => bif decide (x10 < i5) then (if 0 ≤ (w64S (i4 + x10)) ∧ (w64S (i4 + x10)) < (c1 : Nat) then p0.bind fun a1 => (ldIS .i64 σ a1.block (a1.off + (w64S (i4 + x10)).toNat * 2)).bind fun n2 => (ldIS .i64 σ a1.block (a1.off + (w64S (i4 + x10)).toNat * 2 + 1)).bind fun n3 => if 0 ≤ (w64S (i3 + x10)) ∧ (w64S (i3 + x10)) < (c1 : Nat) then p0.bind fun a4 => (ldIS .i64 σ a4.block (a4.off + (w64S (i3 + x10)).toNat * 2)).bind fun n5 => (ldIS .i64 σ a4.block (a4.off + (w64S (i3 + x10)).toNat * 2 + 1)).bind fun n6 => if 0 ≤ (w64S (i3 + x10)) ∧ (w64S (i3 + x10)) < (c1 : Nat) then p0.bind fun a7 => stNS σ a7.block (a7.off + (w64S (i3 + x10)).toNat * 2) [.int .i64 n2, .int .i64 n3] fun s8 => if 0 ≤ (w64S (i4 + x10)) ∧ (w64S (i4 + x10)) < (c1 : Nat) then p0.bind fun a9 => stNS s8 a9.block (a9.off + (w64S (i4 + x10)).toNat * 2) [.int .i64 n5, .int .i64 n6] fun s10 => s_slices_swapRangeCmpFunc_api_Run_l0 k n p0 c1 c2 i3 i4 i5 (w64S (x10 + (1 : Int))) s10 else none else none else none else none) else (some (.exit 0, [], σ)))
termination_by structural n

theorem slices_swapRangeCmpFunc_api_Run_l0_is (k n : Nat) (p0 : Option Addr) (c1 : Nat) (c2 : Nat) (i3 : Int) (i4 : Int) (i5 : Int) (x10 : Int) (σ : AMem) : d_slices_swapRangeCmpFunc_api_Run_l0 k n p0 c1 c2 i3 i4 i5 x10 σ = s_slices_swapRangeCmpFunc_api_Run_l0 k n p0 c1 c2 i3 i4 i5 x10 σ := by
  induction n generalizing p0 c1 c2 i3 i4 i5 x10 σ with
  | zero => simp only [d_slices_swapRangeCmpFunc_api_Run_l0, hide_eq]; rfl
  | succ n ih => rw [d_slices_swapRangeCmpFunc_api_Run_l0_eq, b_slices_swapRangeCmpFunc_api_Run_l0, s_slices_swapRangeCmpFunc_api_Run_l0]; simp only [ih, strA, strR, str0, apS_3, apS_23, apS_121, apS_186]

noncomputable def s_slices_swapRangeCmpFunc_api_Run (k : Nat) (x0 : Option Addr × Nat × Nat) (x1 : Int) (x2 : Int) (x3 : Int) (x4 : Value) (σ : AMem) : Option (Value × AMem) := match k with
  | 0 => none
  | k + 1 => (fS x0 fun x0 => fI x1 fun x1 => fI x2 fun x2 => fI x3 fun x3 => fL σ fun σ => (s_slices_swapRangeCmpFunc_api_Run_l0 k k x0.1 x0.2.1 x0.2.2 x1 x2 x3 (0 : Int) σ).bind fun r11 => if r11.1 = .exit 0 then (some (.tuple #[], r11.2.2)) else none)

theorem slices_swapRangeCmpFunc_api_Run_is (k : Nat) (x0 : Option Addr × Nat × Nat) (x1 : Int) (x2 : Int) (x3 : Int) (x4 : Value) (σ : AMem) : d_slices_swapRangeCmpFunc_api_Run k x0 x1 x2 x3 x4 σ = s_slices_swapRangeCmpFunc_api_Run k x0 x1 x2 x3 x4 σ := by
  cases k with
  | zero => simp only [d_slices_swapRangeCmpFunc_api_Run, hide_eq]; rfl
  | succ k => rw [d_slices_swapRangeCmpFunc_api_Run_eq, b_slices_swapRangeCmpFunc_api_Run, s_slices_swapRangeCmpFunc_api_Run]; simp only [slices_swapRangeCmpFunc_api_Run_l0_is, strA, strR, str0, apS_3, apS_23, apS_121, apS_186]

noncomputable def s_slices_rotateCmpFunc_api_Run_l0 (k n : Nat) (p0 : Option Addr) (c1 : Nat) (c2 : Nat) (i3 : Int) (v4 : Value) (x10 : Int) (x11 : Int) (σ : AMem) : Option LOut := match n with
  | 0 => none
  | n + 1 => (fP p0 fun p0 => fN c1 fun c1 => fN c2 fun c2 => fI i3 fun i3 => fI x10 fun x10 => fI x11 fun x11 => fL σ fun σ => bif x10 != x11 then ((bif decide (x10 > x11) then ((s_slices_swapRangeCmpFunc_api_Run k (p0, c1, c2) (w64S (i3 - x10)) i3 x11 (v4) σ).bind fun r1 => r_0 r1.1 (some (.normal, [.int .i64 (w64S (x10 - x11)), .int .i64 x11], r1.2))) else ((s_slices_swapRangeCmpFunc_api_Run k (p0, c1, c2) (w64S (i3 - x10)) (w64S ((w64S (i3 + x11)) - x10)) x10 (v4) σ).bind fun r2 => r_0 r2.1 (some (.normal, [.int .i64 x10, .int .i64 (w64S (x11 - x10))], r2.2))) : Option LOut).bind fun r3 => if r3.1 = .normal then (u_ii r3.2.1 fun n4 n5 => s_slices_rotateCmpFunc_api_Run_l0 k n p0 c1 c2 i3 v4 n4 n5 r3.2.2) else none) else (some (.exit 0, [.int .i64 x10], σ)))
termination_by structural n

theorem slices_rotateCmpFunc_api_Run_l0_is (k n : Nat) (p0 : Option Addr) (c1 : Nat) (c2 : Nat) (i3 : Int) (v4 : Value) (x10 : Int) (x11 : Int) (σ : AMem) : d_slices_rotateCmpFunc_api_Run_l0 k n p0 c1 c2 i3 v4 x10 x11 σ = s_slices_rotateCmpFunc_api_Run_l0 k n p0 c1 c2 i3 v4 x10 x11 σ := by
  induction n generalizing p0 c1 c2 i3 v4 x10 x11 σ with
  | zero => simp only [d_slices_rotateCmpFunc_api_Run_l0, hide_eq]; rfl
  | succ n ih => rw [d_slices_rotateCmpFunc_api_Run_l0_eq, b_slices_rotateCmpFunc_api_Run_l0, s_slices_rotateCmpFunc_api_Run_l0]; simp only [slices_swapRangeCmpFunc_api_Run_is, ih, strA, strR, str0, apS_3, apS_23, apS_121, apS_186]

noncomputable def s_slices_rotateCmpFunc_api_Run (k : Nat) (x0 : Option Addr × Nat × Nat) (x1 : Int) (x2 : Int) (x3 : Int) (x4 : Value) (σ : AMem) : Option (Value × AMem) := match k with
  | 0 => none
  | k + 1 => (fS x0 fun x0 => fI x1 fun x1 => fI x2 fun x2 => fI x3 fun x3 => fL σ fun σ => (s_slices_rotateCmpFunc_api_Run_l0 k k x0.1 x0.2.1 x0.2.2 x2 x4 (w64S (x2 - x1)) (w64S (x3 - x2)) σ).bind fun r6 => if r6.1 = .exit 0 then (u_i r6.2.1 fun n7 => (s_slices_swapRangeCmpFunc_api_Run k (x0.1, x0.2.1, x0.2.2) (w64S (x2 - n7)) x2 n7 (x4) r6.2.2).bind fun r8 => r_0 r8.1 (some (.tuple #[], r8.2))) else none)

theorem slices_rotateCmpFunc_api_Run_is (k : Nat) (x0 : Option Addr × Nat × Nat) (x1 : Int) (x2 : Int) (x3 : Int) (x4 : Value) (σ : AMem) : d_slices_rotateCmpFunc_api_Run k x0 x1 x2 x3 x4 σ = s_slices_rotateCmpFunc_api_Run k x0 x1 x2 x3 x4 σ := by
  cases k with
  | zero => simp only [d_slices_rotateCmpFunc_api_Run, hide_eq]; rfl
  | succ k => rw [d_slices_rotateCmpFunc_api_Run_eq, b_slices_rotateCmpFunc_api_Run, s_slices_rotateCmpFunc_api_Run]; simp only [slices_swapRangeCmpFunc_api_Run_is, slices_rotateCmpFunc_api_Run_l0_is, strA, strR, str0, apS_3, apS_23, apS_121, apS_186]

end Go.Proofs.YtilefhlamdiomaaGreat
