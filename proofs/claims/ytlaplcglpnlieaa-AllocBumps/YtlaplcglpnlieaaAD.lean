/-
  PRINTED BY A PROGRAM OF THIS SESSION'S OWN (gen2.py): the functions that the examples reach, as definitions.
-/
import Derived.Test.YtlaplcglpnlieaaAXQ
import Derived.Test.YtlaplcglpnlieaaF1
set_option maxRecDepth 100000
set_option linter.unusedVariables false
set_option linter.unusedSimpArgs false
set_option linter.unusedSectionVars false
namespace Go.Proofs.Ytlaplcglpnlieaa
open Go Go.AX
local instance kn1 : Kn := ⟨false⟩
variable [Quiet]

noncomputable def s_slices_Index_int_l0 (k n : Nat) (p0 : Option Addr) (c1 : Nat) (c2 : Nat) (i3 : Int) (i4 : Int) (x8 : Int) (σ : AMem) : Option LOut := match n with
  | 0 => none
  | n + 1 => (fP p0 fun p0 => fN c1 fun c1 => fN c2 fun c2 => fI i3 fun i3 => fI i4 fun i4 => fI x8 fun x8 => fL σ fun σ => bif decide (x8 < i4) then (if 0 ≤ x8 ∧ x8 < (c1 : Nat) then p0.bind fun a1 => (ldI .i64 σ a1.block (a1.off + x8.toNat * 1)).bind fun n2 => bif i3 == n2 then (some (.ret, [.int .i64 x8], σ)) else (s_slices_Index_int_l0 k n p0 c1 c2 i3 i4 (w64 (x8 + (1 : Int))) σ) else none) else (some (.exit 0, [], σ)))
termination_by structural n

theorem slices_Index_int_l0_is (k n : Nat) (p0 : Option Addr) (c1 : Nat) (c2 : Nat) (i3 : Int) (i4 : Int) (x8 : Int) (σ : AMem) : d_slices_Index_int_l0 k n p0 c1 c2 i3 i4 x8 σ = s_slices_Index_int_l0 k n p0 c1 c2 i3 i4 x8 σ := by
  induction n generalizing p0 c1 c2 i3 i4 x8 σ with
  | zero => simp only [d_slices_Index_int_l0, hide_eq]; rfl
  | succ n ih => rw [d_slices_Index_int_l0_eq, b_slices_Index_int_l0, s_slices_Index_int_l0]; simp only [ih, fI_eq, fN_eq, fB_eq, fP_eq, fA_eq, fS_eq, fO_eq, fV_eq, fL_eq, fMem_eq, fMm_eq, fR_eq, allocS_eq, stNS_eq, st1S_eq, setMS_eq]

noncomputable def s_slices_Index_int (k : Nat) (x0 : Option Addr × Nat × Nat) (x1 : Int) (σ : AMem) : Option (Value × AMem) := match k with
  | 0 => none
  | k + 1 => (fS x0 fun x0 => fI x1 fun x1 => fL σ fun σ => (s_slices_Index_int_l0 k k x0.1 x0.2.1 x0.2.2 x1 ((x0.2.1 : Nat) : Int) (0 : Int) σ).bind fun r3 => if r3.1 = .exit 0 then (fI (-1 : Int) fun y4 => some (.int .i64 y4, r3.2.2)) else if r3.1 = .ret then (u_i r3.2.1 fun n5 => fI n5 fun y6 => some (.int .i64 y6, r3.2.2)) else none)

theorem slices_Index_int_is (k : Nat) (x0 : Option Addr × Nat × Nat) (x1 : Int) (σ : AMem) : d_slices_Index_int k x0 x1 σ = s_slices_Index_int k x0 x1 σ := by
  cases k with
  | zero => simp only [d_slices_Index_int, hide_eq]; rfl
  | succ k => rw [d_slices_Index_int_eq, b_slices_Index_int, s_slices_Index_int]; simp only [slices_Index_int_l0_is, fI_eq, fN_eq, fB_eq, fP_eq, fA_eq, fS_eq, fO_eq, fV_eq, fL_eq, fMem_eq, fMm_eq, fR_eq, allocS_eq, stNS_eq, st1S_eq, setMS_eq]

noncomputable def s_slices_Contains_int (k : Nat) (x0 : Option Addr × Nat × Nat) (x1 : Int) (σ : AMem) : Option (Value × AMem) := match k with
  | 0 => none
  | k + 1 => (fS x0 fun x0 => fI x1 fun x1 => fL σ fun σ => (s_slices_Index_int k (x0.1, x0.2.1, x0.2.2) x1 σ).bind fun r1 => (toI .i64 r1.1).bind fun n2 => fB (decide (n2 ≥ (0 : Int))) fun y3 => some (.bool y3, r1.2))

theorem slices_Contains_int_is (k : Nat) (x0 : Option Addr × Nat × Nat) (x1 : Int) (σ : AMem) : d_slices_Contains_int k x0 x1 σ = s_slices_Contains_int k x0 x1 σ := by
  cases k with
  | zero => simp only [d_slices_Contains_int, hide_eq]; rfl
  | succ k => rw [d_slices_Contains_int_eq, b_slices_Contains_int, s_slices_Contains_int]; simp only [slices_Index_int_is, fI_eq, fN_eq, fB_eq, fP_eq, fA_eq, fS_eq, fO_eq, fV_eq, fL_eq, fMem_eq, fMm_eq, fR_eq, allocS_eq, stNS_eq, st1S_eq, setMS_eq]

noncomputable def s_side_New (k : Nat) (x0 : Int) (x1 : Int) (σ : AMem) : Option (Value × AMem) := match k with
  | 0 => none
  | k + 1 => (fI x0 fun x0 => fI x1 fun x1 => fL σ fun σ => (bif decide (x0 < (1 : Int)) then some (true, σ) else some (decide (x0 > (4096 : Int)), σ)).bind fun r1 => (bif r1.1 then some (true, r1.2) else allocS r1.2 (.cells [.int .i64 (1 : Int), .int .i64 (2 : Int), .int .i64 (4 : Int), .int .i64 (8 : Int)] 3 true) fun h2 s3 => (s_slices_Contains_int k (some ⟨h2, 0, none⟩, 4, 4) x1 s3).bind fun r4 => (toB r4.1).bind fun b5 => some (!b5, r4.2)).bind fun r6 => bif r6.1 then (fI (1 : Int) fun y7 => some (.tuple #[.pointer none, .int .i64 y7], r6.2)) else (if (64 : Int) = 0 then none else if 0 ≤ (w64 ((w64 ((w64 ((w64 (x0 * x1)) + (64 : Int))) - (1 : Int))).tdiv (64 : Int))) ∧ (w64 ((w64 ((w64 ((w64 (x0 * x1)) + (64 : Int))) - (1 : Int))).tdiv (64 : Int))) ≤ (w64 ((w64 ((w64 ((w64 (x0 * x1)) + (64 : Int))) - (1 : Int))).tdiv (64 : Int))) ∧ (w64 ((w64 ((w64 ((w64 (x0 * x1)) + (64 : Int))) - (1 : Int))).tdiv (64 : Int))) * (8 : Nat) ≤ 2 ^ 40 ∧ (w64 ((w64 ((w64 ((w64 (x0 * x1)) + (64 : Int))) - (1 : Int))).tdiv (64 : Int))) ≤ 2 ^ 40 then allocS r6.2 (.cells (rep (w64 ((w64 ((w64 ((w64 (x0 * x1)) + (64 : Int))) - (1 : Int))).tdiv (64 : Int))).toNat [.int .u64 (0 : Int)]) 87 true) fun h8 s9 => allocS s9 (.cells [.int .i64 x0, .int .i64 x1, .slice (some ⟨h8, 0, none⟩) ((w64 ((w64 ((w64 ((w64 (x0 * x1)) + (64 : Int))) - (1 : Int))).tdiv (64 : Int))).toNat) ((w64 ((w64 ((w64 ((w64 (x0 * x1)) + (64 : Int))) - (1 : Int))).tdiv (64 : Int))).toNat)] 68 true) fun h10 s11 => fI (0 : Int) fun y12 => some (.tuple #[.pointer (some ⟨h10, 0, none⟩), .int .i64 y12], s11) else none))

theorem side_New_is (k : Nat) (x0 : Int) (x1 : Int) (σ : AMem) : d_side_New k x0 x1 σ = s_side_New k x0 x1 σ := by
  cases k with
  | zero => simp only [d_side_New, hide_eq]; rfl
  | succ k => rw [d_side_New_eq, b_side_New, s_side_New]; simp only [slices_Contains_int_is, fI_eq, fN_eq, fB_eq, fP_eq, fA_eq, fS_eq, fO_eq, fV_eq, fL_eq, fMem_eq, fMm_eq, fR_eq, allocS_eq, stNS_eq, st1S_eq, setMS_eq]

noncomputable def s_heap_New (k : Nat) (x0 : Int) (σ : AMem) : Option (Value × AMem) := match k with
  | 0 => none
  | k + 1 => (fI x0 fun x0 => fL σ fun σ => (bif decide (x0 < (2 : Int)) then some (true, σ) else some (decide (x0 > (64 : Int)), σ)).bind fun r1 => bif r1.1 then (fI (1 : Int) fun y2 => some (.tuple #[.pointer none, .int .i64 y2], r1.2)) else (if 0 ≤ x0 ∧ x0 ≤ x0 ∧ x0 * (16 : Nat) ≤ 2 ^ 40 ∧ x0 ≤ 2 ^ 40 then allocS r1.2 (.cells (rep x0.toNat [.int .i64 (0 : Int), .int .i64 (0 : Int)]) 71 true) fun h3 s4 => if 0 ≤ (w64 (x0 * (64 : Int))) ∧ (w64 (x0 * (64 : Int))) ≤ (w64 (x0 * (64 : Int))) ∧ (w64 (x0 * (64 : Int))) * (8 : Nat) ≤ 2 ^ 40 ∧ (w64 (x0 * (64 : Int))) ≤ 2 ^ 40 then allocS s4 (.cells (rep (w64 (x0 * (64 : Int))).toNat [.int .i64 (0 : Int)]) 3 true) fun h5 s6 => allocS s6 (.map []) fun h7 s8 => allocS s8 (.map []) fun h9 s10 => allocS s10 (.cells [.slice (some ⟨h3, 0, none⟩) x0.toNat x0.toNat, .slice (some ⟨h5, 0, none⟩) ((w64 (x0 * (64 : Int))).toNat) ((w64 (x0 * (64 : Int))).toNat), .pointer none, .pointer none, .map (some h7), .map (some h9), .int .i64 (0 : Int)] 45 true) fun h11 s12 => (ldS s12 h11 (0 + 1)).bind fun l13 => if (2 : Int) = 0 then none else (s_side_New k (w64 (((l13.2.1 : Nat) : Int).tdiv (2 : Int))) (1 : Int) s12).bind fun r14 => r_pi r14.1 fun p15 n16 => st1S r14.2 h11 (0 + 2) (.pointer p15) fun s17 => (ldS s17 h11 (0 + 1)).bind fun l18 => if (2 : Int) = 0 then none else (s_side_New k (w64 (((l18.2.1 : Nat) : Int).tdiv (2 : Int))) (1 : Int) s17).bind fun r19 => r_pi r19.1 fun p20 n21 => st1S r19.2 h11 (0 + 3) (.pointer p20) fun s22 => fI (0 : Int) fun y23 => some (.tuple #[.pointer (some ⟨h11, 0, none⟩), .int .i64 y23], s22) else none else none))

theorem heap_New_is (k : Nat) (x0 : Int) (σ : AMem) : d_heap_New k x0 σ = s_heap_New k x0 σ := by
  cases k with
  | zero => simp only [d_heap_New, hide_eq]; rfl
  | succ k => rw [d_heap_New_eq, b_heap_New, s_heap_New]; simp only [side_New_is, fI_eq, fN_eq, fB_eq, fP_eq, fA_eq, fS_eq, fO_eq, fV_eq, fL_eq, fMem_eq, fMm_eq, fR_eq, allocS_eq, stNS_eq, st1S_eq, setMS_eq]

noncomputable def s_heap_Heap_made (k : Nat) (x0 : Option Addr) (σ : AMem) : Option (Value × AMem) := match k with
  | 0 => none
  | k + 1 => (fP x0 fun x0 => fL σ fun σ => (eqA P 24 (.pointer x0) (.pointer none)).bind fun e1 => (bif !e1 then x0.bind fun a2 => (ldS σ a2.block (a2.off + 0)).bind fun l3 => some (decide (((l3.2.1 : Nat) : Int) > (0 : Int)), σ) else some (false, σ)).bind fun r4 => fB r4.1 fun y5 => some (.bool y5, r4.2))

theorem heap_Heap_made_is (k : Nat) (x0 : Option Addr) (σ : AMem) : d_heap_Heap_made k x0 σ = s_heap_Heap_made k x0 σ := by
  cases k with
  | zero => simp only [d_heap_Heap_made, hide_eq]; rfl
  | succ k => rw [d_heap_Heap_made_eq, b_heap_Heap_made, s_heap_Heap_made]; simp only [fI_eq, fN_eq, fB_eq, fP_eq, fA_eq, fS_eq, fO_eq, fV_eq, fL_eq, fMem_eq, fMm_eq, fR_eq, allocS_eq, stNS_eq, st1S_eq, setMS_eq]

noncomputable def s_heap_Heap_Blocks (k : Nat) (x0 : Option Addr) (σ : AMem) : Option (Value × AMem) := match k with
  | 0 => none
  | k + 1 => (fP x0 fun x0 => fL σ fun σ => (s_heap_Heap_made k x0 σ).bind fun r1 => (toB r1.1).bind fun b2 => bif !b2 then (fI (0 : Int) fun y3 => some (.int .i64 y3, r1.2)) else (x0.bind fun a4 => (ldS r1.2 a4.block (a4.off + 0)).bind fun l5 => fI ((l5.2.1 : Nat) : Int) fun y6 => some (.int .i64 y6, r1.2)))

theorem heap_Heap_Blocks_is (k : Nat) (x0 : Option Addr) (σ : AMem) : d_heap_Heap_Blocks k x0 σ = s_heap_Heap_Blocks k x0 σ := by
  cases k with
  | zero => simp only [d_heap_Heap_Blocks, hide_eq]; rfl
  | succ k => rw [d_heap_Heap_Blocks_eq, b_heap_Heap_Blocks, s_heap_Heap_Blocks]; simp only [heap_Heap_made_is, fI_eq, fN_eq, fB_eq, fP_eq, fA_eq, fS_eq, fO_eq, fV_eq, fL_eq, fMem_eq, fMm_eq, fR_eq, allocS_eq, stNS_eq, st1S_eq, setMS_eq]

noncomputable def s_alloc_policies (k : Nat)  (σ : AMem) : Option (Value × AMem) := match k with
  | 0 => none
  | k + 1 => (fL σ fun σ => allocS σ (.cells [.iface 74 (.agg #[]), .iface 75 (.agg #[]), .iface 76 (.agg #[]), .iface 77 (.agg #[]), .iface 78 (.agg #[])] 60 true) fun h1 s2 => some (.slice (some ⟨h1, 0, none⟩) 5 5, s2))

theorem alloc_policies_is (k : Nat)  (σ : AMem) : d_alloc_policies k  σ = s_alloc_policies k  σ := by
  cases k with
  | zero => simp only [d_alloc_policies, hide_eq]; rfl
  | succ k => rw [d_alloc_policies_eq, b_alloc_policies, s_alloc_policies]; simp only [fI_eq, fN_eq, fB_eq, fP_eq, fA_eq, fS_eq, fO_eq, fV_eq, fL_eq, fMem_eq, fMm_eq, fR_eq, allocS_eq, stNS_eq, st1S_eq, setMS_eq]

noncomputable def s_alloc_New (k : Nat) (x0 : Option Addr) (x1 : Int) (x2 : Int) (σ : AMem) : Option (Value × AMem) := match k with
  | 0 => none
  | k + 1 => (fP x0 fun x0 => fI x1 fun x1 => fI x2 fun x2 => fL σ fun σ => (s_heap_Heap_Blocks k x0 σ).bind fun r1 => (toI .i64 r1.1).bind fun n2 => (bif n2 == (0 : Int) then some (true, r1.2) else some (decide (x1 < (0 : Int)), r1.2)).bind fun r3 => (bif r3.1 then some (true, r3.2) else some (decide (x1 ≥ (8 : Int)), r3.2)).bind fun r4 => (bif r4.1 then some (true, r4.2) else some (decide (x2 < (0 : Int)), r4.2)).bind fun r5 => (bif r5.1 then some (true, r5.2) else (s_alloc_policies k  r5.2).bind fun r6 => (toS r6.1).bind fun l7 => some (decide (x2 ≥ ((l7.2.1 : Nat) : Int)), r6.2)).bind fun r8 => bif r8.1 then (fI (1 : Int) fun y9 => some (.tuple #[.pointer none, .int .i64 y9], r8.2)) else (allocS r8.2 (.cells [.pointer x0, .int .i64 x1, .int .i64 x2, .int .i64 (0 : Int), .int .i64 (0 : Int), .int .i64 (0 : Int), .int .i64 (0 : Int)] 56 true) fun h10 s11 => fI (0 : Int) fun y12 => some (.tuple #[.pointer (some ⟨h10, 0, none⟩), .int .i64 y12], s11)))

theorem alloc_New_is (k : Nat) (x0 : Option Addr) (x1 : Int) (x2 : Int) (σ : AMem) : d_alloc_New k x0 x1 x2 σ = s_alloc_New k x0 x1 x2 σ := by
  cases k with
  | zero => simp only [d_alloc_New, hide_eq]; rfl
  | succ k => rw [d_alloc_New_eq, b_alloc_New, s_alloc_New]; simp only [heap_Heap_Blocks_is, alloc_policies_is, fI_eq, fN_eq, fB_eq, fP_eq, fA_eq, fS_eq, fO_eq, fV_eq, fL_eq, fMem_eq, fMm_eq, fR_eq, allocS_eq, stNS_eq, st1S_eq, setMS_eq]

noncomputable def s_heap_Valid (k : Nat) (x0_0 : Int) (x0_1 : Int) (x0_2 : Int) (σ : AMem) : Option (Value × AMem) := match k with
  | 0 => none
  | k + 1 => (fI x0_0 fun x0_0 => fI x0_1 fun x0_1 => fI x0_2 fun x0_2 => fL σ fun σ => allocS σ (.cells [.int .i64 x0_0, .int .i64 x0_1, .int .i64 x0_2] 36 true) fun h1 s2 => (ldI .i64 s2 h1 (0 + 0)).bind fun n3 => (bif decide (n3 ≥ (0 : Int)) then (ldI .i64 s2 h1 (0 + 0)).bind fun n4 => some (decide (n4 ≤ (15 : Int)), s2) else some (false, s2)).bind fun r5 => (bif r5.1 then (ldI .i64 r5.2 h1 (0 + 1)).bind fun n6 => some (decide (n6 ≥ (0 : Int)), r5.2) else some (false, r5.2)).bind fun r7 => (bif r7.1 then (ldI .i64 r7.2 h1 (0 + 1)).bind fun n8 => some (decide (n8 ≤ (200 : Int)), r7.2) else some (false, r7.2)).bind fun r9 => (bif r9.1 then (ldI .i64 r9.2 h1 (0 + 2)).bind fun n10 => some (decide (n10 ≥ (0 : Int)), r9.2) else some (false, r9.2)).bind fun r11 => (bif r11.1 then (ldI .i64 r11.2 h1 (0 + 2)).bind fun n12 => some (decide (n12 ≤ (3 : Int)), r11.2) else some (false, r11.2)).bind fun r13 => (bif r13.1 then (ldI .i64 r13.2 h1 (0 + 2)).bind fun n14 => (bif n14 != (1 : Int) then some (true, r13.2) else (ldI .i64 r13.2 h1 (0 + 0)).bind fun n15 => some (decide (n15 ≥ (1 : Int)), r13.2)).bind fun r16 => some (r16.1, r16.2) else some (false, r13.2)).bind fun r17 => (bif r17.1 then (ldI .i64 r17.2 h1 (0 + 2)).bind fun n18 => (bif n18 != (2 : Int) then some (true, r17.2) else (ldI .i64 r17.2 h1 (0 + 0)).bind fun n19 => some (decide (n19 ≥ (2 : Int)), r17.2)).bind fun r20 => some (r20.1, r20.2) else some (false, r17.2)).bind fun r21 => fB r21.1 fun y22 => some (.bool y22, r21.2))

theorem heap_Valid_is (k : Nat) (x0_0 : Int) (x0_1 : Int) (x0_2 : Int) (σ : AMem) : d_heap_Valid k x0_0 x0_1 x0_2 σ = s_heap_Valid k x0_0 x0_1 x0_2 σ := by
  cases k with
  | zero => simp only [d_heap_Valid, hide_eq]; rfl
  | succ k => rw [d_heap_Valid_eq, b_heap_Valid, s_heap_Valid]; simp only [fI_eq, fN_eq, fB_eq, fP_eq, fA_eq, fS_eq, fO_eq, fV_eq, fL_eq, fMem_eq, fMm_eq, fR_eq, allocS_eq, stNS_eq, st1S_eq, setMS_eq]

noncomputable def s_heap_Words (k : Nat) (x0_0 : Int) (x0_1 : Int) (x0_2 : Int) (σ : AMem) : Option (Value × AMem) := match k with
  | 0 => none
  | k + 1 => (fI x0_0 fun x0_0 => fI x0_1 fun x0_1 => fI x0_2 fun x0_2 => fL σ fun σ => allocS σ (.cells [.int .i64 x0_0, .int .i64 x0_1, .int .i64 x0_2] 36 true) fun h1 s2 => (ldI .i64 s2 h1 0).bind fun n3 => (ldI .i64 s2 h1 (0 + 1)).bind fun n4 => (ldI .i64 s2 h1 (0 + 1 + 1)).bind fun n5 => (s_heap_Valid k n3 n4 n5 s2).bind fun r6 => (toB r6.1).bind fun b7 => bif !b7 then (fI (0 : Int) fun y8 => some (.int .i64 y8, r6.2)) else ((ldI .i64 r6.2 h1 (0 + 0)).bind fun n9 => (ldI .i64 r6.2 h1 (0 + 1)).bind fun n10 => if (2 : Int) = 0 then none else fI (w64 ((w64 ((w64 ((w64 ((w64 ((2 : Int) + n9)) + n10)) + (1 : Int))).tdiv (2 : Int))) * (2 : Int))) fun y11 => some (.int .i64 y11, r6.2)))

theorem heap_Words_is (k : Nat) (x0_0 : Int) (x0_1 : Int) (x0_2 : Int) (σ : AMem) : d_heap_Words k x0_0 x0_1 x0_2 σ = s_heap_Words k x0_0 x0_1 x0_2 σ := by
  cases k with
  | zero => simp only [d_heap_Words, hide_eq]; rfl
  | succ k => rw [d_heap_Words_eq, b_heap_Words, s_heap_Words]; simp only [heap_Valid_is, fI_eq, fN_eq, fB_eq, fP_eq, fA_eq, fS_eq, fO_eq, fV_eq, fL_eq, fMem_eq, fMm_eq, fR_eq, allocS_eq, stNS_eq, st1S_eq, setMS_eq]

noncomputable def s_side_Table_made (k : Nat) (x0 : Option Addr) (σ : AMem) : Option (Value × AMem) := match k with
  | 0 => none
  | k + 1 => (fP x0 fun x0 => fL σ fun σ => (eqA P 43 (.pointer x0) (.pointer none)).bind fun e1 => (bif !e1 then x0.bind fun a2 => (ldI .i64 σ a2.block (a2.off + 0)).bind fun n3 => some (decide (n3 > (0 : Int)), σ) else some (false, σ)).bind fun r4 => fB r4.1 fun y5 => some (.bool y5, r4.2))

theorem side_Table_made_is (k : Nat) (x0 : Option Addr) (σ : AMem) : d_side_Table_made k x0 σ = s_side_Table_made k x0 σ := by
  cases k with
  | zero => simp only [d_side_Table_made, hide_eq]; rfl
  | succ k => rw [d_side_Table_made_eq, b_side_Table_made, s_side_Table_made]; simp only [fI_eq, fN_eq, fB_eq, fP_eq, fA_eq, fS_eq, fO_eq, fV_eq, fL_eq, fMem_eq, fMm_eq, fR_eq, allocS_eq, stNS_eq, st1S_eq, setMS_eq]

noncomputable def s_side_Table_there (k : Nat) (x0 : Option Addr) (x1 : Int) (σ : AMem) : Option (Value × AMem) := match k with
  | 0 => none
  | k + 1 => (fP x0 fun x0 => fI x1 fun x1 => fL σ fun σ => (s_side_Table_made k x0 σ).bind fun r1 => (toB r1.1).bind fun b2 => (bif b2 then some (decide (x1 ≥ (0 : Int)), r1.2) else some (false, r1.2)).bind fun r3 => (bif r3.1 then x0.bind fun a4 => (ldI .i64 r3.2 a4.block (a4.off + 0)).bind fun n5 => some (decide (x1 < n5), r3.2) else some (false, r3.2)).bind fun r6 => fB r6.1 fun y7 => some (.bool y7, r6.2))

theorem side_Table_there_is (k : Nat) (x0 : Option Addr) (x1 : Int) (σ : AMem) : d_side_Table_there k x0 x1 σ = s_side_Table_there k x0 x1 σ := by
  cases k with
  | zero => simp only [d_side_Table_there, hide_eq]; rfl
  | succ k => rw [d_side_Table_there_eq, b_side_Table_there, s_side_Table_there]; simp only [side_Table_made_is, fI_eq, fN_eq, fB_eq, fP_eq, fA_eq, fS_eq, fO_eq, fV_eq, fL_eq, fMem_eq, fMm_eq, fR_eq, allocS_eq, stNS_eq, st1S_eq, setMS_eq]

noncomputable def s_side_Table_most (k : Nat) (x0 : Option Addr) (σ : AMem) : Option (Value × AMem) := match k with
  | 0 => none
  | k + 1 => (fP x0 fun x0 => fL σ fun σ => x0.bind fun a1 => (ldI .i64 σ a1.block (a1.off + 1)).bind fun n2 => if n2 < 0 then none else fI (w64 ((w64 ((1 : Int) * 2 ^ (min n2.toNat 64))) - (1 : Int))) fun y3 => some (.int .i64 y3, σ))

theorem side_Table_most_is (k : Nat) (x0 : Option Addr) (σ : AMem) : d_side_Table_most k x0 σ = s_side_Table_most k x0 σ := by
  cases k with
  | zero => simp only [d_side_Table_most, hide_eq]; rfl
  | succ k => rw [d_side_Table_most_eq, b_side_Table_most, s_side_Table_most]; simp only [fI_eq, fN_eq, fB_eq, fP_eq, fA_eq, fS_eq, fO_eq, fV_eq, fL_eq, fMem_eq, fMm_eq, fR_eq, allocS_eq, stNS_eq, st1S_eq, setMS_eq]

noncomputable def s_side_Table_value (k : Nat) (x0 : Option Addr) (x1 : Int) (σ : AMem) : Option (Value × AMem) := match k with
  | 0 => none
  | k + 1 => (fP x0 fun x0 => fI x1 fun x1 => fL σ fun σ => (bif decide (x1 ≥ (0 : Int)) then (s_side_Table_most k x0 σ).bind fun r1 => (toI .i64 r1.1).bind fun n2 => some (decide (x1 ≤ n2), r1.2) else some (false, σ)).bind fun r3 => fB r3.1 fun y4 => some (.bool y4, r3.2))

theorem side_Table_value_is (k : Nat) (x0 : Option Addr) (x1 : Int) (σ : AMem) : d_side_Table_value k x0 x1 σ = s_side_Table_value k x0 x1 σ := by
  cases k with
  | zero => simp only [d_side_Table_value, hide_eq]; rfl
  | succ k => rw [d_side_Table_value_eq, b_side_Table_value, s_side_Table_value]; simp only [side_Table_most_is, fI_eq, fN_eq, fB_eq, fP_eq, fA_eq, fS_eq, fO_eq, fV_eq, fL_eq, fMem_eq, fMm_eq, fR_eq, allocS_eq, stNS_eq, st1S_eq, setMS_eq]

noncomputable def s_side_Table_check_c1 (k : Nat) (x0 : Int) (c0 : Option Addr) (σ : AMem) : Option (Value × AMem) := match k with
  | 0 => none
  | k + 1 => (fI x0 fun x0 => fP c0 fun c0 => fL σ fun σ => c0.bind fun a1 => (ldP σ a1.block a1.off).bind fun p2 => (s_side_Table_value k p2 x0 σ).bind fun r3 => (toB r3.1).bind fun b4 => fB (!b4) fun y5 => some (.bool y5, r3.2))

theorem side_Table_check_c1_is (k : Nat) (x0 : Int) (c0 : Option Addr) (σ : AMem) : d_side_Table_check_c1 k x0 c0 σ = s_side_Table_check_c1 k x0 c0 σ := by
  cases k with
  | zero => simp only [d_side_Table_check_c1, hide_eq]; rfl
  | succ k => rw [d_side_Table_check_c1_eq, b_side_Table_check_c1, s_side_Table_check_c1]; simp only [side_Table_value_is, fI_eq, fN_eq, fB_eq, fP_eq, fA_eq, fS_eq, fO_eq, fV_eq, fL_eq, fMem_eq, fMm_eq, fR_eq, allocS_eq, stNS_eq, st1S_eq, setMS_eq]

theorem side_Table_check_c1_raw (k : Nat) (x0 : Int) (c0 : Option Addr) (σ : AMem) : fn P (XK Kn.b) H k 45 [.int .i64 x0, .pointer c0] σ = d_side_Table_check_c1 k x0 c0 σ := by
  simp only [d_side_Table_check_c1, hide_eq]

noncomputable def s_callN_i_t (k : Nat) (n : FuncId) (l : List Value) (σ : AMem) : Option (Value × AMem) :=
  if n = 45 then (match l with
    | [.int .i64 y1, .pointer y2] => s_side_Table_check_c1 k y1 y2 σ
    | l => fn P (XK Kn.b) H k 45 l σ) else
  fn P (XK Kn.b) H k n l σ

theorem callN_i_t_is (k : Nat) (n : FuncId) (l : List Value) (σ : AMem) : fn P (XK Kn.b) H k n l σ = s_callN_i_t k n l σ := by
  unfold s_callN_i_t
  split
  · rename_i hn; subst hn
    split
    · exact (side_Table_check_c1_raw k _ _ σ).trans (side_Table_check_c1_is k _ _ σ)
    · rfl
  rfl

noncomputable def s_callV_i_t (k : Nat) (f : Value) (args : List Value) (σ : AMem) : Option (Value × AMem) := match f with
  | .func (.func n) first cap => s_callN_i_t k n (first.toList ++ args ++ cap.toList) σ
  | .func (.method nm) first _ => (match first.toList ++ args with
    | .iface t v :: rest => (methodF P t nm).bind fun n => s_callN_i_t k n (v :: rest) σ
    | _ => none)
  | _ => none

theorem callV_i_t_is (k : Nat) (f : Value) (args : List Value) (σ : AMem) : d_callV_i_t k f args σ = s_callV_i_t k f args σ := by
  simp only [d_callV_i_t, hide_eq]
  unfold callVal s_callV_i_t
  simp only [callN_i_t_is]
  rfl

noncomputable def s_slices_IndexFunc_int_l0 (k n : Nat) (p0 : Option Addr) (c1 : Nat) (c2 : Nat) (v3 : Value) (i4 : Int) (x8 : Int) (σ : AMem) : Option LOut := match n with
  | 0 => none
  | n + 1 => (fP p0 fun p0 => fN c1 fun c1 => fN c2 fun c2 => fI i4 fun i4 => fI x8 fun x8 => fL σ fun σ => bif decide (x8 < i4) then (if 0 ≤ x8 ∧ x8 < (c1 : Nat) then p0.bind fun a1 => (ldI .i64 σ a1.block (a1.off + x8.toNat * 1)).bind fun n2 => (s_callV_i_t k v3 [.int .i64 n2] σ).bind fun r3 => (toB r3.1).bind fun b4 => bif b4 then (some (.ret, [.int .i64 x8], r3.2)) else (s_slices_IndexFunc_int_l0 k n p0 c1 c2 v3 i4 (w64 (x8 + (1 : Int))) r3.2) else none) else (some (.exit 0, [], σ)))
termination_by structural n

theorem slices_IndexFunc_int_l0_is (k n : Nat) (p0 : Option Addr) (c1 : Nat) (c2 : Nat) (v3 : Value) (i4 : Int) (x8 : Int) (σ : AMem) : d_slices_IndexFunc_int_l0 k n p0 c1 c2 v3 i4 x8 σ = s_slices_IndexFunc_int_l0 k n p0 c1 c2 v3 i4 x8 σ := by
  induction n generalizing p0 c1 c2 v3 i4 x8 σ with
  | zero => simp only [d_slices_IndexFunc_int_l0, hide_eq]; rfl
  | succ n ih => rw [d_slices_IndexFunc_int_l0_eq, b_slices_IndexFunc_int_l0, s_slices_IndexFunc_int_l0]; simp only [callV_i_t_is, ih, fI_eq, fN_eq, fB_eq, fP_eq, fA_eq, fS_eq, fO_eq, fV_eq, fL_eq, fMem_eq, fMm_eq, fR_eq, allocS_eq, stNS_eq, st1S_eq, setMS_eq]

noncomputable def s_slices_IndexFunc_int (k : Nat) (x0 : Option Addr × Nat × Nat) (x1 : Value) (σ : AMem) : Option (Value × AMem) := match k with
  | 0 => none
  | k + 1 => (fS x0 fun x0 => fL σ fun σ => (s_slices_IndexFunc_int_l0 k k x0.1 x0.2.1 x0.2.2 x1 ((x0.2.1 : Nat) : Int) (0 : Int) σ).bind fun r5 => if r5.1 = .exit 0 then (fI (-1 : Int) fun y6 => some (.int .i64 y6, r5.2.2)) else if r5.1 = .ret then (u_i r5.2.1 fun n7 => fI n7 fun y8 => some (.int .i64 y8, r5.2.2)) else none)

theorem slices_IndexFunc_int_is (k : Nat) (x0 : Option Addr × Nat × Nat) (x1 : Value) (σ : AMem) : d_slices_IndexFunc_int k x0 x1 σ = s_slices_IndexFunc_int k x0 x1 σ := by
  cases k with
  | zero => simp only [d_slices_IndexFunc_int, hide_eq]; rfl
  | succ k => rw [d_slices_IndexFunc_int_eq, b_slices_IndexFunc_int, s_slices_IndexFunc_int]; simp only [callV_i_t_is, slices_IndexFunc_int_l0_is, fI_eq, fN_eq, fB_eq, fP_eq, fA_eq, fS_eq, fO_eq, fV_eq, fL_eq, fMem_eq, fMm_eq, fR_eq, allocS_eq, stNS_eq, st1S_eq, setMS_eq]

noncomputable def s_slices_ContainsFunc_int (k : Nat) (x0 : Option Addr × Nat × Nat) (x1 : Value) (σ : AMem) : Option (Value × AMem) := match k with
  | 0 => none
  | k + 1 => (fS x0 fun x0 => fL σ fun σ => (s_slices_IndexFunc_int k (x0.1, x0.2.1, x0.2.2) (x1) σ).bind fun r1 => (toI .i64 r1.1).bind fun n2 => fB (decide (n2 ≥ (0 : Int))) fun y3 => some (.bool y3, r1.2))

theorem slices_ContainsFunc_int_is (k : Nat) (x0 : Option Addr × Nat × Nat) (x1 : Value) (σ : AMem) : d_slices_ContainsFunc_int k x0 x1 σ = s_slices_ContainsFunc_int k x0 x1 σ := by
  cases k with
  | zero => simp only [d_slices_ContainsFunc_int, hide_eq]; rfl
  | succ k => rw [d_slices_ContainsFunc_int_eq, b_slices_ContainsFunc_int, s_slices_ContainsFunc_int]; simp only [slices_IndexFunc_int_is, fI_eq, fN_eq, fB_eq, fP_eq, fA_eq, fS_eq, fO_eq, fV_eq, fL_eq, fMem_eq, fMm_eq, fR_eq, allocS_eq, stNS_eq, st1S_eq, setMS_eq]

noncomputable def s_side_Table_check (k : Nat) (x0 : Option Addr) (x1 : Int) (x2 : Option Addr × Nat × Nat) (σ : AMem) : Option (Value × AMem) := match k with
  | 0 => none
  | k + 1 => (fP x0 fun x0 => fI x1 fun x1 => fS x2 fun x2 => fL σ fun σ => allocS σ (.cells [.pointer x0] 43 true) fun h1 s2 => (ldP s2 h1 0).bind fun p3 => (s_side_Table_made k p3 s2).bind fun r4 => (toB r4.1).bind fun b5 => bif !b5 then (fI (5 : Int) fun y6 => some (.int .i64 y6, r4.2)) else ((ldP r4.2 h1 0).bind fun p7 => (s_side_Table_there k p7 x1 r4.2).bind fun r8 => (toB r8.1).bind fun b9 => (bif !b9 then some (true, r8.2) else (s_slices_ContainsFunc_int k (x2.1, x2.2.1, x2.2.2) (.func (.func 45) #[] #[.pointer (some ⟨h1, 0, none⟩)]) r8.2).bind fun r10 => (toB r10.1).bind fun b11 => some (b11, r10.2)).bind fun r12 => bif r12.1 then (fI (1 : Int) fun y13 => some (.int .i64 y13, r12.2)) else (fI (0 : Int) fun y14 => some (.int .i64 y14, r12.2))))

theorem side_Table_check_is (k : Nat) (x0 : Option Addr) (x1 : Int) (x2 : Option Addr × Nat × Nat) (σ : AMem) : d_side_Table_check k x0 x1 x2 σ = s_side_Table_check k x0 x1 x2 σ := by
  cases k with
  | zero => simp only [d_side_Table_check, hide_eq]; rfl
  | succ k => rw [d_side_Table_check_eq, b_side_Table_check, s_side_Table_check]; simp only [side_Table_made_is, side_Table_there_is, slices_ContainsFunc_int_is, fI_eq, fN_eq, fB_eq, fP_eq, fA_eq, fS_eq, fO_eq, fV_eq, fL_eq, fMem_eq, fMm_eq, fR_eq, allocS_eq, stNS_eq, st1S_eq, setMS_eq]

noncomputable def s_side_Table_put (k : Nat) (x0 : Option Addr) (x1 : Int) (x2 : Int) (σ : AMem) : Option (Value × AMem) := match k with
  | 0 => none
  | k + 1 => (fP x0 fun x0 => fI x1 fun x1 => fI x2 fun x2 => fL σ fun σ => x0.bind fun a1 => (ldI .i64 σ a1.block (a1.off + 1)).bind fun n2 => x0.bind fun a3 => (ldS σ a3.block (a3.off + 2)).bind fun l4 => if (64 : Int) = 0 then none else if 0 ≤ (w64 ((w64 (x1 * n2)).tdiv (64 : Int))) ∧ (w64 ((w64 (x1 * n2)).tdiv (64 : Int))) < (l4.2.1 : Nat) then l4.1.bind fun a5 => (ldI .u64 σ a5.block (a5.off + (w64 ((w64 (x1 * n2)).tdiv (64 : Int))).toNat * 1)).bind fun n6 => (s_side_Table_most k x0 σ).bind fun r7 => (toI .i64 r7.1).bind fun n8 => if (64 : Int) = 0 then none else if ((w64 (x1 * n2)).tmod (64 : Int)) < 0 then none else if (64 : Int) = 0 then none else if ((w64 (x1 * n2)).tmod (64 : Int)) < 0 then none else st1S r7.2 a5.block (a5.off + (w64 ((w64 (x1 * n2)).tdiv (64 : Int))).toNat * 1) (.int .u64 (u64 ((BitVec.ofInt 64 (u64 ((BitVec.ofInt 64 n6 &&& ~~~ (BitVec.ofInt 64 (u64 ((u64 (n8)) * 2 ^ (min ((w64 (x1 * n2)).tmod (64 : Int)).toNat 64))))).toNat)) ||| BitVec.ofInt 64 (u64 ((u64 (x2)) * 2 ^ (min ((w64 (x1 * n2)).tmod (64 : Int)).toNat 64)))).toNat))) fun s9 => some (.tuple #[], s9) else none)

theorem side_Table_put_is (k : Nat) (x0 : Option Addr) (x1 : Int) (x2 : Int) (σ : AMem) : d_side_Table_put k x0 x1 x2 σ = s_side_Table_put k x0 x1 x2 σ := by
  cases k with
  | zero => simp only [d_side_Table_put, hide_eq]; rfl
  | succ k => rw [d_side_Table_put_eq, b_side_Table_put, s_side_Table_put]; simp only [side_Table_most_is, fI_eq, fN_eq, fB_eq, fP_eq, fA_eq, fS_eq, fO_eq, fV_eq, fL_eq, fMem_eq, fMm_eq, fR_eq, allocS_eq, stNS_eq, st1S_eq, setMS_eq]

noncomputable def s_side_Table_Set (k : Nat) (x0 : Option Addr) (x1 : Int) (x2 : Int) (σ : AMem) : Option (Value × AMem) := match k with
  | 0 => none
  | k + 1 => (fP x0 fun x0 => fI x1 fun x1 => fI x2 fun x2 => fL σ fun σ => allocS σ (.cells [.int .i64 x2] 3 true) fun h1 s2 => (s_side_Table_check k x0 x1 (some ⟨h1, 0, none⟩, 1, 1) s2).bind fun r3 => (toI .i64 r3.1).bind fun n4 => bif n4 != (0 : Int) then (fI n4 fun y5 => some (.int .i64 y5, r3.2)) else ((s_side_Table_put k x0 x1 x2 r3.2).bind fun r6 => r_0 r6.1 (fI (0 : Int) fun y7 => some (.int .i64 y7, r6.2))))

theorem side_Table_Set_is (k : Nat) (x0 : Option Addr) (x1 : Int) (x2 : Int) (σ : AMem) : d_side_Table_Set k x0 x1 x2 σ = s_side_Table_Set k x0 x1 x2 σ := by
  cases k with
  | zero => simp only [d_side_Table_Set, hide_eq]; rfl
  | succ k => rw [d_side_Table_Set_eq, b_side_Table_Set, s_side_Table_Set]; simp only [side_Table_check_is, side_Table_put_is, fI_eq, fN_eq, fB_eq, fP_eq, fA_eq, fS_eq, fO_eq, fV_eq, fL_eq, fMem_eq, fMm_eq, fR_eq, allocS_eq, stNS_eq, st1S_eq, setMS_eq]

noncomputable def s_heap_Heap_span_l0 (k n : Nat) (p0 : Option Addr) (i1 : Int) (x5 : Int) (σ : AMem) : Option LOut := match n with
  | 0 => none
  | n + 1 => (fP p0 fun p0 => fI i1 fun i1 => fI x5 fun x5 => fL σ fun σ => p0.bind fun a1 => (ldS σ a1.block (a1.off + 0)).bind fun l2 => if 0 ≤ i1 ∧ i1 < (l2.2.1 : Nat) then l2.1.bind fun a3 => (ldI .i64 σ a3.block (a3.off + i1.toNat * 2 + 0)).bind fun n4 => (bif n4 == (2 : Int) then p0.bind fun a5 => (ldS σ a5.block (a5.off + 0)).bind fun l6 => some (decide ((w64 (i1 + x5)) < ((l6.2.1 : Nat) : Int)), σ) else some (false, σ)).bind fun r7 => (bif r7.1 then p0.bind fun a8 => (ldS r7.2 a8.block (a8.off + 0)).bind fun l9 => if 0 ≤ (w64 (i1 + x5)) ∧ (w64 (i1 + x5)) < (l9.2.1 : Nat) then l9.1.bind fun a10 => (ldI .i64 r7.2 a10.block (a10.off + (w64 (i1 + x5)).toNat * 2 + 0)).bind fun n11 => some (n11 == (3 : Int), r7.2) else none else some (false, r7.2)).bind fun r12 => bif r12.1 then (s_heap_Heap_span_l0 k n p0 i1 (w64 (x5 + (1 : Int))) r12.2) else (some (.exit 0, [.int .i64 x5], r12.2)) else none)
termination_by structural n

theorem heap_Heap_span_l0_is (k n : Nat) (p0 : Option Addr) (i1 : Int) (x5 : Int) (σ : AMem) : d_heap_Heap_span_l0 k n p0 i1 x5 σ = s_heap_Heap_span_l0 k n p0 i1 x5 σ := by
  induction n generalizing p0 i1 x5 σ with
  | zero => simp only [d_heap_Heap_span_l0, hide_eq]; rfl
  | succ n ih => rw [d_heap_Heap_span_l0_eq, b_heap_Heap_span_l0, s_heap_Heap_span_l0]; simp only [ih, fI_eq, fN_eq, fB_eq, fP_eq, fA_eq, fS_eq, fO_eq, fV_eq, fL_eq, fMem_eq, fMm_eq, fR_eq, allocS_eq, stNS_eq, st1S_eq, setMS_eq]

noncomputable def s_heap_Heap_span (k : Nat) (x0 : Option Addr) (x1 : Int) (σ : AMem) : Option (Value × AMem) := match k with
  | 0 => none
  | k + 1 => (fP x0 fun x0 => fI x1 fun x1 => fL σ fun σ => (s_heap_Heap_span_l0 k k x0 x1 (1 : Int) σ).bind fun r13 => if r13.1 = .exit 0 then (u_i r13.2.1 fun n14 => fI n14 fun y15 => some (.int .i64 y15, r13.2.2)) else none)

theorem heap_Heap_span_is (k : Nat) (x0 : Option Addr) (x1 : Int) (σ : AMem) : d_heap_Heap_span k x0 x1 σ = s_heap_Heap_span k x0 x1 σ := by
  cases k with
  | zero => simp only [d_heap_Heap_span, hide_eq]; rfl
  | succ k => rw [d_heap_Heap_span_eq, b_heap_Heap_span, s_heap_Heap_span]; simp only [heap_Heap_span_l0_is, fI_eq, fN_eq, fB_eq, fP_eq, fA_eq, fS_eq, fO_eq, fV_eq, fL_eq, fMem_eq, fMm_eq, fR_eq, allocS_eq, stNS_eq, st1S_eq, setMS_eq]

noncomputable def s_heap_shape (k : Nat) (x0 : Int) (σ : AMem) : Option (Value × AMem) := match k with
  | 0 => none
  | k + 1 => (fI x0 fun x0 => fL σ fun σ => allocS σ (.cells [.int .i64 (0 : Int), .int .i64 (0 : Int), .int .i64 (0 : Int)] 36 true) fun h1 s2 => if (16 : Int) = 0 then none else if (4096 : Int) = 0 then none else if (16 : Int) = 0 then none else if (4096 : Int) = 0 then none else stNS s2 h1 0 [.int .i64 (x0.tmod (16 : Int)), .int .i64 (w64 ((x0.tmod (4096 : Int)).tdiv (16 : Int))), .int .i64 (w64 (x0.tdiv (4096 : Int)))] fun s3 => (((ldN s3 h1 0 3).bind fun v4 => some (.agg v4.toArray)).bind fun v5 => some [v5]).bind fun vs6 => some (resOf vs6, s3))

theorem heap_shape_is (k : Nat) (x0 : Int) (σ : AMem) : d_heap_shape k x0 σ = s_heap_shape k x0 σ := by
  cases k with
  | zero => simp only [d_heap_shape, hide_eq]; rfl
  | succ k => rw [d_heap_shape_eq, b_heap_shape, s_heap_shape]; simp only [fI_eq, fN_eq, fB_eq, fP_eq, fA_eq, fS_eq, fO_eq, fV_eq, fL_eq, fMem_eq, fMm_eq, fR_eq, allocS_eq, stNS_eq, st1S_eq, setMS_eq]

noncomputable def s_heap_Heap_size (k : Nat) (x0 : Option Addr) (x1 : Int) (σ : AMem) : Option (Value × AMem) := match k with
  | 0 => none
  | k + 1 => (fP x0 fun x0 => fI x1 fun x1 => fL σ fun σ => x0.bind fun a1 => (ldS σ a1.block (a1.off + 1)).bind fun l2 => if 0 ≤ (w64 (x1 + (1 : Int))) ∧ (w64 (x1 + (1 : Int))) < (l2.2.1 : Nat) then l2.1.bind fun a3 => (ldI .i64 σ a3.block (a3.off + (w64 (x1 + (1 : Int))).toNat * 1)).bind fun n4 => (s_heap_shape k n4 σ).bind fun r5 => a_iii r5.1 fun n6 n7 n8 => (s_heap_Words k n6 n7 n8 r5.2).bind fun r9 => (toI .i64 r9.1).bind fun n10 => fI n10 fun y11 => some (.int .i64 y11, r9.2) else none)

theorem heap_Heap_size_is (k : Nat) (x0 : Option Addr) (x1 : Int) (σ : AMem) : d_heap_Heap_size k x0 x1 σ = s_heap_Heap_size k x0 x1 σ := by
  cases k with
  | zero => simp only [d_heap_Heap_size, hide_eq]; rfl
  | succ k => rw [d_heap_Heap_size_eq, b_heap_Heap_size, s_heap_Heap_size]; simp only [heap_Words_is, heap_shape_is, fI_eq, fN_eq, fB_eq, fP_eq, fA_eq, fS_eq, fO_eq, fV_eq, fL_eq, fMem_eq, fMm_eq, fR_eq, allocS_eq, stNS_eq, st1S_eq, setMS_eq]

noncomputable def s_side_Table_get (k : Nat) (x0 : Option Addr) (x1 : Int) (σ : AMem) : Option (Value × AMem) := match k with
  | 0 => none
  | k + 1 => (fP x0 fun x0 => fI x1 fun x1 => fL σ fun σ => x0.bind fun a1 => (ldI .i64 σ a1.block (a1.off + 1)).bind fun n2 => x0.bind fun a3 => (ldS σ a3.block (a3.off + 2)).bind fun l4 => if (64 : Int) = 0 then none else if 0 ≤ (w64 ((w64 (x1 * n2)).tdiv (64 : Int))) ∧ (w64 ((w64 (x1 * n2)).tdiv (64 : Int))) < (l4.2.1 : Nat) then l4.1.bind fun a5 => (ldI .u64 σ a5.block (a5.off + (w64 ((w64 (x1 * n2)).tdiv (64 : Int))).toNat * 1)).bind fun n6 => if (64 : Int) = 0 then none else if ((w64 (x1 * n2)).tmod (64 : Int)) < 0 then none else (s_side_Table_most k x0 σ).bind fun r7 => (toI .i64 r7.1).bind fun n8 => fI (w64 ((BitVec.ofInt 64 (w64 (n6.fdiv (2 ^ (min ((w64 (x1 * n2)).tmod (64 : Int)).toNat 64)))) &&& BitVec.ofInt 64 n8).toNat)) fun y9 => some (.int .i64 y9, r7.2) else none)

theorem side_Table_get_is (k : Nat) (x0 : Option Addr) (x1 : Int) (σ : AMem) : d_side_Table_get k x0 x1 σ = s_side_Table_get k x0 x1 σ := by
  cases k with
  | zero => simp only [d_side_Table_get, hide_eq]; rfl
  | succ k => rw [d_side_Table_get_eq, b_side_Table_get, s_side_Table_get]; simp only [side_Table_most_is, fI_eq, fN_eq, fB_eq, fP_eq, fA_eq, fS_eq, fO_eq, fV_eq, fL_eq, fMem_eq, fMm_eq, fR_eq, allocS_eq, stNS_eq, st1S_eq, setMS_eq]

noncomputable def s_side_Table_Last_l0 (k n : Nat) (p0 : Option Addr) (i1 : Int) (x8 : Int) (σ : AMem) : Option LOut := match n with
  | 0 => none
  | n + 1 => (fP p0 fun p0 => fI i1 fun i1 => fI x8 fun x8 => fL σ fun σ => bif decide (x8 ≥ (0 : Int)) then ((s_side_Table_get k p0 x8 σ).bind fun r7 => (toI .i64 r7.1).bind fun n8 => bif n8 == i1 then (some (.ret, [.int .i64 x8, .int .i64 (0 : Int)], r7.2)) else (s_side_Table_Last_l0 k n p0 i1 (w64 (x8 - (1 : Int))) r7.2)) else (some (.exit 0, [], σ)))
termination_by structural n

theorem side_Table_Last_l0_is (k n : Nat) (p0 : Option Addr) (i1 : Int) (x8 : Int) (σ : AMem) : d_side_Table_Last_l0 k n p0 i1 x8 σ = s_side_Table_Last_l0 k n p0 i1 x8 σ := by
  induction n generalizing p0 i1 x8 σ with
  | zero => simp only [d_side_Table_Last_l0, hide_eq]; rfl
  | succ n ih => rw [d_side_Table_Last_l0_eq, b_side_Table_Last_l0, s_side_Table_Last_l0]; simp only [side_Table_made_is, side_Table_get_is, ih, fI_eq, fN_eq, fB_eq, fP_eq, fA_eq, fS_eq, fO_eq, fV_eq, fL_eq, fMem_eq, fMm_eq, fR_eq, allocS_eq, stNS_eq, st1S_eq, setMS_eq]

noncomputable def s_side_Table_Last (k : Nat) (x0 : Option Addr) (x1 : Int) (x2 : Int) (σ : AMem) : Option (Value × AMem) := match k with
  | 0 => none
  | k + 1 => (fP x0 fun x0 => fI x1 fun x1 => fI x2 fun x2 => fL σ fun σ => (s_side_Table_made k x0 σ).bind fun r1 => (toB r1.1).bind fun b2 => bif !b2 then (fI (0 : Int) fun y3 => fI (5 : Int) fun y4 => some (.tuple #[.int .i64 y3, .int .i64 y4], r1.2)) else (x0.bind fun a5 => (ldI .i64 r1.2 a5.block (a5.off + 0)).bind fun n6 => (s_side_Table_Last_l0 k k x0 x2 (w64 ((if n6 < (if (0 : Int) > x1 then (0 : Int) else x1) then n6 else (if (0 : Int) > x1 then (0 : Int) else x1)) - (1 : Int))) r1.2).bind fun r9 => if r9.1 = .exit 0 then (fI (0 : Int) fun y10 => fI (4 : Int) fun y11 => some (.tuple #[.int .i64 y10, .int .i64 y11], r9.2.2)) else if r9.1 = .ret then (u_ii r9.2.1 fun n12 n13 => fI n12 fun y14 => fI n13 fun y15 => some (.tuple #[.int .i64 y14, .int .i64 y15], r9.2.2)) else none))

theorem side_Table_Last_is (k : Nat) (x0 : Option Addr) (x1 : Int) (x2 : Int) (σ : AMem) : d_side_Table_Last k x0 x1 x2 σ = s_side_Table_Last k x0 x1 x2 σ := by
  cases k with
  | zero => simp only [d_side_Table_Last, hide_eq]; rfl
  | succ k => rw [d_side_Table_Last_eq, b_side_Table_Last, s_side_Table_Last]; simp only [side_Table_made_is, side_Table_get_is, side_Table_Last_l0_is, fI_eq, fN_eq, fB_eq, fP_eq, fA_eq, fS_eq, fO_eq, fV_eq, fL_eq, fMem_eq, fMm_eq, fR_eq, allocS_eq, stNS_eq, st1S_eq, setMS_eq]

noncomputable def s_heap_Heap_Find (k : Nat) (x0 : Option Addr) (x1 : Int) (σ : AMem) : Option (Value × AMem) := match k with
  | 0 => none
  | k + 1 => (fP x0 fun x0 => fI x1 fun x1 => fL σ fun σ => (s_heap_Heap_made k x0 σ).bind fun r1 => (toB r1.1).bind fun b2 => bif !b2 then (fI (0 : Int) fun y3 => fI (5 : Int) fun y4 => some (.tuple #[.int .i64 y3, .int .i64 y4], r1.2)) else ((bif decide (x1 < (0 : Int)) then some (true, r1.2) else x0.bind fun a5 => (ldS r1.2 a5.block (a5.off + 1)).bind fun l6 => some (decide (x1 ≥ ((l6.2.1 : Nat) : Int)), r1.2)).bind fun r7 => bif r7.1 then (fI (0 : Int) fun y8 => fI (4 : Int) fun y9 => some (.tuple #[.int .i64 y8, .int .i64 y9], r7.2)) else (x0.bind fun a10 => (ldP r7.2 a10.block (a10.off + 2)).bind fun p11 => if (2 : Int) = 0 then none else (s_side_Table_Last k p11 (w64 ((w64 (x1.tdiv (2 : Int))) + (1 : Int))) (1 : Int) r7.2).bind fun r12 => r_ii r12.1 fun n13 n14 => (bif n14 != (0 : Int) then some (true, r12.2) else (s_heap_Heap_size k x0 (w64 ((2 : Int) * n13)) r12.2).bind fun r15 => (toI .i64 r15.1).bind fun n16 => some (decide (x1 ≥ (w64 ((w64 ((2 : Int) * n13)) + n16))), r15.2)).bind fun r17 => bif r17.1 then (fI (0 : Int) fun y18 => fI (4 : Int) fun y19 => some (.tuple #[.int .i64 y18, .int .i64 y19], r17.2)) else (fI (w64 ((2 : Int) * n13)) fun y20 => fI (0 : Int) fun y21 => some (.tuple #[.int .i64 y20, .int .i64 y21], r17.2)))))

theorem heap_Heap_Find_is (k : Nat) (x0 : Option Addr) (x1 : Int) (σ : AMem) : d_heap_Heap_Find k x0 x1 σ = s_heap_Heap_Find k x0 x1 σ := by
  cases k with
  | zero => simp only [d_heap_Heap_Find, hide_eq]; rfl
  | succ k => rw [d_heap_Heap_Find_eq, b_heap_Heap_Find, s_heap_Heap_Find]; simp only [heap_Heap_size_is, heap_Heap_made_is, side_Table_Last_is, fI_eq, fN_eq, fB_eq, fP_eq, fA_eq, fS_eq, fO_eq, fV_eq, fL_eq, fMem_eq, fMm_eq, fR_eq, allocS_eq, stNS_eq, st1S_eq, setMS_eq]

noncomputable def s_heap_Heap_fits_l0 (k n : Nat) (p0 : Option Addr) (i1 : Int) (i2 : Int) (i3 : Int) (x10 : Int) (σ : AMem) : Option LOut := match n with
  | 0 => none
  | n + 1 => (fP p0 fun p0 => fI i1 fun i1 => fI i2 fun i2 => fI i3 fun i3 => fI x10 fun x10 => fL σ fun σ => bif decide (x10 < (w64 (i1 + i2))) then ((s_heap_Heap_Find k p0 x10 σ).bind fun r20 => r_ii r20.1 fun n21 n22 => (bif n22 == (0 : Int) then some (n21 != i3, r20.2) else some (false, r20.2)).bind fun r23 => bif r23.1 then (some (.ret, [.int .i64 (8 : Int)], r23.2)) else (s_heap_Heap_fits_l0 k n p0 i1 i2 i3 (w64 (x10 + (2 : Int))) r23.2)) else (some (.exit 0, [], σ)))
termination_by structural n

theorem heap_Heap_fits_l0_is (k n : Nat) (p0 : Option Addr) (i1 : Int) (i2 : Int) (i3 : Int) (x10 : Int) (σ : AMem) : d_heap_Heap_fits_l0 k n p0 i1 i2 i3 x10 σ = s_heap_Heap_fits_l0 k n p0 i1 i2 i3 x10 σ := by
  induction n generalizing p0 i1 i2 i3 x10 σ with
  | zero => simp only [d_heap_Heap_fits_l0, hide_eq]; rfl
  | succ n ih => rw [d_heap_Heap_fits_l0_eq, b_heap_Heap_fits_l0, s_heap_Heap_fits_l0]; simp only [heap_Heap_span_is, heap_Heap_Find_is, ih, fI_eq, fN_eq, fB_eq, fP_eq, fA_eq, fS_eq, fO_eq, fV_eq, fL_eq, fMem_eq, fMm_eq, fR_eq, allocS_eq, stNS_eq, st1S_eq, setMS_eq]

noncomputable def s_heap_Heap_fits (k : Nat) (x0 : Option Addr) (x1 : Int) (x2 : Int) (x3 : Int) (σ : AMem) : Option (Value × AMem) := match k with
  | 0 => none
  | k + 1 => (fP x0 fun x0 => fI x1 fun x1 => fI x2 fun x2 => fI x3 fun x3 => fL σ fun σ => (bif decide (x1 < (0 : Int)) then some (true, σ) else x0.bind fun a1 => (ldS σ a1.block (a1.off + 1)).bind fun l2 => some (decide (x1 ≥ ((l2.2.1 : Nat) : Int)), σ)).bind fun r3 => (bif r3.1 then some (true, r3.2) else if (2 : Int) = 0 then none else some ((x1.tmod (2 : Int)) != (0 : Int), r3.2)).bind fun r4 => bif r4.1 then (fI (1 : Int) fun y5 => some (.int .i64 y5, r4.2)) else (if (64 : Int) = 0 then none else (bif decide (x2 ≤ (32 : Int)) then (x0.bind fun a6 => (ldS r4.2 a6.block (a6.off + 0)).bind fun l7 => if 0 ≤ (w64 (x1.tdiv (64 : Int))) ∧ (w64 (x1.tdiv (64 : Int))) < (l7.2.1 : Nat) then l7.1.bind fun a8 => (ldI .i64 r4.2 a8.block (a8.off + (w64 (x1.tdiv (64 : Int))).toNat * 2 + 0)).bind fun n9 => (bif n9 != (1 : Int) then some (true, r4.2) else if (64 : Int) = 0 then none else some ((w64 ((w64 ((w64 (x1 + x2)) - (1 : Int))).tdiv (64 : Int))) != (w64 (x1.tdiv (64 : Int))), r4.2)).bind fun r10 => bif r10.1 then (some (.ret, [.int .i64 (5 : Int)], r10.2)) else (some (.normal, [], r10.2)) else none) else (x0.bind fun a11 => (ldS r4.2 a11.block (a11.off + 0)).bind fun l12 => if 0 ≤ (w64 (x1.tdiv (64 : Int))) ∧ (w64 (x1.tdiv (64 : Int))) < (l12.2.1 : Nat) then l12.1.bind fun a13 => (ldI .i64 r4.2 a13.block (a13.off + (w64 (x1.tdiv (64 : Int))).toNat * 2 + 0)).bind fun n14 => (bif n14 != (2 : Int) then some (true, r4.2) else if (64 : Int) = 0 then none else some ((x1.tmod (64 : Int)) != (0 : Int), r4.2)).bind fun r15 => (bif r15.1 then some (true, r15.2) else (s_heap_Heap_span k x0 (w64 (x1.tdiv (64 : Int))) r15.2).bind fun r16 => (toI .i64 r16.1).bind fun n17 => if (64 : Int) = 0 then none else some (n17 != (w64 ((w64 ((w64 (x2 + (64 : Int))) - (1 : Int))).tdiv (64 : Int))), r16.2)).bind fun r18 => bif r18.1 then (some (.ret, [.int .i64 (5 : Int)], r18.2)) else (some (.normal, [], r18.2)) else none) : Option LOut).bind fun r19 => if r19.1 = .normal then ((s_heap_Heap_fits_l0 k k x0 x1 x2 x3 x1 r19.2.2).bind fun r24 => if r24.1 = .exit 0 then (fI (0 : Int) fun y25 => some (.int .i64 y25, r24.2.2)) else if r24.1 = .ret then (u_i r24.2.1 fun n26 => fI n26 fun y27 => some (.int .i64 y27, r24.2.2)) else none) else if r19.1 = .ret then (u_i r19.2.1 fun n28 => fI n28 fun y29 => some (.int .i64 y29, r19.2.2)) else none))

theorem heap_Heap_fits_is (k : Nat) (x0 : Option Addr) (x1 : Int) (x2 : Int) (x3 : Int) (σ : AMem) : d_heap_Heap_fits k x0 x1 x2 x3 σ = s_heap_Heap_fits k x0 x1 x2 x3 σ := by
  cases k with
  | zero => simp only [d_heap_Heap_fits, hide_eq]; rfl
  | succ k => rw [d_heap_Heap_fits_eq, b_heap_Heap_fits, s_heap_Heap_fits]; simp only [heap_Heap_span_is, heap_Heap_Find_is, heap_Heap_fits_l0_is, fI_eq, fN_eq, fB_eq, fP_eq, fA_eq, fS_eq, fO_eq, fV_eq, fL_eq, fMem_eq, fMm_eq, fR_eq, allocS_eq, stNS_eq, st1S_eq, setMS_eq]

noncomputable def s_heap_number (k : Nat) (x0_0 : Int) (x0_1 : Int) (x0_2 : Int) (σ : AMem) : Option (Value × AMem) := match k with
  | 0 => none
  | k + 1 => (fI x0_0 fun x0_0 => fI x0_1 fun x0_1 => fI x0_2 fun x0_2 => fL σ fun σ => allocS σ (.cells [.int .i64 x0_0, .int .i64 x0_1, .int .i64 x0_2] 36 true) fun h1 s2 => (ldI .i64 s2 h1 (0 + 0)).bind fun n3 => (ldI .i64 s2 h1 (0 + 1)).bind fun n4 => (ldI .i64 s2 h1 (0 + 2)).bind fun n5 => fI (w64 ((w64 (n3 + (w64 ((16 : Int) * n4)))) + (w64 ((4096 : Int) * n5)))) fun y6 => some (.int .i64 y6, s2))

theorem heap_number_is (k : Nat) (x0_0 : Int) (x0_1 : Int) (x0_2 : Int) (σ : AMem) : d_heap_number k x0_0 x0_1 x0_2 σ = s_heap_number k x0_0 x0_1 x0_2 σ := by
  cases k with
  | zero => simp only [d_heap_number, hide_eq]; rfl
  | succ k => rw [d_heap_number_eq, b_heap_number, s_heap_number]; simp only [fI_eq, fN_eq, fB_eq, fP_eq, fA_eq, fS_eq, fO_eq, fV_eq, fL_eq, fMem_eq, fMm_eq, fR_eq, allocS_eq, stNS_eq, st1S_eq, setMS_eq]

noncomputable def s_heap_Heap_Place (k : Nat) (x0 : Option Addr) (x1 : Int) (x2_0 : Int) (x2_1 : Int) (x2_2 : Int) (σ : AMem) : Option (Value × AMem) := match k with
  | 0 => none
  | k + 1 => (fP x0 fun x0 => fI x1 fun x1 => fI x2_0 fun x2_0 => fI x2_1 fun x2_1 => fI x2_2 fun x2_2 => fL σ fun σ => allocS σ (.cells [.int .i64 x2_0, .int .i64 x2_1, .int .i64 x2_2] 36 true) fun h1 s2 => (s_heap_Heap_made k x0 s2).bind fun r3 => (toB r3.1).bind fun b4 => bif !b4 then (fI (0 : Int) fun y5 => fI (5 : Int) fun y6 => some (.tuple #[.int .i64 y5, .int .i64 y6], r3.2)) else ((ldI .i64 r3.2 h1 0).bind fun n7 => (ldI .i64 r3.2 h1 (0 + 1)).bind fun n8 => (ldI .i64 r3.2 h1 (0 + 1 + 1)).bind fun n9 => (s_heap_Valid k n7 n8 n9 r3.2).bind fun r10 => (toB r10.1).bind fun b11 => bif !b11 then (fI (0 : Int) fun y12 => fI (2 : Int) fun y13 => some (.tuple #[.int .i64 y12, .int .i64 y13], r10.2)) else ((ldI .i64 r10.2 h1 0).bind fun n14 => (ldI .i64 r10.2 h1 (0 + 1)).bind fun n15 => (ldI .i64 r10.2 h1 (0 + 1 + 1)).bind fun n16 => (s_heap_Words k n14 n15 n16 r10.2).bind fun r17 => (toI .i64 r17.1).bind fun n18 => (s_heap_Heap_fits k x0 x1 n18 (-1 : Int) r17.2).bind fun r19 => (toI .i64 r19.1).bind fun n20 => bif n20 != (0 : Int) then (fI (0 : Int) fun y21 => fI n20 fun y22 => some (.tuple #[.int .i64 y21, .int .i64 y22], r19.2)) else (x0.bind fun a23 => (ldI .i64 r19.2 a23.block (a23.off + 6)).bind fun n24 => x0.bind fun a25 => st1S r19.2 a25.block (a25.off + 6) (.int .i64 (w64 (n24 + (1 : Int)))) fun s26 => x0.bind fun a27 => (ldS s26 a27.block (a27.off + 1)).bind fun l28 => x0.bind fun a29 => (ldS s26 a29.block (a29.off + 1)).bind fun l30 => x0.bind fun a31 => (ldI .i64 s26 a31.block (a31.off + 6)).bind fun n32 => (ldI .i64 s26 h1 0).bind fun n33 => (ldI .i64 s26 h1 (0 + 1)).bind fun n34 => (ldI .i64 s26 h1 (0 + 1 + 1)).bind fun n35 => (s_heap_number k n33 n34 n35 s26).bind fun r36 => (toI .i64 r36.1).bind fun n37 => if 0 ≤ x1 ∧ x1 < (l28.2.1 : Nat) then l28.1.bind fun a38 => st1S r36.2 a38.block (a38.off + x1.toNat * 1) (.int .i64 n32) fun s39 => if 0 ≤ (w64 (x1 + (1 : Int))) ∧ (w64 (x1 + (1 : Int))) < (l30.2.1 : Nat) then l30.1.bind fun a40 => st1S s39 a40.block (a40.off + (w64 (x1 + (1 : Int))).toNat * 1) (.int .i64 n37) fun s41 => x0.bind fun a42 => (ldP s41 a42.block (a42.off + 2)).bind fun p43 => if (2 : Int) = 0 then none else (s_side_Table_Set k p43 (w64 (x1.tdiv (2 : Int))) (1 : Int) s41).bind fun r44 => (toI .i64 r44.1).bind fun n45 => x0.bind fun a46 => (ldM r44.2 a46.block (a46.off + 4)).bind fun m47 => x0.bind fun a48 => (ldI .i64 r44.2 a48.block (a48.off + 6)).bind fun n49 => m47.bind fun h51 => (ldMap r44.2 h51).bind fun es50 => setMS r44.2 h51 (mapSet n49 (.int .i64 x1) es50) fun s52 => x0.bind fun a53 => (ldI .i64 s52 a53.block (a53.off + 6)).bind fun n54 => fI n54 fun y55 => fI (0 : Int) fun y56 => some (.tuple #[.int .i64 y55, .int .i64 y56], s52) else none else none))))

theorem heap_Heap_Place_is (k : Nat) (x0 : Option Addr) (x1 : Int) (x2_0 : Int) (x2_1 : Int) (x2_2 : Int) (σ : AMem) : d_heap_Heap_Place k x0 x1 x2_0 x2_1 x2_2 σ = s_heap_Heap_Place k x0 x1 x2_0 x2_1 x2_2 σ := by
  cases k with
  | zero => simp only [d_heap_Heap_Place, hide_eq]; rfl
  | succ k => rw [d_heap_Heap_Place_eq, b_heap_Heap_Place, s_heap_Heap_Place]; simp only [heap_Words_is, heap_Valid_is, side_Table_Set_is, heap_Heap_made_is, heap_Heap_fits_is, heap_number_is, fI_eq, fN_eq, fB_eq, fP_eq, fA_eq, fS_eq, fO_eq, fV_eq, fL_eq, fMem_eq, fMm_eq, fR_eq, allocS_eq, stNS_eq, st1S_eq, setMS_eq]

noncomputable def s_alloc_Allocator_made (k : Nat) (x0 : Option Addr) (σ : AMem) : Option (Value × AMem) := match k with
  | 0 => none
  | k + 1 => (fP x0 fun x0 => fL σ fun σ => (eqA P 30 (.pointer x0) (.pointer none)).bind fun e1 => (bif !e1 then x0.bind fun a2 => (ldP σ a2.block (a2.off + 0)).bind fun p3 => (eqA P 24 (.pointer p3) (.pointer none)).bind fun e4 => some (!e4, σ) else some (false, σ)).bind fun r5 => fB r5.1 fun y6 => some (.bool y6, r5.2))

theorem alloc_Allocator_made_is (k : Nat) (x0 : Option Addr) (σ : AMem) : d_alloc_Allocator_made k x0 σ = s_alloc_Allocator_made k x0 σ := by
  cases k with
  | zero => simp only [d_alloc_Allocator_made, hide_eq]; rfl
  | succ k => rw [d_alloc_Allocator_made_eq, b_alloc_Allocator_made, s_alloc_Allocator_made]; simp only [fI_eq, fN_eq, fB_eq, fP_eq, fA_eq, fS_eq, fO_eq, fV_eq, fL_eq, fMem_eq, fMm_eq, fR_eq, allocS_eq, stNS_eq, st1S_eq, setMS_eq]

noncomputable def s_heap_Heap_Space (k : Nat) (x0 : Option Addr) (x1 : Int) (σ : AMem) : Option (Value × AMem) := match k with
  | 0 => none
  | k + 1 => (fP x0 fun x0 => fI x1 fun x1 => fL σ fun σ => (bif decide (x1 < (0 : Int)) then some (true, σ) else (s_heap_Heap_Blocks k x0 σ).bind fun r1 => (toI .i64 r1.1).bind fun n2 => some (decide (x1 ≥ n2), r1.2)).bind fun r3 => bif r3.1 then (fI (-1 : Int) fun y4 => some (.int .i64 y4, r3.2)) else (x0.bind fun a5 => (ldS r3.2 a5.block (a5.off + 0)).bind fun l6 => if 0 ≤ x1 ∧ x1 < (l6.2.1 : Nat) then l6.1.bind fun a7 => (ldI .i64 r3.2 a7.block (a7.off + x1.toNat * 2 + 1)).bind fun n8 => fI n8 fun y9 => some (.int .i64 y9, r3.2) else none))

theorem heap_Heap_Space_is (k : Nat) (x0 : Option Addr) (x1 : Int) (σ : AMem) : d_heap_Heap_Space k x0 x1 σ = s_heap_Heap_Space k x0 x1 σ := by
  cases k with
  | zero => simp only [d_heap_Heap_Space, hide_eq]; rfl
  | succ k => rw [d_heap_Heap_Space_eq, b_heap_Heap_Space, s_heap_Heap_Space]; simp only [heap_Heap_Blocks_is, fI_eq, fN_eq, fB_eq, fP_eq, fA_eq, fS_eq, fO_eq, fV_eq, fL_eq, fMem_eq, fMm_eq, fR_eq, allocS_eq, stNS_eq, st1S_eq, setMS_eq]

noncomputable def s_heap_Heap_there (k : Nat) (x0 : Option Addr) (x1 : Int) (σ : AMem) : Option (Value × AMem) := match k with
  | 0 => none
  | k + 1 => (fP x0 fun x0 => fI x1 fun x1 => fL σ fun σ => (s_heap_Heap_made k x0 σ).bind fun r1 => (toB r1.1).bind fun b2 => (bif b2 then some (decide (x1 ≥ (1 : Int)), r1.2) else some (false, r1.2)).bind fun r3 => (bif r3.1 then x0.bind fun a4 => (ldS r3.2 a4.block (a4.off + 0)).bind fun l5 => some (decide (x1 < ((l5.2.1 : Nat) : Int)), r3.2) else some (false, r3.2)).bind fun r6 => fB r6.1 fun y7 => some (.bool y7, r6.2))

theorem heap_Heap_there_is (k : Nat) (x0 : Option Addr) (x1 : Int) (σ : AMem) : d_heap_Heap_there k x0 x1 σ = s_heap_Heap_there k x0 x1 σ := by
  cases k with
  | zero => simp only [d_heap_Heap_there, hide_eq]; rfl
  | succ k => rw [d_heap_Heap_there_eq, b_heap_Heap_there, s_heap_Heap_there]; simp only [heap_Heap_made_is, fI_eq, fN_eq, fB_eq, fP_eq, fA_eq, fS_eq, fO_eq, fV_eq, fL_eq, fMem_eq, fMm_eq, fR_eq, allocS_eq, stNS_eq, st1S_eq, setMS_eq]

noncomputable def s_heap_space (k : Nat) (x0 : Int) (σ : AMem) : Option (Value × AMem) := match k with
  | 0 => none
  | k + 1 => (fI x0 fun x0 => fL σ fun σ => (bif decide (x0 ≥ (0 : Int)) then some (decide (x0 < (8 : Int)), σ) else some (false, σ)).bind fun r1 => fB r1.1 fun y2 => some (.bool y2, r1.2))

theorem heap_space_is (k : Nat) (x0 : Int) (σ : AMem) : d_heap_space k x0 σ = s_heap_space k x0 σ := by
  cases k with
  | zero => simp only [d_heap_space, hide_eq]; rfl
  | succ k => rw [d_heap_space_eq, b_heap_space, s_heap_space]; simp only [fI_eq, fN_eq, fB_eq, fP_eq, fA_eq, fS_eq, fO_eq, fV_eq, fL_eq, fMem_eq, fMm_eq, fR_eq, allocS_eq, stNS_eq, st1S_eq, setMS_eq]

noncomputable def s_heap_Heap_claim_c1 (k : Nat) (x0_0 : Int) (x0_1 : Int) (σ : AMem) : Option (Value × AMem) := match k with
  | 0 => none
  | k + 1 => (fI x0_0 fun x0_0 => fI x0_1 fun x0_1 => fL σ fun σ => allocS σ (.cells [.int .i64 x0_0, .int .i64 x0_1] 71 true) fun h1 s2 => (ldI .i64 s2 h1 0).bind fun n3 => (ldI .i64 s2 h1 (0 + 1)).bind fun n4 => (eqA P 71 (.agg #[.int .i64 n3, .int .i64 n4]) (.agg #[.int .i64 (0 : Int), .int .i64 (0 : Int)])).bind fun e5 => fB (!e5) fun y6 => some (.bool y6, s2))

theorem heap_Heap_claim_c1_is (k : Nat) (x0_0 : Int) (x0_1 : Int) (σ : AMem) : d_heap_Heap_claim_c1 k x0_0 x0_1 σ = s_heap_Heap_claim_c1 k x0_0 x0_1 σ := by
  cases k with
  | zero => simp only [d_heap_Heap_claim_c1, hide_eq]; rfl
  | succ k => rw [d_heap_Heap_claim_c1_eq, b_heap_Heap_claim_c1, s_heap_Heap_claim_c1]; simp only [fI_eq, fN_eq, fB_eq, fP_eq, fA_eq, fS_eq, fO_eq, fV_eq, fL_eq, fMem_eq, fMm_eq, fR_eq, allocS_eq, stNS_eq, st1S_eq, setMS_eq]

theorem heap_Heap_claim_c1_raw (k : Nat) (x0_0 : Int) (x0_1 : Int) (σ : AMem) : fn P (XK Kn.b) H k 38 [.agg #[.int .i64 x0_0, .int .i64 x0_1]] σ = d_heap_Heap_claim_c1 k x0_0 x0_1 σ := by
  simp only [d_heap_Heap_claim_c1, hide_eq]

noncomputable def s_callN_ii_t (k : Nat) (n : FuncId) (l : List Value) (σ : AMem) : Option (Value × AMem) :=
  if n = 38 then (match l with
    | [.agg ⟨[.int .i64 y1, .int .i64 y2]⟩] => s_heap_Heap_claim_c1 k y1 y2 σ
    | l => fn P (XK Kn.b) H k 38 l σ) else
  fn P (XK Kn.b) H k n l σ

theorem callN_ii_t_is (k : Nat) (n : FuncId) (l : List Value) (σ : AMem) : fn P (XK Kn.b) H k n l σ = s_callN_ii_t k n l σ := by
  unfold s_callN_ii_t
  split
  · rename_i hn; subst hn
    split
    · exact (heap_Heap_claim_c1_raw k _ _ σ).trans (heap_Heap_claim_c1_is k _ _ σ)
    · rfl
  rfl

noncomputable def s_callV_ii_t (k : Nat) (f : Value) (args : List Value) (σ : AMem) : Option (Value × AMem) := match f with
  | .func (.func n) first cap => s_callN_ii_t k n (first.toList ++ args ++ cap.toList) σ
  | .func (.method nm) first _ => (match first.toList ++ args with
    | .iface t v :: rest => (methodF P t nm).bind fun n => s_callN_ii_t k n (v :: rest) σ
    | _ => none)
  | _ => none

theorem callV_ii_t_is (k : Nat) (f : Value) (args : List Value) (σ : AMem) : d_callV_ii_t k f args σ = s_callV_ii_t k f args σ := by
  simp only [d_callV_ii_t, hide_eq]
  unfold callVal s_callV_ii_t
  simp only [callN_ii_t_is]
  rfl

noncomputable def s_slices_IndexFunc_heap_block_l0 (k n : Nat) (p0 : Option Addr) (c1 : Nat) (c2 : Nat) (v3 : Value) (i4 : Int) (x8 : Int) (σ : AMem) : Option LOut := match n with
  | 0 => none
  | n + 1 => (fP p0 fun p0 => fN c1 fun c1 => fN c2 fun c2 => fI i4 fun i4 => fI x8 fun x8 => fL σ fun σ => bif decide (x8 < i4) then (if 0 ≤ x8 ∧ x8 < (c1 : Nat) then p0.bind fun a1 => (ldI .i64 σ a1.block (a1.off + x8.toNat * 2)).bind fun n2 => (ldI .i64 σ a1.block (a1.off + x8.toNat * 2 + 1)).bind fun n3 => (s_callV_ii_t k v3 [.agg #[.int .i64 n2, .int .i64 n3]] σ).bind fun r4 => (toB r4.1).bind fun b5 => bif b5 then (some (.ret, [.int .i64 x8], r4.2)) else (s_slices_IndexFunc_heap_block_l0 k n p0 c1 c2 v3 i4 (w64 (x8 + (1 : Int))) r4.2) else none) else (some (.exit 0, [], σ)))
termination_by structural n

theorem slices_IndexFunc_heap_block_l0_is (k n : Nat) (p0 : Option Addr) (c1 : Nat) (c2 : Nat) (v3 : Value) (i4 : Int) (x8 : Int) (σ : AMem) : d_slices_IndexFunc_heap_block_l0 k n p0 c1 c2 v3 i4 x8 σ = s_slices_IndexFunc_heap_block_l0 k n p0 c1 c2 v3 i4 x8 σ := by
  induction n generalizing p0 c1 c2 v3 i4 x8 σ with
  | zero => simp only [d_slices_IndexFunc_heap_block_l0, hide_eq]; rfl
  | succ n ih => rw [d_slices_IndexFunc_heap_block_l0_eq, b_slices_IndexFunc_heap_block_l0, s_slices_IndexFunc_heap_block_l0]; simp only [callV_ii_t_is, ih, fI_eq, fN_eq, fB_eq, fP_eq, fA_eq, fS_eq, fO_eq, fV_eq, fL_eq, fMem_eq, fMm_eq, fR_eq, allocS_eq, stNS_eq, st1S_eq, setMS_eq]

noncomputable def s_slices_IndexFunc_heap_block (k : Nat) (x0 : Option Addr × Nat × Nat) (x1 : Value) (σ : AMem) : Option (Value × AMem) := match k with
  | 0 => none
  | k + 1 => (fS x0 fun x0 => fL σ fun σ => (s_slices_IndexFunc_heap_block_l0 k k x0.1 x0.2.1 x0.2.2 x1 ((x0.2.1 : Nat) : Int) (0 : Int) σ).bind fun r6 => if r6.1 = .exit 0 then (fI (-1 : Int) fun y7 => some (.int .i64 y7, r6.2.2)) else if r6.1 = .ret then (u_i r6.2.1 fun n8 => fI n8 fun y9 => some (.int .i64 y9, r6.2.2)) else none)

theorem slices_IndexFunc_heap_block_is (k : Nat) (x0 : Option Addr × Nat × Nat) (x1 : Value) (σ : AMem) : d_slices_IndexFunc_heap_block k x0 x1 σ = s_slices_IndexFunc_heap_block k x0 x1 σ := by
  cases k with
  | zero => simp only [d_slices_IndexFunc_heap_block, hide_eq]; rfl
  | succ k => rw [d_slices_IndexFunc_heap_block_eq, b_slices_IndexFunc_heap_block, s_slices_IndexFunc_heap_block]; simp only [callV_ii_t_is, slices_IndexFunc_heap_block_l0_is, fI_eq, fN_eq, fB_eq, fP_eq, fA_eq, fS_eq, fO_eq, fV_eq, fL_eq, fMem_eq, fMm_eq, fR_eq, allocS_eq, stNS_eq, st1S_eq, setMS_eq]

noncomputable def s_slices_ContainsFunc_heap_block (k : Nat) (x0 : Option Addr × Nat × Nat) (x1 : Value) (σ : AMem) : Option (Value × AMem) := match k with
  | 0 => none
  | k + 1 => (fS x0 fun x0 => fL σ fun σ => (s_slices_IndexFunc_heap_block k (x0.1, x0.2.1, x0.2.2) (x1) σ).bind fun r1 => (toI .i64 r1.1).bind fun n2 => fB (decide (n2 ≥ (0 : Int))) fun y3 => some (.bool y3, r1.2))

theorem slices_ContainsFunc_heap_block_is (k : Nat) (x0 : Option Addr × Nat × Nat) (x1 : Value) (σ : AMem) : d_slices_ContainsFunc_heap_block k x0 x1 σ = s_slices_ContainsFunc_heap_block k x0 x1 σ := by
  cases k with
  | zero => simp only [d_slices_ContainsFunc_heap_block, hide_eq]; rfl
  | succ k => rw [d_slices_ContainsFunc_heap_block_eq, b_slices_ContainsFunc_heap_block, s_slices_ContainsFunc_heap_block]; simp only [slices_IndexFunc_heap_block_is, fI_eq, fN_eq, fB_eq, fP_eq, fA_eq, fS_eq, fO_eq, fV_eq, fL_eq, fMem_eq, fMm_eq, fR_eq, allocS_eq, stNS_eq, st1S_eq, setMS_eq]

noncomputable def s_heap_Heap_claim_l0 (k n : Nat) (p0 : Option Addr) (i1 : Int) (h2 : Nat) (i3 : Int) (x54 : Int) (σ : AMem) : Option LOut := match n with
  | 0 => none
  | n + 1 => (fP p0 fun p0 => fI i1 fun i1 => fN h2 fun h2 => fI i3 fun i3 => fI x54 fun x54 => fL σ fun σ => bif decide (x54 < i3) then (p0.bind fun a25 => (ldS σ a25.block (a25.off + 0)).bind fun l26 => (ldI .i64 σ h2 0).bind fun n27 => (ldI .i64 σ h2 (0 + 1)).bind fun n28 => if 0 ≤ (w64 (i1 + x54)) ∧ (w64 (i1 + x54)) < (l26.2.1 : Nat) then l26.1.bind fun a29 => stNS σ a29.block (a29.off + (w64 (i1 + x54)).toNat * 2) [.int .i64 n27, .int .i64 n28] fun s30 => s_heap_Heap_claim_l0 k n p0 i1 h2 i3 (w64 (x54 + (1 : Int))) s30 else none) else (some (.exit 1, [], σ)))
termination_by structural n

theorem heap_Heap_claim_l0_is (k n : Nat) (p0 : Option Addr) (i1 : Int) (h2 : Nat) (i3 : Int) (x54 : Int) (σ : AMem) : d_heap_Heap_claim_l0 k n p0 i1 h2 i3 x54 σ = s_heap_Heap_claim_l0 k n p0 i1 h2 i3 x54 σ := by
  induction n generalizing p0 i1 h2 i3 x54 σ with
  | zero => simp only [d_heap_Heap_claim_l0, hide_eq]; rfl
  | succ n ih => rw [d_heap_Heap_claim_l0_eq, b_heap_Heap_claim_l0, s_heap_Heap_claim_l0]; simp only [heap_Heap_made_is, heap_Heap_there_is, heap_space_is, slices_ContainsFunc_heap_block_is, ih, fI_eq, fN_eq, fB_eq, fP_eq, fA_eq, fS_eq, fO_eq, fV_eq, fL_eq, fMem_eq, fMm_eq, fR_eq, allocS_eq, stNS_eq, st1S_eq, setMS_eq]

noncomputable def s_heap_Heap_claim (k : Nat) (x0 : Option Addr) (x1 : Int) (x2 : Int) (x3_0 : Int) (x3_1 : Int) (x4_0 : Int) (x4_1 : Int) (σ : AMem) : Option (Value × AMem) := match k with
  | 0 => none
  | k + 1 => (fP x0 fun x0 => fI x1 fun x1 => fI x2 fun x2 => fI x3_0 fun x3_0 => fI x3_1 fun x3_1 => fI x4_0 fun x4_0 => fI x4_1 fun x4_1 => fL σ fun σ => allocS σ (.cells [.int .i64 x3_0, .int .i64 x3_1] 71 true) fun h1 s2 => allocS s2 (.cells [.int .i64 x4_0, .int .i64 x4_1] 71 true) fun h3 s4 => (s_heap_Heap_made k x0 s4).bind fun r5 => (toB r5.1).bind fun b6 => bif !b6 then (fI (5 : Int) fun y7 => some (.int .i64 y7, r5.2)) else ((s_heap_Heap_there k x0 x1 r5.2).bind fun r8 => (toB r8.1).bind fun b9 => (bif !b9 then some (true, r8.2) else some (decide (x2 < (1 : Int)), r8.2)).bind fun r10 => (bif r10.1 then some (true, r10.2) else x0.bind fun a11 => (ldS r10.2 a11.block (a11.off + 0)).bind fun l12 => some (decide (x2 > (w64 (((l12.2.1 : Nat) : Int) - x1))), r10.2)).bind fun r13 => (bif r13.1 then some (true, r13.2) else (ldI .i64 r13.2 h1 (0 + 1)).bind fun n14 => (s_heap_space k n14 r13.2).bind fun r15 => (toB r15.1).bind fun b16 => some (!b16, r15.2)).bind fun r17 => bif r17.1 then (fI (1 : Int) fun y18 => some (.int .i64 y18, r17.2)) else (x0.bind fun a19 => (ldS r17.2 a19.block (a19.off + 0)).bind fun l20 => (sliceD 71 2 (l20.1, l20.2.1, l20.2.2) (some (.int .i64 x1)) (some (.int .i64 (w64 (x1 + x2)))) none r17.2).bind fun l21 => (s_slices_ContainsFunc_heap_block k (l21.1, l21.2.1, l21.2.2) (.func (.func 38) #[] #[]) r17.2).bind fun r22 => (toB r22.1).bind fun b23 => bif b23 then (fI (8 : Int) fun y24 => some (.int .i64 y24, r22.2)) else ((s_heap_Heap_claim_l0 k k x0 x1 h3 x2 (0 : Int) r22.2).bind fun r31 => if r31.1 = .exit 1 then (x0.bind fun a32 => (ldS r31.2.2 a32.block (a32.off + 0)).bind fun l33 => (ldI .i64 r31.2.2 h1 0).bind fun n34 => (ldI .i64 r31.2.2 h1 (0 + 1)).bind fun n35 => if 0 ≤ x1 ∧ x1 < (l33.2.1 : Nat) then l33.1.bind fun a36 => stNS r31.2.2 a36.block (a36.off + x1.toNat * 2) [.int .i64 n34, .int .i64 n35] fun s37 => fI (0 : Int) fun y38 => some (.int .i64 y38, s37) else none) else none))))

theorem heap_Heap_claim_is (k : Nat) (x0 : Option Addr) (x1 : Int) (x2 : Int) (x3_0 : Int) (x3_1 : Int) (x4_0 : Int) (x4_1 : Int) (σ : AMem) : d_heap_Heap_claim k x0 x1 x2 x3_0 x3_1 x4_0 x4_1 σ = s_heap_Heap_claim k x0 x1 x2 x3_0 x3_1 x4_0 x4_1 σ := by
  cases k with
  | zero => simp only [d_heap_Heap_claim, hide_eq]; rfl
  | succ k => rw [d_heap_Heap_claim_eq, b_heap_Heap_claim, s_heap_Heap_claim]; simp only [heap_Heap_made_is, heap_Heap_there_is, heap_space_is, slices_ContainsFunc_heap_block_is, heap_Heap_claim_l0_is, fI_eq, fN_eq, fB_eq, fP_eq, fA_eq, fS_eq, fO_eq, fV_eq, fL_eq, fMem_eq, fMm_eq, fR_eq, allocS_eq, stNS_eq, st1S_eq, setMS_eq]

noncomputable def s_heap_Heap_ClaimLarge (k : Nat) (x0 : Option Addr) (x1 : Int) (x2 : Int) (x3 : Int) (σ : AMem) : Option (Value × AMem) := match k with
  | 0 => none
  | k + 1 => (fP x0 fun x0 => fI x1 fun x1 => fI x2 fun x2 => fI x3 fun x3 => fL σ fun σ => (s_heap_Heap_claim k x0 x1 x2 (2 : Int) x3 (3 : Int) x3 σ).bind fun r1 => (toI .i64 r1.1).bind fun n2 => fI n2 fun y3 => some (.int .i64 y3, r1.2))

theorem heap_Heap_ClaimLarge_is (k : Nat) (x0 : Option Addr) (x1 : Int) (x2 : Int) (x3 : Int) (σ : AMem) : d_heap_Heap_ClaimLarge k x0 x1 x2 x3 σ = s_heap_Heap_ClaimLarge k x0 x1 x2 x3 σ := by
  cases k with
  | zero => simp only [d_heap_Heap_ClaimLarge, hide_eq]; rfl
  | succ k => rw [d_heap_Heap_ClaimLarge_eq, b_heap_Heap_ClaimLarge, s_heap_Heap_ClaimLarge]; simp only [heap_Heap_claim_is, fI_eq, fN_eq, fB_eq, fP_eq, fA_eq, fS_eq, fO_eq, fV_eq, fL_eq, fMem_eq, fMm_eq, fR_eq, allocS_eq, stNS_eq, st1S_eq, setMS_eq]

noncomputable def s_alloc_Allocator_large_l0 (k n : Nat) (p0 : Option Addr) (i1 : Int) (x7 : Int) (σ : AMem) : Option LOut := match n with
  | 0 => none
  | n + 1 => (fP p0 fun p0 => fI i1 fun i1 => fI x7 fun x7 => fL σ fun σ => p0.bind fun a1 => (ldP σ a1.block (a1.off + 0)).bind fun p2 => (s_heap_Heap_Blocks k p2 σ).bind fun r3 => (toI .i64 r3.1).bind fun n4 => bif decide ((w64 (x7 + i1)) ≤ n4) then (p0.bind fun a5 => (ldP r3.2 a5.block (a5.off + 0)).bind fun p6 => p0.bind fun a7 => (ldI .i64 r3.2 a7.block (a7.off + 1)).bind fun n8 => (s_heap_Heap_ClaimLarge k p6 x7 i1 n8 r3.2).bind fun r9 => (toI .i64 r9.1).bind fun n10 => bif n10 == (0 : Int) then (some (.ret, [.int .i64 (w64 (x7 * (64 : Int))), .bool true], r9.2)) else (s_alloc_Allocator_large_l0 k n p0 i1 (w64 (x7 + (1 : Int))) r9.2)) else (some (.exit 0, [], r3.2)))
termination_by structural n

theorem alloc_Allocator_large_l0_is (k n : Nat) (p0 : Option Addr) (i1 : Int) (x7 : Int) (σ : AMem) : d_alloc_Allocator_large_l0 k n p0 i1 x7 σ = s_alloc_Allocator_large_l0 k n p0 i1 x7 σ := by
  induction n generalizing p0 i1 x7 σ with
  | zero => simp only [d_alloc_Allocator_large_l0, hide_eq]; rfl
  | succ n ih => rw [d_alloc_Allocator_large_l0_eq, b_alloc_Allocator_large_l0, s_alloc_Allocator_large_l0]; simp only [heap_Heap_Blocks_is, heap_Heap_ClaimLarge_is, ih, fI_eq, fN_eq, fB_eq, fP_eq, fA_eq, fS_eq, fO_eq, fV_eq, fL_eq, fMem_eq, fMm_eq, fR_eq, allocS_eq, stNS_eq, st1S_eq, setMS_eq]

noncomputable def s_alloc_Allocator_large (k : Nat) (x0 : Option Addr) (x1 : Int) (σ : AMem) : Option (Value × AMem) := match k with
  | 0 => none
  | k + 1 => (fP x0 fun x0 => fI x1 fun x1 => fL σ fun σ => if (64 : Int) = 0 then none else (s_alloc_Allocator_large_l0 k k x0 (w64 ((w64 ((w64 (x1 + (64 : Int))) - (1 : Int))).tdiv (64 : Int))) (1 : Int) σ).bind fun r11 => if r11.1 = .exit 0 then (fI (0 : Int) fun y12 => fB false fun y13 => some (.tuple #[.int .i64 y12, .bool y13], r11.2.2)) else if r11.1 = .ret then (u_it r11.2.1 fun n14 b15 => fI n14 fun y16 => fB b15 fun y17 => some (.tuple #[.int .i64 y16, .bool y17], r11.2.2)) else none)

theorem alloc_Allocator_large_is (k : Nat) (x0 : Option Addr) (x1 : Int) (σ : AMem) : d_alloc_Allocator_large k x0 x1 σ = s_alloc_Allocator_large k x0 x1 σ := by
  cases k with
  | zero => simp only [d_alloc_Allocator_large, hide_eq]; rfl
  | succ k => rw [d_alloc_Allocator_large_eq, b_alloc_Allocator_large, s_alloc_Allocator_large]; simp only [heap_Heap_Blocks_is, heap_Heap_ClaimLarge_is, alloc_Allocator_large_l0_is, fI_eq, fN_eq, fB_eq, fP_eq, fA_eq, fS_eq, fO_eq, fV_eq, fL_eq, fMem_eq, fMm_eq, fR_eq, allocS_eq, stNS_eq, st1S_eq, setMS_eq]

theorem alloc_Allocator_large_raw (k : Nat) (x0 : Option Addr) (x1 : Int) (σ : AMem) : fn P (XK Kn.b) H k 18 [.pointer x0, .int .i64 x1] σ = d_alloc_Allocator_large k x0 x1 σ := by
  simp only [d_alloc_Allocator_large, hide_eq]

noncomputable def s_heap_Heap_Claim (k : Nat) (x0 : Option Addr) (x1 : Int) (x2 : Int) (σ : AMem) : Option (Value × AMem) := match k with
  | 0 => none
  | k + 1 => (fP x0 fun x0 => fI x1 fun x1 => fI x2 fun x2 => fL σ fun σ => (s_heap_Heap_claim k x0 x1 (1 : Int) (1 : Int) x2 (0 : Int) (0 : Int) σ).bind fun r1 => (toI .i64 r1.1).bind fun n2 => fI n2 fun y3 => some (.int .i64 y3, r1.2))

theorem heap_Heap_Claim_is (k : Nat) (x0 : Option Addr) (x1 : Int) (x2 : Int) (σ : AMem) : d_heap_Heap_Claim k x0 x1 x2 σ = s_heap_Heap_Claim k x0 x1 x2 σ := by
  cases k with
  | zero => simp only [d_heap_Heap_Claim, hide_eq]; rfl
  | succ k => rw [d_heap_Heap_Claim_eq, b_heap_Heap_Claim, s_heap_Heap_Claim]; simp only [heap_Heap_claim_is, fI_eq, fN_eq, fB_eq, fP_eq, fA_eq, fS_eq, fO_eq, fV_eq, fL_eq, fMem_eq, fMm_eq, fR_eq, allocS_eq, stNS_eq, st1S_eq, setMS_eq]

noncomputable def s_alloc_Allocator_begin_l0 (k n : Nat) (p0 : Option Addr) (h1 : Nat) (x4 : Int) (σ : AMem) : Option LOut := match n with
  | 0 => none
  | n + 1 => (fP p0 fun p0 => fN h1 fun h1 => fI x4 fun x4 => fL σ fun σ => p0.bind fun a3 => (ldP σ a3.block (a3.off + 0)).bind fun p4 => (s_heap_Heap_Blocks k p4 σ).bind fun r5 => (toI .i64 r5.1).bind fun n6 => bif decide (x4 < n6) then (p0.bind fun a7 => (ldP r5.2 a7.block (a7.off + 0)).bind fun p8 => p0.bind fun a9 => (ldI .i64 r5.2 a9.block (a9.off + 1)).bind fun n10 => (s_heap_Heap_Claim k p8 x4 n10 r5.2).bind fun r11 => (toI .i64 r11.1).bind fun n12 => bif n12 == (0 : Int) then (stNS r11.2 h1 0 [.int .i64 (w64 (x4 * (64 : Int))), .int .i64 (w64 ((w64 (x4 + (1 : Int))) * (64 : Int)))] fun s13 => some (.ret, [.bool true], s13)) else (s_alloc_Allocator_begin_l0 k n p0 h1 (w64 (x4 + (1 : Int))) r11.2)) else (some (.exit 0, [], r5.2)))
termination_by structural n

theorem alloc_Allocator_begin_l0_is (k n : Nat) (p0 : Option Addr) (h1 : Nat) (x4 : Int) (σ : AMem) : d_alloc_Allocator_begin_l0 k n p0 h1 x4 σ = s_alloc_Allocator_begin_l0 k n p0 h1 x4 σ := by
  induction n generalizing p0 h1 x4 σ with
  | zero => simp only [d_alloc_Allocator_begin_l0, hide_eq]; rfl
  | succ n ih => rw [d_alloc_Allocator_begin_l0_eq, b_alloc_Allocator_begin_l0, s_alloc_Allocator_begin_l0]; simp only [heap_Heap_Claim_is, heap_Heap_Blocks_is, ih, fI_eq, fN_eq, fB_eq, fP_eq, fA_eq, fS_eq, fO_eq, fV_eq, fL_eq, fMem_eq, fMm_eq, fR_eq, allocS_eq, stNS_eq, st1S_eq, setMS_eq]

noncomputable def s_alloc_Allocator_begin (k : Nat) (x0 : Option Addr) (σ : AMem) : Option (Value × AMem) := match k with
  | 0 => none
  | k + 1 => (fP x0 fun x0 => fL σ fun σ => allocS σ (.cells [.int .i64 (0 : Int), .int .i64 (0 : Int)] 54 true) fun h1 s2 => (s_alloc_Allocator_begin_l0 k k x0 h1 (1 : Int) s2).bind fun r14 => if r14.1 = .exit 0 then (stNS r14.2.2 h1 0 [.int .i64 (0 : Int), .int .i64 (0 : Int)] fun s15 => (((ldN s15 h1 0 2).bind fun v16 => some (.agg v16.toArray)).bind fun v17 => some [v17, .bool false]).bind fun vs18 => some (resOf vs18, s15)) else if r14.1 = .ret then (u_t r14.2.1 fun b19 => (((ldN r14.2.2 h1 0 2).bind fun v20 => some (.agg v20.toArray)).bind fun v21 => some [v21, .bool b19]).bind fun vs22 => some (resOf vs22, r14.2.2)) else none)

theorem alloc_Allocator_begin_is (k : Nat) (x0 : Option Addr) (σ : AMem) : d_alloc_Allocator_begin k x0 σ = s_alloc_Allocator_begin k x0 σ := by
  cases k with
  | zero => simp only [d_alloc_Allocator_begin, hide_eq]; rfl
  | succ k => rw [d_alloc_Allocator_begin_eq, b_alloc_Allocator_begin, s_alloc_Allocator_begin]; simp only [heap_Heap_Claim_is, heap_Heap_Blocks_is, alloc_Allocator_begin_l0_is, fI_eq, fN_eq, fB_eq, fP_eq, fA_eq, fS_eq, fO_eq, fV_eq, fL_eq, fMem_eq, fMm_eq, fR_eq, allocS_eq, stNS_eq, st1S_eq, setMS_eq]

noncomputable def s_alloc_Allocator_start (k : Nat) (x0 : Option Addr) (x1 : Option Addr × Nat × Nat) (σ : AMem) : Option (Value × AMem) := match k with
  | 0 => none
  | k + 1 => (fP x0 fun x0 => fS x1 fun x1 => fL σ fun σ => bif decide (((x1.2.1 : Nat) : Int) > (0 : Int)) then (if 0 ≤ (0 : Int) ∧ (0 : Int) < (x1.2.1 : Nat) then x1.1.bind fun a1 => (ldI .i64 σ a1.block (a1.off + (0 : Int).toNat * 2 + 0)).bind fun n2 => fI n2 fun y3 => fB true fun y4 => some (.tuple #[.int .i64 y3, .bool y4], σ) else none) else ((s_alloc_Allocator_begin k x0 σ).bind fun r5 => (toT r5.1).bind fun q6 => if q6.length = 2 then q6.head?.bind fun v7 => a_ii v7 fun n8 n9 => q6.tail.head?.bind fun v10 => (toB v10).bind fun b11 => allocS r5.2 (.cells [.int .i64 (0 : Int), .int .i64 (0 : Int)] 54 true) fun h12 s13 => stNS s13 h12 0 [.int .i64 n8, .int .i64 n9] fun s14 => (ldI .i64 s14 h12 (0 + 0)).bind fun n15 => fI n15 fun y16 => fB b11 fun y17 => some (.tuple #[.int .i64 y16, .bool y17], s14) else none))

theorem alloc_Allocator_start_is (k : Nat) (x0 : Option Addr) (x1 : Option Addr × Nat × Nat) (σ : AMem) : d_alloc_Allocator_start k x0 x1 σ = s_alloc_Allocator_start k x0 x1 σ := by
  cases k with
  | zero => simp only [d_alloc_Allocator_start, hide_eq]; rfl
  | succ k => rw [d_alloc_Allocator_start_eq, b_alloc_Allocator_start, s_alloc_Allocator_start]; simp only [alloc_Allocator_begin_is, fI_eq, fN_eq, fB_eq, fP_eq, fA_eq, fS_eq, fO_eq, fV_eq, fL_eq, fMem_eq, fMm_eq, fR_eq, allocS_eq, stNS_eq, st1S_eq, setMS_eq]

noncomputable def s_heap_Heap_State (k : Nat) (x0 : Option Addr) (x1 : Int) (σ : AMem) : Option (Value × AMem) := match k with
  | 0 => none
  | k + 1 => (fP x0 fun x0 => fI x1 fun x1 => fL σ fun σ => (bif decide (x1 < (0 : Int)) then some (true, σ) else (s_heap_Heap_Blocks k x0 σ).bind fun r1 => (toI .i64 r1.1).bind fun n2 => some (decide (x1 ≥ n2), r1.2)).bind fun r3 => bif r3.1 then (fI (-1 : Int) fun y4 => some (.int .i64 y4, r3.2)) else (x0.bind fun a5 => (ldS r3.2 a5.block (a5.off + 0)).bind fun l6 => if 0 ≤ x1 ∧ x1 < (l6.2.1 : Nat) then l6.1.bind fun a7 => (ldI .i64 r3.2 a7.block (a7.off + x1.toNat * 2 + 0)).bind fun n8 => fI n8 fun y9 => some (.int .i64 y9, r3.2) else none))

theorem heap_Heap_State_is (k : Nat) (x0 : Option Addr) (x1 : Int) (σ : AMem) : d_heap_Heap_State k x0 x1 σ = s_heap_Heap_State k x0 x1 σ := by
  cases k with
  | zero => simp only [d_heap_Heap_State, hide_eq]; rfl
  | succ k => rw [d_heap_Heap_State_eq, b_heap_Heap_State, s_heap_Heap_State]; simp only [heap_Heap_Blocks_is, fI_eq, fN_eq, fB_eq, fP_eq, fA_eq, fS_eq, fO_eq, fV_eq, fL_eq, fMem_eq, fMm_eq, fR_eq, allocS_eq, stNS_eq, st1S_eq, setMS_eq]

noncomputable def s_alloc_Allocator_blocks_l0 (k n : Nat) (p0 : Option Addr) (i1 : Int) (x3 : Option Addr × Nat × Nat) (x10 : Int) (σ : AMem) : Option LOut := match n with
  | 0 => none
  | n + 1 => (fP p0 fun p0 => fI i1 fun i1 => fS x3 fun x3 => fI x10 fun x10 => fL σ fun σ => bif decide (x10 < i1) then (p0.bind fun a5 => (ldP σ a5.block (a5.off + 0)).bind fun p6 => (s_heap_Heap_State k p6 x10 σ).bind fun r7 => (toI .i64 r7.1).bind fun n8 => (bif n8 == (1 : Int) then p0.bind fun a9 => (ldP r7.2 a9.block (a9.off + 0)).bind fun p10 => (s_heap_Heap_Space k p10 x10 r7.2).bind fun r11 => (toI .i64 r11.1).bind fun n12 => p0.bind fun a13 => (ldI .i64 r11.2 a13.block (a13.off + 1)).bind fun n14 => some (n12 == n14, r11.2) else some (false, r7.2)).bind fun r15 => (bif r15.1 then (allocS r15.2 (.cells [.int .i64 x10] 3 true) fun h16 s17 => (appendD P 3 (x3.1, x3.2.1, x3.2.2) (some ⟨h16, 0, none⟩, 1, 1) s17).bind fun r18 => fR r18 fun r18 => some (.normal, [.slice r18.1.1 r18.1.2.1 r18.1.2.2], r18.2)) else (some (.normal, [.slice x3.1 x3.2.1 x3.2.2], r15.2)) : Option LOut).bind fun r19 => if r19.1 = .normal then (u_l r19.2.1 fun l20 => s_alloc_Allocator_blocks_l0 k n p0 i1 (l20.1, l20.2.1, l20.2.2) (w64 (x10 + (1 : Int))) r19.2.2) else none) else (some (.exit 0, [.slice x3.1 x3.2.1 x3.2.2], σ)))
termination_by structural n

theorem alloc_Allocator_blocks_l0_is (k n : Nat) (p0 : Option Addr) (i1 : Int) (x3 : Option Addr × Nat × Nat) (x10 : Int) (σ : AMem) : d_alloc_Allocator_blocks_l0 k n p0 i1 x3 x10 σ = s_alloc_Allocator_blocks_l0 k n p0 i1 x3 x10 σ := by
  induction n generalizing p0 i1 x3 x10 σ with
  | zero => simp only [d_alloc_Allocator_blocks_l0, hide_eq]; rfl
  | succ n ih => rw [d_alloc_Allocator_blocks_l0_eq, b_alloc_Allocator_blocks_l0, s_alloc_Allocator_blocks_l0]; simp only [heap_Heap_Blocks_is, heap_Heap_Space_is, heap_Heap_State_is, ih, fI_eq, fN_eq, fB_eq, fP_eq, fA_eq, fS_eq, fO_eq, fV_eq, fL_eq, fMem_eq, fMm_eq, fR_eq, allocS_eq, stNS_eq, st1S_eq, setMS_eq]

noncomputable def s_alloc_Allocator_blocks (k : Nat) (x0 : Option Addr) (σ : AMem) : Option (Value × AMem) := match k with
  | 0 => none
  | k + 1 => (fP x0 fun x0 => fL σ fun σ => x0.bind fun a1 => (ldP σ a1.block (a1.off + 0)).bind fun p2 => (s_heap_Heap_Blocks k p2 σ).bind fun r3 => (toI .i64 r3.1).bind fun n4 => (s_alloc_Allocator_blocks_l0 k k x0 n4 (none, 0, 0) (0 : Int) r3.2).bind fun r21 => if r21.1 = .exit 0 then (u_l r21.2.1 fun l22 => some (.slice l22.1 l22.2.1 l22.2.2, r21.2.2)) else none)

theorem alloc_Allocator_blocks_is (k : Nat) (x0 : Option Addr) (σ : AMem) : d_alloc_Allocator_blocks k x0 σ = s_alloc_Allocator_blocks k x0 σ := by
  cases k with
  | zero => simp only [d_alloc_Allocator_blocks, hide_eq]; rfl
  | succ k => rw [d_alloc_Allocator_blocks_eq, b_alloc_Allocator_blocks, s_alloc_Allocator_blocks]; simp only [heap_Heap_Blocks_is, heap_Heap_Space_is, heap_Heap_State_is, alloc_Allocator_blocks_l0_is, fI_eq, fN_eq, fB_eq, fP_eq, fA_eq, fS_eq, fO_eq, fV_eq, fL_eq, fMem_eq, fMm_eq, fR_eq, allocS_eq, stNS_eq, st1S_eq, setMS_eq]

noncomputable def s_heap_Heap_used (k : Nat) (x0 : Option Addr) (x1 : Int) (σ : AMem) : Option (Value × AMem) := match k with
  | 0 => none
  | k + 1 => (fP x0 fun x0 => fI x1 fun x1 => fL σ fun σ => (s_heap_Heap_there k x0 x1 σ).bind fun r1 => (toB r1.1).bind fun b2 => (bif b2 then x0.bind fun a3 => (ldS r1.2 a3.block (a3.off + 0)).bind fun l4 => if 0 ≤ x1 ∧ x1 < (l4.2.1 : Nat) then l4.1.bind fun a5 => (ldI .i64 r1.2 a5.block (a5.off + x1.toNat * 2 + 0)).bind fun n6 => some (n6 == (1 : Int), r1.2) else none else some (false, r1.2)).bind fun r7 => fB r7.1 fun y8 => some (.bool y8, r7.2))

theorem heap_Heap_used_is (k : Nat) (x0 : Option Addr) (x1 : Int) (σ : AMem) : d_heap_Heap_used k x0 x1 σ = s_heap_Heap_used k x0 x1 σ := by
  cases k with
  | zero => simp only [d_heap_Heap_used, hide_eq]; rfl
  | succ k => rw [d_heap_Heap_used_eq, b_heap_Heap_used, s_heap_Heap_used]; simp only [heap_Heap_there_is, fI_eq, fN_eq, fB_eq, fP_eq, fA_eq, fS_eq, fO_eq, fV_eq, fL_eq, fMem_eq, fMm_eq, fR_eq, allocS_eq, stNS_eq, st1S_eq, setMS_eq]

noncomputable def s_heap_Heap_Gaps_c1 (k : Nat) (x0 : Int) (c0 : Option Addr) (c1 : Option Addr) (σ : AMem) : Option (Value × AMem) := match k with
  | 0 => none
  | k + 1 => (fI x0 fun x0 => fP c0 fun c0 => fP c1 fun c1 => fL σ fun σ => c0.bind fun a1 => (ldI .i64 σ a1.block a1.off).bind fun n2 => (bif decide (x0 > n2) then (c1.bind fun a3 => (ldS σ a3.block a3.off).bind fun l4 => c0.bind fun a5 => (ldI .i64 σ a5.block a5.off).bind fun n6 => c0.bind fun a7 => (ldI .i64 σ a7.block a7.off).bind fun n8 => allocS σ (.cells [.int .i64 n6, .int .i64 (w64 (x0 - n8))] 110 true) fun h9 s10 => (appendD P 110 (l4.1, l4.2.1, l4.2.2) (some ⟨h9, 0, none⟩, 1, 1) s10).bind fun r11 => fR r11 fun r11 => c1.bind fun a12 => st1S r11.2 a12.block a12.off (.slice r11.1.1 r11.1.2.1 r11.1.2.2) fun s13 => some (.normal, [], s13)) else (some (.normal, [], σ)) : Option LOut).bind fun r14 => if r14.1 = .normal then (some (.tuple #[], r14.2.2)) else none)

theorem heap_Heap_Gaps_c1_is (k : Nat) (x0 : Int) (c0 : Option Addr) (c1 : Option Addr) (σ : AMem) : d_heap_Heap_Gaps_c1 k x0 c0 c1 σ = s_heap_Heap_Gaps_c1 k x0 c0 c1 σ := by
  cases k with
  | zero => simp only [d_heap_Heap_Gaps_c1, hide_eq]; rfl
  | succ k => rw [d_heap_Heap_Gaps_c1_eq, b_heap_Heap_Gaps_c1, s_heap_Heap_Gaps_c1]; simp only [fI_eq, fN_eq, fB_eq, fP_eq, fA_eq, fS_eq, fO_eq, fV_eq, fL_eq, fMem_eq, fMm_eq, fR_eq, allocS_eq, stNS_eq, st1S_eq, setMS_eq]

noncomputable def s_side_Table_Next_l0 (k n : Nat) (p0 : Option Addr) (i1 : Int) (x8 : Int) (σ : AMem) : Option LOut := match n with
  | 0 => none
  | n + 1 => (fP p0 fun p0 => fI i1 fun i1 => fI x8 fun x8 => fL σ fun σ => p0.bind fun a5 => (ldI .i64 σ a5.block (a5.off + 0)).bind fun n6 => bif decide (x8 < n6) then ((s_side_Table_get k p0 x8 σ).bind fun r7 => (toI .i64 r7.1).bind fun n8 => bif n8 == i1 then (some (.ret, [.int .i64 x8, .int .i64 (0 : Int)], r7.2)) else (s_side_Table_Next_l0 k n p0 i1 (w64 (x8 + (1 : Int))) r7.2)) else (some (.exit 0, [], σ)))
termination_by structural n

theorem side_Table_Next_l0_is (k n : Nat) (p0 : Option Addr) (i1 : Int) (x8 : Int) (σ : AMem) : d_side_Table_Next_l0 k n p0 i1 x8 σ = s_side_Table_Next_l0 k n p0 i1 x8 σ := by
  induction n generalizing p0 i1 x8 σ with
  | zero => simp only [d_side_Table_Next_l0, hide_eq]; rfl
  | succ n ih => rw [d_side_Table_Next_l0_eq, b_side_Table_Next_l0, s_side_Table_Next_l0]; simp only [side_Table_made_is, side_Table_get_is, ih, fI_eq, fN_eq, fB_eq, fP_eq, fA_eq, fS_eq, fO_eq, fV_eq, fL_eq, fMem_eq, fMm_eq, fR_eq, allocS_eq, stNS_eq, st1S_eq, setMS_eq]

noncomputable def s_side_Table_Next (k : Nat) (x0 : Option Addr) (x1 : Int) (x2 : Int) (σ : AMem) : Option (Value × AMem) := match k with
  | 0 => none
  | k + 1 => (fP x0 fun x0 => fI x1 fun x1 => fI x2 fun x2 => fL σ fun σ => (s_side_Table_made k x0 σ).bind fun r1 => (toB r1.1).bind fun b2 => bif !b2 then (fI (0 : Int) fun y3 => fI (5 : Int) fun y4 => some (.tuple #[.int .i64 y3, .int .i64 y4], r1.2)) else ((s_side_Table_Next_l0 k k x0 x2 (if (0 : Int) > x1 then (0 : Int) else x1) r1.2).bind fun r9 => if r9.1 = .exit 0 then (fI (0 : Int) fun y10 => fI (4 : Int) fun y11 => some (.tuple #[.int .i64 y10, .int .i64 y11], r9.2.2)) else if r9.1 = .ret then (u_ii r9.2.1 fun n12 n13 => fI n12 fun y14 => fI n13 fun y15 => some (.tuple #[.int .i64 y14, .int .i64 y15], r9.2.2)) else none))

theorem side_Table_Next_is (k : Nat) (x0 : Option Addr) (x1 : Int) (x2 : Int) (σ : AMem) : d_side_Table_Next k x0 x1 x2 σ = s_side_Table_Next k x0 x1 x2 σ := by
  cases k with
  | zero => simp only [d_side_Table_Next, hide_eq]; rfl
  | succ k => rw [d_side_Table_Next_eq, b_side_Table_Next, s_side_Table_Next]; simp only [side_Table_made_is, side_Table_get_is, side_Table_Next_l0_is, fI_eq, fN_eq, fB_eq, fP_eq, fA_eq, fS_eq, fO_eq, fV_eq, fL_eq, fMem_eq, fMm_eq, fR_eq, allocS_eq, stNS_eq, st1S_eq, setMS_eq]

noncomputable def s_heap_Heap_between_l0 (k n : Nat) (p0 : Option Addr) (i1 : Int) (x7 : Option Addr × Nat × Nat) (x8 : Int) (x9 : Int) (σ : AMem) : Option LOut := match n with
  | 0 => none
  | n + 1 => (fP p0 fun p0 => fI i1 fun i1 => fS x7 fun x7 => fI x8 fun x8 => fI x9 fun x9 => fL σ fun σ => (bif x9 == (0 : Int) then some (decide ((w64 ((2 : Int) * x8)) < i1), σ) else some (false, σ)).bind fun r6 => bif r6.1 then (allocS r6.2 (.cells [.int .i64 (w64 ((2 : Int) * x8))] 3 true) fun h7 s8 => (appendD P 3 (x7.1, x7.2.1, x7.2.2) (some ⟨h7, 0, none⟩, 1, 1) s8).bind fun r9 => fR r9 fun r9 => p0.bind fun a10 => (ldP r9.2 a10.block (a10.off + 2)).bind fun p11 => (s_side_Table_Next k p11 (w64 (x8 + (1 : Int))) (1 : Int) r9.2).bind fun r12 => r_ii r12.1 fun n13 n14 => s_heap_Heap_between_l0 k n p0 i1 (r9.1.1, r9.1.2.1, r9.1.2.2) n13 n14 r12.2) else (some (.exit 0, [.slice x7.1 x7.2.1 x7.2.2], r6.2)))
termination_by structural n

theorem heap_Heap_between_l0_is (k n : Nat) (p0 : Option Addr) (i1 : Int) (x7 : Option Addr × Nat × Nat) (x8 : Int) (x9 : Int) (σ : AMem) : d_heap_Heap_between_l0 k n p0 i1 x7 x8 x9 σ = s_heap_Heap_between_l0 k n p0 i1 x7 x8 x9 σ := by
  induction n generalizing p0 i1 x7 x8 x9 σ with
  | zero => simp only [d_heap_Heap_between_l0, hide_eq]; rfl
  | succ n ih => rw [d_heap_Heap_between_l0_eq, b_heap_Heap_between_l0, s_heap_Heap_between_l0]; simp only [side_Table_Next_is, ih, fI_eq, fN_eq, fB_eq, fP_eq, fA_eq, fS_eq, fO_eq, fV_eq, fL_eq, fMem_eq, fMm_eq, fR_eq, allocS_eq, stNS_eq, st1S_eq, setMS_eq]

noncomputable def s_heap_Heap_between (k : Nat) (x0 : Option Addr) (x1 : Int) (x2 : Int) (σ : AMem) : Option (Value × AMem) := match k with
  | 0 => none
  | k + 1 => (fP x0 fun x0 => fI x1 fun x1 => fI x2 fun x2 => fL σ fun σ => x0.bind fun a1 => (ldP σ a1.block (a1.off + 2)).bind fun p2 => if (2 : Int) = 0 then none else (s_side_Table_Next k p2 (w64 (x1.tdiv (2 : Int))) (1 : Int) σ).bind fun r3 => r_ii r3.1 fun n4 n5 => (s_heap_Heap_between_l0 k k x0 x2 (none, 0, 0) n4 n5 r3.2).bind fun r15 => if r15.1 = .exit 0 then (u_l r15.2.1 fun l16 => some (.slice l16.1 l16.2.1 l16.2.2, r15.2.2)) else none)

theorem heap_Heap_between_is (k : Nat) (x0 : Option Addr) (x1 : Int) (x2 : Int) (σ : AMem) : d_heap_Heap_between k x0 x1 x2 σ = s_heap_Heap_between k x0 x1 x2 σ := by
  cases k with
  | zero => simp only [d_heap_Heap_between, hide_eq]; rfl
  | succ k => rw [d_heap_Heap_between_eq, b_heap_Heap_between, s_heap_Heap_between]; simp only [side_Table_Next_is, heap_Heap_between_l0_is, fI_eq, fN_eq, fB_eq, fP_eq, fA_eq, fS_eq, fO_eq, fV_eq, fL_eq, fMem_eq, fMm_eq, fR_eq, allocS_eq, stNS_eq, st1S_eq, setMS_eq]

noncomputable def s_heap_Heap_Objects (k : Nat) (x0 : Option Addr) (x1 : Int) (σ : AMem) : Option (Value × AMem) := match k with
  | 0 => none
  | k + 1 => (fP x0 fun x0 => fI x1 fun x1 => fL σ fun σ => (s_heap_Heap_made k x0 σ).bind fun r1 => (toB r1.1).bind fun b2 => (bif !b2 then some (true, r1.2) else some (decide (x1 < (0 : Int)), r1.2)).bind fun r3 => (bif r3.1 then some (true, r3.2) else x0.bind fun a4 => (ldS r3.2 a4.block (a4.off + 0)).bind fun l5 => some (decide (x1 ≥ ((l5.2.1 : Nat) : Int)), r3.2)).bind fun r6 => bif r6.1 then (some (.slice none 0 0, r6.2)) else ((s_heap_Heap_between k x0 (w64 (x1 * (64 : Int))) (w64 ((w64 (x1 + (1 : Int))) * (64 : Int))) r6.2).bind fun r7 => (toS r7.1).bind fun l8 => some (.slice l8.1 l8.2.1 l8.2.2, r7.2)))

theorem heap_Heap_Objects_is (k : Nat) (x0 : Option Addr) (x1 : Int) (σ : AMem) : d_heap_Heap_Objects k x0 x1 σ = s_heap_Heap_Objects k x0 x1 σ := by
  cases k with
  | zero => simp only [d_heap_Heap_Objects, hide_eq]; rfl
  | succ k => rw [d_heap_Heap_Objects_eq, b_heap_Heap_Objects, s_heap_Heap_Objects]; simp only [heap_Heap_made_is, heap_Heap_between_is, fI_eq, fN_eq, fB_eq, fP_eq, fA_eq, fS_eq, fO_eq, fV_eq, fL_eq, fMem_eq, fMm_eq, fR_eq, allocS_eq, stNS_eq, st1S_eq, setMS_eq]

noncomputable def s_heap_Heap_Gaps_l0 (k n : Nat) (p0 : Option Addr) (h1 : Nat) (h2 : Nat) (p3 : Option Addr) (c4 : Nat) (c5 : Nat) (i6 : Int) (x21 : Int) (σ : AMem) : Option LOut := match n with
  | 0 => none
  | n + 1 => (fP p0 fun p0 => fN h1 fun h1 => fN h2 fun h2 => fP p3 fun p3 => fN c4 fun c4 => fN c5 fun c5 => fI i6 fun i6 => fI x21 fun x21 => fL σ fun σ => bif decide (x21 < i6) then (if 0 ≤ x21 ∧ x21 < (c4 : Nat) then p3.bind fun a10 => (ldI .i64 σ a10.block (a10.off + x21.toNat * 1)).bind fun n11 => (s_heap_Heap_Gaps_c1 k n11 (some ⟨h1, 0, none⟩) (some ⟨h2, 0, none⟩) σ).bind fun r12 => r_0 r12.1 ((s_heap_Heap_size k p0 n11 r12.2).bind fun r13 => (toI .i64 r13.1).bind fun n14 => st1S r13.2 h1 0 (.int .i64 (w64 (n11 + n14))) fun s15 => s_heap_Heap_Gaps_l0 k n p0 h1 h2 p3 c4 c5 i6 (w64 (x21 + (1 : Int))) s15) else none) else (some (.exit 0, [], σ)))
termination_by structural n

theorem heap_Heap_Gaps_l0_is (k n : Nat) (p0 : Option Addr) (h1 : Nat) (h2 : Nat) (p3 : Option Addr) (c4 : Nat) (c5 : Nat) (i6 : Int) (x21 : Int) (σ : AMem) : d_heap_Heap_Gaps_l0 k n p0 h1 h2 p3 c4 c5 i6 x21 σ = s_heap_Heap_Gaps_l0 k n p0 h1 h2 p3 c4 c5 i6 x21 σ := by
  induction n generalizing p0 h1 h2 p3 c4 c5 i6 x21 σ with
  | zero => simp only [d_heap_Heap_Gaps_l0, hide_eq]; rfl
  | succ n ih => rw [d_heap_Heap_Gaps_l0_eq, b_heap_Heap_Gaps_l0, s_heap_Heap_Gaps_l0]; simp only [heap_Heap_size_is, heap_Heap_used_is, heap_Heap_Gaps_c1_is, heap_Heap_Objects_is, ih, fI_eq, fN_eq, fB_eq, fP_eq, fA_eq, fS_eq, fO_eq, fV_eq, fL_eq, fMem_eq, fMm_eq, fR_eq, allocS_eq, stNS_eq, st1S_eq, setMS_eq]

noncomputable def s_heap_Heap_Gaps (k : Nat) (x0 : Option Addr) (x1 : Int) (σ : AMem) : Option (Value × AMem) := match k with
  | 0 => none
  | k + 1 => (fP x0 fun x0 => fI x1 fun x1 => fL σ fun σ => (s_heap_Heap_used k x0 x1 σ).bind fun r1 => (toB r1.1).bind fun b2 => bif !b2 then (some (.slice none 0 0, r1.2)) else (allocS r1.2 (.cells [.slice none 0 0] 107 true) fun h3 s4 => allocS s4 (.cells [.int .i64 (0 : Int)] 3 true) fun h5 s6 => st1S s6 h5 0 (.int .i64 (w64 (x1 * (64 : Int)))) fun s7 => (s_heap_Heap_Objects k x0 x1 s7).bind fun r8 => (toS r8.1).bind fun l9 => (s_heap_Heap_Gaps_l0 k k x0 h5 h3 l9.1 l9.2.1 l9.2.2 ((l9.2.1 : Nat) : Int) (0 : Int) r8.2).bind fun r16 => if r16.1 = .exit 0 then ((s_heap_Heap_Gaps_c1 k (w64 ((w64 (x1 + (1 : Int))) * (64 : Int))) (some ⟨h5, 0, none⟩) (some ⟨h3, 0, none⟩) r16.2.2).bind fun r17 => r_0 r17.1 ((ldS r17.2 h3 0).bind fun l18 => some (.slice l18.1 l18.2.1 l18.2.2, r17.2))) else none))

theorem heap_Heap_Gaps_is (k : Nat) (x0 : Option Addr) (x1 : Int) (σ : AMem) : d_heap_Heap_Gaps k x0 x1 σ = s_heap_Heap_Gaps k x0 x1 σ := by
  cases k with
  | zero => simp only [d_heap_Heap_Gaps, hide_eq]; rfl
  | succ k => rw [d_heap_Heap_Gaps_eq, b_heap_Heap_Gaps, s_heap_Heap_Gaps]; simp only [heap_Heap_size_is, heap_Heap_used_is, heap_Heap_Gaps_c1_is, heap_Heap_Objects_is, heap_Heap_Gaps_l0_is, fI_eq, fN_eq, fB_eq, fP_eq, fA_eq, fS_eq, fO_eq, fV_eq, fL_eq, fMem_eq, fMm_eq, fR_eq, allocS_eq, stNS_eq, st1S_eq, setMS_eq]

noncomputable def s_alloc_Allocator_gaps_l1 (k n : Nat) (i0 : Int) (i1 : Int) (p2 : Option Addr) (c3 : Nat) (c4 : Nat) (i5 : Int) (x7 : Option Addr × Nat × Nat) (x27 : Int) (σ : AMem) : Option LOut := match n with
  | 0 => none
  | n + 1 => (fI i0 fun i0 => fI i1 fun i1 => fP p2 fun p2 => fN c3 fun c3 => fN c4 fun c4 => fI i5 fun i5 => fS x7 fun x7 => fI x27 fun x27 => fL σ fun σ => bif decide (x27 < i5) then (if 0 ≤ x27 ∧ x27 < (c3 : Nat) then p2.bind fun a9 => (ldI .i64 σ a9.block (a9.off + x27.toNat * 2)).bind fun n10 => (ldI .i64 σ a9.block (a9.off + x27.toNat * 2 + 1)).bind fun n11 => allocS σ (.cells [.int .i64 (0 : Int), .int .i64 (0 : Int)] 110 true) fun h12 s13 => stNS s13 h12 0 [.int .i64 n10, .int .i64 n11] fun s14 => (ldI .i64 s14 h12 (0 + 0)).bind fun n15 => (bif decide ((w64 (i0 - n15)) > (0 : Int)) then ((ldI .i64 s14 h12 (0 + 1)).bind fun n16 => st1S s14 h12 (0 + 0) (.int .i64 i0) fun s17 => st1S s17 h12 (0 + 1) (.int .i64 (w64 (n16 - (w64 (i0 - n15))))) fun s18 => some (.normal, [], s18)) else (some (.normal, [], s14)) : Option LOut).bind fun r19 => if r19.1 = .normal then ((ldI .i64 r19.2.2 h12 (0 + 1)).bind fun n20 => (bif decide (n20 ≥ i1) then ((ldI .i64 r19.2.2 h12 0).bind fun n21 => (ldI .i64 r19.2.2 h12 (0 + 1)).bind fun n22 => allocS r19.2.2 (.cells [.int .i64 n21, .int .i64 n22] 110 true) fun h23 s24 => (appendD P 110 (x7.1, x7.2.1, x7.2.2) (some ⟨h23, 0, none⟩, 1, 1) s24).bind fun r25 => fR r25 fun r25 => some (.normal, [.slice r25.1.1 r25.1.2.1 r25.1.2.2], r25.2)) else (some (.normal, [.slice x7.1 x7.2.1 x7.2.2], r19.2.2)) : Option LOut).bind fun r26 => if r26.1 = .normal then (u_l r26.2.1 fun l27 => s_alloc_Allocator_gaps_l1 k n i0 i1 p2 c3 c4 i5 (l27.1, l27.2.1, l27.2.2) (w64 (x27 + (1 : Int))) r26.2.2) else none) else none else none) else (some (.exit 2, [.slice x7.1 x7.2.1 x7.2.2], σ)))
termination_by structural n

theorem alloc_Allocator_gaps_l1_is (k n : Nat) (i0 : Int) (i1 : Int) (p2 : Option Addr) (c3 : Nat) (c4 : Nat) (i5 : Int) (x7 : Option Addr × Nat × Nat) (x27 : Int) (σ : AMem) : d_alloc_Allocator_gaps_l1 k n i0 i1 p2 c3 c4 i5 x7 x27 σ = s_alloc_Allocator_gaps_l1 k n i0 i1 p2 c3 c4 i5 x7 x27 σ := by
  induction n generalizing i0 i1 p2 c3 c4 i5 x7 x27 σ with
  | zero => simp only [d_alloc_Allocator_gaps_l1, hide_eq]; rfl
  | succ n ih => rw [d_alloc_Allocator_gaps_l1_eq, b_alloc_Allocator_gaps_l1, s_alloc_Allocator_gaps_l1]; simp only [alloc_Allocator_blocks_is, heap_Heap_Gaps_is, ih, fI_eq, fN_eq, fB_eq, fP_eq, fA_eq, fS_eq, fO_eq, fV_eq, fL_eq, fMem_eq, fMm_eq, fR_eq, allocS_eq, stNS_eq, st1S_eq, setMS_eq]

noncomputable def s_alloc_Allocator_gaps_l0 (k n : Nat) (p0 : Option Addr) (i1 : Int) (i2 : Int) (p3 : Option Addr) (c4 : Nat) (c5 : Nat) (i6 : Int) (x7 : Option Addr × Nat × Nat) (x16 : Int) (σ : AMem) : Option LOut := match n with
  | 0 => none
  | n + 1 => (fP p0 fun p0 => fI i1 fun i1 => fI i2 fun i2 => fP p3 fun p3 => fN c4 fun c4 => fN c5 fun c5 => fI i6 fun i6 => fS x7 fun x7 => fI x16 fun x16 => fL σ fun σ => bif decide (x16 < i6) then (if 0 ≤ x16 ∧ x16 < (c4 : Nat) then p3.bind fun a3 => (ldI .i64 σ a3.block (a3.off + x16.toNat * 1)).bind fun n4 => p0.bind fun a5 => (ldP σ a5.block (a5.off + 0)).bind fun p6 => (s_heap_Heap_Gaps k p6 n4 σ).bind fun r7 => (toS r7.1).bind fun l8 => (s_alloc_Allocator_gaps_l1 k k i1 i2 l8.1 l8.2.1 l8.2.2 ((l8.2.1 : Nat) : Int) (x7.1, x7.2.1, x7.2.2) (0 : Int) r7.2).bind fun r28 => if r28.1 = .exit 2 then (u_l r28.2.1 fun l29 => s_alloc_Allocator_gaps_l0 k n p0 i1 i2 p3 c4 c5 i6 (l29.1, l29.2.1, l29.2.2) (w64 (x16 + (1 : Int))) r28.2.2) else none else none) else (some (.exit 0, [.slice x7.1 x7.2.1 x7.2.2], σ)))
termination_by structural n

theorem alloc_Allocator_gaps_l0_is (k n : Nat) (p0 : Option Addr) (i1 : Int) (i2 : Int) (p3 : Option Addr) (c4 : Nat) (c5 : Nat) (i6 : Int) (x7 : Option Addr × Nat × Nat) (x16 : Int) (σ : AMem) : d_alloc_Allocator_gaps_l0 k n p0 i1 i2 p3 c4 c5 i6 x7 x16 σ = s_alloc_Allocator_gaps_l0 k n p0 i1 i2 p3 c4 c5 i6 x7 x16 σ := by
  induction n generalizing p0 i1 i2 p3 c4 c5 i6 x7 x16 σ with
  | zero => simp only [d_alloc_Allocator_gaps_l0, hide_eq]; rfl
  | succ n ih => rw [d_alloc_Allocator_gaps_l0_eq, b_alloc_Allocator_gaps_l0, s_alloc_Allocator_gaps_l0]; simp only [alloc_Allocator_blocks_is, heap_Heap_Gaps_is, alloc_Allocator_gaps_l1_is, ih, fI_eq, fN_eq, fB_eq, fP_eq, fA_eq, fS_eq, fO_eq, fV_eq, fL_eq, fMem_eq, fMm_eq, fR_eq, allocS_eq, stNS_eq, st1S_eq, setMS_eq]

noncomputable def s_alloc_Allocator_gaps (k : Nat) (x0 : Option Addr) (x1 : Int) (x2 : Int) (σ : AMem) : Option (Value × AMem) := match k with
  | 0 => none
  | k + 1 => (fP x0 fun x0 => fI x1 fun x1 => fI x2 fun x2 => fL σ fun σ => (s_alloc_Allocator_blocks k x0 σ).bind fun r1 => (toS r1.1).bind fun l2 => (s_alloc_Allocator_gaps_l0 k k x0 x1 x2 l2.1 l2.2.1 l2.2.2 ((l2.2.1 : Nat) : Int) (none, 0, 0) (0 : Int) r1.2).bind fun r30 => if r30.1 = .exit 0 then (u_l r30.2.1 fun l31 => some (.slice l31.1 l31.2.1 l31.2.2, r30.2.2)) else none)

theorem alloc_Allocator_gaps_is (k : Nat) (x0 : Option Addr) (x1 : Int) (x2 : Int) (σ : AMem) : d_alloc_Allocator_gaps k x0 x1 x2 σ = s_alloc_Allocator_gaps k x0 x1 x2 σ := by
  cases k with
  | zero => simp only [d_alloc_Allocator_gaps, hide_eq]; rfl
  | succ k => rw [d_alloc_Allocator_gaps_eq, b_alloc_Allocator_gaps, s_alloc_Allocator_gaps]; simp only [alloc_Allocator_blocks_is, heap_Heap_Gaps_is, alloc_Allocator_gaps_l1_is, alloc_Allocator_gaps_l0_is, fI_eq, fN_eq, fB_eq, fP_eq, fA_eq, fS_eq, fO_eq, fV_eq, fL_eq, fMem_eq, fMm_eq, fR_eq, allocS_eq, stNS_eq, st1S_eq, setMS_eq]

noncomputable def s_alloc_first_place (k : Nat) (x1 : Option Addr) (x2 : Int) (σ : AMem) : Option (Value × AMem) := match k with
  | 0 => none
  | k + 1 => (fP x1 fun x1 => fI x2 fun x2 => fL σ fun σ => allocS σ (.cells [] 74 true) fun h1 s2 => (s_alloc_Allocator_gaps k x1 (0 : Int) x2 s2).bind fun r3 => (toS r3.1).bind fun l4 => (s_alloc_Allocator_start k x1 (l4.1, l4.2.1, l4.2.2) r3.2).bind fun r5 => r_it r5.1 fun n6 b7 => fI n6 fun y8 => fB b7 fun y9 => some (.tuple #[.int .i64 y8, .bool y9], r5.2))

theorem alloc_first_place_is (k : Nat) (x1 : Option Addr) (x2 : Int) (σ : AMem) : d_alloc_first_place k x1 x2 σ = s_alloc_first_place k x1 x2 σ := by
  cases k with
  | zero => simp only [d_alloc_first_place, hide_eq]; rfl
  | succ k => rw [d_alloc_first_place_eq, b_alloc_first_place, s_alloc_first_place]; simp only [alloc_Allocator_start_is, alloc_Allocator_gaps_is, fI_eq, fN_eq, fB_eq, fP_eq, fA_eq, fS_eq, fO_eq, fV_eq, fL_eq, fMem_eq, fMm_eq, fR_eq, allocS_eq, stNS_eq, st1S_eq, setMS_eq]

theorem alloc_first_place_raw (k : Nat) (x1 : Option Addr) (x2 : Int) (σ : AMem) : fn P (XK Kn.b) H k 70 [.agg #[], .pointer x1, .int .i64 x2] σ = d_alloc_first_place k x1 x2 σ := by
  simp only [d_alloc_first_place, hide_eq]

noncomputable def s_alloc_best_place_c1 (k : Nat) (x0_0 : Int) (x0_1 : Int) (x1_0 : Int) (x1_1 : Int) (σ : AMem) : Option (Value × AMem) := match k with
  | 0 => none
  | k + 1 => (fI x0_0 fun x0_0 => fI x0_1 fun x0_1 => fI x1_0 fun x1_0 => fI x1_1 fun x1_1 => fL σ fun σ => allocS σ (.cells [.int .i64 x0_0, .int .i64 x0_1] 110 true) fun h1 s2 => allocS s2 (.cells [.int .i64 x1_0, .int .i64 x1_1] 110 true) fun h3 s4 => (ldI .i64 s4 h1 (0 + 1)).bind fun n5 => (ldI .i64 s4 h3 (0 + 1)).bind fun n6 => fI (w64 (n5 - n6)) fun y7 => some (.int .i64 y7, s4))

theorem alloc_best_place_c1_is (k : Nat) (x0_0 : Int) (x0_1 : Int) (x1_0 : Int) (x1_1 : Int) (σ : AMem) : d_alloc_best_place_c1 k x0_0 x0_1 x1_0 x1_1 σ = s_alloc_best_place_c1 k x0_0 x0_1 x1_0 x1_1 σ := by
  cases k with
  | zero => simp only [d_alloc_best_place_c1, hide_eq]; rfl
  | succ k => rw [d_alloc_best_place_c1_eq, b_alloc_best_place_c1, s_alloc_best_place_c1]; simp only [fI_eq, fN_eq, fB_eq, fP_eq, fA_eq, fS_eq, fO_eq, fV_eq, fL_eq, fMem_eq, fMm_eq, fR_eq, allocS_eq, stNS_eq, st1S_eq, setMS_eq]

theorem alloc_best_place_c1_raw (k : Nat) (x0_0 : Int) (x0_1 : Int) (x1_0 : Int) (x1_1 : Int) (σ : AMem) : fn P (XK Kn.b) H k 84 [.agg #[.int .i64 x0_0, .int .i64 x0_1], .agg #[.int .i64 x1_0, .int .i64 x1_1]] σ = d_alloc_best_place_c1 k x0_0 x0_1 x1_0 x1_1 σ := by
  simp only [d_alloc_best_place_c1, hide_eq]

noncomputable def s_callN_iiii_i (k : Nat) (n : FuncId) (l : List Value) (σ : AMem) : Option (Value × AMem) :=
  if n = 84 then (match l with
    | [.agg ⟨[.int .i64 y1, .int .i64 y2]⟩, .agg ⟨[.int .i64 y3, .int .i64 y4]⟩] => s_alloc_best_place_c1 k y1 y2 y3 y4 σ
    | l => fn P (XK Kn.b) H k 84 l σ) else
  fn P (XK Kn.b) H k n l σ

theorem callN_iiii_i_is (k : Nat) (n : FuncId) (l : List Value) (σ : AMem) : fn P (XK Kn.b) H k n l σ = s_callN_iiii_i k n l σ := by
  unfold s_callN_iiii_i
  split
  · rename_i hn; subst hn
    split
    · exact (alloc_best_place_c1_raw k _ _ _ _ σ).trans (alloc_best_place_c1_is k _ _ _ _ σ)
    · rfl
  rfl

noncomputable def s_callV_iiii_i (k : Nat) (f : Value) (args : List Value) (σ : AMem) : Option (Value × AMem) := match f with
  | .func (.func n) first cap => s_callN_iiii_i k n (first.toList ++ args ++ cap.toList) σ
  | .func (.method nm) first _ => (match first.toList ++ args with
    | .iface t v :: rest => (methodF P t nm).bind fun n => s_callN_iiii_i k n (v :: rest) σ
    | _ => none)
  | _ => none

theorem callV_iiii_i_is (k : Nat) (f : Value) (args : List Value) (σ : AMem) : d_callV_iiii_i k f args σ = s_callV_iiii_i k f args σ := by
  simp only [d_callV_iiii_i, hide_eq]
  unfold callVal s_callV_iiii_i
  simp only [callN_iiii_i_is]
  rfl

noncomputable def s_slices_insertionSortCmpFunc_api_Run_l1 (k n : Nat) (p0 : Option Addr) (c1 : Nat) (c2 : Nat) (i3 : Int) (v4 : Value) (x9 : Int) (σ : AMem) : Option LOut := match n with
  | 0 => none
  | n + 1 => (fP p0 fun p0 => fN c1 fun c1 => fN c2 fun c2 => fI i3 fun i3 => fI x9 fun x9 => fL σ fun σ => (bif decide (x9 > i3) then if 0 ≤ x9 ∧ x9 < (c1 : Nat) then p0.bind fun a1 => (ldI .i64 σ a1.block (a1.off + x9.toNat * 2)).bind fun n2 => (ldI .i64 σ a1.block (a1.off + x9.toNat * 2 + 1)).bind fun n3 => if 0 ≤ (w64 (x9 - (1 : Int))) ∧ (w64 (x9 - (1 : Int))) < (c1 : Nat) then p0.bind fun a4 => (ldI .i64 σ a4.block (a4.off + (w64 (x9 - (1 : Int))).toNat * 2)).bind fun n5 => (ldI .i64 σ a4.block (a4.off + (w64 (x9 - (1 : Int))).toNat * 2 + 1)).bind fun n6 => (s_callV_iiii_i k v4 [.agg #[.int .i64 n2, .int .i64 n3], .agg #[.int .i64 n5, .int .i64 n6]] σ).bind fun r7 => (toI .i64 r7.1).bind fun n8 => some (decide (n8 < (0 : Int)), r7.2) else none else none else some (false, σ)).bind fun r9 => bif r9.1 then (if 0 ≤ (w64 (x9 - (1 : Int))) ∧ (w64 (x9 - (1 : Int))) < (c1 : Nat) then p0.bind fun a10 => (ldI .i64 r9.2 a10.block (a10.off + (w64 (x9 - (1 : Int))).toNat * 2)).bind fun n11 => (ldI .i64 r9.2 a10.block (a10.off + (w64 (x9 - (1 : Int))).toNat * 2 + 1)).bind fun n12 => if 0 ≤ x9 ∧ x9 < (c1 : Nat) then p0.bind fun a13 => (ldI .i64 r9.2 a13.block (a13.off + x9.toNat * 2)).bind fun n14 => (ldI .i64 r9.2 a13.block (a13.off + x9.toNat * 2 + 1)).bind fun n15 => if 0 ≤ x9 ∧ x9 < (c1 : Nat) then p0.bind fun a16 => stNS r9.2 a16.block (a16.off + x9.toNat * 2) [.int .i64 n11, .int .i64 n12] fun s17 => if 0 ≤ (w64 (x9 - (1 : Int))) ∧ (w64 (x9 - (1 : Int))) < (c1 : Nat) then p0.bind fun a18 => stNS s17 a18.block (a18.off + (w64 (x9 - (1 : Int))).toNat * 2) [.int .i64 n14, .int .i64 n15] fun s19 => s_slices_insertionSortCmpFunc_api_Run_l1 k n p0 c1 c2 i3 v4 (w64 (x9 - (1 : Int))) s19 else none else none else none else none) else (some (.exit 2, [], r9.2)))
termination_by structural n

theorem slices_insertionSortCmpFunc_api_Run_l1_is (k n : Nat) (p0 : Option Addr) (c1 : Nat) (c2 : Nat) (i3 : Int) (v4 : Value) (x9 : Int) (σ : AMem) : d_slices_insertionSortCmpFunc_api_Run_l1 k n p0 c1 c2 i3 v4 x9 σ = s_slices_insertionSortCmpFunc_api_Run_l1 k n p0 c1 c2 i3 v4 x9 σ := by
  induction n generalizing p0 c1 c2 i3 v4 x9 σ with
  | zero => simp only [d_slices_insertionSortCmpFunc_api_Run_l1, hide_eq]; rfl
  | succ n ih => rw [d_slices_insertionSortCmpFunc_api_Run_l1_eq, b_slices_insertionSortCmpFunc_api_Run_l1, s_slices_insertionSortCmpFunc_api_Run_l1]; simp only [callV_iiii_i_is, ih, fI_eq, fN_eq, fB_eq, fP_eq, fA_eq, fS_eq, fO_eq, fV_eq, fL_eq, fMem_eq, fMm_eq, fR_eq, allocS_eq, stNS_eq, st1S_eq, setMS_eq]

noncomputable def s_slices_insertionSortCmpFunc_api_Run_l0 (k n : Nat) (p0 : Option Addr) (c1 : Nat) (c2 : Nat) (i3 : Int) (i4 : Int) (v5 : Value) (x8 : Int) (σ : AMem) : Option LOut := match n with
  | 0 => none
  | n + 1 => (fP p0 fun p0 => fN c1 fun c1 => fN c2 fun c2 => fI i3 fun i3 => fI i4 fun i4 => fI x8 fun x8 => fL σ fun σ => bif decide (x8 < i4) then ((s_slices_insertionSortCmpFunc_api_Run_l1 k k p0 c1 c2 i3 v5 x8 σ).bind fun r20 => if r20.1 = .exit 2 then (s_slices_insertionSortCmpFunc_api_Run_l0 k n p0 c1 c2 i3 i4 v5 (w64 (x8 + (1 : Int))) r20.2.2) else none) else (some (.exit 0, [], σ)))
termination_by structural n

theorem slices_insertionSortCmpFunc_api_Run_l0_is (k n : Nat) (p0 : Option Addr) (c1 : Nat) (c2 : Nat) (i3 : Int) (i4 : Int) (v5 : Value) (x8 : Int) (σ : AMem) : d_slices_insertionSortCmpFunc_api_Run_l0 k n p0 c1 c2 i3 i4 v5 x8 σ = s_slices_insertionSortCmpFunc_api_Run_l0 k n p0 c1 c2 i3 i4 v5 x8 σ := by
  induction n generalizing p0 c1 c2 i3 i4 v5 x8 σ with
  | zero => simp only [d_slices_insertionSortCmpFunc_api_Run_l0, hide_eq]; rfl
  | succ n ih => rw [d_slices_insertionSortCmpFunc_api_Run_l0_eq, b_slices_insertionSortCmpFunc_api_Run_l0, s_slices_insertionSortCmpFunc_api_Run_l0]; simp only [callV_iiii_i_is, slices_insertionSortCmpFunc_api_Run_l1_is, ih, fI_eq, fN_eq, fB_eq, fP_eq, fA_eq, fS_eq, fO_eq, fV_eq, fL_eq, fMem_eq, fMm_eq, fR_eq, allocS_eq, stNS_eq, st1S_eq, setMS_eq]

noncomputable def s_slices_insertionSortCmpFunc_api_Run (k : Nat) (x0 : Option Addr × Nat × Nat) (x1 : Int) (x2 : Int) (x3 : Value) (σ : AMem) : Option (Value × AMem) := match k with
  | 0 => none
  | k + 1 => (fS x0 fun x0 => fI x1 fun x1 => fI x2 fun x2 => fL σ fun σ => (s_slices_insertionSortCmpFunc_api_Run_l0 k k x0.1 x0.2.1 x0.2.2 x1 x2 x3 (w64 (x1 + (1 : Int))) σ).bind fun r21 => if r21.1 = .exit 0 then (some (.tuple #[], r21.2.2)) else none)

theorem slices_insertionSortCmpFunc_api_Run_is (k : Nat) (x0 : Option Addr × Nat × Nat) (x1 : Int) (x2 : Int) (x3 : Value) (σ : AMem) : d_slices_insertionSortCmpFunc_api_Run k x0 x1 x2 x3 σ = s_slices_insertionSortCmpFunc_api_Run k x0 x1 x2 x3 σ := by
  cases k with
  | zero => simp only [d_slices_insertionSortCmpFunc_api_Run, hide_eq]; rfl
  | succ k => rw [d_slices_insertionSortCmpFunc_api_Run_eq, b_slices_insertionSortCmpFunc_api_Run, s_slices_insertionSortCmpFunc_api_Run]; simp only [callV_iiii_i_is, slices_insertionSortCmpFunc_api_Run_l1_is, slices_insertionSortCmpFunc_api_Run_l0_is, fI_eq, fN_eq, fB_eq, fP_eq, fA_eq, fS_eq, fO_eq, fV_eq, fL_eq, fMem_eq, fMm_eq, fR_eq, allocS_eq, stNS_eq, st1S_eq, setMS_eq]

noncomputable def s_slices_symMergeCmpFunc_api_Run (k : Nat) (x0 : Option Addr × Nat × Nat) (x1 : Int) (x2 : Int) (x3 : Int) (x4 : Value) (σ : AMem) : Option (Value × AMem) := d_slices_symMergeCmpFunc_api_Run k x0 x1 x2 x3 x4 σ
theorem slices_symMergeCmpFunc_api_Run_is (k : Nat) (x0 : Option Addr × Nat × Nat) (x1 : Int) (x2 : Int) (x3 : Int) (x4 : Value) (σ : AMem) : d_slices_symMergeCmpFunc_api_Run k x0 x1 x2 x3 x4 σ = s_slices_symMergeCmpFunc_api_Run k x0 x1 x2 x3 x4 σ := rfl

noncomputable def s_slices_stableCmpFunc_api_Run_l0 (k n : Nat) (p0 : Option Addr) (c1 : Nat) (c2 : Nat) (i3 : Int) (v4 : Value) (x7 : Int) (x8 : Int) (σ : AMem) : Option LOut := match n with
  | 0 => none
  | n + 1 => (fP p0 fun p0 => fN c1 fun c1 => fN c2 fun c2 => fI i3 fun i3 => fI x7 fun x7 => fI x8 fun x8 => fL σ fun σ => bif decide (x8 ≤ i3) then ((s_slices_insertionSortCmpFunc_api_Run k (p0, c1, c2) x7 x8 (v4) σ).bind fun r1 => r_0 r1.1 (s_slices_stableCmpFunc_api_Run_l0 k n p0 c1 c2 i3 v4 x8 (w64 (x8 + (20 : Int))) r1.2)) else (some (.exit 0, [.int .i64 x7], σ)))
termination_by structural n

theorem slices_stableCmpFunc_api_Run_l0_is (k n : Nat) (p0 : Option Addr) (c1 : Nat) (c2 : Nat) (i3 : Int) (v4 : Value) (x7 : Int) (x8 : Int) (σ : AMem) : d_slices_stableCmpFunc_api_Run_l0 k n p0 c1 c2 i3 v4 x7 x8 σ = s_slices_stableCmpFunc_api_Run_l0 k n p0 c1 c2 i3 v4 x7 x8 σ := by
  induction n generalizing p0 c1 c2 i3 v4 x7 x8 σ with
  | zero => simp only [d_slices_stableCmpFunc_api_Run_l0, hide_eq]; rfl
  | succ n ih => rw [d_slices_stableCmpFunc_api_Run_l0_eq, b_slices_stableCmpFunc_api_Run_l0, s_slices_stableCmpFunc_api_Run_l0]; simp only [slices_insertionSortCmpFunc_api_Run_is, slices_symMergeCmpFunc_api_Run_is, ih, fI_eq, fN_eq, fB_eq, fP_eq, fA_eq, fS_eq, fO_eq, fV_eq, fL_eq, fMem_eq, fMm_eq, fR_eq, allocS_eq, stNS_eq, st1S_eq, setMS_eq]

noncomputable def s_slices_stableCmpFunc_api_Run_l2 (k n : Nat) (p0 : Option Addr) (c1 : Nat) (c2 : Nat) (i3 : Int) (v4 : Value) (i5 : Int) (x7 : Int) (x8 : Int) (σ : AMem) : Option LOut := match n with
  | 0 => none
  | n + 1 => (fP p0 fun p0 => fN c1 fun c1 => fN c2 fun c2 => fI i3 fun i3 => fI i5 fun i5 => fI x7 fun x7 => fI x8 fun x8 => fL σ fun σ => bif decide (x8 ≤ i3) then ((s_slices_symMergeCmpFunc_api_Run k (p0, c1, c2) x7 (w64 (x7 + i5)) x8 (v4) σ).bind fun r5 => r_0 r5.1 (s_slices_stableCmpFunc_api_Run_l2 k n p0 c1 c2 i3 v4 i5 x8 (w64 (x8 + (w64 ((2 : Int) * i5)))) r5.2)) else (some (.exit 4, [.int .i64 x7], σ)))
termination_by structural n

theorem slices_stableCmpFunc_api_Run_l2_is (k n : Nat) (p0 : Option Addr) (c1 : Nat) (c2 : Nat) (i3 : Int) (v4 : Value) (i5 : Int) (x7 : Int) (x8 : Int) (σ : AMem) : d_slices_stableCmpFunc_api_Run_l2 k n p0 c1 c2 i3 v4 i5 x7 x8 σ = s_slices_stableCmpFunc_api_Run_l2 k n p0 c1 c2 i3 v4 i5 x7 x8 σ := by
  induction n generalizing p0 c1 c2 i3 v4 i5 x7 x8 σ with
  | zero => simp only [d_slices_stableCmpFunc_api_Run_l2, hide_eq]; rfl
  | succ n ih => rw [d_slices_stableCmpFunc_api_Run_l2_eq, b_slices_stableCmpFunc_api_Run_l2, s_slices_stableCmpFunc_api_Run_l2]; simp only [slices_insertionSortCmpFunc_api_Run_is, slices_symMergeCmpFunc_api_Run_is, slices_stableCmpFunc_api_Run_l0_is, ih, fI_eq, fN_eq, fB_eq, fP_eq, fA_eq, fS_eq, fO_eq, fV_eq, fL_eq, fMem_eq, fMm_eq, fR_eq, allocS_eq, stNS_eq, st1S_eq, setMS_eq]

noncomputable def s_slices_stableCmpFunc_api_Run_l1 (k n : Nat) (p0 : Option Addr) (c1 : Nat) (c2 : Nat) (i3 : Int) (v4 : Value) (x6 : Int) (σ : AMem) : Option LOut := match n with
  | 0 => none
  | n + 1 => (fP p0 fun p0 => fN c1 fun c1 => fN c2 fun c2 => fI i3 fun i3 => fI x6 fun x6 => fL σ fun σ => bif decide (x6 < i3) then ((s_slices_stableCmpFunc_api_Run_l2 k k p0 c1 c2 i3 v4 x6 (0 : Int) (w64 ((2 : Int) * x6)) σ).bind fun r6 => if r6.1 = .exit 4 then (u_i r6.2.1 fun n7 => (bif decide ((w64 (n7 + x6)) < i3) then ((s_slices_symMergeCmpFunc_api_Run k (p0, c1, c2) n7 (w64 (n7 + x6)) i3 (v4) r6.2.2).bind fun r8 => r_0 r8.1 (some (.normal, [], r8.2))) else (some (.normal, [], r6.2.2)) : Option LOut).bind fun r9 => if r9.1 = .normal then (s_slices_stableCmpFunc_api_Run_l1 k n p0 c1 c2 i3 v4 (w64 (x6 * (2 : Int))) r9.2.2) else none) else none) else (some (.exit 2, [], σ)))
termination_by structural n

theorem slices_stableCmpFunc_api_Run_l1_is (k n : Nat) (p0 : Option Addr) (c1 : Nat) (c2 : Nat) (i3 : Int) (v4 : Value) (x6 : Int) (σ : AMem) : d_slices_stableCmpFunc_api_Run_l1 k n p0 c1 c2 i3 v4 x6 σ = s_slices_stableCmpFunc_api_Run_l1 k n p0 c1 c2 i3 v4 x6 σ := by
  induction n generalizing p0 c1 c2 i3 v4 x6 σ with
  | zero => simp only [d_slices_stableCmpFunc_api_Run_l1, hide_eq]; rfl
  | succ n ih => rw [d_slices_stableCmpFunc_api_Run_l1_eq, b_slices_stableCmpFunc_api_Run_l1, s_slices_stableCmpFunc_api_Run_l1]; simp only [slices_insertionSortCmpFunc_api_Run_is, slices_symMergeCmpFunc_api_Run_is, slices_stableCmpFunc_api_Run_l0_is, slices_stableCmpFunc_api_Run_l2_is, ih, fI_eq, fN_eq, fB_eq, fP_eq, fA_eq, fS_eq, fO_eq, fV_eq, fL_eq, fMem_eq, fMm_eq, fR_eq, allocS_eq, stNS_eq, st1S_eq, setMS_eq]

noncomputable def s_slices_stableCmpFunc_api_Run (k : Nat) (x0 : Option Addr × Nat × Nat) (x1 : Int) (x2 : Value) (σ : AMem) : Option (Value × AMem) := match k with
  | 0 => none
  | k + 1 => (fS x0 fun x0 => fI x1 fun x1 => fL σ fun σ => (s_slices_stableCmpFunc_api_Run_l0 k k x0.1 x0.2.1 x0.2.2 x1 x2 (0 : Int) (20 : Int) σ).bind fun r2 => if r2.1 = .exit 0 then (u_i r2.2.1 fun n3 => (s_slices_insertionSortCmpFunc_api_Run k (x0.1, x0.2.1, x0.2.2) n3 x1 (x2) r2.2.2).bind fun r4 => r_0 r4.1 ((s_slices_stableCmpFunc_api_Run_l1 k k x0.1 x0.2.1 x0.2.2 x1 x2 (20 : Int) r4.2).bind fun r10 => if r10.1 = .exit 2 then (some (.tuple #[], r10.2.2)) else none)) else none)

theorem slices_stableCmpFunc_api_Run_is (k : Nat) (x0 : Option Addr × Nat × Nat) (x1 : Int) (x2 : Value) (σ : AMem) : d_slices_stableCmpFunc_api_Run k x0 x1 x2 σ = s_slices_stableCmpFunc_api_Run k x0 x1 x2 σ := by
  cases k with
  | zero => simp only [d_slices_stableCmpFunc_api_Run, hide_eq]; rfl
  | succ k => rw [d_slices_stableCmpFunc_api_Run_eq, b_slices_stableCmpFunc_api_Run, s_slices_stableCmpFunc_api_Run]; simp only [slices_insertionSortCmpFunc_api_Run_is, slices_symMergeCmpFunc_api_Run_is, slices_stableCmpFunc_api_Run_l0_is, slices_stableCmpFunc_api_Run_l2_is, slices_stableCmpFunc_api_Run_l1_is, fI_eq, fN_eq, fB_eq, fP_eq, fA_eq, fS_eq, fO_eq, fV_eq, fL_eq, fMem_eq, fMm_eq, fR_eq, allocS_eq, stNS_eq, st1S_eq, setMS_eq]

noncomputable def s_slices_SortStableFunc_api_Run (k : Nat) (x0 : Option Addr × Nat × Nat) (x1 : Value) (σ : AMem) : Option (Value × AMem) := match k with
  | 0 => none
  | k + 1 => (fS x0 fun x0 => fL σ fun σ => (s_slices_stableCmpFunc_api_Run k (x0.1, x0.2.1, x0.2.2) ((x0.2.1 : Nat) : Int) (x1) σ).bind fun r1 => r_0 r1.1 (some (.tuple #[], r1.2)))

theorem slices_SortStableFunc_api_Run_is (k : Nat) (x0 : Option Addr × Nat × Nat) (x1 : Value) (σ : AMem) : d_slices_SortStableFunc_api_Run k x0 x1 σ = s_slices_SortStableFunc_api_Run k x0 x1 σ := by
  cases k with
  | zero => simp only [d_slices_SortStableFunc_api_Run, hide_eq]; rfl
  | succ k => rw [d_slices_SortStableFunc_api_Run_eq, b_slices_SortStableFunc_api_Run, s_slices_SortStableFunc_api_Run]; simp only [slices_stableCmpFunc_api_Run_is, fI_eq, fN_eq, fB_eq, fP_eq, fA_eq, fS_eq, fO_eq, fV_eq, fL_eq, fMem_eq, fMm_eq, fR_eq, allocS_eq, stNS_eq, st1S_eq, setMS_eq]

noncomputable def s_alloc_best_place (k : Nat) (x1 : Option Addr) (x2 : Int) (σ : AMem) : Option (Value × AMem) := match k with
  | 0 => none
  | k + 1 => (fP x1 fun x1 => fI x2 fun x2 => fL σ fun σ => allocS σ (.cells [] 75 true) fun h1 s2 => (s_alloc_Allocator_gaps k x1 (0 : Int) x2 s2).bind fun r3 => (toS r3.1).bind fun l4 => (s_slices_SortStableFunc_api_Run k (l4.1, l4.2.1, l4.2.2) (.func (.func 84) #[] #[]) r3.2).bind fun r5 => r_0 r5.1 ((s_alloc_Allocator_start k x1 (l4.1, l4.2.1, l4.2.2) r5.2).bind fun r6 => r_it r6.1 fun n7 b8 => fI n7 fun y9 => fB b8 fun y10 => some (.tuple #[.int .i64 y9, .bool y10], r6.2)))

theorem alloc_best_place_is (k : Nat) (x1 : Option Addr) (x2 : Int) (σ : AMem) : d_alloc_best_place k x1 x2 σ = s_alloc_best_place k x1 x2 σ := by
  cases k with
  | zero => simp only [d_alloc_best_place, hide_eq]; rfl
  | succ k => rw [d_alloc_best_place_eq, b_alloc_best_place, s_alloc_best_place]; simp only [alloc_Allocator_start_is, alloc_Allocator_gaps_is, slices_SortStableFunc_api_Run_is, fI_eq, fN_eq, fB_eq, fP_eq, fA_eq, fS_eq, fO_eq, fV_eq, fL_eq, fMem_eq, fMm_eq, fR_eq, allocS_eq, stNS_eq, st1S_eq, setMS_eq]

theorem alloc_best_place_raw (k : Nat) (x1 : Option Addr) (x2 : Int) (σ : AMem) : fn P (XK Kn.b) H k 82 [.agg #[], .pointer x1, .int .i64 x2] σ = d_alloc_best_place k x1 x2 σ := by
  simp only [d_alloc_best_place, hide_eq]

noncomputable def s_alloc_next_place (k : Nat) (x1 : Option Addr) (x2 : Int) (σ : AMem) : Option (Value × AMem) := match k with
  | 0 => none
  | k + 1 => (fP x1 fun x1 => fI x2 fun x2 => fL σ fun σ => allocS σ (.cells [] 76 true) fun h1 s2 => x1.bind fun a3 => (ldI .i64 s2 a3.block (a3.off + 3 + 0)).bind fun n4 => (s_alloc_Allocator_gaps k x1 n4 x2 s2).bind fun r5 => (toS r5.1).bind fun l6 => (s_alloc_Allocator_gaps k x1 (0 : Int) x2 r5.2).bind fun r7 => (toS r7.1).bind fun l8 => (appendD P 110 (l6.1, l6.2.1, l6.2.2) (l8.1, l8.2.1, l8.2.2) r7.2).bind fun r9 => fR r9 fun r9 => (s_alloc_Allocator_start k x1 (r9.1.1, r9.1.2.1, r9.1.2.2) r9.2).bind fun r10 => r_it r10.1 fun n11 b12 => (bif b12 then (x1.bind fun a13 => st1S r10.2 a13.block (a13.off + 3 + 0) (.int .i64 (w64 (n11 + x2))) fun s14 => some (.normal, [], s14)) else (some (.normal, [], r10.2)) : Option LOut).bind fun r15 => if r15.1 = .normal then (fI n11 fun y16 => fB b12 fun y17 => some (.tuple #[.int .i64 y16, .bool y17], r15.2.2)) else none)

theorem alloc_next_place_is (k : Nat) (x1 : Option Addr) (x2 : Int) (σ : AMem) : d_alloc_next_place k x1 x2 σ = s_alloc_next_place k x1 x2 σ := by
  cases k with
  | zero => simp only [d_alloc_next_place, hide_eq]; rfl
  | succ k => rw [d_alloc_next_place_eq, b_alloc_next_place, s_alloc_next_place]; simp only [alloc_Allocator_start_is, alloc_Allocator_gaps_is, fI_eq, fN_eq, fB_eq, fP_eq, fA_eq, fS_eq, fO_eq, fV_eq, fL_eq, fMem_eq, fMm_eq, fR_eq, allocS_eq, stNS_eq, st1S_eq, setMS_eq]

theorem alloc_next_place_raw (k : Nat) (x1 : Option Addr) (x2 : Int) (σ : AMem) : fn P (XK Kn.b) H k 90 [.agg #[], .pointer x1, .int .i64 x2] σ = d_alloc_next_place k x1 x2 σ := by
  simp only [d_alloc_next_place, hide_eq]

noncomputable def s_alloc_area_has (k : Nat) (x0 : Option Addr) (x1 : Int) (σ : AMem) : Option (Value × AMem) := match k with
  | 0 => none
  | k + 1 => (fP x0 fun x0 => fI x1 fun x1 => fL σ fun σ => x0.bind fun a1 => (ldI .i64 σ a1.block (a1.off + 1)).bind fun n2 => x0.bind fun a3 => (ldI .i64 σ a3.block (a3.off + 0)).bind fun n4 => fB (decide ((w64 (n2 - n4)) ≥ x1)) fun y5 => some (.bool y5, σ))

theorem alloc_area_has_is (k : Nat) (x0 : Option Addr) (x1 : Int) (σ : AMem) : d_alloc_area_has k x0 x1 σ = s_alloc_area_has k x0 x1 σ := by
  cases k with
  | zero => simp only [d_alloc_area_has, hide_eq]; rfl
  | succ k => rw [d_alloc_area_has_eq, b_alloc_area_has, s_alloc_area_has]; simp only [fI_eq, fN_eq, fB_eq, fP_eq, fA_eq, fS_eq, fO_eq, fV_eq, fL_eq, fMem_eq, fMm_eq, fR_eq, allocS_eq, stNS_eq, st1S_eq, setMS_eq]

noncomputable def s_alloc_area_take (k : Nat) (x0 : Option Addr) (x1 : Int) (σ : AMem) : Option (Value × AMem) := match k with
  | 0 => none
  | k + 1 => (fP x0 fun x0 => fI x1 fun x1 => fL σ fun σ => x0.bind fun a1 => (ldI .i64 σ a1.block (a1.off + 0)).bind fun n2 => x0.bind fun a3 => st1S σ a3.block (a3.off + 0) (.int .i64 (w64 (n2 + x1))) fun s4 => x0.bind fun a5 => (ldI .i64 s4 a5.block (a5.off + 0)).bind fun n6 => fI (w64 (n6 - x1)) fun y7 => some (.int .i64 y7, s4))

theorem alloc_area_take_is (k : Nat) (x0 : Option Addr) (x1 : Int) (σ : AMem) : d_alloc_area_take k x0 x1 σ = s_alloc_area_take k x0 x1 σ := by
  cases k with
  | zero => simp only [d_alloc_area_take, hide_eq]; rfl
  | succ k => rw [d_alloc_area_take_eq, b_alloc_area_take, s_alloc_area_take]; simp only [fI_eq, fN_eq, fB_eq, fP_eq, fA_eq, fS_eq, fO_eq, fV_eq, fL_eq, fMem_eq, fMm_eq, fR_eq, allocS_eq, stNS_eq, st1S_eq, setMS_eq]

noncomputable def s_alloc_Allocator_bumped (k : Nat) (x0 : Option Addr) (x1 : Option Addr) (x2 : Int) (σ : AMem) : Option (Value × AMem) := match k with
  | 0 => none
  | k + 1 => (fP x0 fun x0 => fP x1 fun x1 => fI x2 fun x2 => fL σ fun σ => (s_alloc_area_has k x1 x2 σ).bind fun r1 => (toB r1.1).bind fun b2 => (bif !b2 then ((s_alloc_Allocator_begin k x0 r1.2).bind fun r3 => (toT r3.1).bind fun q4 => if q4.length = 2 then q4.head?.bind fun v5 => a_ii v5 fun n6 n7 => q4.tail.head?.bind fun v8 => (toB v8).bind fun b9 => allocS r3.2 (.cells [.int .i64 (0 : Int), .int .i64 (0 : Int)] 54 true) fun h10 s11 => stNS s11 h10 0 [.int .i64 n6, .int .i64 n7] fun s12 => bif !b9 then (some (.ret, [.int .i64 (0 : Int), .bool false], s12)) else ((ldI .i64 s12 h10 0).bind fun n13 => (ldI .i64 s12 h10 (0 + 1)).bind fun n14 => x1.bind fun a15 => stNS s12 a15.block a15.off [.int .i64 n13, .int .i64 n14] fun s16 => some (.normal, [], s16)) else none) else (some (.normal, [], r1.2)) : Option LOut).bind fun r17 => if r17.1 = .normal then ((s_alloc_area_take k x1 x2 r17.2.2).bind fun r18 => (toI .i64 r18.1).bind fun n19 => fI n19 fun y20 => fB true fun y21 => some (.tuple #[.int .i64 y20, .bool y21], r18.2)) else if r17.1 = .ret then (u_it r17.2.1 fun n22 b23 => fI n22 fun y24 => fB b23 fun y25 => some (.tuple #[.int .i64 y24, .bool y25], r17.2.2)) else none)

theorem alloc_Allocator_bumped_is (k : Nat) (x0 : Option Addr) (x1 : Option Addr) (x2 : Int) (σ : AMem) : d_alloc_Allocator_bumped k x0 x1 x2 σ = s_alloc_Allocator_bumped k x0 x1 x2 σ := by
  cases k with
  | zero => simp only [d_alloc_Allocator_bumped, hide_eq]; rfl
  | succ k => rw [d_alloc_Allocator_bumped_eq, b_alloc_Allocator_bumped, s_alloc_Allocator_bumped]; simp only [alloc_Allocator_begin_is, alloc_area_has_is, alloc_area_take_is, fI_eq, fN_eq, fB_eq, fP_eq, fA_eq, fS_eq, fO_eq, fV_eq, fL_eq, fMem_eq, fMm_eq, fR_eq, allocS_eq, stNS_eq, st1S_eq, setMS_eq]

noncomputable def s_alloc_bump_place (k : Nat) (x1 : Option Addr) (x2 : Int) (σ : AMem) : Option (Value × AMem) := match k with
  | 0 => none
  | k + 1 => (fP x1 fun x1 => fI x2 fun x2 => fL σ fun σ => allocS σ (.cells [] 77 true) fun h1 s2 => x1.bind fun a3 => (s_alloc_Allocator_bumped k x1 (some ⟨a3.block, a3.off + 3, none⟩) x2 s2).bind fun r4 => r_it r4.1 fun n5 b6 => fI n5 fun y7 => fB b6 fun y8 => some (.tuple #[.int .i64 y7, .bool y8], r4.2))

theorem alloc_bump_place_is (k : Nat) (x1 : Option Addr) (x2 : Int) (σ : AMem) : d_alloc_bump_place k x1 x2 σ = s_alloc_bump_place k x1 x2 σ := by
  cases k with
  | zero => simp only [d_alloc_bump_place, hide_eq]; rfl
  | succ k => rw [d_alloc_bump_place_eq, b_alloc_bump_place, s_alloc_bump_place]; simp only [alloc_Allocator_bumped_is, fI_eq, fN_eq, fB_eq, fP_eq, fA_eq, fS_eq, fO_eq, fV_eq, fL_eq, fMem_eq, fMm_eq, fR_eq, allocS_eq, stNS_eq, st1S_eq, setMS_eq]

theorem alloc_bump_place_raw (k : Nat) (x1 : Option Addr) (x2 : Int) (σ : AMem) : fn P (XK Kn.b) H k 91 [.agg #[], .pointer x1, .int .i64 x2] σ = d_alloc_bump_place k x1 x2 σ := by
  simp only [d_alloc_bump_place, hide_eq]

noncomputable def s_heap_Heap_Lines_l1 (k n : Nat) (h0 : Nat) (c1 : Nat) (i2 : Int) (x10 : Int) (σ : AMem) : Option LOut := match n with
  | 0 => none
  | n + 1 => (fN h0 fun h0 => fN c1 fun c1 => fI i2 fun i2 => fI x10 fun x10 => fL σ fun σ => if (8 : Int) = 0 then none else bif decide (x10 ≤ (w64 (i2.tdiv (8 : Int)))) then (if 0 ≤ x10 ∧ x10 < (c1 : Nat) then st1S σ h0 (0 + x10.toNat * 1) (.bool true) fun s11 => s_heap_Heap_Lines_l1 k n h0 c1 i2 (w64 (x10 + (1 : Int))) s11 else none) else (some (.exit 2, [], σ)))
termination_by structural n

theorem heap_Heap_Lines_l1_is (k n : Nat) (h0 : Nat) (c1 : Nat) (i2 : Int) (x10 : Int) (σ : AMem) : d_heap_Heap_Lines_l1 k n h0 c1 i2 x10 σ = s_heap_Heap_Lines_l1 k n h0 c1 i2 x10 σ := by
  induction n generalizing h0 c1 i2 x10 σ with
  | zero => simp only [d_heap_Heap_Lines_l1, hide_eq]; rfl
  | succ n ih => rw [d_heap_Heap_Lines_l1_eq, b_heap_Heap_Lines_l1, s_heap_Heap_Lines_l1]; simp only [heap_Heap_size_is, heap_Heap_used_is, heap_Heap_Objects_is, ih, fI_eq, fN_eq, fB_eq, fP_eq, fA_eq, fS_eq, fO_eq, fV_eq, fL_eq, fMem_eq, fMm_eq, fR_eq, allocS_eq, stNS_eq, st1S_eq, setMS_eq]

noncomputable def s_heap_Heap_Lines_l0 (k n : Nat) (p0 : Option Addr) (h1 : Nat) (c2 : Nat) (p3 : Option Addr) (c4 : Nat) (c5 : Nat) (i6 : Int) (x20 : Int) (σ : AMem) : Option LOut := match n with
  | 0 => none
  | n + 1 => (fP p0 fun p0 => fN h1 fun h1 => fN c2 fun c2 => fP p3 fun p3 => fN c4 fun c4 => fN c5 fun c5 => fI i6 fun i6 => fI x20 fun x20 => fL σ fun σ => bif decide (x20 < i6) then (if 0 ≤ x20 ∧ x20 < (c4 : Nat) then p3.bind fun a7 => (ldI .i64 σ a7.block (a7.off + x20.toNat * 1)).bind fun n8 => if (64 : Int) = 0 then none else if (64 : Int) = 0 then none else (s_heap_Heap_size k p0 n8 σ).bind fun r9 => (toI .i64 r9.1).bind fun n10 => if (8 : Int) = 0 then none else (s_heap_Heap_Lines_l1 k k h1 c2 (w64 ((w64 ((n8.tmod (64 : Int)) + n10)) - (1 : Int))) (w64 ((n8.tmod (64 : Int)).tdiv (8 : Int))) r9.2).bind fun r12 => if r12.1 = .exit 2 then (s_heap_Heap_Lines_l0 k n p0 h1 c2 p3 c4 c5 i6 (w64 (x20 + (1 : Int))) r12.2.2) else none else none) else (some (.exit 0, [], σ)))
termination_by structural n

theorem heap_Heap_Lines_l0_is (k n : Nat) (p0 : Option Addr) (h1 : Nat) (c2 : Nat) (p3 : Option Addr) (c4 : Nat) (c5 : Nat) (i6 : Int) (x20 : Int) (σ : AMem) : d_heap_Heap_Lines_l0 k n p0 h1 c2 p3 c4 c5 i6 x20 σ = s_heap_Heap_Lines_l0 k n p0 h1 c2 p3 c4 c5 i6 x20 σ := by
  induction n generalizing p0 h1 c2 p3 c4 c5 i6 x20 σ with
  | zero => simp only [d_heap_Heap_Lines_l0, hide_eq]; rfl
  | succ n ih => rw [d_heap_Heap_Lines_l0_eq, b_heap_Heap_Lines_l0, s_heap_Heap_Lines_l0]; simp only [heap_Heap_size_is, heap_Heap_used_is, heap_Heap_Objects_is, heap_Heap_Lines_l1_is, ih, fI_eq, fN_eq, fB_eq, fP_eq, fA_eq, fS_eq, fO_eq, fV_eq, fL_eq, fMem_eq, fMm_eq, fR_eq, allocS_eq, stNS_eq, st1S_eq, setMS_eq]

noncomputable def s_heap_Heap_Lines (k : Nat) (x0 : Option Addr) (x1 : Int) (σ : AMem) : Option (Value × AMem) := match k with
  | 0 => none
  | k + 1 => (fP x0 fun x0 => fI x1 fun x1 => fL σ fun σ => (s_heap_Heap_used k x0 x1 σ).bind fun r1 => (toB r1.1).bind fun b2 => bif !b2 then (some (.slice none 0 0, r1.2)) else (if 0 ≤ (8 : Int) ∧ (8 : Int) ≤ (8 : Int) ∧ (8 : Int) * (1 : Nat) ≤ 2 ^ 40 ∧ (8 : Int) ≤ 2 ^ 40 then allocS r1.2 (.cells (rep (8 : Int).toNat [.bool false]) 4 true) fun h3 s4 => (s_heap_Heap_Objects k x0 x1 s4).bind fun r5 => (toS r5.1).bind fun l6 => (s_heap_Heap_Lines_l0 k k x0 h3 ((8 : Int).toNat) l6.1 l6.2.1 l6.2.2 ((l6.2.1 : Nat) : Int) (0 : Int) r5.2).bind fun r13 => if r13.1 = .exit 0 then (some (.slice (some ⟨h3, 0, none⟩) ((8 : Int).toNat) ((8 : Int).toNat), r13.2.2)) else none else none))

theorem heap_Heap_Lines_is (k : Nat) (x0 : Option Addr) (x1 : Int) (σ : AMem) : d_heap_Heap_Lines k x0 x1 σ = s_heap_Heap_Lines k x0 x1 σ := by
  cases k with
  | zero => simp only [d_heap_Heap_Lines, hide_eq]; rfl
  | succ k => rw [d_heap_Heap_Lines_eq, b_heap_Heap_Lines, s_heap_Heap_Lines]; simp only [heap_Heap_size_is, heap_Heap_used_is, heap_Heap_Objects_is, heap_Heap_Lines_l1_is, heap_Heap_Lines_l0_is, fI_eq, fN_eq, fB_eq, fP_eq, fA_eq, fS_eq, fO_eq, fV_eq, fL_eq, fMem_eq, fMm_eq, fR_eq, allocS_eq, stNS_eq, st1S_eq, setMS_eq]

noncomputable def s_alloc_Allocator_hole_l2 (k n : Nat) (p0 : Option Addr) (c1 : Nat) (c2 : Nat) (x8 : Int) (σ : AMem) : Option LOut := match n with
  | 0 => none
  | n + 1 => (fP p0 fun p0 => fN c1 fun c1 => fN c2 fun c2 => fI x8 fun x8 => fL σ fun σ => (bif decide (x8 < ((c1 : Nat) : Int)) then if 0 ≤ x8 ∧ x8 < (c1 : Nat) then p0.bind fun a11 => (ldB σ a11.block (a11.off + x8.toNat * 1)).bind fun b12 => some (!b12, σ) else none else some (false, σ)).bind fun r13 => bif r13.1 then (s_alloc_Allocator_hole_l2 k n p0 c1 c2 (w64 (x8 + (1 : Int))) r13.2) else (some (.exit 4, [.int .i64 x8], r13.2)))
termination_by structural n

theorem alloc_Allocator_hole_l2_is (k n : Nat) (p0 : Option Addr) (c1 : Nat) (c2 : Nat) (x8 : Int) (σ : AMem) : d_alloc_Allocator_hole_l2 k n p0 c1 c2 x8 σ = s_alloc_Allocator_hole_l2 k n p0 c1 c2 x8 σ := by
  induction n generalizing p0 c1 c2 x8 σ with
  | zero => simp only [d_alloc_Allocator_hole_l2, hide_eq]; rfl
  | succ n ih => rw [d_alloc_Allocator_hole_l2_eq, b_alloc_Allocator_hole_l2, s_alloc_Allocator_hole_l2]; simp only [alloc_Allocator_begin_is, alloc_Allocator_blocks_is, heap_Heap_Lines_is, ih, fI_eq, fN_eq, fB_eq, fP_eq, fA_eq, fS_eq, fO_eq, fV_eq, fL_eq, fMem_eq, fMm_eq, fR_eq, allocS_eq, stNS_eq, st1S_eq, setMS_eq]

noncomputable def s_alloc_Allocator_hole_l1 (k n : Nat) (p0 : Option Addr) (h1 : Nat) (i2 : Int) (p3 : Option Addr) (c4 : Nat) (c5 : Nat) (x7 : Int) (σ : AMem) : Option LOut := match n with
  | 0 => none
  | n + 1 => (fP p0 fun p0 => fN h1 fun h1 => fI i2 fun i2 => fP p3 fun p3 => fN c4 fun c4 => fN c5 fun c5 => fI x7 fun x7 => fL σ fun σ => bif decide (x7 < ((c4 : Nat) : Int)) then ((s_alloc_Allocator_hole_l2 k k p3 c4 c5 x7 σ).bind fun r14 => if r14.1 = .exit 4 then (u_i r14.2.1 fun n15 => (bif decide (n15 > x7) then p0.bind fun a16 => (ldI .i64 r14.2.2 a16.block (a16.off + 3 + 1)).bind fun n17 => some (decide ((w64 ((w64 (i2 * (64 : Int))) + (w64 (x7 * (8 : Int))))) ≥ n17), r14.2.2) else some (false, r14.2.2)).bind fun r18 => bif r18.1 then (stNS r18.2 h1 0 [.int .i64 (w64 ((w64 (i2 * (64 : Int))) + (w64 (x7 * (8 : Int))))), .int .i64 (w64 ((w64 (i2 * (64 : Int))) + (w64 (n15 * (8 : Int)))))] fun s19 => some (.ret, [.bool true], s19)) else (s_alloc_Allocator_hole_l1 k n p0 h1 i2 p3 c4 c5 (w64 ((if n15 > x7 then n15 else x7) + (1 : Int))) r18.2)) else none) else (some (.exit 2, [], σ)))
termination_by structural n

theorem alloc_Allocator_hole_l1_is (k n : Nat) (p0 : Option Addr) (h1 : Nat) (i2 : Int) (p3 : Option Addr) (c4 : Nat) (c5 : Nat) (x7 : Int) (σ : AMem) : d_alloc_Allocator_hole_l1 k n p0 h1 i2 p3 c4 c5 x7 σ = s_alloc_Allocator_hole_l1 k n p0 h1 i2 p3 c4 c5 x7 σ := by
  induction n generalizing p0 h1 i2 p3 c4 c5 x7 σ with
  | zero => simp only [d_alloc_Allocator_hole_l1, hide_eq]; rfl
  | succ n ih => rw [d_alloc_Allocator_hole_l1_eq, b_alloc_Allocator_hole_l1, s_alloc_Allocator_hole_l1]; simp only [alloc_Allocator_begin_is, alloc_Allocator_blocks_is, heap_Heap_Lines_is, alloc_Allocator_hole_l2_is, ih, fI_eq, fN_eq, fB_eq, fP_eq, fA_eq, fS_eq, fO_eq, fV_eq, fL_eq, fMem_eq, fMm_eq, fR_eq, allocS_eq, stNS_eq, st1S_eq, setMS_eq]

noncomputable def s_alloc_Allocator_hole_l0 (k n : Nat) (p0 : Option Addr) (h1 : Nat) (p2 : Option Addr) (c3 : Nat) (c4 : Nat) (i5 : Int) (x13 : Int) (σ : AMem) : Option LOut := match n with
  | 0 => none
  | n + 1 => (fP p0 fun p0 => fN h1 fun h1 => fP p2 fun p2 => fN c3 fun c3 => fN c4 fun c4 => fI i5 fun i5 => fI x13 fun x13 => fL σ fun σ => bif decide (x13 < i5) then (if 0 ≤ x13 ∧ x13 < (c3 : Nat) then p2.bind fun a5 => (ldI .i64 σ a5.block (a5.off + x13.toNat * 1)).bind fun n6 => p0.bind fun a7 => (ldP σ a7.block (a7.off + 0)).bind fun p8 => (s_heap_Heap_Lines k p8 n6 σ).bind fun r9 => (toS r9.1).bind fun l10 => (s_alloc_Allocator_hole_l1 k k p0 h1 n6 l10.1 l10.2.1 l10.2.2 (0 : Int) r9.2).bind fun r20 => if r20.1 = .exit 2 then (s_alloc_Allocator_hole_l0 k n p0 h1 p2 c3 c4 i5 (w64 (x13 + (1 : Int))) r20.2.2) else if r20.1 = .ret then (u_t r20.2.1 fun b21 => some (.ret, [.bool b21], r20.2.2)) else none else none) else (some (.exit 0, [], σ)))
termination_by structural n

theorem alloc_Allocator_hole_l0_is (k n : Nat) (p0 : Option Addr) (h1 : Nat) (p2 : Option Addr) (c3 : Nat) (c4 : Nat) (i5 : Int) (x13 : Int) (σ : AMem) : d_alloc_Allocator_hole_l0 k n p0 h1 p2 c3 c4 i5 x13 σ = s_alloc_Allocator_hole_l0 k n p0 h1 p2 c3 c4 i5 x13 σ := by
  induction n generalizing p0 h1 p2 c3 c4 i5 x13 σ with
  | zero => simp only [d_alloc_Allocator_hole_l0, hide_eq]; rfl
  | succ n ih => rw [d_alloc_Allocator_hole_l0_eq, b_alloc_Allocator_hole_l0, s_alloc_Allocator_hole_l0]; simp only [alloc_Allocator_begin_is, alloc_Allocator_blocks_is, heap_Heap_Lines_is, alloc_Allocator_hole_l2_is, alloc_Allocator_hole_l1_is, ih, fI_eq, fN_eq, fB_eq, fP_eq, fA_eq, fS_eq, fO_eq, fV_eq, fL_eq, fMem_eq, fMm_eq, fR_eq, allocS_eq, stNS_eq, st1S_eq, setMS_eq]

noncomputable def s_alloc_Allocator_hole (k : Nat) (x0 : Option Addr) (σ : AMem) : Option (Value × AMem) := match k with
  | 0 => none
  | k + 1 => (fP x0 fun x0 => fL σ fun σ => allocS σ (.cells [.int .i64 (0 : Int), .int .i64 (0 : Int)] 54 true) fun h1 s2 => (s_alloc_Allocator_blocks k x0 s2).bind fun r3 => (toS r3.1).bind fun l4 => (s_alloc_Allocator_hole_l0 k k x0 h1 l4.1 l4.2.1 l4.2.2 ((l4.2.1 : Nat) : Int) (0 : Int) r3.2).bind fun r22 => if r22.1 = .exit 0 then ((s_alloc_Allocator_begin k x0 r22.2.2).bind fun r23 => (toT r23.1).bind fun q24 => if q24.length = 2 then q24.head?.bind fun v25 => a_ii v25 fun n26 n27 => q24.tail.head?.bind fun v28 => (toB v28).bind fun b29 => stNS r23.2 h1 0 [.int .i64 n26, .int .i64 n27] fun s30 => (((ldN s30 h1 0 2).bind fun v31 => some (.agg v31.toArray)).bind fun v32 => some [v32, .bool b29]).bind fun vs33 => some (resOf vs33, s30) else none) else if r22.1 = .ret then (u_t r22.2.1 fun b34 => (((ldN r22.2.2 h1 0 2).bind fun v35 => some (.agg v35.toArray)).bind fun v36 => some [v36, .bool b34]).bind fun vs37 => some (resOf vs37, r22.2.2)) else none)

theorem alloc_Allocator_hole_is (k : Nat) (x0 : Option Addr) (σ : AMem) : d_alloc_Allocator_hole k x0 σ = s_alloc_Allocator_hole k x0 σ := by
  cases k with
  | zero => simp only [d_alloc_Allocator_hole, hide_eq]; rfl
  | succ k => rw [d_alloc_Allocator_hole_eq, b_alloc_Allocator_hole, s_alloc_Allocator_hole]; simp only [alloc_Allocator_begin_is, alloc_Allocator_blocks_is, heap_Heap_Lines_is, alloc_Allocator_hole_l2_is, alloc_Allocator_hole_l1_is, alloc_Allocator_hole_l0_is, fI_eq, fN_eq, fB_eq, fP_eq, fA_eq, fS_eq, fO_eq, fV_eq, fL_eq, fMem_eq, fMm_eq, fR_eq, allocS_eq, stNS_eq, st1S_eq, setMS_eq]

noncomputable def s_alloc_lines_place (k : Nat) (x1 : Option Addr) (x2 : Int) (σ : AMem) : Option (Value × AMem) := match k with
  | 0 => none
  | k + 1 => (fP x1 fun x1 => fI x2 fun x2 => fL σ fun σ => allocS σ (.cells [] 78 true) fun h1 s2 => x1.bind fun a3 => (s_alloc_area_has k (some ⟨a3.block, a3.off + 3, none⟩) x2 s2).bind fun r4 => (toB r4.1).bind fun b5 => (bif b5 then (some (.normal, [], r4.2)) else (bif decide (x2 > (8 : Int)) then (x1.bind fun a6 => (s_alloc_Allocator_bumped k x1 (some ⟨a6.block, a6.off + 5, none⟩) x2 r4.2).bind fun r7 => r_it r7.1 fun n8 b9 => some (.ret, [.int .i64 n8, .bool b9], r7.2)) else ((s_alloc_Allocator_hole k x1 r4.2).bind fun r10 => (toT r10.1).bind fun q11 => if q11.length = 2 then q11.head?.bind fun v12 => a_ii v12 fun n13 n14 => q11.tail.head?.bind fun v15 => (toB v15).bind fun b16 => allocS r10.2 (.cells [.int .i64 (0 : Int), .int .i64 (0 : Int)] 54 true) fun h17 s18 => stNS s18 h17 0 [.int .i64 n13, .int .i64 n14] fun s19 => bif !b16 then (some (.ret, [.int .i64 (0 : Int), .bool false], s19)) else ((ldI .i64 s19 h17 0).bind fun n20 => (ldI .i64 s19 h17 (0 + 1)).bind fun n21 => x1.bind fun a22 => stNS s19 a22.block (a22.off + 3) [.int .i64 n20, .int .i64 n21] fun s23 => some (.normal, [], s23)) else none)) : Option LOut).bind fun r24 => if r24.1 = .normal then (x1.bind fun a25 => (s_alloc_area_take k (some ⟨a25.block, a25.off + 3, none⟩) x2 r24.2.2).bind fun r26 => (toI .i64 r26.1).bind fun n27 => fI n27 fun y28 => fB true fun y29 => some (.tuple #[.int .i64 y28, .bool y29], r26.2)) else if r24.1 = .ret then (u_it r24.2.1 fun n30 b31 => fI n30 fun y32 => fB b31 fun y33 => some (.tuple #[.int .i64 y32, .bool y33], r24.2.2)) else none)

theorem alloc_lines_place_is (k : Nat) (x1 : Option Addr) (x2 : Int) (σ : AMem) : d_alloc_lines_place k x1 x2 σ = s_alloc_lines_place k x1 x2 σ := by
  cases k with
  | zero => simp only [d_alloc_lines_place, hide_eq]; rfl
  | succ k => rw [d_alloc_lines_place_eq, b_alloc_lines_place, s_alloc_lines_place]; simp only [alloc_Allocator_bumped_is, alloc_area_has_is, alloc_area_take_is, alloc_Allocator_hole_is, fI_eq, fN_eq, fB_eq, fP_eq, fA_eq, fS_eq, fO_eq, fV_eq, fL_eq, fMem_eq, fMm_eq, fR_eq, allocS_eq, stNS_eq, st1S_eq, setMS_eq]

theorem alloc_lines_place_raw (k : Nat) (x1 : Option Addr) (x2 : Int) (σ : AMem) : fn P (XK Kn.b) H k 95 [.agg #[], .pointer x1, .int .i64 x2] σ = d_alloc_lines_place k x1 x2 σ := by
  simp only [d_alloc_lines_place, hide_eq]

noncomputable def s_callN_pi_it (k : Nat) (n : FuncId) (l : List Value) (σ : AMem) : Option (Value × AMem) :=
  if n = 18 then (match l with
    | [.pointer y1, .int .i64 y2] => s_alloc_Allocator_large k y1 y2 σ
    | l => fn P (XK Kn.b) H k 18 l σ) else
  if n = 70 then (match l with
    | [.agg ⟨[]⟩, .pointer y1, .int .i64 y2] => s_alloc_first_place k y1 y2 σ
    | l => fn P (XK Kn.b) H k 70 l σ) else
  if n = 82 then (match l with
    | [.agg ⟨[]⟩, .pointer y1, .int .i64 y2] => s_alloc_best_place k y1 y2 σ
    | l => fn P (XK Kn.b) H k 82 l σ) else
  if n = 90 then (match l with
    | [.agg ⟨[]⟩, .pointer y1, .int .i64 y2] => s_alloc_next_place k y1 y2 σ
    | l => fn P (XK Kn.b) H k 90 l σ) else
  if n = 91 then (match l with
    | [.agg ⟨[]⟩, .pointer y1, .int .i64 y2] => s_alloc_bump_place k y1 y2 σ
    | l => fn P (XK Kn.b) H k 91 l σ) else
  if n = 95 then (match l with
    | [.agg ⟨[]⟩, .pointer y1, .int .i64 y2] => s_alloc_lines_place k y1 y2 σ
    | l => fn P (XK Kn.b) H k 95 l σ) else
  fn P (XK Kn.b) H k n l σ

theorem callN_pi_it_is (k : Nat) (n : FuncId) (l : List Value) (σ : AMem) : fn P (XK Kn.b) H k n l σ = s_callN_pi_it k n l σ := by
  unfold s_callN_pi_it
  split
  · rename_i hn; subst hn
    split
    · exact (alloc_Allocator_large_raw k _ _ σ).trans (alloc_Allocator_large_is k _ _ σ)
    · rfl
  split
  · rename_i hn; subst hn
    split
    · exact (alloc_first_place_raw k _ _ σ).trans (alloc_first_place_is k _ _ σ)
    · rfl
  split
  · rename_i hn; subst hn
    split
    · exact (alloc_best_place_raw k _ _ σ).trans (alloc_best_place_is k _ _ σ)
    · rfl
  split
  · rename_i hn; subst hn
    split
    · exact (alloc_next_place_raw k _ _ σ).trans (alloc_next_place_is k _ _ σ)
    · rfl
  split
  · rename_i hn; subst hn
    split
    · exact (alloc_bump_place_raw k _ _ σ).trans (alloc_bump_place_is k _ _ σ)
    · rfl
  split
  · rename_i hn; subst hn
    split
    · exact (alloc_lines_place_raw k _ _ σ).trans (alloc_lines_place_is k _ _ σ)
    · rfl
  rfl

noncomputable def s_callV_pi_it (k : Nat) (f : Value) (args : List Value) (σ : AMem) : Option (Value × AMem) := match f with
  | .func (.func n) first cap => s_callN_pi_it k n (first.toList ++ args ++ cap.toList) σ
  | .func (.method nm) first _ => (match first.toList ++ args with
    | .iface t v :: rest => (methodF P t nm).bind fun n => s_callN_pi_it k n (v :: rest) σ
    | _ => none)
  | _ => none

theorem callV_pi_it_is (k : Nat) (f : Value) (args : List Value) (σ : AMem) : d_callV_pi_it k f args σ = s_callV_pi_it k f args σ := by
  simp only [d_callV_pi_it, hide_eq]
  unfold callVal s_callV_pi_it
  simp only [callN_pi_it_is]
  rfl

noncomputable def s_alloc_Allocator_Alloc (k : Nat) (x0 : Option Addr) (x1_0 : Int) (x1_1 : Int) (x1_2 : Int) (σ : AMem) : Option (Value × AMem) := match k with
  | 0 => none
  | k + 1 => (fP x0 fun x0 => fI x1_0 fun x1_0 => fI x1_1 fun x1_1 => fI x1_2 fun x1_2 => fL σ fun σ => allocS σ (.cells [.int .i64 x1_0, .int .i64 x1_1, .int .i64 x1_2] 36 true) fun h1 s2 => (s_alloc_Allocator_made k x0 s2).bind fun r3 => (toB r3.1).bind fun b4 => bif !b4 then (fI (0 : Int) fun y5 => fI (5 : Int) fun y6 => some (.tuple #[.int .i64 y5, .int .i64 y6], r3.2)) else ((ldI .i64 r3.2 h1 0).bind fun n7 => (ldI .i64 r3.2 h1 (0 + 1)).bind fun n8 => (ldI .i64 r3.2 h1 (0 + 1 + 1)).bind fun n9 => (s_heap_Valid k n7 n8 n9 r3.2).bind fun r10 => (toB r10.1).bind fun b11 => bif !b11 then (fI (0 : Int) fun y12 => fI (2 : Int) fun y13 => some (.tuple #[.int .i64 y12, .int .i64 y13], r10.2)) else ((ldI .i64 r10.2 h1 0).bind fun n14 => (ldI .i64 r10.2 h1 (0 + 1)).bind fun n15 => (ldI .i64 r10.2 h1 (0 + 1 + 1)).bind fun n16 => (s_heap_Words k n14 n15 n16 r10.2).bind fun r17 => (toI .i64 r17.1).bind fun n18 => (s_alloc_policies k  r17.2).bind fun r19 => (toS r19.1).bind fun l20 => x0.bind fun a21 => (ldI .i64 r19.2 a21.block (a21.off + 2)).bind fun n22 => if 0 ≤ n22 ∧ n22 < (l20.2.1 : Nat) then l20.1.bind fun a23 => (ld1 r19.2 a23.block (a23.off + n22.toNat * 1)).bind fun v24 => nilV v24 fun v25 => (bif decide (n18 > (32 : Int)) then (some (.normal, [.func (.func 18) #[] #[]], r19.2)) else (some (.normal, [(.func (.method "dustcart/alloc.place") #[v25] #[])], r19.2)) : Option LOut).bind fun r26 => if r26.1 = .normal then (u_f r26.2.1 fun f27 => x0.bind fun a28 => (ldP r26.2.2 a28.block a28.off).bind fun p29 => (ldI .i64 r26.2.2 a28.block (a28.off + 1)).bind fun n30 => (ldI .i64 r26.2.2 a28.block (a28.off + 1 + 1)).bind fun n31 => (ldI .i64 r26.2.2 a28.block (a28.off + 1 + 1 + 1)).bind fun n32 => (ldI .i64 r26.2.2 a28.block (a28.off + 1 + 1 + 1 + 1)).bind fun n33 => (ldI .i64 r26.2.2 a28.block (a28.off + 1 + 1 + 1 + 1 + 1)).bind fun n34 => (ldI .i64 r26.2.2 a28.block (a28.off + 1 + 1 + 1 + 1 + 1 + 1)).bind fun n35 => allocS r26.2.2 (.cells [.pointer none, .int .i64 (0 : Int), .int .i64 (0 : Int), .int .i64 (0 : Int), .int .i64 (0 : Int), .int .i64 (0 : Int), .int .i64 (0 : Int)] 56 true) fun h36 s37 => stNS s37 h36 0 [.pointer p29, .int .i64 n30, .int .i64 n31, .int .i64 n32, .int .i64 n33, .int .i64 n34, .int .i64 n35] fun s38 => (s_callV_pi_it k f27 [.pointer x0, .int .i64 n18] s38).bind fun r39 => r_it r39.1 fun n40 b41 => bif !b41 then (fI (0 : Int) fun y42 => fI (6 : Int) fun y43 => some (.tuple #[.int .i64 y42, .int .i64 y43], r39.2)) else (x0.bind fun a44 => (ldP r39.2 a44.block (a44.off + 0)).bind fun p45 => if (64 : Int) = 0 then none else (s_heap_Heap_Space k p45 (w64 (n40.tdiv (64 : Int))) r39.2).bind fun r46 => (toI .i64 r46.1).bind fun n47 => x0.bind fun a48 => (ldI .i64 r46.2 a48.block (a48.off + 1)).bind fun n49 => (bif n47 == n49 then (x0.bind fun a50 => (ldP r46.2 a50.block (a50.off + 0)).bind fun p51 => (ldI .i64 r46.2 h1 0).bind fun n52 => (ldI .i64 r46.2 h1 (0 + 1)).bind fun n53 => (ldI .i64 r46.2 h1 (0 + 1 + 1)).bind fun n54 => (s_heap_Heap_Place k p51 n40 n52 n53 n54 r46.2).bind fun r55 => r_ii r55.1 fun n56 n57 => some (.normal, [.int .i64 n57], r55.2)) else (some (.normal, [.int .i64 (5 : Int)], r46.2)) : Option LOut).bind fun r58 => if r58.1 = .normal then (u_i r58.2.1 fun n59 => bif n59 != (0 : Int) then ((ldP r58.2.2 h36 0).bind fun p60 => (ldI .i64 r58.2.2 h36 (0 + 1)).bind fun n61 => (ldI .i64 r58.2.2 h36 (0 + 1 + 1)).bind fun n62 => (ldI .i64 r58.2.2 h36 (0 + 1 + 1 + 1)).bind fun n63 => (ldI .i64 r58.2.2 h36 (0 + 1 + 1 + 1 + 1)).bind fun n64 => (ldI .i64 r58.2.2 h36 (0 + 1 + 1 + 1 + 1 + 1)).bind fun n65 => (ldI .i64 r58.2.2 h36 (0 + 1 + 1 + 1 + 1 + 1 + 1)).bind fun n66 => x0.bind fun a67 => stNS r58.2.2 a67.block a67.off [.pointer p60, .int .i64 n61, .int .i64 n62, .int .i64 n63, .int .i64 n64, .int .i64 n65, .int .i64 n66] fun s68 => fI (0 : Int) fun y69 => fI (6 : Int) fun y70 => some (.tuple #[.int .i64 y69, .int .i64 y70], s68)) else (fI n40 fun y71 => fI (0 : Int) fun y72 => some (.tuple #[.int .i64 y71, .int .i64 y72], r58.2.2))) else none)) else none else none)))

theorem alloc_Allocator_Alloc_is (k : Nat) (x0 : Option Addr) (x1_0 : Int) (x1_1 : Int) (x1_2 : Int) (σ : AMem) : d_alloc_Allocator_Alloc k x0 x1_0 x1_1 x1_2 σ = s_alloc_Allocator_Alloc k x0 x1_0 x1_1 x1_2 σ := by
  cases k with
  | zero => simp only [d_alloc_Allocator_Alloc, hide_eq]; rfl
  | succ k => rw [d_alloc_Allocator_Alloc_eq, b_alloc_Allocator_Alloc, s_alloc_Allocator_Alloc]; simp only [heap_Words_is, heap_Heap_Place_is, alloc_policies_is, alloc_Allocator_made_is, heap_Valid_is, heap_Heap_Space_is, callV_pi_it_is, fI_eq, fN_eq, fB_eq, fP_eq, fA_eq, fS_eq, fO_eq, fV_eq, fL_eq, fMem_eq, fMm_eq, fR_eq, allocS_eq, stNS_eq, st1S_eq, setMS_eq]

noncomputable def s_side_Table_Get (k : Nat) (x0 : Option Addr) (x1 : Int) (σ : AMem) : Option (Value × AMem) := match k with
  | 0 => none
  | k + 1 => (fP x0 fun x0 => fI x1 fun x1 => fL σ fun σ => (s_side_Table_there k x0 x1 σ).bind fun r1 => (toB r1.1).bind fun b2 => bif !b2 then (fI (-1 : Int) fun y3 => some (.int .i64 y3, r1.2)) else ((s_side_Table_get k x0 x1 r1.2).bind fun r4 => (toI .i64 r4.1).bind fun n5 => fI n5 fun y6 => some (.int .i64 y6, r4.2)))

theorem side_Table_Get_is (k : Nat) (x0 : Option Addr) (x1 : Int) (σ : AMem) : d_side_Table_Get k x0 x1 σ = s_side_Table_Get k x0 x1 σ := by
  cases k with
  | zero => simp only [d_side_Table_Get, hide_eq]; rfl
  | succ k => rw [d_side_Table_Get_eq, b_side_Table_Get, s_side_Table_Get]; simp only [side_Table_there_is, side_Table_get_is, fI_eq, fN_eq, fB_eq, fP_eq, fA_eq, fS_eq, fO_eq, fV_eq, fL_eq, fMem_eq, fMm_eq, fR_eq, allocS_eq, stNS_eq, st1S_eq, setMS_eq]

noncomputable def s_heap_Heap_Has (k : Nat) (x0 : Option Addr) (x1 : Int) (σ : AMem) : Option (Value × AMem) := match k with
  | 0 => none
  | k + 1 => (fP x0 fun x0 => fI x1 fun x1 => fL σ fun σ => (s_heap_Heap_made k x0 σ).bind fun r1 => (toB r1.1).bind fun b2 => (bif b2 then some (decide (x1 ≥ (0 : Int)), r1.2) else some (false, r1.2)).bind fun r3 => (bif r3.1 then if (2 : Int) = 0 then none else some ((x1.tmod (2 : Int)) == (0 : Int), r3.2) else some (false, r3.2)).bind fun r4 => (bif r4.1 then x0.bind fun a5 => (ldP r4.2 a5.block (a5.off + 2)).bind fun p6 => if (2 : Int) = 0 then none else (s_side_Table_Get k p6 (w64 (x1.tdiv (2 : Int))) r4.2).bind fun r7 => (toI .i64 r7.1).bind fun n8 => some (n8 == (1 : Int), r7.2) else some (false, r4.2)).bind fun r9 => fB r9.1 fun y10 => some (.bool y10, r9.2))

theorem heap_Heap_Has_is (k : Nat) (x0 : Option Addr) (x1 : Int) (σ : AMem) : d_heap_Heap_Has k x0 x1 σ = s_heap_Heap_Has k x0 x1 σ := by
  cases k with
  | zero => simp only [d_heap_Heap_Has, hide_eq]; rfl
  | succ k => rw [d_heap_Heap_Has_eq, b_heap_Heap_Has, s_heap_Heap_Has]; simp only [heap_Heap_made_is, side_Table_Get_is, fI_eq, fN_eq, fB_eq, fP_eq, fA_eq, fS_eq, fO_eq, fV_eq, fL_eq, fMem_eq, fMm_eq, fR_eq, allocS_eq, stNS_eq, st1S_eq, setMS_eq]

noncomputable def s_heap_Heap_object (k : Nat) (x0 : Option Addr) (x1 : Int) (σ : AMem) : Option (Value × AMem) := match k with
  | 0 => none
  | k + 1 => (fP x0 fun x0 => fI x1 fun x1 => fL σ fun σ => (s_heap_Heap_made k x0 σ).bind fun r1 => (toB r1.1).bind fun b2 => bif !b2 then (fI (5 : Int) fun y3 => some (.int .i64 y3, r1.2)) else ((s_heap_Heap_Has k x0 x1 r1.2).bind fun r4 => (toB r4.1).bind fun b5 => bif !b5 then (fI (4 : Int) fun y6 => some (.int .i64 y6, r4.2)) else (fI (0 : Int) fun y7 => some (.int .i64 y7, r4.2))))

theorem heap_Heap_object_is (k : Nat) (x0 : Option Addr) (x1 : Int) (σ : AMem) : d_heap_Heap_object k x0 x1 σ = s_heap_Heap_object k x0 x1 σ := by
  cases k with
  | zero => simp only [d_heap_Heap_object, hide_eq]; rfl
  | succ k => rw [d_heap_Heap_object_eq, b_heap_Heap_object, s_heap_Heap_object]; simp only [heap_Heap_made_is, heap_Heap_Has_is, fI_eq, fN_eq, fB_eq, fP_eq, fA_eq, fS_eq, fO_eq, fV_eq, fL_eq, fMem_eq, fMm_eq, fR_eq, allocS_eq, stNS_eq, st1S_eq, setMS_eq]

noncomputable def s_heap_Heap_wipe (k : Nat) (x0 : Option Addr) (x1 : Int) (x2 : Int) (σ : AMem) : Option (Value × AMem) := match k with
  | 0 => none
  | k + 1 => (fP x0 fun x0 => fI x1 fun x1 => fI x2 fun x2 => fL σ fun σ => x0.bind fun a1 => (ldS σ a1.block (a1.off + 1)).bind fun l2 => (sliceD 3 1 (l2.1, l2.2.1, l2.2.2) (some (.int .i64 x1)) (some (.int .i64 (w64 (x1 + x2)))) none σ).bind fun l3 => (if l3.2.1 = 0 then some σ else l3.1.bind fun a5 => stN σ a5.block a5.off (rep l3.2.1 [.int .i64 (0 : Int)])).bind fun s4 => fMm s4 fun s4 => some (.tuple #[], s4))

theorem heap_Heap_wipe_is (k : Nat) (x0 : Option Addr) (x1 : Int) (x2 : Int) (σ : AMem) : d_heap_Heap_wipe k x0 x1 x2 σ = s_heap_Heap_wipe k x0 x1 x2 σ := by
  cases k with
  | zero => simp only [d_heap_Heap_wipe, hide_eq]; rfl
  | succ k => rw [d_heap_Heap_wipe_eq, b_heap_Heap_wipe, s_heap_Heap_wipe]; simp only [fI_eq, fN_eq, fB_eq, fP_eq, fA_eq, fS_eq, fO_eq, fV_eq, fL_eq, fMem_eq, fMm_eq, fR_eq, allocS_eq, stNS_eq, st1S_eq, setMS_eq]

noncomputable def s_heap_Heap_Kill (k : Nat) (x0 : Option Addr) (x1 : Int) (σ : AMem) : Option (Value × AMem) := match k with
  | 0 => none
  | k + 1 => (fP x0 fun x0 => fI x1 fun x1 => fL σ fun σ => (s_heap_Heap_object k x0 x1 σ).bind fun r1 => (toI .i64 r1.1).bind fun n2 => bif n2 != (0 : Int) then (fI n2 fun y3 => some (.int .i64 y3, r1.2)) else (x0.bind fun a4 => (ldM r1.2 a4.block (a4.off + 4)).bind fun m5 => x0.bind fun a6 => (ldS r1.2 a6.block (a6.off + 1)).bind fun l7 => if 0 ≤ x1 ∧ x1 < (l7.2.1 : Nat) then l7.1.bind fun a8 => (ldI .i64 r1.2 a8.block (a8.off + x1.toNat * 1)).bind fun n9 => (ldMO r1.2 m5).bind fun es10 => fMm (stMO r1.2 m5 (mapDel n9 es10)) fun s11 => x0.bind fun a12 => (ldP s11 a12.block (a12.off + 2)).bind fun p13 => if (2 : Int) = 0 then none else (s_side_Table_Set k p13 (w64 (x1.tdiv (2 : Int))) (0 : Int) s11).bind fun r14 => (toI .i64 r14.1).bind fun n15 => x0.bind fun a16 => (ldP r14.2 a16.block (a16.off + 3)).bind fun p17 => if (2 : Int) = 0 then none else (s_side_Table_Set k p17 (w64 (x1.tdiv (2 : Int))) (0 : Int) r14.2).bind fun r18 => (toI .i64 r18.1).bind fun n19 => (s_heap_Heap_size k x0 x1 r18.2).bind fun r20 => (toI .i64 r20.1).bind fun n21 => (s_heap_Heap_wipe k x0 x1 n21 r20.2).bind fun r22 => r_0 r22.1 (fI (0 : Int) fun y23 => some (.int .i64 y23, r22.2)) else none))

theorem heap_Heap_Kill_is (k : Nat) (x0 : Option Addr) (x1 : Int) (σ : AMem) : d_heap_Heap_Kill k x0 x1 σ = s_heap_Heap_Kill k x0 x1 σ := by
  cases k with
  | zero => simp only [d_heap_Heap_Kill, hide_eq]; rfl
  | succ k => rw [d_heap_Heap_Kill_eq, b_heap_Heap_Kill, s_heap_Heap_Kill]; simp only [heap_Heap_object_is, side_Table_Set_is, heap_Heap_wipe_is, heap_Heap_size_is, fI_eq, fN_eq, fB_eq, fP_eq, fA_eq, fS_eq, fO_eq, fV_eq, fL_eq, fMem_eq, fMm_eq, fR_eq, allocS_eq, stNS_eq, st1S_eq, setMS_eq]

noncomputable def s_law05_alive (k : Nat)  (σ : AMem) : Option (Value × AMem) := match k with
  | 0 => none
  | k + 1 => (fL σ fun σ => (s_heap_New k (4 : Int) σ).bind fun r1 => r_pi r1.1 fun p2 n3 => (s_alloc_New k p2 (0 : Int) (0 : Int) r1.2).bind fun r4 => r_pi r4.1 fun p5 n6 => (eqA P 30 (.pointer p5) (.pointer none)).bind fun e7 => (bif e7 then some (true, r4.2) else some (n6 != (0 : Int), r4.2)).bind fun r8 => bif r8.1 then (fB false fun y9 => some (.bool y9, r8.2)) else ((s_alloc_Allocator_Alloc k p5 (0 : Int) (4 : Int) (0 : Int) r8.2).bind fun r10 => r_ii r10.1 fun n11 n12 => (s_alloc_Allocator_Alloc k p5 (0 : Int) (0 : Int) (0 : Int) r10.2).bind fun r13 => r_ii r13.1 fun n14 n15 => (s_alloc_Allocator_Alloc k p5 (0 : Int) (4 : Int) (0 : Int) r13.2).bind fun r16 => r_ii r16.1 fun n17 n18 => (s_heap_Heap_Kill k p2 (64 : Int) r16.2).bind fun r19 => (toI .i64 r19.1).bind fun n20 => (s_alloc_Allocator_Alloc k p5 (0 : Int) (2 : Int) (0 : Int) r19.2).bind fun r21 => r_ii r21.1 fun n22 n23 => (s_alloc_Allocator_Alloc k p5 (0 : Int) (2 : Int) (0 : Int) r21.2).bind fun r24 => r_ii r24.1 fun n25 n26 => (bif n11 != (64 : Int) then some (true, r24.2) else some (n12 != (0 : Int), r24.2)).bind fun r27 => (bif r27.1 then some (true, r27.2) else some (n14 != (70 : Int), r27.2)).bind fun r28 => (bif r28.1 then some (true, r28.2) else some (n17 != (72 : Int), r28.2)).bind fun r29 => (bif r29.1 then some (true, r29.2) else some (n22 != (64 : Int), r29.2)).bind fun r30 => (bif r30.1 then some (true, r30.2) else some (n25 != (78 : Int), r30.2)).bind fun r31 => bif r31.1 then (fB false fun y32 => some (.bool y32, r31.2)) else ((s_heap_New k (4 : Int) r31.2).bind fun r33 => r_pi r33.1 fun p34 n35 => (s_heap_Heap_Claim k p34 (1 : Int) (0 : Int) r33.2).bind fun r36 => (toI .i64 r36.1).bind fun n37 => (s_heap_Heap_Place k p34 (72 : Int) (0 : Int) (6 : Int) (0 : Int) r36.2).bind fun r38 => r_ii r38.1 fun n39 n40 => (s_alloc_New k p34 (0 : Int) (4 : Int) r38.2).bind fun r41 => r_pi r41.1 fun p42 n43 => (s_alloc_Allocator_Alloc k p42 (0 : Int) (6 : Int) (0 : Int) r41.2).bind fun r44 => r_ii r44.1 fun n45 n46 => (s_alloc_Allocator_Alloc k p42 (0 : Int) (6 : Int) (0 : Int) r44.2).bind fun r47 => r_ii r47.1 fun n48 n49 => (s_alloc_Allocator_Alloc k p42 (0 : Int) (30 : Int) (0 : Int) r47.2).bind fun r50 => r_ii r50.1 fun n51 n52 => (s_alloc_Allocator_Alloc k p42 (0 : Int) (8 : Int) (0 : Int) r50.2).bind fun r53 => r_ii r53.1 fun n54 n55 => (bif n45 == (64 : Int) then some (n48 == (80 : Int), r53.2) else some (false, r53.2)).bind fun r56 => (bif r56.1 then some (n54 == (128 : Int), r56.2) else some (false, r56.2)).bind fun r57 => (bif r57.1 then some (n55 == (0 : Int), r57.2) else some (false, r57.2)).bind fun r58 => fB r58.1 fun y59 => some (.bool y59, r58.2))))

theorem law05_alive_is (k : Nat)  (σ : AMem) : d_law05_alive k  σ = s_law05_alive k  σ := by
  cases k with
  | zero => simp only [d_law05_alive, hide_eq]; rfl
  | succ k => rw [d_law05_alive_run_eq, b_law05_alive, s_law05_alive]; simp only [heap_New_is, alloc_New_is, alloc_Allocator_Alloc_is, heap_Heap_Kill_is, heap_Heap_Claim_is, heap_Heap_Place_is, fI_eq, fN_eq, fB_eq, fP_eq, fA_eq, fS_eq, fO_eq, fV_eq, fL_eq, fMem_eq, fMm_eq, fR_eq, allocS_eq, stNS_eq, st1S_eq, setMS_eq]

noncomputable def s_slices_swapRangeCmpFunc_api_Run_l0 (k n : Nat) (p0 : Option Addr) (c1 : Nat) (c2 : Nat) (i3 : Int) (i4 : Int) (i5 : Int) (x10 : Int) (σ : AMem) : Option LOut := match n with
  | 0 => none
  | n + 1 => (fP p0 fun p0 => fN c1 fun c1 => fN c2 fun c2 => fI i3 fun i3 => fI i4 fun i4 => fI i5 fun i5 => fI x10 fun x10 => fL σ fun σ => bif decide (x10 < i5) then (if 0 ≤ (w64 (i4 + x10)) ∧ (w64 (i4 + x10)) < (c1 : Nat) then p0.bind fun a1 => (ldI .i64 σ a1.block (a1.off + (w64 (i4 + x10)).toNat * 2)).bind fun n2 => (ldI .i64 σ a1.block (a1.off + (w64 (i4 + x10)).toNat * 2 + 1)).bind fun n3 => if 0 ≤ (w64 (i3 + x10)) ∧ (w64 (i3 + x10)) < (c1 : Nat) then p0.bind fun a4 => (ldI .i64 σ a4.block (a4.off + (w64 (i3 + x10)).toNat * 2)).bind fun n5 => (ldI .i64 σ a4.block (a4.off + (w64 (i3 + x10)).toNat * 2 + 1)).bind fun n6 => if 0 ≤ (w64 (i3 + x10)) ∧ (w64 (i3 + x10)) < (c1 : Nat) then p0.bind fun a7 => stNS σ a7.block (a7.off + (w64 (i3 + x10)).toNat * 2) [.int .i64 n2, .int .i64 n3] fun s8 => if 0 ≤ (w64 (i4 + x10)) ∧ (w64 (i4 + x10)) < (c1 : Nat) then p0.bind fun a9 => stNS s8 a9.block (a9.off + (w64 (i4 + x10)).toNat * 2) [.int .i64 n5, .int .i64 n6] fun s10 => s_slices_swapRangeCmpFunc_api_Run_l0 k n p0 c1 c2 i3 i4 i5 (w64 (x10 + (1 : Int))) s10 else none else none else none else none) else (some (.exit 0, [], σ)))
termination_by structural n

theorem slices_swapRangeCmpFunc_api_Run_l0_is (k n : Nat) (p0 : Option Addr) (c1 : Nat) (c2 : Nat) (i3 : Int) (i4 : Int) (i5 : Int) (x10 : Int) (σ : AMem) : d_slices_swapRangeCmpFunc_api_Run_l0 k n p0 c1 c2 i3 i4 i5 x10 σ = s_slices_swapRangeCmpFunc_api_Run_l0 k n p0 c1 c2 i3 i4 i5 x10 σ := by
  induction n generalizing p0 c1 c2 i3 i4 i5 x10 σ with
  | zero => simp only [d_slices_swapRangeCmpFunc_api_Run_l0, hide_eq]; rfl
  | succ n ih => rw [d_slices_swapRangeCmpFunc_api_Run_l0_eq, b_slices_swapRangeCmpFunc_api_Run_l0, s_slices_swapRangeCmpFunc_api_Run_l0]; simp only [ih, fI_eq, fN_eq, fB_eq, fP_eq, fA_eq, fS_eq, fO_eq, fV_eq, fL_eq, fMem_eq, fMm_eq, fR_eq, allocS_eq, stNS_eq, st1S_eq, setMS_eq]

noncomputable def s_slices_swapRangeCmpFunc_api_Run (k : Nat) (x0 : Option Addr × Nat × Nat) (x1 : Int) (x2 : Int) (x3 : Int) (x4 : Value) (σ : AMem) : Option (Value × AMem) := match k with
  | 0 => none
  | k + 1 => (fS x0 fun x0 => fI x1 fun x1 => fI x2 fun x2 => fI x3 fun x3 => fL σ fun σ => (s_slices_swapRangeCmpFunc_api_Run_l0 k k x0.1 x0.2.1 x0.2.2 x1 x2 x3 (0 : Int) σ).bind fun r11 => if r11.1 = .exit 0 then (some (.tuple #[], r11.2.2)) else none)

theorem slices_swapRangeCmpFunc_api_Run_is (k : Nat) (x0 : Option Addr × Nat × Nat) (x1 : Int) (x2 : Int) (x3 : Int) (x4 : Value) (σ : AMem) : d_slices_swapRangeCmpFunc_api_Run k x0 x1 x2 x3 x4 σ = s_slices_swapRangeCmpFunc_api_Run k x0 x1 x2 x3 x4 σ := by
  cases k with
  | zero => simp only [d_slices_swapRangeCmpFunc_api_Run, hide_eq]; rfl
  | succ k => rw [d_slices_swapRangeCmpFunc_api_Run_eq, b_slices_swapRangeCmpFunc_api_Run, s_slices_swapRangeCmpFunc_api_Run]; simp only [slices_swapRangeCmpFunc_api_Run_l0_is, fI_eq, fN_eq, fB_eq, fP_eq, fA_eq, fS_eq, fO_eq, fV_eq, fL_eq, fMem_eq, fMm_eq, fR_eq, allocS_eq, stNS_eq, st1S_eq, setMS_eq]

noncomputable def s_slices_rotateCmpFunc_api_Run_l0 (k n : Nat) (p0 : Option Addr) (c1 : Nat) (c2 : Nat) (i3 : Int) (v4 : Value) (x10 : Int) (x11 : Int) (σ : AMem) : Option LOut := match n with
  | 0 => none
  | n + 1 => (fP p0 fun p0 => fN c1 fun c1 => fN c2 fun c2 => fI i3 fun i3 => fI x10 fun x10 => fI x11 fun x11 => fL σ fun σ => bif x10 != x11 then ((bif decide (x10 > x11) then ((s_slices_swapRangeCmpFunc_api_Run k (p0, c1, c2) (w64 (i3 - x10)) i3 x11 (v4) σ).bind fun r1 => r_0 r1.1 (some (.normal, [.int .i64 (w64 (x10 - x11)), .int .i64 x11], r1.2))) else ((s_slices_swapRangeCmpFunc_api_Run k (p0, c1, c2) (w64 (i3 - x10)) (w64 ((w64 (i3 + x11)) - x10)) x10 (v4) σ).bind fun r2 => r_0 r2.1 (some (.normal, [.int .i64 x10, .int .i64 (w64 (x11 - x10))], r2.2))) : Option LOut).bind fun r3 => if r3.1 = .normal then (u_ii r3.2.1 fun n4 n5 => s_slices_rotateCmpFunc_api_Run_l0 k n p0 c1 c2 i3 v4 n4 n5 r3.2.2) else none) else (some (.exit 0, [.int .i64 x10], σ)))
termination_by structural n

theorem slices_rotateCmpFunc_api_Run_l0_is (k n : Nat) (p0 : Option Addr) (c1 : Nat) (c2 : Nat) (i3 : Int) (v4 : Value) (x10 : Int) (x11 : Int) (σ : AMem) : d_slices_rotateCmpFunc_api_Run_l0 k n p0 c1 c2 i3 v4 x10 x11 σ = s_slices_rotateCmpFunc_api_Run_l0 k n p0 c1 c2 i3 v4 x10 x11 σ := by
  induction n generalizing p0 c1 c2 i3 v4 x10 x11 σ with
  | zero => simp only [d_slices_rotateCmpFunc_api_Run_l0, hide_eq]; rfl
  | succ n ih => rw [d_slices_rotateCmpFunc_api_Run_l0_eq, b_slices_rotateCmpFunc_api_Run_l0, s_slices_rotateCmpFunc_api_Run_l0]; simp only [slices_swapRangeCmpFunc_api_Run_is, ih, fI_eq, fN_eq, fB_eq, fP_eq, fA_eq, fS_eq, fO_eq, fV_eq, fL_eq, fMem_eq, fMm_eq, fR_eq, allocS_eq, stNS_eq, st1S_eq, setMS_eq]

noncomputable def s_slices_rotateCmpFunc_api_Run (k : Nat) (x0 : Option Addr × Nat × Nat) (x1 : Int) (x2 : Int) (x3 : Int) (x4 : Value) (σ : AMem) : Option (Value × AMem) := match k with
  | 0 => none
  | k + 1 => (fS x0 fun x0 => fI x1 fun x1 => fI x2 fun x2 => fI x3 fun x3 => fL σ fun σ => (s_slices_rotateCmpFunc_api_Run_l0 k k x0.1 x0.2.1 x0.2.2 x2 x4 (w64 (x2 - x1)) (w64 (x3 - x2)) σ).bind fun r6 => if r6.1 = .exit 0 then (u_i r6.2.1 fun n7 => (s_slices_swapRangeCmpFunc_api_Run k (x0.1, x0.2.1, x0.2.2) (w64 (x2 - n7)) x2 n7 (x4) r6.2.2).bind fun r8 => r_0 r8.1 (some (.tuple #[], r8.2))) else none)

theorem slices_rotateCmpFunc_api_Run_is (k : Nat) (x0 : Option Addr × Nat × Nat) (x1 : Int) (x2 : Int) (x3 : Int) (x4 : Value) (σ : AMem) : d_slices_rotateCmpFunc_api_Run k x0 x1 x2 x3 x4 σ = s_slices_rotateCmpFunc_api_Run k x0 x1 x2 x3 x4 σ := by
  cases k with
  | zero => simp only [d_slices_rotateCmpFunc_api_Run, hide_eq]; rfl
  | succ k => rw [d_slices_rotateCmpFunc_api_Run_eq, b_slices_rotateCmpFunc_api_Run, s_slices_rotateCmpFunc_api_Run]; simp only [slices_swapRangeCmpFunc_api_Run_is, slices_rotateCmpFunc_api_Run_l0_is, fI_eq, fN_eq, fB_eq, fP_eq, fA_eq, fS_eq, fO_eq, fV_eq, fL_eq, fMem_eq, fMm_eq, fR_eq, allocS_eq, stNS_eq, st1S_eq, setMS_eq]

end Go.Proofs.Ytlaplcglpnlieaa
