/-
  PRINTED BY A PROGRAM OF THIS SESSION'S OWN (gen2.py): the unfolding equations.
-/
import Derived.Test.YtlaplcglpnlieaaF0
set_option maxRecDepth 100000
set_option linter.unusedVariables false
set_option linter.unusedSimpArgs false
set_option linter.unusedSectionVars false
namespace Go.Proofs.Ytlaplcglpnlieaa
open Go Go.AX
section
variable [Quiet] [Kn]

theorem d_law05_AllocBumps_l0_eq (k n : Nat) (p0 : Option Addr) (c1 : Nat) (c2 : Nat) (p3 : Option Addr) (c4 : Nat) (c5 : Nat) (p6 : Option Addr) (p7 : Option Addr) (x11 : Int) (x12 : Int) (σ : AMem) : d_law05_AllocBumps_l0 k (n + 1) p0 c1 c2 p3 c4 c5 p6 p7 x11 x12 σ = b_law05_AllocBumps_l0 k n (d_alloc_Allocator_Alloc k) (d_heap_Heap_Kill k) (d_heap_Words k) (d_law05_AllocBumps_l0 k) p0 c1 c2 p3 c4 c5 p6 p7 x11 x12 σ := by
  simp only [d_alloc_Allocator_Alloc, d_heap_Heap_Kill, d_heap_Words, d_law05_AllocBumps_l0, hide_eq]; kernel_rfl

theorem d_law05_AllocBumps_eq (k : Nat) (x0 : Int) (x1 : Option Addr × Nat × Nat) (x2 : Option Addr × Nat × Nat) (σ : AMem) : d_law05_AllocBumps (k + 1) x0 x1 x2 σ = b_law05_AllocBumps k (d_alloc_New k) (d_heap_New k) (d_law05_AllocBumps_l0 k) (d_law05_alive k) (d_law05_few k) x0 x1 x2 σ := by
  simp only [d_alloc_New, d_heap_New, d_law05_AllocBumps, d_law05_AllocBumps_l0, d_law05_alive, d_law05_few, hide_eq]; kernel_rfl

theorem d_heap_New_eq (k : Nat) (x0 : Int) (σ : AMem) : d_heap_New (k + 1) x0 σ = b_heap_New k (d_side_New k) x0 σ := by
  simp only [d_heap_New, d_side_New, hide_eq]; kernel_rfl

theorem d_law05_few_eq (k : Nat) (x0 : Int) (σ : AMem) : d_law05_few (k + 1) x0 σ = b_law05_few k  x0 σ := by
  simp only [d_law05_few, hide_eq]; kernel_rfl

theorem d_alloc_New_eq (k : Nat) (x0 : Option Addr) (x1 : Int) (x2 : Int) (σ : AMem) : d_alloc_New (k + 1) x0 x1 x2 σ = b_alloc_New k (d_alloc_policies k) (d_heap_Heap_Blocks k) x0 x1 x2 σ := by
  simp only [d_alloc_New, d_alloc_policies, d_heap_Heap_Blocks, hide_eq]; kernel_rfl

theorem d_alloc_Allocator_Alloc_eq (k : Nat) (x0 : Option Addr) (x1_0 : Int) (x1_1 : Int) (x1_2 : Int) (σ : AMem) : d_alloc_Allocator_Alloc (k + 1) x0 x1_0 x1_1 x1_2 σ = b_alloc_Allocator_Alloc k (d_alloc_Allocator_made k) (d_alloc_policies k) (d_callV_pi_it k) (d_heap_Heap_Place k) (d_heap_Heap_Space k) (d_heap_Valid k) (d_heap_Words k) x0 x1_0 x1_1 x1_2 σ := by
  simp only [d_alloc_Allocator_Alloc, d_alloc_Allocator_made, d_alloc_policies, d_callV_pi_it, d_heap_Heap_Place, d_heap_Heap_Space, d_heap_Valid, d_heap_Words, hide_eq]; kernel_rfl

theorem d_heap_Words_eq (k : Nat) (x0_0 : Int) (x0_1 : Int) (x0_2 : Int) (σ : AMem) : d_heap_Words (k + 1) x0_0 x0_1 x0_2 σ = b_heap_Words k (d_heap_Valid k) x0_0 x0_1 x0_2 σ := by
  simp only [d_heap_Valid, d_heap_Words, hide_eq]; kernel_rfl

theorem d_heap_Heap_Kill_eq (k : Nat) (x0 : Option Addr) (x1 : Int) (σ : AMem) : d_heap_Heap_Kill (k + 1) x0 x1 σ = b_heap_Heap_Kill k (d_heap_Heap_object k) (d_heap_Heap_size k) (d_heap_Heap_wipe k) (d_side_Table_Set k) x0 x1 σ := by
  simp only [d_heap_Heap_Kill, d_heap_Heap_object, d_heap_Heap_size, d_heap_Heap_wipe, d_side_Table_Set, hide_eq]; kernel_rfl

theorem d_side_New_eq (k : Nat) (x0 : Int) (x1 : Int) (σ : AMem) : d_side_New (k + 1) x0 x1 σ = b_side_New k (d_slices_Contains_int k) x0 x1 σ := by
  simp only [d_side_New, d_slices_Contains_int, hide_eq]; kernel_rfl

theorem d_heap_Heap_Claim_eq (k : Nat) (x0 : Option Addr) (x1 : Int) (x2 : Int) (σ : AMem) : d_heap_Heap_Claim (k + 1) x0 x1 x2 σ = b_heap_Heap_Claim k (d_heap_Heap_claim k) x0 x1 x2 σ := by
  simp only [d_heap_Heap_Claim, d_heap_Heap_claim, hide_eq]; kernel_rfl

theorem d_heap_Heap_Place_eq (k : Nat) (x0 : Option Addr) (x1 : Int) (x2_0 : Int) (x2_1 : Int) (x2_2 : Int) (σ : AMem) : d_heap_Heap_Place (k + 1) x0 x1 x2_0 x2_1 x2_2 σ = b_heap_Heap_Place k (d_heap_Heap_fits k) (d_heap_Heap_made k) (d_heap_Valid k) (d_heap_Words k) (d_heap_number k) (d_side_Table_Set k) x0 x1 x2_0 x2_1 x2_2 σ := by
  simp only [d_heap_Heap_Place, d_heap_Heap_fits, d_heap_Heap_made, d_heap_Valid, d_heap_Words, d_heap_number, d_side_Table_Set, hide_eq]; kernel_rfl

theorem d_heap_Heap_Blocks_eq (k : Nat) (x0 : Option Addr) (σ : AMem) : d_heap_Heap_Blocks (k + 1) x0 σ = b_heap_Heap_Blocks k (d_heap_Heap_made k) x0 σ := by
  simp only [d_heap_Heap_Blocks, d_heap_Heap_made, hide_eq]; kernel_rfl

theorem d_alloc_policies_eq (k : Nat)  (σ : AMem) : d_alloc_policies (k + 1)  σ = b_alloc_policies k   σ := by
  simp only [d_alloc_policies, hide_eq]; kernel_rfl

theorem d_alloc_Allocator_made_eq (k : Nat) (x0 : Option Addr) (σ : AMem) : d_alloc_Allocator_made (k + 1) x0 σ = b_alloc_Allocator_made k  x0 σ := by
  simp only [d_alloc_Allocator_made, hide_eq]; kernel_rfl

theorem d_heap_Valid_eq (k : Nat) (x0_0 : Int) (x0_1 : Int) (x0_2 : Int) (σ : AMem) : d_heap_Valid (k + 1) x0_0 x0_1 x0_2 σ = b_heap_Valid k  x0_0 x0_1 x0_2 σ := by
  simp only [d_heap_Valid, hide_eq]; kernel_rfl

theorem d_alloc_Allocator_large_l0_eq (k n : Nat) (p0 : Option Addr) (i1 : Int) (x7 : Int) (σ : AMem) : d_alloc_Allocator_large_l0 k (n + 1) p0 i1 x7 σ = b_alloc_Allocator_large_l0 k n (d_alloc_Allocator_large_l0 k) (d_heap_Heap_Blocks k) (d_heap_Heap_ClaimLarge k) p0 i1 x7 σ := by
  simp only [d_alloc_Allocator_large_l0, d_heap_Heap_Blocks, d_heap_Heap_ClaimLarge, hide_eq]; kernel_rfl

theorem d_alloc_Allocator_large_eq (k : Nat) (x0 : Option Addr) (x1 : Int) (σ : AMem) : d_alloc_Allocator_large (k + 1) x0 x1 σ = b_alloc_Allocator_large k (d_alloc_Allocator_large_l0 k) x0 x1 σ := by
  simp only [d_alloc_Allocator_large, d_alloc_Allocator_large_l0, hide_eq]; kernel_rfl

theorem d_heap_Heap_Space_eq (k : Nat) (x0 : Option Addr) (x1 : Int) (σ : AMem) : d_heap_Heap_Space (k + 1) x0 x1 σ = b_heap_Heap_Space k (d_heap_Heap_Blocks k) x0 x1 σ := by
  simp only [d_heap_Heap_Blocks, d_heap_Heap_Space, hide_eq]; kernel_rfl

theorem d_heap_Heap_object_eq (k : Nat) (x0 : Option Addr) (x1 : Int) (σ : AMem) : d_heap_Heap_object (k + 1) x0 x1 σ = b_heap_Heap_object k (d_heap_Heap_Has k) (d_heap_Heap_made k) x0 x1 σ := by
  simp only [d_heap_Heap_Has, d_heap_Heap_made, d_heap_Heap_object, hide_eq]; kernel_rfl

theorem d_side_Table_Set_eq (k : Nat) (x0 : Option Addr) (x1 : Int) (x2 : Int) (σ : AMem) : d_side_Table_Set (k + 1) x0 x1 x2 σ = b_side_Table_Set k (d_side_Table_check k) (d_side_Table_put k) x0 x1 x2 σ := by
  simp only [d_side_Table_Set, d_side_Table_check, d_side_Table_put, hide_eq]; kernel_rfl

theorem d_heap_Heap_wipe_eq (k : Nat) (x0 : Option Addr) (x1 : Int) (x2 : Int) (σ : AMem) : d_heap_Heap_wipe (k + 1) x0 x1 x2 σ = b_heap_Heap_wipe k  x0 x1 x2 σ := by
  simp only [d_heap_Heap_wipe, hide_eq]; kernel_rfl

theorem d_heap_Heap_size_eq (k : Nat) (x0 : Option Addr) (x1 : Int) (σ : AMem) : d_heap_Heap_size (k + 1) x0 x1 σ = b_heap_Heap_size k (d_heap_Words k) (d_heap_shape k) x0 x1 σ := by
  simp only [d_heap_Heap_size, d_heap_Words, d_heap_shape, hide_eq]; kernel_rfl

theorem d_slices_Contains_int_eq (k : Nat) (x0 : Option Addr × Nat × Nat) (x1 : Int) (σ : AMem) : d_slices_Contains_int (k + 1) x0 x1 σ = b_slices_Contains_int k (d_slices_Index_int k) x0 x1 σ := by
  simp only [d_slices_Contains_int, d_slices_Index_int, hide_eq]; kernel_rfl

theorem d_heap_Heap_claim_l0_eq (k n : Nat) (p0 : Option Addr) (i1 : Int) (h2 : Nat) (i3 : Int) (x54 : Int) (σ : AMem) : d_heap_Heap_claim_l0 k (n + 1) p0 i1 h2 i3 x54 σ = b_heap_Heap_claim_l0 k n (d_heap_Heap_claim_l0 k) p0 i1 h2 i3 x54 σ := by
  simp only [d_heap_Heap_claim_l0, hide_eq]; kernel_rfl

theorem d_heap_Heap_claim_eq (k : Nat) (x0 : Option Addr) (x1 : Int) (x2 : Int) (x3_0 : Int) (x3_1 : Int) (x4_0 : Int) (x4_1 : Int) (σ : AMem) : d_heap_Heap_claim (k + 1) x0 x1 x2 x3_0 x3_1 x4_0 x4_1 σ = b_heap_Heap_claim k (d_heap_Heap_claim_l0 k) (d_heap_Heap_made k) (d_heap_Heap_there k) (d_heap_space k) (d_slices_ContainsFunc_heap_block k) x0 x1 x2 x3_0 x3_1 x4_0 x4_1 σ := by
  simp only [d_heap_Heap_claim, d_heap_Heap_claim_l0, d_heap_Heap_made, d_heap_Heap_there, d_heap_space, d_slices_ContainsFunc_heap_block, hide_eq]; kernel_rfl

theorem d_heap_Heap_made_eq (k : Nat) (x0 : Option Addr) (σ : AMem) : d_heap_Heap_made (k + 1) x0 σ = b_heap_Heap_made k  x0 σ := by
  simp only [d_heap_Heap_made, hide_eq]; kernel_rfl

theorem d_heap_Heap_fits_l0_eq (k n : Nat) (p0 : Option Addr) (i1 : Int) (i2 : Int) (i3 : Int) (x10 : Int) (σ : AMem) : d_heap_Heap_fits_l0 k (n + 1) p0 i1 i2 i3 x10 σ = b_heap_Heap_fits_l0 k n (d_heap_Heap_Find k) (d_heap_Heap_fits_l0 k) p0 i1 i2 i3 x10 σ := by
  simp only [d_heap_Heap_Find, d_heap_Heap_fits_l0, hide_eq]; kernel_rfl

theorem d_heap_Heap_fits_eq (k : Nat) (x0 : Option Addr) (x1 : Int) (x2 : Int) (x3 : Int) (σ : AMem) : d_heap_Heap_fits (k + 1) x0 x1 x2 x3 σ = b_heap_Heap_fits k (d_heap_Heap_fits_l0 k) (d_heap_Heap_span k) x0 x1 x2 x3 σ := by
  simp only [d_heap_Heap_fits, d_heap_Heap_fits_l0, d_heap_Heap_span, hide_eq]; kernel_rfl

theorem d_heap_number_eq (k : Nat) (x0_0 : Int) (x0_1 : Int) (x0_2 : Int) (σ : AMem) : d_heap_number (k + 1) x0_0 x0_1 x0_2 σ = b_heap_number k  x0_0 x0_1 x0_2 σ := by
  simp only [d_heap_number, hide_eq]; kernel_rfl

theorem d_heap_Heap_ClaimLarge_eq (k : Nat) (x0 : Option Addr) (x1 : Int) (x2 : Int) (x3 : Int) (σ : AMem) : d_heap_Heap_ClaimLarge (k + 1) x0 x1 x2 x3 σ = b_heap_Heap_ClaimLarge k (d_heap_Heap_claim k) x0 x1 x2 x3 σ := by
  simp only [d_heap_Heap_ClaimLarge, d_heap_Heap_claim, hide_eq]; kernel_rfl

theorem d_heap_Heap_Has_eq (k : Nat) (x0 : Option Addr) (x1 : Int) (σ : AMem) : d_heap_Heap_Has (k + 1) x0 x1 σ = b_heap_Heap_Has k (d_heap_Heap_made k) (d_side_Table_Get k) x0 x1 σ := by
  simp only [d_heap_Heap_Has, d_heap_Heap_made, d_side_Table_Get, hide_eq]; kernel_rfl

theorem d_side_Table_check_eq (k : Nat) (x0 : Option Addr) (x1 : Int) (x2 : Option Addr × Nat × Nat) (σ : AMem) : d_side_Table_check (k + 1) x0 x1 x2 σ = b_side_Table_check k (d_side_Table_made k) (d_side_Table_there k) (d_slices_ContainsFunc_int k) x0 x1 x2 σ := by
  simp only [d_side_Table_check, d_side_Table_made, d_side_Table_there, d_slices_ContainsFunc_int, hide_eq]; kernel_rfl

theorem d_side_Table_put_eq (k : Nat) (x0 : Option Addr) (x1 : Int) (x2 : Int) (σ : AMem) : d_side_Table_put (k + 1) x0 x1 x2 σ = b_side_Table_put k (d_side_Table_most k) x0 x1 x2 σ := by
  simp only [d_side_Table_most, d_side_Table_put, hide_eq]; kernel_rfl

theorem d_heap_shape_eq (k : Nat) (x0 : Int) (σ : AMem) : d_heap_shape (k + 1) x0 σ = b_heap_shape k  x0 σ := by
  simp only [d_heap_shape, hide_eq]; kernel_rfl

theorem d_slices_Index_int_l0_eq (k n : Nat) (p0 : Option Addr) (c1 : Nat) (c2 : Nat) (i3 : Int) (i4 : Int) (x8 : Int) (σ : AMem) : d_slices_Index_int_l0 k (n + 1) p0 c1 c2 i3 i4 x8 σ = b_slices_Index_int_l0 k n (d_slices_Index_int_l0 k) p0 c1 c2 i3 i4 x8 σ := by
  simp only [d_slices_Index_int_l0, hide_eq]; kernel_rfl

theorem d_slices_Index_int_eq (k : Nat) (x0 : Option Addr × Nat × Nat) (x1 : Int) (σ : AMem) : d_slices_Index_int (k + 1) x0 x1 σ = b_slices_Index_int k (d_slices_Index_int_l0 k) x0 x1 σ := by
  simp only [d_slices_Index_int, d_slices_Index_int_l0, hide_eq]; kernel_rfl

theorem d_heap_Heap_there_eq (k : Nat) (x0 : Option Addr) (x1 : Int) (σ : AMem) : d_heap_Heap_there (k + 1) x0 x1 σ = b_heap_Heap_there k (d_heap_Heap_made k) x0 x1 σ := by
  simp only [d_heap_Heap_made, d_heap_Heap_there, hide_eq]; kernel_rfl

theorem d_heap_space_eq (k : Nat) (x0 : Int) (σ : AMem) : d_heap_space (k + 1) x0 σ = b_heap_space k  x0 σ := by
  simp only [d_heap_space, hide_eq]; kernel_rfl

theorem d_slices_ContainsFunc_heap_block_eq (k : Nat) (x0 : Option Addr × Nat × Nat) (x1 : Value) (σ : AMem) : d_slices_ContainsFunc_heap_block (k + 1) x0 x1 σ = b_slices_ContainsFunc_heap_block k (d_slices_IndexFunc_heap_block k) x0 x1 σ := by
  simp only [d_slices_ContainsFunc_heap_block, d_slices_IndexFunc_heap_block, hide_eq]; kernel_rfl

theorem d_heap_Heap_claim_c1_eq (k : Nat) (x0_0 : Int) (x0_1 : Int) (σ : AMem) : d_heap_Heap_claim_c1 (k + 1) x0_0 x0_1 σ = b_heap_Heap_claim_c1 k  x0_0 x0_1 σ := by
  simp only [d_heap_Heap_claim_c1, hide_eq]; kernel_rfl

theorem d_heap_Heap_span_l0_eq (k n : Nat) (p0 : Option Addr) (i1 : Int) (x5 : Int) (σ : AMem) : d_heap_Heap_span_l0 k (n + 1) p0 i1 x5 σ = b_heap_Heap_span_l0 k n (d_heap_Heap_span_l0 k) p0 i1 x5 σ := by
  simp only [d_heap_Heap_span_l0, hide_eq]; kernel_rfl

theorem d_heap_Heap_span_eq (k : Nat) (x0 : Option Addr) (x1 : Int) (σ : AMem) : d_heap_Heap_span (k + 1) x0 x1 σ = b_heap_Heap_span k (d_heap_Heap_span_l0 k) x0 x1 σ := by
  simp only [d_heap_Heap_span, d_heap_Heap_span_l0, hide_eq]; kernel_rfl

theorem d_heap_Heap_Find_eq (k : Nat) (x0 : Option Addr) (x1 : Int) (σ : AMem) : d_heap_Heap_Find (k + 1) x0 x1 σ = b_heap_Heap_Find k (d_heap_Heap_made k) (d_heap_Heap_size k) (d_side_Table_Last k) x0 x1 σ := by
  simp only [d_heap_Heap_Find, d_heap_Heap_made, d_heap_Heap_size, d_side_Table_Last, hide_eq]; kernel_rfl

theorem d_side_Table_Get_eq (k : Nat) (x0 : Option Addr) (x1 : Int) (σ : AMem) : d_side_Table_Get (k + 1) x0 x1 σ = b_side_Table_Get k (d_side_Table_get k) (d_side_Table_there k) x0 x1 σ := by
  simp only [d_side_Table_Get, d_side_Table_get, d_side_Table_there, hide_eq]; kernel_rfl

theorem d_side_Table_made_eq (k : Nat) (x0 : Option Addr) (σ : AMem) : d_side_Table_made (k + 1) x0 σ = b_side_Table_made k  x0 σ := by
  simp only [d_side_Table_made, hide_eq]; kernel_rfl

theorem d_side_Table_there_eq (k : Nat) (x0 : Option Addr) (x1 : Int) (σ : AMem) : d_side_Table_there (k + 1) x0 x1 σ = b_side_Table_there k (d_side_Table_made k) x0 x1 σ := by
  simp only [d_side_Table_made, d_side_Table_there, hide_eq]; kernel_rfl

theorem d_slices_ContainsFunc_int_eq (k : Nat) (x0 : Option Addr × Nat × Nat) (x1 : Value) (σ : AMem) : d_slices_ContainsFunc_int (k + 1) x0 x1 σ = b_slices_ContainsFunc_int k (d_slices_IndexFunc_int k) x0 x1 σ := by
  simp only [d_slices_ContainsFunc_int, d_slices_IndexFunc_int, hide_eq]; kernel_rfl

theorem d_side_Table_check_c1_eq (k : Nat) (x0 : Int) (c0 : Option Addr) (σ : AMem) : d_side_Table_check_c1 (k + 1) x0 c0 σ = b_side_Table_check_c1 k (d_side_Table_value k) x0 c0 σ := by
  simp only [d_side_Table_check_c1, d_side_Table_value, hide_eq]; kernel_rfl

theorem d_side_Table_value_eq (k : Nat) (x0 : Option Addr) (x1 : Int) (σ : AMem) : d_side_Table_value (k + 1) x0 x1 σ = b_side_Table_value k (d_side_Table_most k) x0 x1 σ := by
  simp only [d_side_Table_most, d_side_Table_value, hide_eq]; kernel_rfl

theorem d_side_Table_most_eq (k : Nat) (x0 : Option Addr) (σ : AMem) : d_side_Table_most (k + 1) x0 σ = b_side_Table_most k  x0 σ := by
  simp only [d_side_Table_most, hide_eq]; kernel_rfl

theorem d_slices_IndexFunc_heap_block_l0_eq (k n : Nat) (p0 : Option Addr) (c1 : Nat) (c2 : Nat) (v3 : Value) (i4 : Int) (x8 : Int) (σ : AMem) : d_slices_IndexFunc_heap_block_l0 k (n + 1) p0 c1 c2 v3 i4 x8 σ = b_slices_IndexFunc_heap_block_l0 k n (d_callV_ii_t k) (d_slices_IndexFunc_heap_block_l0 k) p0 c1 c2 v3 i4 x8 σ := by
  simp only [d_callV_ii_t, d_slices_IndexFunc_heap_block_l0, hide_eq]; kernel_rfl

theorem d_slices_IndexFunc_heap_block_eq (k : Nat) (x0 : Option Addr × Nat × Nat) (x1 : Value) (σ : AMem) : d_slices_IndexFunc_heap_block (k + 1) x0 x1 σ = b_slices_IndexFunc_heap_block k (d_slices_IndexFunc_heap_block_l0 k) x0 x1 σ := by
  simp only [d_slices_IndexFunc_heap_block, d_slices_IndexFunc_heap_block_l0, hide_eq]; kernel_rfl

theorem d_side_Table_Last_l0_eq (k n : Nat) (p0 : Option Addr) (i1 : Int) (x8 : Int) (σ : AMem) : d_side_Table_Last_l0 k (n + 1) p0 i1 x8 σ = b_side_Table_Last_l0 k n (d_side_Table_Last_l0 k) (d_side_Table_get k) p0 i1 x8 σ := by
  simp only [d_side_Table_Last_l0, d_side_Table_get, hide_eq]; kernel_rfl

theorem d_side_Table_Last_eq (k : Nat) (x0 : Option Addr) (x1 : Int) (x2 : Int) (σ : AMem) : d_side_Table_Last (k + 1) x0 x1 x2 σ = b_side_Table_Last k (d_side_Table_Last_l0 k) (d_side_Table_made k) x0 x1 x2 σ := by
  simp only [d_side_Table_Last, d_side_Table_Last_l0, d_side_Table_made, hide_eq]; kernel_rfl

theorem d_side_Table_get_eq (k : Nat) (x0 : Option Addr) (x1 : Int) (σ : AMem) : d_side_Table_get (k + 1) x0 x1 σ = b_side_Table_get k (d_side_Table_most k) x0 x1 σ := by
  simp only [d_side_Table_get, d_side_Table_most, hide_eq]; kernel_rfl

theorem d_slices_IndexFunc_int_l0_eq (k n : Nat) (p0 : Option Addr) (c1 : Nat) (c2 : Nat) (v3 : Value) (i4 : Int) (x8 : Int) (σ : AMem) : d_slices_IndexFunc_int_l0 k (n + 1) p0 c1 c2 v3 i4 x8 σ = b_slices_IndexFunc_int_l0 k n (d_callV_i_t k) (d_slices_IndexFunc_int_l0 k) p0 c1 c2 v3 i4 x8 σ := by
  simp only [d_callV_i_t, d_slices_IndexFunc_int_l0, hide_eq]; kernel_rfl

theorem d_slices_IndexFunc_int_eq (k : Nat) (x0 : Option Addr × Nat × Nat) (x1 : Value) (σ : AMem) : d_slices_IndexFunc_int (k + 1) x0 x1 σ = b_slices_IndexFunc_int k (d_slices_IndexFunc_int_l0 k) x0 x1 σ := by
  simp only [d_slices_IndexFunc_int, d_slices_IndexFunc_int_l0, hide_eq]; kernel_rfl

theorem d_alloc_first_place_eq (k : Nat) (x1 : Option Addr) (x2 : Int) (σ : AMem) : d_alloc_first_place (k + 1) x1 x2 σ = b_alloc_first_place k (d_alloc_Allocator_gaps k) (d_alloc_Allocator_start k) x1 x2 σ := by
  simp only [d_alloc_Allocator_gaps, d_alloc_Allocator_start, d_alloc_first_place, hide_eq]; kernel_rfl

theorem d_alloc_Allocator_start_eq (k : Nat) (x0 : Option Addr) (x1 : Option Addr × Nat × Nat) (σ : AMem) : d_alloc_Allocator_start (k + 1) x0 x1 σ = b_alloc_Allocator_start k (d_alloc_Allocator_begin k) x0 x1 σ := by
  simp only [d_alloc_Allocator_begin, d_alloc_Allocator_start, hide_eq]; kernel_rfl

theorem d_alloc_Allocator_gaps_l1_eq (k n : Nat) (i0 : Int) (i1 : Int) (p2 : Option Addr) (c3 : Nat) (c4 : Nat) (i5 : Int) (x7 : Option Addr × Nat × Nat) (x27 : Int) (σ : AMem) : d_alloc_Allocator_gaps_l1 k (n + 1) i0 i1 p2 c3 c4 i5 x7 x27 σ = b_alloc_Allocator_gaps_l1 k n (d_alloc_Allocator_gaps_l1 k) i0 i1 p2 c3 c4 i5 x7 x27 σ := by
  simp only [d_alloc_Allocator_gaps_l1, hide_eq]; kernel_rfl

theorem d_alloc_Allocator_gaps_l0_eq (k n : Nat) (p0 : Option Addr) (i1 : Int) (i2 : Int) (p3 : Option Addr) (c4 : Nat) (c5 : Nat) (i6 : Int) (x7 : Option Addr × Nat × Nat) (x16 : Int) (σ : AMem) : d_alloc_Allocator_gaps_l0 k (n + 1) p0 i1 i2 p3 c4 c5 i6 x7 x16 σ = b_alloc_Allocator_gaps_l0 k n (d_alloc_Allocator_gaps_l0 k) (d_alloc_Allocator_gaps_l1 k) (d_heap_Heap_Gaps k) p0 i1 i2 p3 c4 c5 i6 x7 x16 σ := by
  simp only [d_alloc_Allocator_gaps_l0, d_alloc_Allocator_gaps_l1, d_heap_Heap_Gaps, hide_eq]; kernel_rfl

theorem d_alloc_Allocator_gaps_eq (k : Nat) (x0 : Option Addr) (x1 : Int) (x2 : Int) (σ : AMem) : d_alloc_Allocator_gaps (k + 1) x0 x1 x2 σ = b_alloc_Allocator_gaps k (d_alloc_Allocator_blocks k) (d_alloc_Allocator_gaps_l0 k) x0 x1 x2 σ := by
  simp only [d_alloc_Allocator_blocks, d_alloc_Allocator_gaps, d_alloc_Allocator_gaps_l0, hide_eq]; kernel_rfl

theorem d_alloc_Allocator_begin_l0_eq (k n : Nat) (p0 : Option Addr) (h1 : Nat) (x4 : Int) (σ : AMem) : d_alloc_Allocator_begin_l0 k (n + 1) p0 h1 x4 σ = b_alloc_Allocator_begin_l0 k n (d_alloc_Allocator_begin_l0 k) (d_heap_Heap_Blocks k) (d_heap_Heap_Claim k) p0 h1 x4 σ := by
  simp only [d_alloc_Allocator_begin_l0, d_heap_Heap_Blocks, d_heap_Heap_Claim, hide_eq]; kernel_rfl

theorem d_alloc_Allocator_begin_eq (k : Nat) (x0 : Option Addr) (σ : AMem) : d_alloc_Allocator_begin (k + 1) x0 σ = b_alloc_Allocator_begin k (d_alloc_Allocator_begin_l0 k) x0 σ := by
  simp only [d_alloc_Allocator_begin, d_alloc_Allocator_begin_l0, hide_eq]; kernel_rfl

theorem d_alloc_Allocator_blocks_l0_eq (k n : Nat) (p0 : Option Addr) (i1 : Int) (x3 : Option Addr × Nat × Nat) (x10 : Int) (σ : AMem) : d_alloc_Allocator_blocks_l0 k (n + 1) p0 i1 x3 x10 σ = b_alloc_Allocator_blocks_l0 k n (d_alloc_Allocator_blocks_l0 k) (d_heap_Heap_Space k) (d_heap_Heap_State k) p0 i1 x3 x10 σ := by
  simp only [d_alloc_Allocator_blocks_l0, d_heap_Heap_Space, d_heap_Heap_State, hide_eq]; kernel_rfl

theorem d_alloc_Allocator_blocks_eq (k : Nat) (x0 : Option Addr) (σ : AMem) : d_alloc_Allocator_blocks (k + 1) x0 σ = b_alloc_Allocator_blocks k (d_alloc_Allocator_blocks_l0 k) (d_heap_Heap_Blocks k) x0 σ := by
  simp only [d_alloc_Allocator_blocks, d_alloc_Allocator_blocks_l0, d_heap_Heap_Blocks, hide_eq]; kernel_rfl

theorem d_heap_Heap_Gaps_l0_eq (k n : Nat) (p0 : Option Addr) (h1 : Nat) (h2 : Nat) (p3 : Option Addr) (c4 : Nat) (c5 : Nat) (i6 : Int) (x21 : Int) (σ : AMem) : d_heap_Heap_Gaps_l0 k (n + 1) p0 h1 h2 p3 c4 c5 i6 x21 σ = b_heap_Heap_Gaps_l0 k n (d_heap_Heap_Gaps_c1 k) (d_heap_Heap_Gaps_l0 k) (d_heap_Heap_size k) p0 h1 h2 p3 c4 c5 i6 x21 σ := by
  simp only [d_heap_Heap_Gaps_c1, d_heap_Heap_Gaps_l0, d_heap_Heap_size, hide_eq]; kernel_rfl

theorem d_heap_Heap_Gaps_eq (k : Nat) (x0 : Option Addr) (x1 : Int) (σ : AMem) : d_heap_Heap_Gaps (k + 1) x0 x1 σ = b_heap_Heap_Gaps k (d_heap_Heap_Gaps_c1 k) (d_heap_Heap_Gaps_l0 k) (d_heap_Heap_Objects k) (d_heap_Heap_used k) x0 x1 σ := by
  simp only [d_heap_Heap_Gaps, d_heap_Heap_Gaps_c1, d_heap_Heap_Gaps_l0, d_heap_Heap_Objects, d_heap_Heap_used, hide_eq]; kernel_rfl

theorem d_heap_Heap_State_eq (k : Nat) (x0 : Option Addr) (x1 : Int) (σ : AMem) : d_heap_Heap_State (k + 1) x0 x1 σ = b_heap_Heap_State k (d_heap_Heap_Blocks k) x0 x1 σ := by
  simp only [d_heap_Heap_Blocks, d_heap_Heap_State, hide_eq]; kernel_rfl

theorem d_heap_Heap_used_eq (k : Nat) (x0 : Option Addr) (x1 : Int) (σ : AMem) : d_heap_Heap_used (k + 1) x0 x1 σ = b_heap_Heap_used k (d_heap_Heap_there k) x0 x1 σ := by
  simp only [d_heap_Heap_there, d_heap_Heap_used, hide_eq]; kernel_rfl

theorem d_heap_Heap_Gaps_c1_eq (k : Nat) (x0 : Int) (c0 : Option Addr) (c1 : Option Addr) (σ : AMem) : d_heap_Heap_Gaps_c1 (k + 1) x0 c0 c1 σ = b_heap_Heap_Gaps_c1 k  x0 c0 c1 σ := by
  simp only [d_heap_Heap_Gaps_c1, hide_eq]; kernel_rfl

theorem d_heap_Heap_Objects_eq (k : Nat) (x0 : Option Addr) (x1 : Int) (σ : AMem) : d_heap_Heap_Objects (k + 1) x0 x1 σ = b_heap_Heap_Objects k (d_heap_Heap_between k) (d_heap_Heap_made k) x0 x1 σ := by
  simp only [d_heap_Heap_Objects, d_heap_Heap_between, d_heap_Heap_made, hide_eq]; kernel_rfl

theorem d_heap_Heap_between_l0_eq (k n : Nat) (p0 : Option Addr) (i1 : Int) (x7 : Option Addr × Nat × Nat) (x8 : Int) (x9 : Int) (σ : AMem) : d_heap_Heap_between_l0 k (n + 1) p0 i1 x7 x8 x9 σ = b_heap_Heap_between_l0 k n (d_heap_Heap_between_l0 k) (d_side_Table_Next k) p0 i1 x7 x8 x9 σ := by
  simp only [d_heap_Heap_between_l0, d_side_Table_Next, hide_eq]; kernel_rfl

theorem d_heap_Heap_between_eq (k : Nat) (x0 : Option Addr) (x1 : Int) (x2 : Int) (σ : AMem) : d_heap_Heap_between (k + 1) x0 x1 x2 σ = b_heap_Heap_between k (d_heap_Heap_between_l0 k) (d_side_Table_Next k) x0 x1 x2 σ := by
  simp only [d_heap_Heap_between, d_heap_Heap_between_l0, d_side_Table_Next, hide_eq]; kernel_rfl

theorem d_side_Table_Next_l0_eq (k n : Nat) (p0 : Option Addr) (i1 : Int) (x8 : Int) (σ : AMem) : d_side_Table_Next_l0 k (n + 1) p0 i1 x8 σ = b_side_Table_Next_l0 k n (d_side_Table_Next_l0 k) (d_side_Table_get k) p0 i1 x8 σ := by
  simp only [d_side_Table_Next_l0, d_side_Table_get, hide_eq]; kernel_rfl

theorem d_side_Table_Next_eq (k : Nat) (x0 : Option Addr) (x1 : Int) (x2 : Int) (σ : AMem) : d_side_Table_Next (k + 1) x0 x1 x2 σ = b_side_Table_Next k (d_side_Table_Next_l0 k) (d_side_Table_made k) x0 x1 x2 σ := by
  simp only [d_side_Table_Next, d_side_Table_Next_l0, d_side_Table_made, hide_eq]; kernel_rfl

theorem d_alloc_best_place_eq (k : Nat) (x1 : Option Addr) (x2 : Int) (σ : AMem) : d_alloc_best_place (k + 1) x1 x2 σ = b_alloc_best_place k (d_alloc_Allocator_gaps k) (d_alloc_Allocator_start k) (d_slices_SortStableFunc_api_Run k) x1 x2 σ := by
  simp only [d_alloc_Allocator_gaps, d_alloc_Allocator_start, d_alloc_best_place, d_slices_SortStableFunc_api_Run, hide_eq]; kernel_rfl

theorem d_slices_SortStableFunc_api_Run_eq (k : Nat) (x0 : Option Addr × Nat × Nat) (x1 : Value) (σ : AMem) : d_slices_SortStableFunc_api_Run (k + 1) x0 x1 σ = b_slices_SortStableFunc_api_Run k (d_slices_stableCmpFunc_api_Run k) x0 x1 σ := by
  simp only [d_slices_SortStableFunc_api_Run, d_slices_stableCmpFunc_api_Run, hide_eq]; kernel_rfl

theorem d_alloc_best_place_c1_eq (k : Nat) (x0_0 : Int) (x0_1 : Int) (x1_0 : Int) (x1_1 : Int) (σ : AMem) : d_alloc_best_place_c1 (k + 1) x0_0 x0_1 x1_0 x1_1 σ = b_alloc_best_place_c1 k  x0_0 x0_1 x1_0 x1_1 σ := by
  simp only [d_alloc_best_place_c1, hide_eq]; kernel_rfl

theorem d_slices_stableCmpFunc_api_Run_l0_eq (k n : Nat) (p0 : Option Addr) (c1 : Nat) (c2 : Nat) (i3 : Int) (v4 : Value) (x7 : Int) (x8 : Int) (σ : AMem) : d_slices_stableCmpFunc_api_Run_l0 k (n + 1) p0 c1 c2 i3 v4 x7 x8 σ = b_slices_stableCmpFunc_api_Run_l0 k n (d_slices_insertionSortCmpFunc_api_Run k) (d_slices_stableCmpFunc_api_Run_l0 k) p0 c1 c2 i3 v4 x7 x8 σ := by
  simp only [d_slices_insertionSortCmpFunc_api_Run, d_slices_stableCmpFunc_api_Run_l0, hide_eq]; kernel_rfl

theorem d_slices_stableCmpFunc_api_Run_l2_eq (k n : Nat) (p0 : Option Addr) (c1 : Nat) (c2 : Nat) (i3 : Int) (v4 : Value) (i5 : Int) (x7 : Int) (x8 : Int) (σ : AMem) : d_slices_stableCmpFunc_api_Run_l2 k (n + 1) p0 c1 c2 i3 v4 i5 x7 x8 σ = b_slices_stableCmpFunc_api_Run_l2 k n (d_slices_stableCmpFunc_api_Run_l2 k) (d_slices_symMergeCmpFunc_api_Run k) p0 c1 c2 i3 v4 i5 x7 x8 σ := by
  simp only [d_slices_stableCmpFunc_api_Run_l2, d_slices_symMergeCmpFunc_api_Run, hide_eq]; kernel_rfl

theorem d_slices_stableCmpFunc_api_Run_l1_eq (k n : Nat) (p0 : Option Addr) (c1 : Nat) (c2 : Nat) (i3 : Int) (v4 : Value) (x6 : Int) (σ : AMem) : d_slices_stableCmpFunc_api_Run_l1 k (n + 1) p0 c1 c2 i3 v4 x6 σ = b_slices_stableCmpFunc_api_Run_l1 k n (d_slices_stableCmpFunc_api_Run_l1 k) (d_slices_stableCmpFunc_api_Run_l2 k) (d_slices_symMergeCmpFunc_api_Run k) p0 c1 c2 i3 v4 x6 σ := by
  simp only [d_slices_stableCmpFunc_api_Run_l1, d_slices_stableCmpFunc_api_Run_l2, d_slices_symMergeCmpFunc_api_Run, hide_eq]; kernel_rfl

theorem d_slices_stableCmpFunc_api_Run_eq (k : Nat) (x0 : Option Addr × Nat × Nat) (x1 : Int) (x2 : Value) (σ : AMem) : d_slices_stableCmpFunc_api_Run (k + 1) x0 x1 x2 σ = b_slices_stableCmpFunc_api_Run k (d_slices_insertionSortCmpFunc_api_Run k) (d_slices_stableCmpFunc_api_Run_l0 k) (d_slices_stableCmpFunc_api_Run_l1 k) x0 x1 x2 σ := by
  simp only [d_slices_insertionSortCmpFunc_api_Run, d_slices_stableCmpFunc_api_Run, d_slices_stableCmpFunc_api_Run_l0, d_slices_stableCmpFunc_api_Run_l1, hide_eq]; kernel_rfl

theorem d_slices_insertionSortCmpFunc_api_Run_l1_eq (k n : Nat) (p0 : Option Addr) (c1 : Nat) (c2 : Nat) (i3 : Int) (v4 : Value) (x9 : Int) (σ : AMem) : d_slices_insertionSortCmpFunc_api_Run_l1 k (n + 1) p0 c1 c2 i3 v4 x9 σ = b_slices_insertionSortCmpFunc_api_Run_l1 k n (d_callV_iiii_i k) (d_slices_insertionSortCmpFunc_api_Run_l1 k) p0 c1 c2 i3 v4 x9 σ := by
  simp only [d_callV_iiii_i, d_slices_insertionSortCmpFunc_api_Run_l1, hide_eq]; kernel_rfl

theorem d_slices_insertionSortCmpFunc_api_Run_l0_eq (k n : Nat) (p0 : Option Addr) (c1 : Nat) (c2 : Nat) (i3 : Int) (i4 : Int) (v5 : Value) (x8 : Int) (σ : AMem) : d_slices_insertionSortCmpFunc_api_Run_l0 k (n + 1) p0 c1 c2 i3 i4 v5 x8 σ = b_slices_insertionSortCmpFunc_api_Run_l0 k n (d_slices_insertionSortCmpFunc_api_Run_l0 k) (d_slices_insertionSortCmpFunc_api_Run_l1 k) p0 c1 c2 i3 i4 v5 x8 σ := by
  simp only [d_slices_insertionSortCmpFunc_api_Run_l0, d_slices_insertionSortCmpFunc_api_Run_l1, hide_eq]; kernel_rfl

theorem d_slices_insertionSortCmpFunc_api_Run_eq (k : Nat) (x0 : Option Addr × Nat × Nat) (x1 : Int) (x2 : Int) (x3 : Value) (σ : AMem) : d_slices_insertionSortCmpFunc_api_Run (k + 1) x0 x1 x2 x3 σ = b_slices_insertionSortCmpFunc_api_Run k (d_slices_insertionSortCmpFunc_api_Run_l0 k) x0 x1 x2 x3 σ := by
  simp only [d_slices_insertionSortCmpFunc_api_Run, d_slices_insertionSortCmpFunc_api_Run_l0, hide_eq]; kernel_rfl

theorem d_slices_symMergeCmpFunc_api_Run_l0_eq (k n : Nat) (p0 : Option Addr) (c1 : Nat) (c2 : Nat) (i3 : Int) (v4 : Value) (x10 : Int) (x11 : Int) (σ : AMem) : d_slices_symMergeCmpFunc_api_Run_l0 k (n + 1) p0 c1 c2 i3 v4 x10 x11 σ = b_slices_symMergeCmpFunc_api_Run_l0 k n (d_callV_iiii_i k) (d_slices_symMergeCmpFunc_api_Run_l0 k) p0 c1 c2 i3 v4 x10 x11 σ := by
  simp only [d_callV_iiii_i, d_slices_symMergeCmpFunc_api_Run_l0, hide_eq]; kernel_rfl

theorem d_slices_symMergeCmpFunc_api_Run_l1_eq (k n : Nat) (p0 : Option Addr) (c1 : Nat) (c2 : Nat) (i3 : Int) (x13 : Int) (σ : AMem) : d_slices_symMergeCmpFunc_api_Run_l1 k (n + 1) p0 c1 c2 i3 x13 σ = b_slices_symMergeCmpFunc_api_Run_l1 k n (d_slices_symMergeCmpFunc_api_Run_l1 k) p0 c1 c2 i3 x13 σ := by
  simp only [d_slices_symMergeCmpFunc_api_Run_l1, hide_eq]; kernel_rfl

theorem d_slices_symMergeCmpFunc_api_Run_l2_eq (k n : Nat) (p0 : Option Addr) (c1 : Nat) (c2 : Nat) (i3 : Int) (v4 : Value) (x14 : Int) (x15 : Int) (σ : AMem) : d_slices_symMergeCmpFunc_api_Run_l2 k (n + 1) p0 c1 c2 i3 v4 x14 x15 σ = b_slices_symMergeCmpFunc_api_Run_l2 k n (d_callV_iiii_i k) (d_slices_symMergeCmpFunc_api_Run_l2 k) p0 c1 c2 i3 v4 x14 x15 σ := by
  simp only [d_callV_iiii_i, d_slices_symMergeCmpFunc_api_Run_l2, hide_eq]; kernel_rfl

theorem d_slices_symMergeCmpFunc_api_Run_l3_eq (k n : Nat) (p0 : Option Addr) (c1 : Nat) (c2 : Nat) (i3 : Int) (x17 : Int) (σ : AMem) : d_slices_symMergeCmpFunc_api_Run_l3 k (n + 1) p0 c1 c2 i3 x17 σ = b_slices_symMergeCmpFunc_api_Run_l3 k n (d_slices_symMergeCmpFunc_api_Run_l3 k) p0 c1 c2 i3 x17 σ := by
  simp only [d_slices_symMergeCmpFunc_api_Run_l3, hide_eq]; kernel_rfl

theorem d_slices_symMergeCmpFunc_api_Run_l4_eq (k n : Nat) (p0 : Option Addr) (c1 : Nat) (c2 : Nat) (v3 : Value) (i4 : Int) (x20 : Int) (x21 : Int) (σ : AMem) : d_slices_symMergeCmpFunc_api_Run_l4 k (n + 1) p0 c1 c2 v3 i4 x20 x21 σ = b_slices_symMergeCmpFunc_api_Run_l4 k n (d_callV_iiii_i k) (d_slices_symMergeCmpFunc_api_Run_l4 k) p0 c1 c2 v3 i4 x20 x21 σ := by
  simp only [d_callV_iiii_i, d_slices_symMergeCmpFunc_api_Run_l4, hide_eq]; kernel_rfl

theorem d_slices_symMergeCmpFunc_api_Run_eq (k : Nat) (x0 : Option Addr × Nat × Nat) (x1 : Int) (x2 : Int) (x3 : Int) (x4 : Value) (σ : AMem) : d_slices_symMergeCmpFunc_api_Run (k + 1) x0 x1 x2 x3 x4 σ = b_slices_symMergeCmpFunc_api_Run k (d_slices_rotateCmpFunc_api_Run k) (d_slices_symMergeCmpFunc_api_Run k) (d_slices_symMergeCmpFunc_api_Run_l0 k) (d_slices_symMergeCmpFunc_api_Run_l1 k) (d_slices_symMergeCmpFunc_api_Run_l2 k) (d_slices_symMergeCmpFunc_api_Run_l3 k) (d_slices_symMergeCmpFunc_api_Run_l4 k) x0 x1 x2 x3 x4 σ := by
  simp only [d_slices_rotateCmpFunc_api_Run, d_slices_symMergeCmpFunc_api_Run, d_slices_symMergeCmpFunc_api_Run_l0, d_slices_symMergeCmpFunc_api_Run_l1, d_slices_symMergeCmpFunc_api_Run_l2, d_slices_symMergeCmpFunc_api_Run_l3, d_slices_symMergeCmpFunc_api_Run_l4, hide_eq]; kernel_rfl

theorem d_slices_rotateCmpFunc_api_Run_l0_eq (k n : Nat) (p0 : Option Addr) (c1 : Nat) (c2 : Nat) (i3 : Int) (v4 : Value) (x10 : Int) (x11 : Int) (σ : AMem) : d_slices_rotateCmpFunc_api_Run_l0 k (n + 1) p0 c1 c2 i3 v4 x10 x11 σ = b_slices_rotateCmpFunc_api_Run_l0 k n (d_slices_rotateCmpFunc_api_Run_l0 k) (d_slices_swapRangeCmpFunc_api_Run k) p0 c1 c2 i3 v4 x10 x11 σ := by
  simp only [d_slices_rotateCmpFunc_api_Run_l0, d_slices_swapRangeCmpFunc_api_Run, hide_eq]; kernel_rfl

theorem d_slices_rotateCmpFunc_api_Run_eq (k : Nat) (x0 : Option Addr × Nat × Nat) (x1 : Int) (x2 : Int) (x3 : Int) (x4 : Value) (σ : AMem) : d_slices_rotateCmpFunc_api_Run (k + 1) x0 x1 x2 x3 x4 σ = b_slices_rotateCmpFunc_api_Run k (d_slices_rotateCmpFunc_api_Run_l0 k) (d_slices_swapRangeCmpFunc_api_Run k) x0 x1 x2 x3 x4 σ := by
  simp only [d_slices_rotateCmpFunc_api_Run, d_slices_rotateCmpFunc_api_Run_l0, d_slices_swapRangeCmpFunc_api_Run, hide_eq]; kernel_rfl

theorem d_slices_swapRangeCmpFunc_api_Run_l0_eq (k n : Nat) (p0 : Option Addr) (c1 : Nat) (c2 : Nat) (i3 : Int) (i4 : Int) (i5 : Int) (x10 : Int) (σ : AMem) : d_slices_swapRangeCmpFunc_api_Run_l0 k (n + 1) p0 c1 c2 i3 i4 i5 x10 σ = b_slices_swapRangeCmpFunc_api_Run_l0 k n (d_slices_swapRangeCmpFunc_api_Run_l0 k) p0 c1 c2 i3 i4 i5 x10 σ := by
  simp only [d_slices_swapRangeCmpFunc_api_Run_l0, hide_eq]; kernel_rfl

theorem d_slices_swapRangeCmpFunc_api_Run_eq (k : Nat) (x0 : Option Addr × Nat × Nat) (x1 : Int) (x2 : Int) (x3 : Int) (x4 : Value) (σ : AMem) : d_slices_swapRangeCmpFunc_api_Run (k + 1) x0 x1 x2 x3 x4 σ = b_slices_swapRangeCmpFunc_api_Run k (d_slices_swapRangeCmpFunc_api_Run_l0 k) x0 x1 x2 x3 x4 σ := by
  simp only [d_slices_swapRangeCmpFunc_api_Run, d_slices_swapRangeCmpFunc_api_Run_l0, hide_eq]; kernel_rfl

theorem d_alloc_next_place_eq (k : Nat) (x1 : Option Addr) (x2 : Int) (σ : AMem) : d_alloc_next_place (k + 1) x1 x2 σ = b_alloc_next_place k (d_alloc_Allocator_gaps k) (d_alloc_Allocator_start k) x1 x2 σ := by
  simp only [d_alloc_Allocator_gaps, d_alloc_Allocator_start, d_alloc_next_place, hide_eq]; kernel_rfl

theorem d_alloc_bump_place_eq (k : Nat) (x1 : Option Addr) (x2 : Int) (σ : AMem) : d_alloc_bump_place (k + 1) x1 x2 σ = b_alloc_bump_place k (d_alloc_Allocator_bumped k) x1 x2 σ := by
  simp only [d_alloc_Allocator_bumped, d_alloc_bump_place, hide_eq]; kernel_rfl

theorem d_alloc_Allocator_bumped_eq (k : Nat) (x0 : Option Addr) (x1 : Option Addr) (x2 : Int) (σ : AMem) : d_alloc_Allocator_bumped (k + 1) x0 x1 x2 σ = b_alloc_Allocator_bumped k (d_alloc_Allocator_begin k) (d_alloc_area_has k) (d_alloc_area_take k) x0 x1 x2 σ := by
  simp only [d_alloc_Allocator_begin, d_alloc_Allocator_bumped, d_alloc_area_has, d_alloc_area_take, hide_eq]; kernel_rfl

theorem d_alloc_area_has_eq (k : Nat) (x0 : Option Addr) (x1 : Int) (σ : AMem) : d_alloc_area_has (k + 1) x0 x1 σ = b_alloc_area_has k  x0 x1 σ := by
  simp only [d_alloc_area_has, hide_eq]; kernel_rfl

theorem d_alloc_area_take_eq (k : Nat) (x0 : Option Addr) (x1 : Int) (σ : AMem) : d_alloc_area_take (k + 1) x0 x1 σ = b_alloc_area_take k  x0 x1 σ := by
  simp only [d_alloc_area_take, hide_eq]; kernel_rfl

theorem d_alloc_lines_place_eq (k : Nat) (x1 : Option Addr) (x2 : Int) (σ : AMem) : d_alloc_lines_place (k + 1) x1 x2 σ = b_alloc_lines_place k (d_alloc_Allocator_bumped k) (d_alloc_Allocator_hole k) (d_alloc_area_has k) (d_alloc_area_take k) x1 x2 σ := by
  simp only [d_alloc_Allocator_bumped, d_alloc_Allocator_hole, d_alloc_area_has, d_alloc_area_take, d_alloc_lines_place, hide_eq]; kernel_rfl

theorem d_alloc_Allocator_hole_l2_eq (k n : Nat) (p0 : Option Addr) (c1 : Nat) (c2 : Nat) (x8 : Int) (σ : AMem) : d_alloc_Allocator_hole_l2 k (n + 1) p0 c1 c2 x8 σ = b_alloc_Allocator_hole_l2 k n (d_alloc_Allocator_hole_l2 k) p0 c1 c2 x8 σ := by
  simp only [d_alloc_Allocator_hole_l2, hide_eq]; kernel_rfl

theorem d_alloc_Allocator_hole_l1_eq (k n : Nat) (p0 : Option Addr) (h1 : Nat) (i2 : Int) (p3 : Option Addr) (c4 : Nat) (c5 : Nat) (x7 : Int) (σ : AMem) : d_alloc_Allocator_hole_l1 k (n + 1) p0 h1 i2 p3 c4 c5 x7 σ = b_alloc_Allocator_hole_l1 k n (d_alloc_Allocator_hole_l1 k) (d_alloc_Allocator_hole_l2 k) p0 h1 i2 p3 c4 c5 x7 σ := by
  simp only [d_alloc_Allocator_hole_l1, d_alloc_Allocator_hole_l2, hide_eq]; kernel_rfl

theorem d_alloc_Allocator_hole_l0_eq (k n : Nat) (p0 : Option Addr) (h1 : Nat) (p2 : Option Addr) (c3 : Nat) (c4 : Nat) (i5 : Int) (x13 : Int) (σ : AMem) : d_alloc_Allocator_hole_l0 k (n + 1) p0 h1 p2 c3 c4 i5 x13 σ = b_alloc_Allocator_hole_l0 k n (d_alloc_Allocator_hole_l0 k) (d_alloc_Allocator_hole_l1 k) (d_heap_Heap_Lines k) p0 h1 p2 c3 c4 i5 x13 σ := by
  simp only [d_alloc_Allocator_hole_l0, d_alloc_Allocator_hole_l1, d_heap_Heap_Lines, hide_eq]; kernel_rfl

theorem d_alloc_Allocator_hole_eq (k : Nat) (x0 : Option Addr) (σ : AMem) : d_alloc_Allocator_hole (k + 1) x0 σ = b_alloc_Allocator_hole k (d_alloc_Allocator_begin k) (d_alloc_Allocator_blocks k) (d_alloc_Allocator_hole_l0 k) x0 σ := by
  simp only [d_alloc_Allocator_begin, d_alloc_Allocator_blocks, d_alloc_Allocator_hole, d_alloc_Allocator_hole_l0, hide_eq]; kernel_rfl

theorem d_heap_Heap_Lines_l1_eq (k n : Nat) (h0 : Nat) (c1 : Nat) (i2 : Int) (x10 : Int) (σ : AMem) : d_heap_Heap_Lines_l1 k (n + 1) h0 c1 i2 x10 σ = b_heap_Heap_Lines_l1 k n (d_heap_Heap_Lines_l1 k) h0 c1 i2 x10 σ := by
  simp only [d_heap_Heap_Lines_l1, hide_eq]; kernel_rfl

theorem d_heap_Heap_Lines_l0_eq (k n : Nat) (p0 : Option Addr) (h1 : Nat) (c2 : Nat) (p3 : Option Addr) (c4 : Nat) (c5 : Nat) (i6 : Int) (x20 : Int) (σ : AMem) : d_heap_Heap_Lines_l0 k (n + 1) p0 h1 c2 p3 c4 c5 i6 x20 σ = b_heap_Heap_Lines_l0 k n (d_heap_Heap_Lines_l0 k) (d_heap_Heap_Lines_l1 k) (d_heap_Heap_size k) p0 h1 c2 p3 c4 c5 i6 x20 σ := by
  simp only [d_heap_Heap_Lines_l0, d_heap_Heap_Lines_l1, d_heap_Heap_size, hide_eq]; kernel_rfl

theorem d_heap_Heap_Lines_eq (k : Nat) (x0 : Option Addr) (x1 : Int) (σ : AMem) : d_heap_Heap_Lines (k + 1) x0 x1 σ = b_heap_Heap_Lines k (d_heap_Heap_Lines_l0 k) (d_heap_Heap_Objects k) (d_heap_Heap_used k) x0 x1 σ := by
  simp only [d_heap_Heap_Lines, d_heap_Heap_Lines_l0, d_heap_Heap_Objects, d_heap_Heap_used, hide_eq]; kernel_rfl

theorem law05_AllocBumps_is (k : Nat) (x0 : Int) (x1 : Option Addr × Nat × Nat) (x2 : Option Addr × Nat × Nat) (σ : AMem) : fn P (XK Kn.b) H k 3 [.int .i64 x0, .slice x1.1 x1.2.1 x1.2.2, .slice x2.1 x2.2.1 x2.2.2] σ = d_law05_AllocBumps k x0 x1 x2 σ := by
  simp only [d_law05_AllocBumps, hide_eq]

theorem callV_pi_it_alloc_Allocator_large (k : Nat) (x0 : Option Addr) (x1 : Int) (σ : AMem) : d_callV_pi_it k (.func (.func 18) #[] #[]) [.pointer x0, .int .i64 x1] σ = d_alloc_Allocator_large k x0 x1 σ := by
  simp only [d_callV_pi_it, d_alloc_Allocator_large, hide_eq]; kernel_rfl

theorem callV_ii_t_heap_Heap_claim_c1 (k : Nat) (x0_0 : Int) (x0_1 : Int) (σ : AMem) : d_callV_ii_t k (.func (.func 38) #[] #[]) [.agg #[.int .i64 x0_0, .int .i64 x0_1]] σ = d_heap_Heap_claim_c1 k x0_0 x0_1 σ := by
  simp only [d_callV_ii_t, d_heap_Heap_claim_c1, hide_eq]; kernel_rfl

theorem callV_i_t_side_Table_check_c1 (k : Nat) (x0 : Int) (c0 : Option Addr) (σ : AMem) : d_callV_i_t k (.func (.func 45) #[] #[.pointer c0]) [.int .i64 x0] σ = d_side_Table_check_c1 k x0 c0 σ := by
  simp only [d_callV_i_t, d_side_Table_check_c1, hide_eq]; kernel_rfl

theorem callV_iiii_i_alloc_best_place_c1 (k : Nat) (x0_0 : Int) (x0_1 : Int) (x1_0 : Int) (x1_1 : Int) (σ : AMem) : d_callV_iiii_i k (.func (.func 84) #[] #[]) [.agg #[.int .i64 x0_0, .int .i64 x0_1], .agg #[.int .i64 x1_0, .int .i64 x1_1]] σ = d_alloc_best_place_c1 k x0_0 x0_1 x1_0 x1_1 σ := by
  simp only [d_callV_iiii_i, d_alloc_best_place_c1, hide_eq]; kernel_rfl

end

theorem d_law05_alive_eq [Quiet] (k : Nat) (σ : AMem) : @d_law05_alive _ ⟨true⟩ (k + 1) σ = some (.bool true, σ) := by
  simp only [d_law05_alive, hide_eq]; kernel_rfl

theorem eqA_ptrs (a : Addr) : eqA P pt_heap_Heap (.pointer (some a)) (.pointer none) = some false ∧ eqA P pt_heap_Heap (.pointer none) (.pointer none) = some true ∧ eqA P pt_alloc_Allocator (.pointer (some a)) (.pointer none) = some false ∧ eqA P pt_alloc_Allocator (.pointer none) (.pointer none) = some true ∧ eqA P pt_side_Table (.pointer (some a)) (.pointer none) = some false ∧ eqA P pt_side_Table (.pointer none) (.pointer none) = some true := by
  refine ⟨?_, ?_, ?_, ?_, ?_, ?_⟩ <;> kernel_rfl

abbrev fn_law05_AllocBumps : FuncId := 3
abbrev fn_heap_New : FuncId := 4
abbrev fn_law05_few : FuncId := 5
abbrev fn_law05_alive : FuncId := 6
abbrev fn_alloc_New : FuncId := 7
abbrev fn_alloc_Allocator_Alloc : FuncId := 8
abbrev fn_heap_Words : FuncId := 9
abbrev fn_heap_Heap_Kill : FuncId := 10
abbrev fn_side_New : FuncId := 11
abbrev fn_heap_Heap_Claim : FuncId := 12
abbrev fn_heap_Heap_Place : FuncId := 13
abbrev fn_heap_Heap_Blocks : FuncId := 14
abbrev fn_alloc_policies : FuncId := 15
abbrev fn_alloc_Allocator_made : FuncId := 16
abbrev fn_heap_Valid : FuncId := 17
abbrev fn_alloc_Allocator_large : FuncId := 18
abbrev fn_heap_Heap_Space : FuncId := 19
abbrev fn_heap_Heap_object : FuncId := 20
abbrev fn_side_Table_Set : FuncId := 21
abbrev fn_heap_Heap_wipe : FuncId := 22
abbrev fn_heap_Heap_size : FuncId := 23
abbrev fn_slices_Contains_int : FuncId := 24
abbrev fn_heap_Heap_claim : FuncId := 25
abbrev fn_heap_Heap_made : FuncId := 26
abbrev fn_heap_Heap_fits : FuncId := 27
abbrev fn_heap_number : FuncId := 28
abbrev fn_heap_Heap_ClaimLarge : FuncId := 29
abbrev fn_heap_Heap_Has : FuncId := 30
abbrev fn_side_Table_check : FuncId := 31
abbrev fn_side_Table_put : FuncId := 32
abbrev fn_heap_shape : FuncId := 33
abbrev fn_slices_Index_int : FuncId := 34
abbrev fn_heap_Heap_there : FuncId := 35
abbrev fn_heap_space : FuncId := 36
abbrev fn_slices_ContainsFunc_heap_block : FuncId := 37
abbrev fn_heap_Heap_claim_c1 : FuncId := 38
abbrev fn_heap_Heap_span : FuncId := 39
abbrev fn_heap_Heap_Find : FuncId := 40
abbrev fn_side_Table_Get : FuncId := 41
abbrev fn_side_Table_made : FuncId := 42
abbrev fn_side_Table_there : FuncId := 43
abbrev fn_slices_ContainsFunc_int : FuncId := 44
abbrev fn_side_Table_check_c1 : FuncId := 45
abbrev fn_side_Table_value : FuncId := 46
abbrev fn_side_Table_most : FuncId := 47
abbrev fn_slices_IndexFunc_heap_block : FuncId := 48
abbrev fn_side_Table_Last : FuncId := 49
abbrev fn_side_Table_get : FuncId := 50
abbrev fn_slices_IndexFunc_int : FuncId := 51
abbrev fn_alloc_first_place : FuncId := 70
abbrev fn_alloc_Allocator_start : FuncId := 71
abbrev fn_alloc_Allocator_gaps : FuncId := 72
abbrev fn_alloc_Allocator_begin : FuncId := 73
abbrev fn_alloc_Allocator_blocks : FuncId := 74
abbrev fn_heap_Heap_Gaps : FuncId := 75
abbrev fn_heap_Heap_State : FuncId := 76
abbrev fn_heap_Heap_used : FuncId := 77
abbrev fn_heap_Heap_Gaps_c1 : FuncId := 78
abbrev fn_heap_Heap_Objects : FuncId := 79
abbrev fn_heap_Heap_between : FuncId := 80
abbrev fn_side_Table_Next : FuncId := 81
abbrev fn_alloc_best_place : FuncId := 82
abbrev fn_slices_SortStableFunc_api_Run : FuncId := 83
abbrev fn_alloc_best_place_c1 : FuncId := 84
abbrev fn_slices_stableCmpFunc_api_Run : FuncId := 85
abbrev fn_slices_insertionSortCmpFunc_api_Run : FuncId := 86
abbrev fn_slices_symMergeCmpFunc_api_Run : FuncId := 87
abbrev fn_slices_rotateCmpFunc_api_Run : FuncId := 88
abbrev fn_slices_swapRangeCmpFunc_api_Run : FuncId := 89
abbrev fn_alloc_next_place : FuncId := 90
abbrev fn_alloc_bump_place : FuncId := 91
abbrev fn_alloc_Allocator_bumped : FuncId := 92
abbrev fn_alloc_area_has : FuncId := 93
abbrev fn_alloc_area_take : FuncId := 94
abbrev fn_alloc_lines_place : FuncId := 95
abbrev fn_alloc_Allocator_hole : FuncId := 96
abbrev fn_heap_Heap_Lines : FuncId := 97

section
local instance kn0 : Kn := ⟨false⟩
variable [Quiet]

theorem d_law05_alive_run_eq (k : Nat)  (σ : AMem) : d_law05_alive (k + 1)  σ = b_law05_alive k (d_alloc_Allocator_Alloc k) (d_alloc_New k) (d_heap_Heap_Claim k) (d_heap_Heap_Kill k) (d_heap_Heap_Place k) (d_heap_New k)  σ := by
  simp only [d_alloc_Allocator_Alloc, d_alloc_New, d_heap_Heap_Claim, d_heap_Heap_Kill, d_heap_Heap_Place, d_heap_New, d_law05_alive, hide_eq]; kernel_rfl

end

end Go.Proofs.Ytlaplcglpnlieaa
