/-
  PRINTED BY A PROGRAM OF THIS SESSION'S OWN (gen2.py): the unfolding equations.
-/
import Derived.Test.YtilefhlamdiomaaGreatGFB
set_option maxRecDepth 100000
set_option linter.unusedVariables false
set_option linter.unusedSimpArgs false
set_option linter.unusedSectionVars false
namespace Go.Proofs.YtilefhlamdiomaaGreat
open Go Go.AX
section
variable [Quiet] [Kn]

theorem d_law17_SnapNone_l0_eq (k n : Nat) : d_law17_SnapNone_l0 k (n + 1) = b_law17_SnapNone_l0 k (d_snap_New k) (d_law17_SnapNone_l0 k n) := by
  funext _ _ _ _ _; simp only [d_law17_SnapNone_l0, d_snap_New, hide_eq, b_law17_SnapNone_l0, sw, strA, strR, str0]; kernel_rfl

theorem d_law17_SnapNone_l1_eq (k n : Nat) : d_law17_SnapNone_l1 k (n + 1) = b_law17_SnapNone_l1 k (d_snap_New k) (d_law17_SnapNone_l1 k n) := by
  funext _ _ _ _ _; simp only [d_law17_SnapNone_l1, d_snap_New, hide_eq, b_law17_SnapNone_l1, sw, strA, strR, str0]; kernel_rfl

theorem d_law17_SnapNone_l2_eq (k n : Nat) : d_law17_SnapNone_l2 k (n + 1) = b_law17_SnapNone_l2 k (d_snap_Collector_Alloc k) (d_snap_Collector_Colour k) (d_snap_Collector_Finish k) (d_snap_Collector_Freed k) (d_snap_Collector_Left k) (d_snap_Collector_List k) (d_snap_Collector_Load k) (d_snap_Collector_Note k) (d_snap_Collector_On k) (d_snap_Collector_Phase k) (d_snap_Collector_Start k) (d_snap_Collector_Step k) (d_snap_Collector_Store k) (d_law17_SnapNone_l2 k n) := by
  funext _ _ _ _ _ _ _ _ _ _; simp only [d_law17_SnapNone_l2, d_snap_Collector_Alloc, d_snap_Collector_Colour, d_snap_Collector_Finish, d_snap_Collector_Freed, d_snap_Collector_Left, d_snap_Collector_List, d_snap_Collector_Load, d_snap_Collector_Note, d_snap_Collector_On, d_snap_Collector_Phase, d_snap_Collector_Start, d_snap_Collector_Step, d_snap_Collector_Store, hide_eq, b_law17_SnapNone_l2, sw, strA, strR, str0]; kernel_rfl

theorem d_law17_SnapNone_eq (k : Nat) : d_law17_SnapNone (k + 1) = b_law17_SnapNone k (d_heap_New k) (d_law17_SnapNone_l0 k) (d_law17_SnapNone_l1 k) (d_law17_SnapNone_l2 k) (d_law17_awake k) (d_roots_New k) (d_snap_Collector_On k) (d_snap_New k) := by
  funext _ _ _ _ _ _ _; simp only [d_heap_New, d_law17_SnapNone, d_law17_SnapNone_l0, d_law17_SnapNone_l1, d_law17_SnapNone_l2, d_law17_awake, d_roots_New, d_snap_Collector_On, d_snap_New, hide_eq, b_law17_SnapNone, sw, strA, strR, str0]; kernel_rfl

theorem d_heap_New_eq (k : Nat) : d_heap_New (k + 1) = b_heap_New k (d_side_New k) := by
  funext _ _; simp only [d_heap_New, d_side_New, hide_eq, b_heap_New, sw, strA, strR, str0]; kernel_rfl

theorem d_roots_New_eq (k : Nat) : d_roots_New (k + 1) = b_roots_New k  := by
  funext _ _; simp only [d_roots_New, hide_eq, b_roots_New, sw, strA, strR, str0]; kernel_rfl

theorem d_side_New_eq (k : Nat) : d_side_New (k + 1) = b_side_New k (d_slices_Contains_int k) := by
  funext _ _ _; simp only [d_side_New, d_slices_Contains_int, hide_eq, b_side_New, sw, strA, strR, str0]; kernel_rfl

theorem d_snap_New_eq (k : Nat) : d_snap_New (k + 1) = b_snap_New k (d_tri_New k) := by
  funext _ _ _; simp only [d_snap_New, d_tri_New, hide_eq, b_snap_New, sw, strA, strR, str0]; kernel_rfl

theorem d_snap_Collector_Alloc_eq (k : Nat) : d_snap_Collector_Alloc (k + 1) = b_snap_Collector_Alloc k (d_snap_Collector_core k) (d_tri_Core_Alloc k) := by
  funext _ _ _ _ _ _; simp only [d_snap_Collector_Alloc, d_snap_Collector_core, d_tri_Core_Alloc, hide_eq, b_snap_Collector_Alloc, sw, strA, strR, str0]; kernel_rfl

theorem d_snap_Collector_Step_eq (k : Nat) : d_snap_Collector_Step (k + 1) = b_snap_Collector_Step k (d_snap_Collector_core k) (d_tri_Core_Step k) := by
  funext _ _ _; simp only [d_snap_Collector_Step, d_snap_Collector_core, d_tri_Core_Step, hide_eq, b_snap_Collector_Step, sw, strA, strR, str0]; kernel_rfl

theorem d_snap_Collector_Finish_eq (k : Nat) : d_snap_Collector_Finish (k + 1) = b_snap_Collector_Finish k (d_snap_Collector_core k) (d_tri_Core_Finish k) := by
  funext _ _; simp only [d_snap_Collector_Finish, d_snap_Collector_core, d_tri_Core_Finish, hide_eq, b_snap_Collector_Finish, sw, strA, strR, str0]; kernel_rfl

theorem d_snap_Collector_Start_eq (k : Nat) : d_snap_Collector_Start (k + 1) = b_snap_Collector_Start k (d_snap_Collector_core k) (d_tri_Core_Start k) := by
  funext _ _; simp only [d_snap_Collector_Start, d_snap_Collector_core, d_tri_Core_Start, hide_eq, b_snap_Collector_Start, sw, strA, strR, str0]; kernel_rfl

theorem d_snap_Collector_Store_eq (k : Nat) : d_snap_Collector_Store (k + 1) = b_snap_Collector_Store k (d_heap_Heap_SetRef k) (d_snap_Collector_core k) (d_snap_Collector_overwritten k) (d_tri_Core_Heap k) (d_tri_Core_Old k) := by
  funext _ _ _ _ _; simp only [d_heap_Heap_SetRef, d_snap_Collector_Store, d_snap_Collector_core, d_snap_Collector_overwritten, d_tri_Core_Heap, d_tri_Core_Old, hide_eq, b_snap_Collector_Store, sw, strA, strR, str0]; kernel_rfl

theorem d_snap_Collector_Note_eq (k : Nat) : d_snap_Collector_Note (k + 1) = b_snap_Collector_Note k (d_snap_Collector_core k) (d_snap_Collector_overwritten k) (d_tri_Core_Old k) := by
  funext _ _ _ _ _; simp only [d_snap_Collector_Note, d_snap_Collector_core, d_snap_Collector_overwritten, d_tri_Core_Old, hide_eq, b_snap_Collector_Note, sw, strA, strR, str0]; kernel_rfl

theorem d_snap_Collector_Load_eq (k : Nat) : d_snap_Collector_Load (k + 1) = b_snap_Collector_Load k (d_place_Kind k) (d_place_Soft k) (d_snap_Collector_core k) (d_tri_Core_Heap k) (d_tri_Core_Old k) (d_tri_Core_Shaded k) := by
  funext _ _ _ _; simp only [d_place_Kind, d_place_Soft, d_snap_Collector_Load, d_snap_Collector_core, d_tri_Core_Heap, d_tri_Core_Old, d_tri_Core_Shaded, hide_eq, b_snap_Collector_Load, sw, strA, strR, str0]; kernel_rfl

theorem d_snap_Collector_Phase_eq (k : Nat) : d_snap_Collector_Phase (k + 1) = b_snap_Collector_Phase k (d_snap_Collector_core k) (d_tri_Core_Phase k) := by
  funext _ _; simp only [d_snap_Collector_Phase, d_snap_Collector_core, d_tri_Core_Phase, hide_eq, b_snap_Collector_Phase, sw, strA, strR, str0]; kernel_rfl

theorem d_snap_Collector_Colour_eq (k : Nat) : d_snap_Collector_Colour (k + 1) = b_snap_Collector_Colour k (d_snap_Collector_core k) (d_tri_Core_Colour k) := by
  funext _ _ _; simp only [d_snap_Collector_Colour, d_snap_Collector_core, d_tri_Core_Colour, hide_eq, b_snap_Collector_Colour, sw, strA, strR, str0]; kernel_rfl

theorem d_snap_Collector_List_eq (k : Nat) : d_snap_Collector_List (k + 1) = b_snap_Collector_List k (d_snap_Collector_core k) (d_tri_Core_List k) := by
  funext _ _; simp only [d_snap_Collector_List, d_snap_Collector_core, d_tri_Core_List, hide_eq, b_snap_Collector_List, sw, strA, strR, str0]; kernel_rfl

theorem d_snap_Collector_Left_eq (k : Nat) : d_snap_Collector_Left (k + 1) = b_snap_Collector_Left k (d_snap_Collector_core k) (d_tri_Core_Left k) := by
  funext _ _; simp only [d_snap_Collector_Left, d_snap_Collector_core, d_tri_Core_Left, hide_eq, b_snap_Collector_Left, sw, strA, strR, str0]; kernel_rfl

theorem d_snap_Collector_Freed_eq (k : Nat) : d_snap_Collector_Freed (k + 1) = b_snap_Collector_Freed k (d_snap_Collector_core k) (d_tri_Core_Freed k) := by
  funext _ _; simp only [d_snap_Collector_Freed, d_snap_Collector_core, d_tri_Core_Freed, hide_eq, b_snap_Collector_Freed, sw, strA, strR, str0]; kernel_rfl

theorem d_snap_Collector_On_eq (k : Nat) : d_snap_Collector_On (k + 1) = b_snap_Collector_On k (d_snap_Collector_core k) (d_tri_Core_On k) := by
  funext _ _ _ _; simp only [d_snap_Collector_On, d_snap_Collector_core, d_tri_Core_On, hide_eq, b_snap_Collector_On, sw, strA, strR, str0]; kernel_rfl

theorem d_roots_Roots_Leads_eq (k : Nat) : d_roots_Roots_Leads (k + 1) = b_roots_Roots_Leads k (d_callV_f_0 k) (d_roots_Roots_all k) (d_roots_Roots_made k) := by
  funext _ _; simp only [d_callV_f_0, d_roots_Roots_Leads, d_roots_Roots_all, d_roots_Roots_made, hide_eq, b_roots_Roots_Leads, sw, strA, strR, str0]; kernel_rfl

theorem d_heap_Heap_Has_eq (k : Nat) : d_heap_Heap_Has (k + 1) = b_heap_Heap_Has k (d_heap_Heap_made k) (d_side_Table_Get k) := by
  funext _ _ _; simp only [d_heap_Heap_Has, d_heap_Heap_made, d_side_Table_Get, hide_eq, b_heap_Heap_Has, sw, strA, strR, str0]; kernel_rfl

theorem d_heap_Heap_All_eq (k : Nat) : d_heap_Heap_All (k + 1) = b_heap_Heap_All k (d_heap_Heap_between k) (d_heap_Heap_made k) := by
  funext _ _; simp only [d_heap_Heap_All, d_heap_Heap_between, d_heap_Heap_made, hide_eq, b_heap_Heap_All, sw, strA, strR, str0]; kernel_rfl

theorem d_heap_Heap_Shape_eq (k : Nat) : d_heap_Heap_Shape (k + 1) = b_heap_Heap_Shape k (d_heap_Heap_object k) (d_heap_shape k) := by
  funext _ _ _; simp only [d_heap_Heap_Shape, d_heap_Heap_object, d_heap_shape, hide_eq, b_heap_Heap_Shape, sw, strA, strR, str0]; kernel_rfl

theorem d_heap_Heap_Ref_eq (k : Nat) : d_heap_Heap_Ref (k + 1) = b_heap_Heap_Ref k (d_heap_Heap_field k) := by
  funext _ _ _ _; simp only [d_heap_Heap_Ref, d_heap_Heap_field, hide_eq, b_heap_Heap_Ref, sw, strA, strR, str0]; kernel_rfl

theorem d_heap_Heap_SetRef_eq (k : Nat) : d_heap_Heap_SetRef (k + 1) = b_heap_Heap_SetRef k (d_heap_Heap_Has k) (d_heap_Heap_field k) := by
  funext _ _ _ _ _; simp only [d_heap_Heap_Has, d_heap_Heap_SetRef, d_heap_Heap_field, hide_eq, b_heap_Heap_SetRef, sw, strA, strR, str0]; kernel_rfl

theorem d_slices_Contains_int_eq (k : Nat) : d_slices_Contains_int (k + 1) = b_slices_Contains_int k (d_slices_Index_int k) := by
  funext _ _ _; simp only [d_slices_Contains_int, d_slices_Index_int, hide_eq, b_slices_Contains_int, sw, strA, strR, str0]; kernel_rfl

theorem d_alloc_Allocator_Alloc_eq (k : Nat) : d_alloc_Allocator_Alloc (k + 1) = b_alloc_Allocator_Alloc k (d_alloc_Allocator_made k) (d_alloc_policies k) (d_callV_pi_it k) (d_heap_Heap_Place k) (d_heap_Heap_Space k) (d_heap_Valid k) (d_heap_Words k) := by
  funext _ _ _ _ _; simp only [d_alloc_Allocator_Alloc, d_alloc_Allocator_made, d_alloc_policies, d_callV_pi_it, d_heap_Heap_Place, d_heap_Heap_Space, d_heap_Valid, d_heap_Words, hide_eq, b_alloc_Allocator_Alloc, sw, strA, strR, str0]; kernel_rfl

theorem d_slices_Clone_int_eq (k : Nat) : d_slices_Clone_int (k + 1) = b_slices_Clone_int k  := by
  funext _ _; simp only [d_slices_Clone_int, hide_eq, b_slices_Clone_int, sw, strA, strR, str0]; kernel_rfl

theorem d_heap_Heap_Blocks_eq (k : Nat) : d_heap_Heap_Blocks (k + 1) = b_heap_Heap_Blocks k (d_heap_Heap_made k) := by
  funext _ _; simp only [d_heap_Heap_Blocks, d_heap_Heap_made, hide_eq, b_heap_Heap_Blocks, sw, strA, strR, str0]; kernel_rfl

theorem d_side_Table_Clone_eq (k : Nat) : d_side_Table_Clone (k + 1) = b_side_Table_Clone k (d_side_Table_made k) (d_slices_Clone_uint64 k) := by
  funext _ _; simp only [d_side_Table_Clone, d_side_Table_made, d_slices_Clone_uint64, hide_eq, b_side_Table_Clone, sw, strA, strR, str0]; kernel_rfl

theorem d_side_Table_Entries_eq (k : Nat) : d_side_Table_Entries (k + 1) = b_side_Table_Entries k (d_side_Table_made k) := by
  funext _ _; simp only [d_side_Table_Entries, d_side_Table_made, hide_eq, b_side_Table_Entries, sw, strA, strR, str0]; kernel_rfl

theorem d_sound_Is_l1_eq (k n : Nat) : d_sound_Is_l1 k (n + 1) = b_sound_Is_l1 k (d_heap_Heap_Ref k) (d_sound_Is_c1 k) (d_sound_Is_l1 k n) := by
  funext _ _ _ _ _; simp only [d_heap_Heap_Ref, d_sound_Is_c1, d_sound_Is_l1, hide_eq, b_sound_Is_l1, sw, strA, strR, str0]; kernel_rfl

theorem d_sound_Is_l0_eq (k n : Nat) : d_sound_Is_l0 k (n + 1) = b_sound_Is_l0 k (d_heap_Heap_Shape k) (d_sound_Is_l1 k) (d_sound_Is_l0 k n) := by
  funext _ _ _ _ _ _ _; simp only [d_heap_Heap_Shape, d_sound_Is_l0, d_sound_Is_l1, hide_eq, b_sound_Is_l0, sw, strA, strR, str0]; kernel_rfl

theorem d_sound_Is_eq (k : Nat) : d_sound_Is (k + 1) = b_sound_Is k (d_heap_Heap_All k) (d_roots_Roots_Leads k) (d_slices_ContainsFunc_int k) (d_sound_Is_l0 k) := by
  funext _ _ _; simp only [d_heap_Heap_All, d_roots_Roots_Leads, d_slices_ContainsFunc_int, d_sound_Is, d_sound_Is_l0, hide_eq, b_sound_Is, sw, strA, strR, str0]; kernel_rfl

theorem d_roots_Roots_Set_eq (k : Nat) : d_roots_Roots_Set (k + 1) = b_roots_Roots_Set k (d_roots_Roots_place k) := by
  funext _ _ _ _ _ _; simp only [d_roots_Roots_Set, d_roots_Roots_place, hide_eq, b_roots_Roots_Set, sw, strA, strR, str0]; kernel_rfl

theorem d_heap_Heap_State_eq (k : Nat) : d_heap_Heap_State (k + 1) = b_heap_Heap_State k (d_heap_Heap_Blocks k) := by
  funext _ _ _; simp only [d_heap_Heap_Blocks, d_heap_Heap_State, hide_eq, b_heap_Heap_State, sw, strA, strR, str0]; kernel_rfl

theorem d_tri_New_eq (k : Nat) : d_tri_New (k + 1) = b_tri_New k (d_heap_Heap_Blocks k) (d_roots_Roots_Mutators k) (d_side_New k) := by
  funext _ _ _ _ _; simp only [d_heap_Heap_Blocks, d_roots_Roots_Mutators, d_side_New, d_tri_New, hide_eq, b_tri_New, sw, strA, strR, str0]; kernel_rfl

theorem d_tri_Core_Alloc_eq (k : Nat) : d_tri_Core_Alloc (k + 1) = b_tri_Core_Alloc k (d_alloc_Allocator_Alloc k) (d_alloc_New k) (d_heap_Valid k) (d_tri_Core_Made k) (d_tri_Core_paint k) := by
  funext _ _ _ _ _ _; simp only [d_alloc_Allocator_Alloc, d_alloc_New, d_heap_Valid, d_tri_Core_Alloc, d_tri_Core_Made, d_tri_Core_paint, hide_eq, b_tri_Core_Alloc, sw, strA, strR, str0]; kernel_rfl

theorem d_tri_Core_Step_l0_eq (k n : Nat) : d_tri_Core_Step_l0 k (n + 1) = b_tri_Core_Step_l0 k (d_tri_Core_unit k) (d_tri_Core_Step_l0 k n) := by
  funext _ _ _ _; simp only [d_tri_Core_Step_l0, d_tri_Core_unit, hide_eq, b_tri_Core_Step_l0, sw, strA, strR, str0]; kernel_rfl

theorem d_tri_Core_Step_eq (k : Nat) : d_tri_Core_Step (k + 1) = b_tri_Core_Step k (d_tri_Core_Made k) (d_tri_Core_Step_l0 k) := by
  funext _ _ _; simp only [d_tri_Core_Made, d_tri_Core_Step, d_tri_Core_Step_l0, hide_eq, b_tri_Core_Step, sw, strA, strR, str0]; kernel_rfl

theorem d_tri_Core_Finish_l0_eq (k n : Nat) : d_tri_Core_Finish_l0 k (n + 1) = b_tri_Core_Finish_l0 k (d_tri_Core_unit k) (d_tri_Core_Finish_l0 k n) := by
  funext _ _ _; simp only [d_tri_Core_Finish_l0, d_tri_Core_unit, hide_eq, b_tri_Core_Finish_l0, sw, strA, strR, str0]; kernel_rfl

theorem d_tri_Core_Finish_eq (k : Nat) : d_tri_Core_Finish (k + 1) = b_tri_Core_Finish k (d_tri_Core_Finish_l0 k) (d_tri_Core_Made k) := by
  funext _ _; simp only [d_tri_Core_Finish, d_tri_Core_Finish_l0, d_tri_Core_Made, hide_eq, b_tri_Core_Finish, sw, strA, strR, str0]; kernel_rfl

theorem d_tri_Core_Start_eq (k : Nat) : d_tri_Core_Start (k + 1) = b_tri_Core_Start k (d_sound_Is k) (d_tri_Core_Made k) (d_tri_Core_places k) := by
  funext _ _; simp only [d_sound_Is, d_tri_Core_Made, d_tri_Core_Start, d_tri_Core_places, hide_eq, b_tri_Core_Start, sw, strA, strR, str0]; kernel_rfl

theorem d_tri_Core_Made_eq (k : Nat) : d_tri_Core_Made (k + 1) = b_tri_Core_Made k  := by
  funext _ _; simp only [d_tri_Core_Made, hide_eq, b_tri_Core_Made, sw, strA, strR, str0]; kernel_rfl

theorem d_tri_Core_Heap_eq (k : Nat) : d_tri_Core_Heap (k + 1) = b_tri_Core_Heap k  := by
  funext _ _; simp only [d_tri_Core_Heap, hide_eq, b_tri_Core_Heap, sw, strA, strR, str0]; kernel_rfl

theorem d_tri_Core_Shaded_eq (k : Nat) : d_tri_Core_Shaded (k + 1) = b_tri_Core_Shaded k (d_tri_Core_Shade k) := by
  funext _ _ _; simp only [d_tri_Core_Shade, d_tri_Core_Shaded, hide_eq, b_tri_Core_Shaded, sw, strA, strR, str0]; kernel_rfl

theorem d_tri_Core_Old_eq (k : Nat) : d_tri_Core_Old (k + 1) = b_tri_Core_Old k (d_heap_Heap_Ref k) (d_tri_Core_Made k) := by
  funext _ _ _ _; simp only [d_heap_Heap_Ref, d_tri_Core_Made, d_tri_Core_Old, hide_eq, b_tri_Core_Old, sw, strA, strR, str0]; kernel_rfl

theorem d_tri_Core_Phase_eq (k : Nat) : d_tri_Core_Phase (k + 1) = b_tri_Core_Phase k (d_tri_Core_Made k) := by
  funext _ _; simp only [d_tri_Core_Made, d_tri_Core_Phase, hide_eq, b_tri_Core_Phase, sw, strA, strR, str0]; kernel_rfl

theorem d_tri_Core_Colour_eq (k : Nat) : d_tri_Core_Colour (k + 1) = b_tri_Core_Colour k (d_heap_Heap_Has k) (d_tri_Core_Made k) (d_tri_Core_of k) := by
  funext _ _ _; simp only [d_heap_Heap_Has, d_tri_Core_Colour, d_tri_Core_Made, d_tri_Core_of, hide_eq, b_tri_Core_Colour, sw, strA, strR, str0]; kernel_rfl

theorem d_tri_Core_List_eq (k : Nat) : d_tri_Core_List (k + 1) = b_tri_Core_List k (d_slices_Clone_int k) (d_tri_Core_Made k) := by
  funext _ _; simp only [d_slices_Clone_int, d_tri_Core_List, d_tri_Core_Made, hide_eq, b_tri_Core_List, sw, strA, strR, str0]; kernel_rfl

theorem d_tri_Core_Left_eq (k : Nat) : d_tri_Core_Left (k + 1) = b_tri_Core_Left k (d_slices_Clone_int k) (d_tri_Core_Made k) := by
  funext _ _; simp only [d_slices_Clone_int, d_tri_Core_Left, d_tri_Core_Made, hide_eq, b_tri_Core_Left, sw, strA, strR, str0]; kernel_rfl

theorem d_tri_Core_Freed_eq (k : Nat) : d_tri_Core_Freed (k + 1) = b_tri_Core_Freed k (d_tri_Core_Made k) := by
  funext _ _; simp only [d_tri_Core_Freed, d_tri_Core_Made, hide_eq, b_tri_Core_Freed, sw, strA, strR, str0]; kernel_rfl

theorem d_tri_Core_On_eq (k : Nat) : d_tri_Core_On (k + 1) = b_tri_Core_On k (d_heap_Heap_Blocks k) (d_roots_Roots_Mutators k) (d_side_Table_Clone k) (d_tri_Core_Left k) (d_tri_Core_List k) (d_tri_Core_Made k) := by
  funext _ _ _ _; simp only [d_heap_Heap_Blocks, d_roots_Roots_Mutators, d_side_Table_Clone, d_tri_Core_Left, d_tri_Core_List, d_tri_Core_Made, d_tri_Core_On, hide_eq, b_tri_Core_On, sw, strA, strR, str0]; kernel_rfl

theorem d_law12_Ints_l0_eq (k n : Nat) : d_law12_Ints_l0 k (n + 1) = b_law12_Ints_l0 k (d_law12_Ints_l0 k n) := by
  funext _ _ _ _ _ _ _ _; simp only [d_law12_Ints_l0, hide_eq, b_law12_Ints_l0, sw, strA, strR, str0]; kernel_rfl

theorem d_law12_Ints_eq (k : Nat) : d_law12_Ints (k + 1) = b_law12_Ints k (d_law12_Ints_l0 k) := by
  funext _ _ _; simp only [d_law12_Ints, d_law12_Ints_l0, hide_eq, b_law12_Ints, sw, strA, strR, str0]; kernel_rfl

theorem d_snap_Collector_core_eq (k : Nat) : d_snap_Collector_core (k + 1) = b_snap_Collector_core k  := by
  funext _ _; simp only [d_snap_Collector_core, hide_eq, b_snap_Collector_core, sw, strA, strR, str0]; kernel_rfl

theorem d_snap_Collector_overwritten_eq (k : Nat) : d_snap_Collector_overwritten (k + 1) = b_snap_Collector_overwritten k (d_heap_Heap_Ref k) (d_place_Kind k) (d_tri_Core_Heap k) (d_tri_Core_Shaded k) := by
  funext _ _ _ _ _; simp only [d_heap_Heap_Ref, d_place_Kind, d_snap_Collector_overwritten, d_tri_Core_Heap, d_tri_Core_Shaded, hide_eq, b_snap_Collector_overwritten, sw, strA, strR, str0]; kernel_rfl

theorem d_place_Soft_eq (k : Nat) : d_place_Soft (k + 1) = b_place_Soft k  := by
  funext _ _ _; simp only [d_place_Soft, hide_eq, b_place_Soft, sw, strA, strR, str0]; kernel_rfl

theorem d_place_Kind_eq (k : Nat) : d_place_Kind (k + 1) = b_place_Kind k (d_heap_Heap_Shape k) := by
  funext _ _ _; simp only [d_heap_Heap_Shape, d_place_Kind, hide_eq, b_place_Kind, sw, strA, strR, str0]; kernel_rfl

theorem d_roots_Roots_Mutators_eq (k : Nat) : d_roots_Roots_Mutators (k + 1) = b_roots_Roots_Mutators k (d_roots_Roots_made k) := by
  funext _ _; simp only [d_roots_Roots_Mutators, d_roots_Roots_made, hide_eq, b_roots_Roots_Mutators, sw, strA, strR, str0]; kernel_rfl

theorem d_roots_Roots_made_eq (k : Nat) : d_roots_Roots_made (k + 1) = b_roots_Roots_made k  := by
  funext _ _; simp only [d_roots_Roots_made, hide_eq, b_roots_Roots_made, sw, strA, strR, str0]; kernel_rfl

theorem d_roots_Roots_all_eq (k : Nat) : d_roots_Roots_all (k + 1) = b_roots_Roots_all k  := by
  funext _ _; simp only [d_roots_Roots_all, hide_eq, b_roots_Roots_all, sw, strA, strR, str0]; kernel_rfl

theorem d_roots_Roots_place_eq (k : Nat) : d_roots_Roots_place (k + 1) = b_roots_Roots_place k (d_roots_Roots_at k) (d_roots_Roots_made k) := by
  funext _ _ _ _ _; simp only [d_roots_Roots_at, d_roots_Roots_made, d_roots_Roots_place, hide_eq, b_roots_Roots_place, sw, strA, strR, str0]; kernel_rfl

theorem d_heap_Heap_made_eq (k : Nat) : d_heap_Heap_made (k + 1) = b_heap_Heap_made k  := by
  funext _ _; simp only [d_heap_Heap_made, hide_eq, b_heap_Heap_made, sw, strA, strR, str0]; kernel_rfl

theorem d_side_Table_Get_eq (k : Nat) : d_side_Table_Get (k + 1) = b_side_Table_Get k (d_side_Table_get k) (d_side_Table_there k) := by
  funext _ _ _; simp only [d_side_Table_Get, d_side_Table_get, d_side_Table_there, hide_eq, b_side_Table_Get, sw, strA, strR, str0]; kernel_rfl

theorem d_heap_Heap_between_l0_eq (k n : Nat) : d_heap_Heap_between_l0 k (n + 1) = b_heap_Heap_between_l0 k (d_side_Table_Next k) (d_heap_Heap_between_l0 k n) := by
  funext _ _ _ _ _ _; simp only [d_heap_Heap_between_l0, d_side_Table_Next, hide_eq, b_heap_Heap_between_l0, sw, strA, strR, str0]; kernel_rfl

theorem d_heap_Heap_between_eq (k : Nat) : d_heap_Heap_between (k + 1) = b_heap_Heap_between k (d_heap_Heap_between_l0 k) (d_side_Table_Next k) := by
  funext _ _ _ _; simp only [d_heap_Heap_between, d_heap_Heap_between_l0, d_side_Table_Next, hide_eq, b_heap_Heap_between, sw, strA, strR, str0]; kernel_rfl

theorem d_heap_Heap_object_eq (k : Nat) : d_heap_Heap_object (k + 1) = b_heap_Heap_object k (d_heap_Heap_Has k) (d_heap_Heap_made k) := by
  funext _ _ _; simp only [d_heap_Heap_Has, d_heap_Heap_made, d_heap_Heap_object, hide_eq, b_heap_Heap_object, sw, strA, strR, str0]; kernel_rfl

theorem d_heap_shape_eq (k : Nat) : d_heap_shape (k + 1) = b_heap_shape k  := by
  funext _ _; simp only [d_heap_shape, hide_eq, b_heap_shape, sw, strA, strR, str0]; kernel_rfl

theorem d_heap_Heap_field_eq (k : Nat) : d_heap_Heap_field (k + 1) = b_heap_Heap_field k (d_heap_Heap_object k) (d_heap_shape k) := by
  funext _ _ _ _ _; simp only [d_heap_Heap_field, d_heap_Heap_object, d_heap_shape, hide_eq, b_heap_Heap_field, sw, strA, strR, str0]; kernel_rfl

theorem d_slices_Index_int_l0_eq (k n : Nat) : d_slices_Index_int_l0 k (n + 1) = b_slices_Index_int_l0 k (d_slices_Index_int_l0 k n) := by
  funext _ _ _ _ _ _ _; simp only [d_slices_Index_int_l0, hide_eq, b_slices_Index_int_l0, sw, strA, strR, str0]; kernel_rfl

theorem d_slices_Index_int_eq (k : Nat) : d_slices_Index_int (k + 1) = b_slices_Index_int k (d_slices_Index_int_l0 k) := by
  funext _ _ _; simp only [d_slices_Index_int, d_slices_Index_int_l0, hide_eq, b_slices_Index_int, sw, strA, strR, str0]; kernel_rfl

theorem d_side_Table_Set_eq (k : Nat) : d_side_Table_Set (k + 1) = b_side_Table_Set k (d_side_Table_check k) (d_side_Table_put k) := by
  funext _ _ _ _; simp only [d_side_Table_Set, d_side_Table_check, d_side_Table_put, hide_eq, b_side_Table_Set, sw, strA, strR, str0]; kernel_rfl

theorem d_alloc_Allocator_made_eq (k : Nat) : d_alloc_Allocator_made (k + 1) = b_alloc_Allocator_made k  := by
  funext _ _; simp only [d_alloc_Allocator_made, hide_eq, b_alloc_Allocator_made, sw, strA, strR, str0]; kernel_rfl

theorem d_heap_Valid_eq (k : Nat) : d_heap_Valid (k + 1) = b_heap_Valid k  := by
  funext _ _ _ _; simp only [d_heap_Valid, hide_eq, b_heap_Valid, sw, strA, strR, str0]; kernel_rfl

theorem d_heap_Words_eq (k : Nat) : d_heap_Words (k + 1) = b_heap_Words k (d_heap_Valid k) := by
  funext _ _ _ _; simp only [d_heap_Valid, d_heap_Words, hide_eq, b_heap_Words, sw, strA, strR, str0]; kernel_rfl

theorem d_alloc_policies_eq (k : Nat) : d_alloc_policies (k + 1) = b_alloc_policies k  := by
  funext  _; simp only [d_alloc_policies, hide_eq, b_alloc_policies, sw, strA, strR, str0]; kernel_rfl

theorem d_alloc_Allocator_large_l0_eq (k n : Nat) : d_alloc_Allocator_large_l0 k (n + 1) = b_alloc_Allocator_large_l0 k (d_heap_Heap_Blocks k) (d_heap_Heap_ClaimLarge k) (d_alloc_Allocator_large_l0 k n) := by
  funext _ _ _ _; simp only [d_alloc_Allocator_large_l0, d_heap_Heap_Blocks, d_heap_Heap_ClaimLarge, hide_eq, b_alloc_Allocator_large_l0, sw, strA, strR, str0]; kernel_rfl

theorem d_alloc_Allocator_large_eq (k : Nat) : d_alloc_Allocator_large (k + 1) = b_alloc_Allocator_large k (d_alloc_Allocator_large_l0 k) := by
  funext _ _ _; simp only [d_alloc_Allocator_large, d_alloc_Allocator_large_l0, hide_eq, b_alloc_Allocator_large, sw, strA, strR, str0]; kernel_rfl

theorem d_heap_Heap_Space_eq (k : Nat) : d_heap_Heap_Space (k + 1) = b_heap_Heap_Space k (d_heap_Heap_Blocks k) := by
  funext _ _ _; simp only [d_heap_Heap_Blocks, d_heap_Heap_Space, hide_eq, b_heap_Heap_Space, sw, strA, strR, str0]; kernel_rfl

theorem d_heap_Heap_Place_eq (k : Nat) : d_heap_Heap_Place (k + 1) = b_heap_Heap_Place k (d_heap_Heap_fits k) (d_heap_Heap_made k) (d_heap_Valid k) (d_heap_Words k) (d_heap_number k) (d_side_Table_Set k) := by
  funext _ _ _ _ _ _; simp only [d_heap_Heap_Place, d_heap_Heap_fits, d_heap_Heap_made, d_heap_Valid, d_heap_Words, d_heap_number, d_side_Table_Set, hide_eq, b_heap_Heap_Place, sw, strA, strR, str0]; kernel_rfl

theorem d_side_Table_made_eq (k : Nat) : d_side_Table_made (k + 1) = b_side_Table_made k  := by
  funext _ _; simp only [d_side_Table_made, hide_eq, b_side_Table_made, sw, strA, strR, str0]; kernel_rfl

theorem d_slices_Clone_uint64_eq (k : Nat) : d_slices_Clone_uint64 (k + 1) = b_slices_Clone_uint64 k  := by
  funext _ _; simp only [d_slices_Clone_uint64, hide_eq, b_slices_Clone_uint64, sw, strA, strR, str0]; kernel_rfl

theorem d_sound_Is_c1_eq (k : Nat) : d_sound_Is_c1 (k + 1) = b_sound_Is_c1 k (d_heap_Heap_Has k) := by
  funext _ _ _; simp only [d_heap_Heap_Has, d_sound_Is_c1, hide_eq, b_sound_Is_c1, sw, strA, strR, str0]; kernel_rfl

theorem d_slices_ContainsFunc_int_eq (k : Nat) : d_slices_ContainsFunc_int (k + 1) = b_slices_ContainsFunc_int k (d_slices_IndexFunc_int k) := by
  funext _ _ _; simp only [d_slices_ContainsFunc_int, d_slices_IndexFunc_int, hide_eq, b_slices_ContainsFunc_int, sw, strA, strR, str0]; kernel_rfl

theorem d_heap_Heap_Objects_eq (k : Nat) : d_heap_Heap_Objects (k + 1) = b_heap_Heap_Objects k (d_heap_Heap_between k) (d_heap_Heap_made k) := by
  funext _ _ _; simp only [d_heap_Heap_Objects, d_heap_Heap_between, d_heap_Heap_made, hide_eq, b_heap_Heap_Objects, sw, strA, strR, str0]; kernel_rfl

theorem d_heap_Heap_Kill_eq (k : Nat) : d_heap_Heap_Kill (k + 1) = b_heap_Heap_Kill k (d_heap_Heap_object k) (d_heap_Heap_size k) (d_heap_Heap_wipe k) (d_side_Table_Set k) := by
  funext _ _ _; simp only [d_heap_Heap_Kill, d_heap_Heap_object, d_heap_Heap_size, d_heap_Heap_wipe, d_side_Table_Set, hide_eq, b_heap_Heap_Kill, sw, strA, strR, str0]; kernel_rfl

theorem d_heap_Heap_Release_l0_eq (k n : Nat) : d_heap_Heap_Release_l0 k (n + 1) = b_heap_Heap_Release_l0 k (d_heap_Heap_Release_l0 k n) := by
  funext _ _ _ _; simp only [d_heap_Heap_Release_l0, hide_eq, b_heap_Heap_Release_l0, sw, strA, strR, str0]; kernel_rfl

theorem d_heap_Heap_Release_eq (k : Nat) : d_heap_Heap_Release (k + 1) = b_heap_Heap_Release k (d_heap_Heap_Objects k) (d_heap_Heap_Release_l0 k) (d_heap_Heap_held k) (d_heap_Heap_span k) := by
  funext _ _ _; simp only [d_heap_Heap_Objects, d_heap_Heap_Release, d_heap_Heap_Release_l0, d_heap_Heap_held, d_heap_Heap_span, hide_eq, b_heap_Heap_Release, sw, strA, strR, str0]; kernel_rfl

theorem d_heap_Heap_size_eq (k : Nat) : d_heap_Heap_size (k + 1) = b_heap_Heap_size k (d_heap_Words k) (d_heap_shape k) := by
  funext _ _ _; simp only [d_heap_Heap_size, d_heap_Words, d_heap_shape, hide_eq, b_heap_Heap_size, sw, strA, strR, str0]; kernel_rfl

theorem d_alloc_New_eq (k : Nat) : d_alloc_New (k + 1) = b_alloc_New k (d_alloc_policies k) (d_heap_Heap_Blocks k) := by
  funext _ _ _ _; simp only [d_alloc_New, d_alloc_policies, d_heap_Heap_Blocks, hide_eq, b_alloc_New, sw, strA, strR, str0]; kernel_rfl

theorem d_tri_Core_paint_eq (k : Nat) : d_tri_Core_paint (k + 1) = b_tri_Core_paint k (d_side_Table_Set k) := by
  funext _ _ _ _; simp only [d_side_Table_Set, d_tri_Core_paint, hide_eq, b_tri_Core_paint, sw, strA, strR, str0]; kernel_rfl

theorem d_tri_Core_unit_l0_eq (k n : Nat) : d_tri_Core_unit_l0 k (n + 1) = b_tri_Core_unit_l0 k (d_tri_Core_Shade k) (d_tri_Core_unit_l0 k n) := by
  funext _ _ _ _ _ _ _; simp only [d_tri_Core_Shade, d_tri_Core_unit_l0, hide_eq, b_tri_Core_unit_l0, sw, strA, strR, str0]; kernel_rfl

theorem d_tri_Core_unit_eq (k : Nat) : d_tri_Core_unit (k + 1) = b_tri_Core_unit k (d_heap_Heap_Has k) (d_place_Strong k) (d_slices_Clone_int k) (d_tri_Core_last k) (d_tri_Core_paint k) (d_tri_Core_sweep k) (d_tri_Core_unit_l0 k) := by
  funext _ _; simp only [d_heap_Heap_Has, d_place_Strong, d_slices_Clone_int, d_tri_Core_last, d_tri_Core_paint, d_tri_Core_sweep, d_tri_Core_unit, d_tri_Core_unit_l0, hide_eq, b_tri_Core_unit, sw, strA, strR, str0]; kernel_rfl

theorem d_tri_Core_places_l0_eq (k n : Nat) : d_tri_Core_places_l0 k (n + 1) = b_tri_Core_places_l0 k (d_tri_Core_Shade k) (d_tri_Core_places_l0 k n) := by
  funext _ _ _ _ _ _ _; simp only [d_tri_Core_Shade, d_tri_Core_places_l0, hide_eq, b_tri_Core_places_l0, sw, strA, strR, str0]; kernel_rfl

theorem d_tri_Core_places_eq (k : Nat) : d_tri_Core_places (k + 1) = b_tri_Core_places k (d_roots_Roots_Leads k) (d_tri_Core_places_l0 k) := by
  funext _ _; simp only [d_roots_Roots_Leads, d_tri_Core_places, d_tri_Core_places_l0, hide_eq, b_tri_Core_places, sw, strA, strR, str0]; kernel_rfl

theorem d_tri_Core_Shade_eq (k : Nat) : d_tri_Core_Shade (k + 1) = b_tri_Core_Shade k (d_heap_Heap_Has k) (d_tri_Core_of k) (d_tri_Core_paint k) := by
  funext _ _ _; simp only [d_heap_Heap_Has, d_tri_Core_Shade, d_tri_Core_of, d_tri_Core_paint, hide_eq, b_tri_Core_Shade, sw, strA, strR, str0]; kernel_rfl

theorem d_tri_Core_of_eq (k : Nat) : d_tri_Core_of (k + 1) = b_tri_Core_of k (d_side_Table_Get k) := by
  funext _ _ _; simp only [d_side_Table_Get, d_tri_Core_of, hide_eq, b_tri_Core_of, sw, strA, strR, str0]; kernel_rfl

theorem d_roots_Roots_all_c1_l1_eq (k n : Nat) : d_roots_Roots_all_c1_l1 k (n + 1) = b_roots_Roots_all_c1_l1 k (d_callV_iiip_t k) (d_roots_Roots_all_c1_l1 k n) := by
  funext _ _ _ _ _ _ _ _; simp only [d_callV_iiip_t, d_roots_Roots_all_c1_l1, hide_eq, b_roots_Roots_all_c1_l1, sw, strA, strR, str0]; kernel_rfl

theorem d_roots_Roots_all_c1_l0_eq (k n : Nat) : d_roots_Roots_all_c1_l0 k (n + 1) = b_roots_Roots_all_c1_l0 k (d_roots_Roots_all_c1_l1 k) (d_roots_Roots_all_c1_l0 k n) := by
  funext _ _ _ _ _; simp only [d_roots_Roots_all_c1_l0, d_roots_Roots_all_c1_l1, hide_eq, b_roots_Roots_all_c1_l0, sw, strA, strR, str0]; kernel_rfl

theorem d_roots_Roots_all_c1_eq (k : Nat) : d_roots_Roots_all_c1 (k + 1) = b_roots_Roots_all_c1 k (d_roots_Roots_all_c1_l0 k) := by
  funext _ _ _; simp only [d_roots_Roots_all_c1, d_roots_Roots_all_c1_l0, hide_eq, b_roots_Roots_all_c1, sw, strA, strR, str0]; kernel_rfl

theorem d_roots_Roots_at_eq (k : Nat) : d_roots_Roots_at (k + 1) = b_roots_Roots_at k (d_roots_Roots_at_c1 k) := by
  funext _ _ _ _ _; simp only [d_roots_Roots_at, d_roots_Roots_at_c1, hide_eq, b_roots_Roots_at, sw, strA, strR, str0]; kernel_rfl

theorem d_slices_IndexFunc_int_l0_eq (k n : Nat) : d_slices_IndexFunc_int_l0 k (n + 1) = b_slices_IndexFunc_int_l0 k (d_callV_i_t k) (d_slices_IndexFunc_int_l0 k n) := by
  funext _ _ _ _ _ _ _; simp only [d_callV_i_t, d_slices_IndexFunc_int_l0, hide_eq, b_slices_IndexFunc_int_l0, sw, strA, strR, str0]; kernel_rfl

theorem d_slices_IndexFunc_int_eq (k : Nat) : d_slices_IndexFunc_int (k + 1) = b_slices_IndexFunc_int k (d_slices_IndexFunc_int_l0 k) := by
  funext _ _ _; simp only [d_slices_IndexFunc_int, d_slices_IndexFunc_int_l0, hide_eq, b_slices_IndexFunc_int, sw, strA, strR, str0]; kernel_rfl

theorem d_side_Table_there_eq (k : Nat) : d_side_Table_there (k + 1) = b_side_Table_there k (d_side_Table_made k) := by
  funext _ _ _; simp only [d_side_Table_made, d_side_Table_there, hide_eq, b_side_Table_there, sw, strA, strR, str0]; kernel_rfl

theorem d_side_Table_get_eq (k : Nat) : d_side_Table_get (k + 1) = b_side_Table_get k (d_side_Table_most k) := by
  funext _ _ _; simp only [d_side_Table_get, d_side_Table_most, hide_eq, b_side_Table_get, sw, strA, strR, str0]; kernel_rfl

theorem d_side_Table_Next_l0_eq (k n : Nat) : d_side_Table_Next_l0 k (n + 1) = b_side_Table_Next_l0 k (d_side_Table_get k) (d_side_Table_Next_l0 k n) := by
  funext _ _ _ _; simp only [d_side_Table_Next_l0, d_side_Table_get, hide_eq, b_side_Table_Next_l0, sw, strA, strR, str0]; kernel_rfl

theorem d_side_Table_Next_eq (k : Nat) : d_side_Table_Next (k + 1) = b_side_Table_Next k (d_side_Table_Next_l0 k) (d_side_Table_made k) := by
  funext _ _ _ _; simp only [d_side_Table_Next, d_side_Table_Next_l0, d_side_Table_made, hide_eq, b_side_Table_Next, sw, strA, strR, str0]; kernel_rfl

theorem d_heap_Heap_Gaps_l0_eq (k n : Nat) : d_heap_Heap_Gaps_l0 k (n + 1) = b_heap_Heap_Gaps_l0 k (d_heap_Heap_Gaps_c1 k) (d_heap_Heap_size k) (d_heap_Heap_Gaps_l0 k n) := by
  funext _ _ _ _ _ _ _ _ _; simp only [d_heap_Heap_Gaps_c1, d_heap_Heap_Gaps_l0, d_heap_Heap_size, hide_eq, b_heap_Heap_Gaps_l0, sw, strA, strR, str0]; kernel_rfl

theorem d_heap_Heap_Gaps_eq (k : Nat) : d_heap_Heap_Gaps (k + 1) = b_heap_Heap_Gaps k (d_heap_Heap_Gaps_c1 k) (d_heap_Heap_Gaps_l0 k) (d_heap_Heap_Objects k) (d_heap_Heap_used k) := by
  funext _ _ _; simp only [d_heap_Heap_Gaps, d_heap_Heap_Gaps_c1, d_heap_Heap_Gaps_l0, d_heap_Heap_Objects, d_heap_Heap_used, hide_eq, b_heap_Heap_Gaps, sw, strA, strR, str0]; kernel_rfl

theorem d_side_Table_check_eq (k : Nat) : d_side_Table_check (k + 1) = b_side_Table_check k (d_side_Table_made k) (d_side_Table_there k) (d_slices_ContainsFunc_int k) := by
  funext _ _ _ _; simp only [d_side_Table_check, d_side_Table_made, d_side_Table_there, d_slices_ContainsFunc_int, hide_eq, b_side_Table_check, sw, strA, strR, str0]; kernel_rfl

theorem d_side_Table_put_eq (k : Nat) : d_side_Table_put (k + 1) = b_side_Table_put k (d_side_Table_most k) := by
  funext _ _ _ _; simp only [d_side_Table_most, d_side_Table_put, hide_eq, b_side_Table_put, sw, strA, strR, str0]; kernel_rfl

theorem d_heap_Heap_ClaimLarge_eq (k : Nat) : d_heap_Heap_ClaimLarge (k + 1) = b_heap_Heap_ClaimLarge k (d_heap_Heap_claim k) := by
  funext _ _ _ _ _; simp only [d_heap_Heap_ClaimLarge, d_heap_Heap_claim, hide_eq, b_heap_Heap_ClaimLarge, sw, strA, strR, str0]; kernel_rfl

theorem d_heap_Heap_fits_l0_eq (k n : Nat) : d_heap_Heap_fits_l0 k (n + 1) = b_heap_Heap_fits_l0 k (d_heap_Heap_Find k) (d_heap_Heap_fits_l0 k n) := by
  funext _ _ _ _ _ _; simp only [d_heap_Heap_Find, d_heap_Heap_fits_l0, hide_eq, b_heap_Heap_fits_l0, sw, strA, strR, str0]; kernel_rfl

theorem d_heap_Heap_fits_eq (k : Nat) : d_heap_Heap_fits (k + 1) = b_heap_Heap_fits k (d_heap_Heap_fits_l0 k) (d_heap_Heap_span k) := by
  funext _ _ _ _ _; simp only [d_heap_Heap_fits, d_heap_Heap_fits_l0, d_heap_Heap_span, hide_eq, b_heap_Heap_fits, sw, strA, strR, str0]; kernel_rfl

theorem d_heap_number_eq (k : Nat) : d_heap_number (k + 1) = b_heap_number k  := by
  funext _ _ _ _; simp only [d_heap_number, hide_eq, b_heap_number, sw, strA, strR, str0]; kernel_rfl

theorem d_heap_Heap_wipe_eq (k : Nat) : d_heap_Heap_wipe (k + 1) = b_heap_Heap_wipe k  := by
  funext _ _ _ _; simp only [d_heap_Heap_wipe, hide_eq, b_heap_Heap_wipe, sw, strA, strR, str0]; kernel_rfl

theorem d_heap_Heap_held_eq (k : Nat) : d_heap_Heap_held (k + 1) = b_heap_Heap_held k (d_heap_Heap_made k) (d_heap_Heap_there k) := by
  funext _ _ _ _; simp only [d_heap_Heap_held, d_heap_Heap_made, d_heap_Heap_there, hide_eq, b_heap_Heap_held, sw, strA, strR, str0]; kernel_rfl

theorem d_heap_Heap_span_l0_eq (k n : Nat) : d_heap_Heap_span_l0 k (n + 1) = b_heap_Heap_span_l0 k (d_heap_Heap_span_l0 k n) := by
  funext _ _ _ _; simp only [d_heap_Heap_span_l0, hide_eq, b_heap_Heap_span_l0, sw, strA, strR, str0]; kernel_rfl

theorem d_heap_Heap_span_eq (k : Nat) : d_heap_Heap_span (k + 1) = b_heap_Heap_span k (d_heap_Heap_span_l0 k) := by
  funext _ _ _; simp only [d_heap_Heap_span, d_heap_Heap_span_l0, hide_eq, b_heap_Heap_span, sw, strA, strR, str0]; kernel_rfl

theorem d_tri_Core_sweep_l0_eq (k n : Nat) : d_tri_Core_sweep_l0 k (n + 1) = b_tri_Core_sweep_l0 k (d_heap_Heap_Kill k) (d_tri_Core_of k) (d_tri_Core_sweep_l0 k n) := by
  funext _ _ _ _ _ _ _; simp only [d_heap_Heap_Kill, d_tri_Core_of, d_tri_Core_sweep_l0, hide_eq, b_tri_Core_sweep_l0, sw, strA, strR, str0]; kernel_rfl

theorem d_tri_Core_sweep_eq (k : Nat) : d_tri_Core_sweep (k + 1) = b_tri_Core_sweep k (d_heap_Heap_Objects k) (d_heap_Heap_Release k) (d_side_Table_Entries k) (d_side_Table_Fill k) (d_slices_Clone_int k) (d_tri_Core_sweep_l0 k) := by
  funext _ _; simp only [d_heap_Heap_Objects, d_heap_Heap_Release, d_side_Table_Entries, d_side_Table_Fill, d_slices_Clone_int, d_tri_Core_sweep, d_tri_Core_sweep_l0, hide_eq, b_tri_Core_sweep, sw, strA, strR, str0]; kernel_rfl

theorem d_place_Strong_l0_eq (k n : Nat) : d_place_Strong_l0 k (n + 1) = b_place_Strong_l0 k (d_place_Soft k) (d_place_Strong_l0 k n) := by
  funext _ _ _ _ _ _ _ _; simp only [d_place_Soft, d_place_Strong_l0, hide_eq, b_place_Strong_l0, sw, strA, strR, str0]; kernel_rfl

theorem d_place_Strong_eq (k : Nat) : d_place_Strong (k + 1) = b_place_Strong k (d_heap_Heap_Shape k) (d_place_Refs k) (d_place_Strong_l0 k) := by
  funext _ _ _; simp only [d_heap_Heap_Shape, d_place_Refs, d_place_Strong, d_place_Strong_l0, hide_eq, b_place_Strong, sw, strA, strR, str0]; kernel_rfl

theorem d_tri_Core_last_l0_eq (k n : Nat) : d_tri_Core_last_l0 k (n + 1) = b_tri_Core_last_l0 k (d_place_Clear k) (d_tri_Core_seen k) (d_tri_Core_last_l0 k n) := by
  funext _ _ _ _ _ _ _; simp only [d_place_Clear, d_tri_Core_last_l0, d_tri_Core_seen, hide_eq, b_tri_Core_last_l0, sw, strA, strR, str0]; kernel_rfl

theorem d_tri_Core_last_l1_eq (k n : Nat) : d_tri_Core_last_l1 k (n + 1) = b_tri_Core_last_l1 k (d_heap_Heap_State k) (d_tri_Core_last_l1 k n) := by
  funext _ _ _ _; simp only [d_heap_Heap_State, d_tri_Core_last_l1, hide_eq, b_tri_Core_last_l1, sw, strA, strR, str0]; kernel_rfl

theorem d_tri_Core_last_eq (k : Nat) : d_tri_Core_last (k + 1) = b_tri_Core_last k (d_heap_Heap_All k) (d_heap_Heap_Blocks k) (d_tri_Core_ephemerons k) (d_tri_Core_last_l0 k) (d_tri_Core_last_l1 k) (d_tri_Core_places k) := by
  funext _ _; simp only [d_heap_Heap_All, d_heap_Heap_Blocks, d_tri_Core_ephemerons, d_tri_Core_last, d_tri_Core_last_l0, d_tri_Core_last_l1, d_tri_Core_places, hide_eq, b_tri_Core_last, sw, strA, strR, str0]; kernel_rfl

theorem d_roots_Roots_at_c1_eq (k : Nat) : d_roots_Roots_at_c1 (k + 1) = b_roots_Roots_at_c1 k  := by
  funext _ _ _; simp only [d_roots_Roots_at_c1, hide_eq, b_roots_Roots_at_c1, sw, strA, strR, str0]; kernel_rfl

theorem d_side_Table_most_eq (k : Nat) : d_side_Table_most (k + 1) = b_side_Table_most k  := by
  funext _ _; simp only [d_side_Table_most, hide_eq, b_side_Table_most, sw, strA, strR, str0]; kernel_rfl

theorem d_heap_Heap_used_eq (k : Nat) : d_heap_Heap_used (k + 1) = b_heap_Heap_used k (d_heap_Heap_there k) := by
  funext _ _ _; simp only [d_heap_Heap_there, d_heap_Heap_used, hide_eq, b_heap_Heap_used, sw, strA, strR, str0]; kernel_rfl

theorem d_heap_Heap_Gaps_c1_eq (k : Nat) : d_heap_Heap_Gaps_c1 (k + 1) = b_heap_Heap_Gaps_c1 k  := by
  funext _ _ _ _; simp only [d_heap_Heap_Gaps_c1, hide_eq, b_heap_Heap_Gaps_c1, sw, strA, strR, str0]; kernel_rfl

theorem d_side_Table_check_c1_eq (k : Nat) : d_side_Table_check_c1 (k + 1) = b_side_Table_check_c1 k (d_side_Table_value k) := by
  funext _ _ _; simp only [d_side_Table_check_c1, d_side_Table_value, hide_eq, b_side_Table_check_c1, sw, strA, strR, str0]; kernel_rfl

theorem d_side_Table_value_eq (k : Nat) : d_side_Table_value (k + 1) = b_side_Table_value k (d_side_Table_most k) := by
  funext _ _ _; simp only [d_side_Table_most, d_side_Table_value, hide_eq, b_side_Table_value, sw, strA, strR, str0]; kernel_rfl

theorem d_heap_Heap_claim_l0_eq (k n : Nat) : d_heap_Heap_claim_l0 k (n + 1) = b_heap_Heap_claim_l0 k (d_heap_Heap_claim_l0 k n) := by
  funext _ _ _ _ _ _; simp only [d_heap_Heap_claim_l0, hide_eq, b_heap_Heap_claim_l0, sw, strA, strR, str0]; kernel_rfl

theorem d_heap_Heap_claim_eq (k : Nat) : d_heap_Heap_claim (k + 1) = b_heap_Heap_claim k (d_heap_Heap_claim_l0 k) (d_heap_Heap_made k) (d_heap_Heap_there k) (d_heap_space k) (d_slices_ContainsFunc_heap_block k) := by
  funext _ _ _ _ _ _ _ _; simp only [d_heap_Heap_claim, d_heap_Heap_claim_l0, d_heap_Heap_made, d_heap_Heap_there, d_heap_space, d_slices_ContainsFunc_heap_block, hide_eq, b_heap_Heap_claim, sw, strA, strR, str0]; kernel_rfl

theorem d_heap_Heap_Find_eq (k : Nat) : d_heap_Heap_Find (k + 1) = b_heap_Heap_Find k (d_heap_Heap_made k) (d_heap_Heap_size k) (d_side_Table_Last k) := by
  funext _ _ _; simp only [d_heap_Heap_Find, d_heap_Heap_made, d_heap_Heap_size, d_side_Table_Last, hide_eq, b_heap_Heap_Find, sw, strA, strR, str0]; kernel_rfl

theorem d_heap_Heap_there_eq (k : Nat) : d_heap_Heap_there (k + 1) = b_heap_Heap_there k (d_heap_Heap_made k) := by
  funext _ _ _; simp only [d_heap_Heap_made, d_heap_Heap_there, hide_eq, b_heap_Heap_there, sw, strA, strR, str0]; kernel_rfl

theorem d_side_Table_Fill_l0_eq (k n : Nat) : d_side_Table_Fill_l0 k (n + 1) = b_side_Table_Fill_l0 k (d_side_Table_put k) (d_side_Table_Fill_l0 k n) := by
  funext _ _ _ _ _ _; simp only [d_side_Table_Fill_l0, d_side_Table_put, hide_eq, b_side_Table_Fill_l0, sw, strA, strR, str0]; kernel_rfl

theorem d_side_Table_Fill_eq (k : Nat) : d_side_Table_Fill (k + 1) = b_side_Table_Fill k (d_side_Table_Fill_l0 k) (d_side_Table_check k) := by
  funext _ _ _ _ _; simp only [d_side_Table_Fill, d_side_Table_Fill_l0, d_side_Table_check, hide_eq, b_side_Table_Fill, sw, strA, strR, str0]; kernel_rfl

theorem d_place_Refs_l0_eq (k n : Nat) : d_place_Refs_l0 k (n + 1) = b_place_Refs_l0 k (d_heap_Heap_Ref k) (d_place_Refs_l0 k n) := by
  funext _ _ _ _ _ _; simp only [d_heap_Heap_Ref, d_place_Refs_l0, hide_eq, b_place_Refs_l0, sw, strA, strR, str0]; kernel_rfl

theorem d_place_Refs_eq (k : Nat) : d_place_Refs (k + 1) = b_place_Refs k (d_heap_Heap_Shape k) (d_place_Refs_l0 k) := by
  funext _ _ _; simp only [d_heap_Heap_Shape, d_place_Refs, d_place_Refs_l0, hide_eq, b_place_Refs, sw, strA, strR, str0]; kernel_rfl

theorem d_tri_Core_ephemerons_l0_eq (k n : Nat) : d_tri_Core_ephemerons_l0 k (n + 1) = b_tri_Core_ephemerons_l0 k (d_heap_Heap_Ref k) (d_place_Kind k) (d_tri_Core_seen k) (d_tri_Core_ephemerons_l0 k n) := by
  funext _ _ _ _ _ _ _ _; simp only [d_heap_Heap_Ref, d_place_Kind, d_tri_Core_ephemerons_l0, d_tri_Core_seen, hide_eq, b_tri_Core_ephemerons_l0, sw, strA, strR, str0]; kernel_rfl

theorem d_tri_Core_ephemerons_l1_eq (k n : Nat) : d_tri_Core_ephemerons_l1 k (n + 1) = b_tri_Core_ephemerons_l1 k (d_tri_Core_Shade k) (d_tri_Core_ephemerons_l1 k n) := by
  funext _ _ _ _ _ _ _; simp only [d_tri_Core_Shade, d_tri_Core_ephemerons_l1, hide_eq, b_tri_Core_ephemerons_l1, sw, strA, strR, str0]; kernel_rfl

theorem d_tri_Core_ephemerons_eq (k : Nat) : d_tri_Core_ephemerons (k + 1) = b_tri_Core_ephemerons k (d_heap_Heap_All k) (d_tri_Core_ephemerons_l0 k) (d_tri_Core_ephemerons_l1 k) := by
  funext _ _; simp only [d_heap_Heap_All, d_tri_Core_ephemerons, d_tri_Core_ephemerons_l0, d_tri_Core_ephemerons_l1, hide_eq, b_tri_Core_ephemerons, sw, strA, strR, str0]; kernel_rfl

theorem d_tri_Core_seen_eq (k : Nat) : d_tri_Core_seen (k + 1) = b_tri_Core_seen k (d_heap_Heap_Has k) (d_tri_Core_of k) := by
  funext _ _ _; simp only [d_heap_Heap_Has, d_tri_Core_of, d_tri_Core_seen, hide_eq, b_tri_Core_seen, sw, strA, strR, str0]; kernel_rfl

theorem d_place_Clear_eq (k : Nat) : d_place_Clear (k + 1) = b_place_Clear k (d_place_Cleared k) := by
  funext _ _ _ _; simp only [d_place_Clear, d_place_Cleared, hide_eq, b_place_Clear, sw, strA, strR, str0]; kernel_rfl

theorem d_heap_space_eq (k : Nat) : d_heap_space (k + 1) = b_heap_space k  := by
  funext _ _; simp only [d_heap_space, hide_eq, b_heap_space, sw, strA, strR, str0]; kernel_rfl

theorem d_slices_ContainsFunc_heap_block_eq (k : Nat) : d_slices_ContainsFunc_heap_block (k + 1) = b_slices_ContainsFunc_heap_block k (d_slices_IndexFunc_heap_block k) := by
  funext _ _ _; simp only [d_slices_ContainsFunc_heap_block, d_slices_IndexFunc_heap_block, hide_eq, b_slices_ContainsFunc_heap_block, sw, strA, strR, str0]; kernel_rfl

theorem d_heap_Heap_claim_c1_eq (k : Nat) : d_heap_Heap_claim_c1 (k + 1) = b_heap_Heap_claim_c1 k  := by
  funext _ _ _; simp only [d_heap_Heap_claim_c1, hide_eq, b_heap_Heap_claim_c1, sw, strA, strR, str0]; kernel_rfl

theorem d_side_Table_Last_l0_eq (k n : Nat) : d_side_Table_Last_l0 k (n + 1) = b_side_Table_Last_l0 k (d_side_Table_get k) (d_side_Table_Last_l0 k n) := by
  funext _ _ _ _; simp only [d_side_Table_Last_l0, d_side_Table_get, hide_eq, b_side_Table_Last_l0, sw, strA, strR, str0]; kernel_rfl

theorem d_side_Table_Last_eq (k : Nat) : d_side_Table_Last (k + 1) = b_side_Table_Last k (d_side_Table_Last_l0 k) (d_side_Table_made k) := by
  funext _ _ _ _; simp only [d_side_Table_Last, d_side_Table_Last_l0, d_side_Table_made, hide_eq, b_side_Table_Last, sw, strA, strR, str0]; kernel_rfl

theorem d_place_Cleared_l0_eq (k n : Nat) : d_place_Cleared_l0 k (n + 1) = b_place_Cleared_l0 k (d_heap_Heap_Ref k) (d_heap_Heap_SetRef k) (d_place_Soft k) (d_place_Cleared_l0 k n) := by
  funext _ _ _ _ _ _ _; simp only [d_heap_Heap_Ref, d_heap_Heap_SetRef, d_place_Cleared_l0, d_place_Soft, hide_eq, b_place_Cleared_l0, sw, strA, strR, str0]; kernel_rfl

theorem d_place_Cleared_eq (k : Nat) : d_place_Cleared (k + 1) = b_place_Cleared k (d_callV_i_t k) (d_heap_Heap_Ref k) (d_heap_Heap_Shape k) (d_place_Cleared_l0 k) := by
  funext _ _ _ _; simp only [d_callV_i_t, d_heap_Heap_Ref, d_heap_Heap_Shape, d_place_Cleared, d_place_Cleared_l0, hide_eq, b_place_Cleared, sw, strA, strR, str0]; kernel_rfl

theorem d_slices_IndexFunc_heap_block_l0_eq (k n : Nat) : d_slices_IndexFunc_heap_block_l0 k (n + 1) = b_slices_IndexFunc_heap_block_l0 k (d_callV_ii_t k) (d_slices_IndexFunc_heap_block_l0 k n) := by
  funext _ _ _ _ _ _ _; simp only [d_callV_ii_t, d_slices_IndexFunc_heap_block_l0, hide_eq, b_slices_IndexFunc_heap_block_l0, sw, strA, strR, str0]; kernel_rfl

theorem d_slices_IndexFunc_heap_block_eq (k : Nat) : d_slices_IndexFunc_heap_block (k + 1) = b_slices_IndexFunc_heap_block k (d_slices_IndexFunc_heap_block_l0 k) := by
  funext _ _ _; simp only [d_slices_IndexFunc_heap_block, d_slices_IndexFunc_heap_block_l0, hide_eq, b_slices_IndexFunc_heap_block, sw, strA, strR, str0]; kernel_rfl

theorem d_alloc_first_place_eq (k : Nat) : d_alloc_first_place (k + 1) = b_alloc_first_place k (d_alloc_Allocator_gaps k) (d_alloc_Allocator_start k) := by
  funext _ _ _; simp only [d_alloc_Allocator_gaps, d_alloc_Allocator_start, d_alloc_first_place, hide_eq, b_alloc_first_place, sw, strA, strR, str0]; kernel_rfl

theorem d_alloc_Allocator_start_eq (k : Nat) : d_alloc_Allocator_start (k + 1) = b_alloc_Allocator_start k (d_alloc_Allocator_begin k) := by
  funext _ _ _; simp only [d_alloc_Allocator_begin, d_alloc_Allocator_start, hide_eq, b_alloc_Allocator_start, sw, strA, strR, str0]; kernel_rfl

theorem d_alloc_Allocator_gaps_l1_eq (k n : Nat) : d_alloc_Allocator_gaps_l1 k (n + 1) = b_alloc_Allocator_gaps_l1 k (d_alloc_Allocator_gaps_l1 k n) := by
  funext _ _ _ _ _ _ _ _ _; simp only [d_alloc_Allocator_gaps_l1, hide_eq, b_alloc_Allocator_gaps_l1, sw, strA, strR, str0]; kernel_rfl

theorem d_alloc_Allocator_gaps_l0_eq (k n : Nat) : d_alloc_Allocator_gaps_l0 k (n + 1) = b_alloc_Allocator_gaps_l0 k (d_alloc_Allocator_gaps_l1 k) (d_heap_Heap_Gaps k) (d_alloc_Allocator_gaps_l0 k n) := by
  funext _ _ _ _ _ _ _ _ _ _; simp only [d_alloc_Allocator_gaps_l0, d_alloc_Allocator_gaps_l1, d_heap_Heap_Gaps, hide_eq, b_alloc_Allocator_gaps_l0, sw, strA, strR, str0]; kernel_rfl

theorem d_alloc_Allocator_gaps_eq (k : Nat) : d_alloc_Allocator_gaps (k + 1) = b_alloc_Allocator_gaps k (d_alloc_Allocator_blocks k) (d_alloc_Allocator_gaps_l0 k) := by
  funext _ _ _ _; simp only [d_alloc_Allocator_blocks, d_alloc_Allocator_gaps, d_alloc_Allocator_gaps_l0, hide_eq, b_alloc_Allocator_gaps, sw, strA, strR, str0]; kernel_rfl

theorem d_alloc_Allocator_begin_l0_eq (k n : Nat) : d_alloc_Allocator_begin_l0 k (n + 1) = b_alloc_Allocator_begin_l0 k (d_heap_Heap_Blocks k) (d_heap_Heap_Claim k) (d_alloc_Allocator_begin_l0 k n) := by
  funext _ _ _ _; simp only [d_alloc_Allocator_begin_l0, d_heap_Heap_Blocks, d_heap_Heap_Claim, hide_eq, b_alloc_Allocator_begin_l0, sw, strA, strR, str0]; kernel_rfl

theorem d_alloc_Allocator_begin_eq (k : Nat) : d_alloc_Allocator_begin (k + 1) = b_alloc_Allocator_begin k (d_alloc_Allocator_begin_l0 k) := by
  funext _ _; simp only [d_alloc_Allocator_begin, d_alloc_Allocator_begin_l0, hide_eq, b_alloc_Allocator_begin, sw, strA, strR, str0]; kernel_rfl

theorem d_alloc_Allocator_blocks_l0_eq (k n : Nat) : d_alloc_Allocator_blocks_l0 k (n + 1) = b_alloc_Allocator_blocks_l0 k (d_heap_Heap_Space k) (d_heap_Heap_State k) (d_alloc_Allocator_blocks_l0 k n) := by
  funext _ _ _ _ _; simp only [d_alloc_Allocator_blocks_l0, d_heap_Heap_Space, d_heap_Heap_State, hide_eq, b_alloc_Allocator_blocks_l0, sw, strA, strR, str0]; kernel_rfl

theorem d_alloc_Allocator_blocks_eq (k : Nat) : d_alloc_Allocator_blocks (k + 1) = b_alloc_Allocator_blocks k (d_alloc_Allocator_blocks_l0 k) (d_heap_Heap_Blocks k) := by
  funext _ _; simp only [d_alloc_Allocator_blocks, d_alloc_Allocator_blocks_l0, d_heap_Heap_Blocks, hide_eq, b_alloc_Allocator_blocks, sw, strA, strR, str0]; kernel_rfl

theorem d_heap_Heap_Claim_eq (k : Nat) : d_heap_Heap_Claim (k + 1) = b_heap_Heap_Claim k (d_heap_Heap_claim k) := by
  funext _ _ _ _; simp only [d_heap_Heap_Claim, d_heap_Heap_claim, hide_eq, b_heap_Heap_Claim, sw, strA, strR, str0]; kernel_rfl

theorem d_alloc_best_place_eq (k : Nat) : d_alloc_best_place (k + 1) = b_alloc_best_place k (d_alloc_Allocator_gaps k) (d_alloc_Allocator_start k) (d_slices_SortStableFunc_api_Run k) := by
  funext _ _ _; simp only [d_alloc_Allocator_gaps, d_alloc_Allocator_start, d_alloc_best_place, d_slices_SortStableFunc_api_Run, hide_eq, b_alloc_best_place, sw, strA, strR, str0]; kernel_rfl

theorem d_slices_SortStableFunc_api_Run_eq (k : Nat) : d_slices_SortStableFunc_api_Run (k + 1) = b_slices_SortStableFunc_api_Run k (d_slices_stableCmpFunc_api_Run k) := by
  funext _ _ _; simp only [d_slices_SortStableFunc_api_Run, d_slices_stableCmpFunc_api_Run, hide_eq, b_slices_SortStableFunc_api_Run, sw, strA, strR, str0]; kernel_rfl

theorem d_alloc_best_place_c1_eq (k : Nat) : d_alloc_best_place_c1 (k + 1) = b_alloc_best_place_c1 k  := by
  funext _ _ _ _ _; simp only [d_alloc_best_place_c1, hide_eq, b_alloc_best_place_c1, sw, strA, strR, str0]; kernel_rfl

theorem d_slices_stableCmpFunc_api_Run_l0_eq (k n : Nat) : d_slices_stableCmpFunc_api_Run_l0 k (n + 1) = b_slices_stableCmpFunc_api_Run_l0 k (d_slices_insertionSortCmpFunc_api_Run k) (d_slices_stableCmpFunc_api_Run_l0 k n) := by
  funext _ _ _ _ _ _ _ _; simp only [d_slices_insertionSortCmpFunc_api_Run, d_slices_stableCmpFunc_api_Run_l0, hide_eq, b_slices_stableCmpFunc_api_Run_l0, sw, strA, strR, str0]; kernel_rfl

theorem d_slices_stableCmpFunc_api_Run_l2_eq (k n : Nat) : d_slices_stableCmpFunc_api_Run_l2 k (n + 1) = b_slices_stableCmpFunc_api_Run_l2 k (d_slices_symMergeCmpFunc_api_Run k) (d_slices_stableCmpFunc_api_Run_l2 k n) := by
  funext _ _ _ _ _ _ _ _ _; simp only [d_slices_stableCmpFunc_api_Run_l2, d_slices_symMergeCmpFunc_api_Run, hide_eq, b_slices_stableCmpFunc_api_Run_l2, sw, strA, strR, str0]; kernel_rfl

theorem d_slices_stableCmpFunc_api_Run_l1_eq (k n : Nat) : d_slices_stableCmpFunc_api_Run_l1 k (n + 1) = b_slices_stableCmpFunc_api_Run_l1 k (d_slices_stableCmpFunc_api_Run_l2 k) (d_slices_symMergeCmpFunc_api_Run k) (d_slices_stableCmpFunc_api_Run_l1 k n) := by
  funext _ _ _ _ _ _ _; simp only [d_slices_stableCmpFunc_api_Run_l1, d_slices_stableCmpFunc_api_Run_l2, d_slices_symMergeCmpFunc_api_Run, hide_eq, b_slices_stableCmpFunc_api_Run_l1, sw, strA, strR, str0]; kernel_rfl

theorem d_slices_stableCmpFunc_api_Run_eq (k : Nat) : d_slices_stableCmpFunc_api_Run (k + 1) = b_slices_stableCmpFunc_api_Run k (d_slices_insertionSortCmpFunc_api_Run k) (d_slices_stableCmpFunc_api_Run_l0 k) (d_slices_stableCmpFunc_api_Run_l1 k) := by
  funext _ _ _ _; simp only [d_slices_insertionSortCmpFunc_api_Run, d_slices_stableCmpFunc_api_Run, d_slices_stableCmpFunc_api_Run_l0, d_slices_stableCmpFunc_api_Run_l1, hide_eq, b_slices_stableCmpFunc_api_Run, sw, strA, strR, str0]; kernel_rfl

theorem d_slices_insertionSortCmpFunc_api_Run_l1_eq (k n : Nat) : d_slices_insertionSortCmpFunc_api_Run_l1 k (n + 1) = b_slices_insertionSortCmpFunc_api_Run_l1 k (d_callV_iiii_i k) (d_slices_insertionSortCmpFunc_api_Run_l1 k n) := by
  funext _ _ _ _ _ _ _; simp only [d_callV_iiii_i, d_slices_insertionSortCmpFunc_api_Run_l1, hide_eq, b_slices_insertionSortCmpFunc_api_Run_l1, sw, strA, strR, str0]; kernel_rfl

theorem d_slices_insertionSortCmpFunc_api_Run_l0_eq (k n : Nat) : d_slices_insertionSortCmpFunc_api_Run_l0 k (n + 1) = b_slices_insertionSortCmpFunc_api_Run_l0 k (d_slices_insertionSortCmpFunc_api_Run_l1 k) (d_slices_insertionSortCmpFunc_api_Run_l0 k n) := by
  funext _ _ _ _ _ _ _ _; simp only [d_slices_insertionSortCmpFunc_api_Run_l0, d_slices_insertionSortCmpFunc_api_Run_l1, hide_eq, b_slices_insertionSortCmpFunc_api_Run_l0, sw, strA, strR, str0]; kernel_rfl

theorem d_slices_insertionSortCmpFunc_api_Run_eq (k : Nat) : d_slices_insertionSortCmpFunc_api_Run (k + 1) = b_slices_insertionSortCmpFunc_api_Run k (d_slices_insertionSortCmpFunc_api_Run_l0 k) := by
  funext _ _ _ _ _; simp only [d_slices_insertionSortCmpFunc_api_Run, d_slices_insertionSortCmpFunc_api_Run_l0, hide_eq, b_slices_insertionSortCmpFunc_api_Run, sw, strA, strR, str0]; kernel_rfl

theorem d_slices_symMergeCmpFunc_api_Run_l0_eq (k n : Nat) : d_slices_symMergeCmpFunc_api_Run_l0 k (n + 1) = b_slices_symMergeCmpFunc_api_Run_l0 k (d_callV_iiii_i k) (d_slices_symMergeCmpFunc_api_Run_l0 k n) := by
  funext _ _ _ _ _ _ _ _; simp only [d_callV_iiii_i, d_slices_symMergeCmpFunc_api_Run_l0, hide_eq, b_slices_symMergeCmpFunc_api_Run_l0, sw, strA, strR, str0]; kernel_rfl

theorem d_slices_symMergeCmpFunc_api_Run_l1_eq (k n : Nat) : d_slices_symMergeCmpFunc_api_Run_l1 k (n + 1) = b_slices_symMergeCmpFunc_api_Run_l1 k (d_slices_symMergeCmpFunc_api_Run_l1 k n) := by
  funext _ _ _ _ _ _; simp only [d_slices_symMergeCmpFunc_api_Run_l1, hide_eq, b_slices_symMergeCmpFunc_api_Run_l1, sw, strA, strR, str0]; kernel_rfl

theorem d_slices_symMergeCmpFunc_api_Run_l2_eq (k n : Nat) : d_slices_symMergeCmpFunc_api_Run_l2 k (n + 1) = b_slices_symMergeCmpFunc_api_Run_l2 k (d_callV_iiii_i k) (d_slices_symMergeCmpFunc_api_Run_l2 k n) := by
  funext _ _ _ _ _ _ _ _; simp only [d_callV_iiii_i, d_slices_symMergeCmpFunc_api_Run_l2, hide_eq, b_slices_symMergeCmpFunc_api_Run_l2, sw, strA, strR, str0]; kernel_rfl

theorem d_slices_symMergeCmpFunc_api_Run_l3_eq (k n : Nat) : d_slices_symMergeCmpFunc_api_Run_l3 k (n + 1) = b_slices_symMergeCmpFunc_api_Run_l3 k (d_slices_symMergeCmpFunc_api_Run_l3 k n) := by
  funext _ _ _ _ _ _; simp only [d_slices_symMergeCmpFunc_api_Run_l3, hide_eq, b_slices_symMergeCmpFunc_api_Run_l3, sw, strA, strR, str0]; kernel_rfl

theorem d_slices_symMergeCmpFunc_api_Run_l4_eq (k n : Nat) : d_slices_symMergeCmpFunc_api_Run_l4 k (n + 1) = b_slices_symMergeCmpFunc_api_Run_l4 k (d_callV_iiii_i k) (d_slices_symMergeCmpFunc_api_Run_l4 k n) := by
  funext _ _ _ _ _ _ _ _; simp only [d_callV_iiii_i, d_slices_symMergeCmpFunc_api_Run_l4, hide_eq, b_slices_symMergeCmpFunc_api_Run_l4, sw, strA, strR, str0]; kernel_rfl

theorem d_slices_symMergeCmpFunc_api_Run_eq (k : Nat) : d_slices_symMergeCmpFunc_api_Run (k + 1) = b_slices_symMergeCmpFunc_api_Run k (d_slices_rotateCmpFunc_api_Run k) (d_slices_symMergeCmpFunc_api_Run k) (d_slices_symMergeCmpFunc_api_Run_l0 k) (d_slices_symMergeCmpFunc_api_Run_l1 k) (d_slices_symMergeCmpFunc_api_Run_l2 k) (d_slices_symMergeCmpFunc_api_Run_l3 k) (d_slices_symMergeCmpFunc_api_Run_l4 k) := by
  funext _ _ _ _ _ _; simp only [d_slices_rotateCmpFunc_api_Run, d_slices_symMergeCmpFunc_api_Run, d_slices_symMergeCmpFunc_api_Run_l0, d_slices_symMergeCmpFunc_api_Run_l1, d_slices_symMergeCmpFunc_api_Run_l2, d_slices_symMergeCmpFunc_api_Run_l3, d_slices_symMergeCmpFunc_api_Run_l4, hide_eq, b_slices_symMergeCmpFunc_api_Run, sw, strA, strR, str0]; kernel_rfl

theorem d_slices_rotateCmpFunc_api_Run_l0_eq (k n : Nat) : d_slices_rotateCmpFunc_api_Run_l0 k (n + 1) = b_slices_rotateCmpFunc_api_Run_l0 k (d_slices_swapRangeCmpFunc_api_Run k) (d_slices_rotateCmpFunc_api_Run_l0 k n) := by
  funext _ _ _ _ _ _ _ _; simp only [d_slices_rotateCmpFunc_api_Run_l0, d_slices_swapRangeCmpFunc_api_Run, hide_eq, b_slices_rotateCmpFunc_api_Run_l0, sw, strA, strR, str0]; kernel_rfl

theorem d_slices_rotateCmpFunc_api_Run_eq (k : Nat) : d_slices_rotateCmpFunc_api_Run (k + 1) = b_slices_rotateCmpFunc_api_Run k (d_slices_rotateCmpFunc_api_Run_l0 k) (d_slices_swapRangeCmpFunc_api_Run k) := by
  funext _ _ _ _ _ _; simp only [d_slices_rotateCmpFunc_api_Run, d_slices_rotateCmpFunc_api_Run_l0, d_slices_swapRangeCmpFunc_api_Run, hide_eq, b_slices_rotateCmpFunc_api_Run, sw, strA, strR, str0]; kernel_rfl

theorem d_slices_swapRangeCmpFunc_api_Run_l0_eq (k n : Nat) : d_slices_swapRangeCmpFunc_api_Run_l0 k (n + 1) = b_slices_swapRangeCmpFunc_api_Run_l0 k (d_slices_swapRangeCmpFunc_api_Run_l0 k n) := by
  funext _ _ _ _ _ _ _ _; simp only [d_slices_swapRangeCmpFunc_api_Run_l0, hide_eq, b_slices_swapRangeCmpFunc_api_Run_l0, sw, strA, strR, str0]; kernel_rfl

theorem d_slices_swapRangeCmpFunc_api_Run_eq (k : Nat) : d_slices_swapRangeCmpFunc_api_Run (k + 1) = b_slices_swapRangeCmpFunc_api_Run k (d_slices_swapRangeCmpFunc_api_Run_l0 k) := by
  funext _ _ _ _ _ _; simp only [d_slices_swapRangeCmpFunc_api_Run, d_slices_swapRangeCmpFunc_api_Run_l0, hide_eq, b_slices_swapRangeCmpFunc_api_Run, sw, strA, strR, str0]; kernel_rfl

theorem d_alloc_next_place_eq (k : Nat) : d_alloc_next_place (k + 1) = b_alloc_next_place k (d_alloc_Allocator_gaps k) (d_alloc_Allocator_start k) := by
  funext _ _ _; simp only [d_alloc_Allocator_gaps, d_alloc_Allocator_start, d_alloc_next_place, hide_eq, b_alloc_next_place, sw, strA, strR, str0]; kernel_rfl

theorem d_alloc_bump_place_eq (k : Nat) : d_alloc_bump_place (k + 1) = b_alloc_bump_place k (d_alloc_Allocator_bumped k) := by
  funext _ _ _; simp only [d_alloc_Allocator_bumped, d_alloc_bump_place, hide_eq, b_alloc_bump_place, sw, strA, strR, str0]; kernel_rfl

theorem d_alloc_Allocator_bumped_eq (k : Nat) : d_alloc_Allocator_bumped (k + 1) = b_alloc_Allocator_bumped k (d_alloc_Allocator_begin k) (d_alloc_area_has k) (d_alloc_area_take k) := by
  funext _ _ _ _; simp only [d_alloc_Allocator_begin, d_alloc_Allocator_bumped, d_alloc_area_has, d_alloc_area_take, hide_eq, b_alloc_Allocator_bumped, sw, strA, strR, str0]; kernel_rfl

theorem d_alloc_area_has_eq (k : Nat) : d_alloc_area_has (k + 1) = b_alloc_area_has k  := by
  funext _ _ _; simp only [d_alloc_area_has, hide_eq, b_alloc_area_has, sw, strA, strR, str0]; kernel_rfl

theorem d_alloc_area_take_eq (k : Nat) : d_alloc_area_take (k + 1) = b_alloc_area_take k  := by
  funext _ _ _; simp only [d_alloc_area_take, hide_eq, b_alloc_area_take, sw, strA, strR, str0]; kernel_rfl

theorem d_alloc_lines_place_eq (k : Nat) : d_alloc_lines_place (k + 1) = b_alloc_lines_place k (d_alloc_Allocator_bumped k) (d_alloc_Allocator_hole k) (d_alloc_area_has k) (d_alloc_area_take k) := by
  funext _ _ _; simp only [d_alloc_Allocator_bumped, d_alloc_Allocator_hole, d_alloc_area_has, d_alloc_area_take, d_alloc_lines_place, hide_eq, b_alloc_lines_place, sw, strA, strR, str0]; kernel_rfl

theorem d_alloc_Allocator_hole_l2_eq (k n : Nat) : d_alloc_Allocator_hole_l2 k (n + 1) = b_alloc_Allocator_hole_l2 k (d_alloc_Allocator_hole_l2 k n) := by
  funext _ _ _ _ _; simp only [d_alloc_Allocator_hole_l2, hide_eq, b_alloc_Allocator_hole_l2, sw, strA, strR, str0]; kernel_rfl

theorem d_alloc_Allocator_hole_l1_eq (k n : Nat) : d_alloc_Allocator_hole_l1 k (n + 1) = b_alloc_Allocator_hole_l1 k (d_alloc_Allocator_hole_l2 k) (d_alloc_Allocator_hole_l1 k n) := by
  funext _ _ _ _ _ _ _ _; simp only [d_alloc_Allocator_hole_l1, d_alloc_Allocator_hole_l2, hide_eq, b_alloc_Allocator_hole_l1, sw, strA, strR, str0]; kernel_rfl

theorem d_alloc_Allocator_hole_l0_eq (k n : Nat) : d_alloc_Allocator_hole_l0 k (n + 1) = b_alloc_Allocator_hole_l0 k (d_alloc_Allocator_hole_l1 k) (d_heap_Heap_Lines k) (d_alloc_Allocator_hole_l0 k n) := by
  funext _ _ _ _ _ _ _ _; simp only [d_alloc_Allocator_hole_l0, d_alloc_Allocator_hole_l1, d_heap_Heap_Lines, hide_eq, b_alloc_Allocator_hole_l0, sw, strA, strR, str0]; kernel_rfl

theorem d_alloc_Allocator_hole_eq (k : Nat) : d_alloc_Allocator_hole (k + 1) = b_alloc_Allocator_hole k (d_alloc_Allocator_begin k) (d_alloc_Allocator_blocks k) (d_alloc_Allocator_hole_l0 k) := by
  funext _ _; simp only [d_alloc_Allocator_begin, d_alloc_Allocator_blocks, d_alloc_Allocator_hole, d_alloc_Allocator_hole_l0, hide_eq, b_alloc_Allocator_hole, sw, strA, strR, str0]; kernel_rfl

theorem d_heap_Heap_Lines_l1_eq (k n : Nat) : d_heap_Heap_Lines_l1 k (n + 1) = b_heap_Heap_Lines_l1 k (d_heap_Heap_Lines_l1 k n) := by
  funext _ _ _ _ _; simp only [d_heap_Heap_Lines_l1, hide_eq, b_heap_Heap_Lines_l1, sw, strA, strR, str0]; kernel_rfl

theorem d_heap_Heap_Lines_l0_eq (k n : Nat) : d_heap_Heap_Lines_l0 k (n + 1) = b_heap_Heap_Lines_l0 k (d_heap_Heap_Lines_l1 k) (d_heap_Heap_size k) (d_heap_Heap_Lines_l0 k n) := by
  funext _ _ _ _ _ _ _ _ _; simp only [d_heap_Heap_Lines_l0, d_heap_Heap_Lines_l1, d_heap_Heap_size, hide_eq, b_heap_Heap_Lines_l0, sw, strA, strR, str0]; kernel_rfl

theorem d_heap_Heap_Lines_eq (k : Nat) : d_heap_Heap_Lines (k + 1) = b_heap_Heap_Lines k (d_heap_Heap_Lines_l0 k) (d_heap_Heap_Objects k) (d_heap_Heap_used k) := by
  funext _ _ _; simp only [d_heap_Heap_Lines, d_heap_Heap_Lines_l0, d_heap_Heap_Objects, d_heap_Heap_used, hide_eq, b_heap_Heap_Lines, sw, strA, strR, str0]; kernel_rfl

theorem callV_f_0_roots_Roots_all_c1 (k : Nat) (x0 : Value) (c0 : Option Addr) (σ : AMem) : d_callV_f_0 k (.func (.func 187) #[] #[.pointer c0]) [x0] σ = d_roots_Roots_all_c1 k x0 c0 σ := by
  simp only [d_callV_f_0, d_roots_Roots_all_c1, hide_eq]; kernel_rfl

theorem callV_pi_it_alloc_Allocator_large (k : Nat) (x0 : Option Addr) (x1 : Int) (σ : AMem) : d_callV_pi_it k (.func (.func 156) #[] #[]) [.pointer x0, .int .i64 x1] σ = d_alloc_Allocator_large k x0 x1 σ := by
  simp only [d_callV_pi_it, d_alloc_Allocator_large, hide_eq]; kernel_rfl

theorem callV_i_t_sound_Is_c1 (k : Nat) (x0 : Int) (c0 : Option Addr) (σ : AMem) : d_callV_i_t k (.func (.func 172) #[] #[.pointer c0]) [.int .i64 x0] σ = d_sound_Is_c1 k x0 c0 σ := by
  simp only [d_callV_i_t, d_sound_Is_c1, hide_eq]; kernel_rfl

theorem callV_i_t_side_Table_check_c1 (k : Nat) (x0 : Int) (c0 : Option Addr) (σ : AMem) : d_callV_i_t k (.func (.func 237) #[] #[.pointer c0]) [.int .i64 x0] σ = d_side_Table_check_c1 k x0 c0 σ := by
  simp only [d_callV_i_t, d_side_Table_check_c1, hide_eq]; kernel_rfl

theorem callV_ii_t_heap_Heap_claim_c1 (k : Nat) (x0_0 : Int) (x0_1 : Int) (σ : AMem) : d_callV_ii_t k (.func (.func 252) #[] #[]) [.agg #[.int .i64 x0_0, .int .i64 x0_1]] σ = d_heap_Heap_claim_c1 k x0_0 x0_1 σ := by
  simp only [d_callV_ii_t, d_heap_Heap_claim_c1, hide_eq]; kernel_rfl

theorem callV_iiii_i_alloc_best_place_c1 (k : Nat) (x0_0 : Int) (x0_1 : Int) (x1_0 : Int) (x1_1 : Int) (σ : AMem) : d_callV_iiii_i k (.func (.func 288) #[] #[]) [.agg #[.int .i64 x0_0, .int .i64 x0_1], .agg #[.int .i64 x1_0, .int .i64 x1_1]] σ = d_alloc_best_place_c1 k x0_0 x0_1 x1_0 x1_1 σ := by
  simp only [d_callV_iiii_i, d_alloc_best_place_c1, hide_eq]; kernel_rfl

theorem callV_iiip_t_roots_Roots_Leads_r (k : Nat) (h : Nat) (qh0 : Nat) (z0_0 : Int) (z0_1 : Int) (z0_2 : Int) (z1 : Option Addr) (σ : AMem) (hσ : σ[h]? = some (.loop 60 .ready (rgs 0 26 [(3, .pointer (some ⟨qh0, 0, none⟩))]))) : d_callV_iiip_t (k + 1) (.func (.yield h) #[] #[]) [.agg #[.int .i64 z0_0, .int .i64 z0_1, .int .i64 z0_2], .pointer z1] σ = b_roots_Roots_Leads_r k (d_slices_Contains_int k) h qh0 z0_0 z0_1 z0_2 z1 σ := by
  simp only [d_callV_iiip_t, d_slices_Contains_int, hide_eq, b_roots_Roots_Leads_r, sw, strA, strR, str0]
  exact (round_eq (F := Tryz.f60) (c := bodyC Tryz.f60) (x := (theRange (bodyC Tryz.f60)).getD default) hσ (by kernel_rfl) (by kernel_rfl) (by kernel_rfl) (by kernel_rfl) (by kernel_rfl) (by kernel_rfl)).trans (by kernel_rfl)

end

theorem d_law17_awake_eq [Quiet] (k : Nat) (σ : AMem) : @d_law17_awake _ ⟨true⟩ (k + 1) σ = some (.bool true, σ) := by
  simp only [d_law17_awake, hide_eq]; kernel_rfl

theorem eqA_ptrs (a : Addr) : eqA P pt_side_Table (.pointer (some a)) (.pointer none) = some false ∧ eqA P pt_side_Table (.pointer none) (.pointer none) = some true ∧ eqA P pt_heap_Heap (.pointer (some a)) (.pointer none) = some false ∧ eqA P pt_heap_Heap (.pointer none) (.pointer none) = some true ∧ eqA P pt_roots_Roots (.pointer (some a)) (.pointer none) = some false ∧ eqA P pt_roots_Roots (.pointer none) (.pointer none) = some true ∧ eqA P pt_alloc_Allocator (.pointer (some a)) (.pointer none) = some false ∧ eqA P pt_alloc_Allocator (.pointer none) (.pointer none) = some true ∧ eqA P pt_tri_Core (.pointer (some a)) (.pointer none) = some false ∧ eqA P pt_tri_Core (.pointer none) (.pointer none) = some true ∧ eqA P pt_snap_Collector (.pointer (some a)) (.pointer none) = some false ∧ eqA P pt_snap_Collector (.pointer none) (.pointer none) = some true ∧ eqA P pt_int (.pointer (some a)) (.pointer none) = some false ∧ eqA P pt_int (.pointer none) (.pointer none) = some true := by
  refine ⟨?_, ?_, ?_, ?_, ?_, ?_, ?_, ?_, ?_, ?_, ?_, ?_, ?_, ?_⟩ <;> kernel_rfl

abbrev fn_law17_SnapNone : FuncId := 6
abbrev fn_heap_New : FuncId := 7
abbrev fn_roots_New : FuncId := 8
abbrev fn_side_New : FuncId := 16
abbrev fn_snap_New : FuncId := 37
abbrev fn_snap_Collector_Alloc : FuncId := 38
abbrev fn_snap_Collector_Step : FuncId := 39
abbrev fn_snap_Collector_Finish : FuncId := 40
abbrev fn_snap_Collector_Start : FuncId := 41
abbrev fn_snap_Collector_Store : FuncId := 42
abbrev fn_snap_Collector_Note : FuncId := 43
abbrev fn_snap_Collector_Load : FuncId := 44
abbrev fn_snap_Collector_Phase : FuncId := 45
abbrev fn_snap_Collector_Colour : FuncId := 46
abbrev fn_snap_Collector_List : FuncId := 47
abbrev fn_snap_Collector_Left : FuncId := 48
abbrev fn_snap_Collector_Freed : FuncId := 49
abbrev fn_snap_Collector_On : FuncId := 50
abbrev fn_law17_awake : FuncId := 51
abbrev fn_roots_Roots_Leads : FuncId := 60
abbrev fn_heap_Heap_Has : FuncId := 64
abbrev fn_heap_Heap_All : FuncId := 65
abbrev fn_heap_Heap_Shape : FuncId := 70
abbrev fn_heap_Heap_Ref : FuncId := 72
abbrev fn_heap_Heap_SetRef : FuncId := 74
abbrev fn_slices_Contains_int : FuncId := 76
abbrev fn_alloc_Allocator_Alloc : FuncId := 86
abbrev fn_slices_Clone_int : FuncId := 89
abbrev fn_heap_Heap_Blocks : FuncId := 90
abbrev fn_side_Table_Clone : FuncId := 91
abbrev fn_side_Table_Entries : FuncId := 93
abbrev fn_sound_Is : FuncId := 95
abbrev fn_roots_Roots_Set : FuncId := 100
abbrev fn_heap_Heap_State : FuncId := 102
abbrev fn_tri_New : FuncId := 103
abbrev fn_tri_Core_Alloc : FuncId := 105
abbrev fn_tri_Core_Step : FuncId := 106
abbrev fn_tri_Core_Finish : FuncId := 107
abbrev fn_tri_Core_Start : FuncId := 108
abbrev fn_tri_Core_Made : FuncId := 109
abbrev fn_tri_Core_Heap : FuncId := 110
abbrev fn_tri_Core_Shaded : FuncId := 111
abbrev fn_tri_Core_Old : FuncId := 112
abbrev fn_tri_Core_Phase : FuncId := 113
abbrev fn_tri_Core_Colour : FuncId := 114
abbrev fn_tri_Core_List : FuncId := 115
abbrev fn_tri_Core_Left : FuncId := 116
abbrev fn_tri_Core_Freed : FuncId := 117
abbrev fn_tri_Core_On : FuncId := 118
abbrev fn_law12_Ints : FuncId := 119
abbrev fn_snap_Collector_core : FuncId := 120
abbrev fn_snap_Collector_overwritten : FuncId := 121
abbrev fn_place_Soft : FuncId := 122
abbrev fn_place_Kind : FuncId := 123
abbrev fn_roots_Roots_Mutators : FuncId := 124
abbrev fn_roots_Roots_made : FuncId := 125
abbrev fn_roots_Roots_all : FuncId := 126
abbrev fn_roots_Roots_place : FuncId := 127
abbrev fn_heap_Heap_made : FuncId := 135
abbrev fn_side_Table_Get : FuncId := 136
abbrev fn_heap_Heap_between : FuncId := 137
abbrev fn_heap_Heap_object : FuncId := 138
abbrev fn_heap_shape : FuncId := 139
abbrev fn_heap_Heap_field : FuncId := 140
abbrev fn_slices_Index_int : FuncId := 141
abbrev fn_side_Table_Set : FuncId := 149
abbrev fn_alloc_Allocator_made : FuncId := 152
abbrev fn_heap_Valid : FuncId := 153
abbrev fn_heap_Words : FuncId := 154
abbrev fn_alloc_policies : FuncId := 155
abbrev fn_alloc_Allocator_large : FuncId := 156
abbrev fn_heap_Heap_Space : FuncId := 157
abbrev fn_heap_Heap_Place : FuncId := 158
abbrev fn_side_Table_made : FuncId := 170
abbrev fn_slices_Clone_uint64 : FuncId := 171
abbrev fn_sound_Is_c1 : FuncId := 172
abbrev fn_slices_ContainsFunc_int : FuncId := 173
abbrev fn_heap_Heap_Objects : FuncId := 174
abbrev fn_heap_Heap_Kill : FuncId := 175
abbrev fn_heap_Heap_Release : FuncId := 176
abbrev fn_heap_Heap_size : FuncId := 177
abbrev fn_alloc_New : FuncId := 181
abbrev fn_tri_Core_paint : FuncId := 182
abbrev fn_tri_Core_unit : FuncId := 183
abbrev fn_tri_Core_places : FuncId := 184
abbrev fn_tri_Core_Shade : FuncId := 185
abbrev fn_tri_Core_of : FuncId := 186
abbrev fn_roots_Roots_all_c1 : FuncId := 187
abbrev fn_roots_Roots_at : FuncId := 188
abbrev fn_slices_IndexFunc_int : FuncId := 191
abbrev fn_side_Table_there : FuncId := 192
abbrev fn_side_Table_get : FuncId := 193
abbrev fn_side_Table_Next : FuncId := 194
abbrev fn_heap_Heap_Gaps : FuncId := 203
abbrev fn_side_Table_check : FuncId := 206
abbrev fn_side_Table_put : FuncId := 207
abbrev fn_heap_Heap_ClaimLarge : FuncId := 211
abbrev fn_heap_Heap_fits : FuncId := 212
abbrev fn_heap_number : FuncId := 213
abbrev fn_heap_Heap_wipe : FuncId := 223
abbrev fn_heap_Heap_held : FuncId := 224
abbrev fn_heap_Heap_span : FuncId := 225
abbrev fn_tri_Core_sweep : FuncId := 226
abbrev fn_place_Strong : FuncId := 227
abbrev fn_tri_Core_last : FuncId := 228
abbrev fn_roots_Roots_at_c1 : FuncId := 229
abbrev fn_side_Table_most : FuncId := 230
abbrev fn_heap_Heap_used : FuncId := 235
abbrev fn_heap_Heap_Gaps_c1 : FuncId := 236
abbrev fn_side_Table_check_c1 : FuncId := 237
abbrev fn_side_Table_value : FuncId := 238
abbrev fn_heap_Heap_claim : FuncId := 239
abbrev fn_heap_Heap_Find : FuncId := 240
abbrev fn_heap_Heap_there : FuncId := 244
abbrev fn_side_Table_Fill : FuncId := 245
abbrev fn_place_Refs : FuncId := 246
abbrev fn_tri_Core_ephemerons : FuncId := 247
abbrev fn_tri_Core_seen : FuncId := 248
abbrev fn_place_Clear : FuncId := 249
abbrev fn_heap_space : FuncId := 250
abbrev fn_slices_ContainsFunc_heap_block : FuncId := 251
abbrev fn_heap_Heap_claim_c1 : FuncId := 252
abbrev fn_side_Table_Last : FuncId := 253
abbrev fn_place_Cleared : FuncId := 255
abbrev fn_slices_IndexFunc_heap_block : FuncId := 256
abbrev fn_alloc_first_place : FuncId := 280
abbrev fn_alloc_Allocator_start : FuncId := 281
abbrev fn_alloc_Allocator_gaps : FuncId := 282
abbrev fn_alloc_Allocator_begin : FuncId := 283
abbrev fn_alloc_Allocator_blocks : FuncId := 284
abbrev fn_heap_Heap_Claim : FuncId := 285
abbrev fn_alloc_best_place : FuncId := 286
abbrev fn_slices_SortStableFunc_api_Run : FuncId := 287
abbrev fn_alloc_best_place_c1 : FuncId := 288
abbrev fn_slices_stableCmpFunc_api_Run : FuncId := 289
abbrev fn_slices_insertionSortCmpFunc_api_Run : FuncId := 290
abbrev fn_slices_symMergeCmpFunc_api_Run : FuncId := 291
abbrev fn_slices_rotateCmpFunc_api_Run : FuncId := 292
abbrev fn_slices_swapRangeCmpFunc_api_Run : FuncId := 293
abbrev fn_alloc_next_place : FuncId := 294
abbrev fn_alloc_bump_place : FuncId := 295
abbrev fn_alloc_Allocator_bumped : FuncId := 296
abbrev fn_alloc_area_has : FuncId := 297
abbrev fn_alloc_area_take : FuncId := 298
abbrev fn_alloc_lines_place : FuncId := 299
abbrev fn_alloc_Allocator_hole : FuncId := 300
abbrev fn_heap_Heap_Lines : FuncId := 301

section
local instance kn0 : Kn := ⟨false⟩
variable [Quiet]

theorem d_law17_awake_run_eq (k : Nat) : d_law17_awake (k + 1) = b_law17_awake k (d_heap_New k) (d_law12_Ints k) (d_roots_New k) (d_roots_Roots_Set k) (d_snap_Collector_Alloc k) (d_snap_Collector_Colour k) (d_snap_Collector_Finish k) (d_snap_Collector_Freed k) (d_snap_Collector_List k) (d_snap_Collector_Phase k) (d_snap_Collector_Start k) (d_snap_Collector_Step k) (d_snap_Collector_Store k) (d_snap_New k) := by
  funext  _; simp only [d_heap_New, d_law12_Ints, d_law17_awake, d_roots_New, d_roots_Roots_Set, d_snap_Collector_Alloc, d_snap_Collector_Colour, d_snap_Collector_Finish, d_snap_Collector_Freed, d_snap_Collector_List, d_snap_Collector_Phase, d_snap_Collector_Start, d_snap_Collector_Step, d_snap_Collector_Store, d_snap_New, hide_eq, b_law17_awake, sw, strA, strR, str0]; kernel_rfl

end

end Go.Proofs.YtilefhlamdiomaaGreat
