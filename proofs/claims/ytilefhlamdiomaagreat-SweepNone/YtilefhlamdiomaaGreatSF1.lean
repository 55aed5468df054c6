/-
  PRINTED BY A PROGRAM OF THIS SESSION'S OWN (gen2.py): the unfolding equations.
-/
import Derived.Test.YtilefhlamdiomaaGreatSFB
set_option maxRecDepth 100000
set_option linter.unusedVariables false
set_option linter.unusedSimpArgs false
set_option linter.unusedSectionVars false
namespace Go.Proofs.YtilefhlamdiomaaGreat
open Go Go.AX
section
variable [Quiet] [Kn]

theorem d_law08_SweepNone_eq (k : Nat) : d_law08_SweepNone (k + 1) = b_law08_SweepNone k (d_heap_New k) (d_law08_alive k) (d_law08_play k) (d_roots_New k) (d_side_New k) (d_sweep_Collect k) (d_sweep_New k) (d_sweep_Sweeper_Clone k) (d_sweep_Sweeper_Left k) := by
  funext _ _ _ _ _ _ _ _ _; simp only [d_heap_New, d_law08_SweepNone, d_law08_alive, d_law08_play, d_roots_New, d_side_New, d_sweep_Collect, d_sweep_New, d_sweep_Sweeper_Clone, d_sweep_Sweeper_Left, hide_eq, b_law08_SweepNone, sw, strA, strR, str0]; kernel_rfl

theorem d_heap_New_eq (k : Nat) : d_heap_New (k + 1) = b_heap_New k (d_side_New k) := by
  funext _ _; simp only [d_heap_New, d_side_New, hide_eq, b_heap_New, sw, strA, strR, str0]; kernel_rfl

theorem d_roots_New_eq (k : Nat) : d_roots_New (k + 1) = b_roots_New k  := by
  funext _ _; simp only [d_roots_New, hide_eq, b_roots_New, sw, strA, strR, str0]; kernel_rfl

theorem d_trace_Mark_l0_eq (k n : Nat) : d_trace_Mark_l0 k (n + 1) = b_trace_Mark_l0 k (d_roots_Roots_Get k) (d_trace_marker_reach k) (d_trace_Mark_l0 k n) := by
  funext _ _ _ _ _ _ _ _; simp only [d_roots_Roots_Get, d_trace_Mark_l0, d_trace_marker_reach, hide_eq, b_trace_Mark_l0, sw, strA, strR, str0]; kernel_rfl

theorem d_trace_Mark_l1_eq (k n : Nat) : d_trace_Mark_l1 k (n + 1) = b_trace_Mark_l1 k (d_trace_marker_round k) (d_trace_marker_run k) (d_trace_Mark_l1 k n) := by
  funext _ _; simp only [d_trace_Mark_l1, d_trace_marker_round, d_trace_marker_run, hide_eq, b_trace_Mark_l1, sw, strA, strR, str0]; kernel_rfl

theorem d_trace_Mark_eq (k : Nat) : d_trace_Mark (k + 1) = b_trace_Mark k (d_roots_Roots_Places k) (d_trace_Mark_l0 k) (d_trace_Mark_l1 k) (d_trace_given k) (d_trace_marker_run k) (d_trace_table k) := by
  funext _ _ _ _ _; simp only [d_roots_Roots_Places, d_trace_Mark, d_trace_Mark_l0, d_trace_Mark_l1, d_trace_given, d_trace_marker_run, d_trace_table, hide_eq, b_trace_Mark, sw, strA, strR, str0]; kernel_rfl

theorem d_trace_Clear_l1_eq (k n : Nat) : d_trace_Clear_l1 k (n + 1) = b_trace_Clear_l1 k (d_heap_Heap_Ref k) (d_heap_Heap_SetRef k) (d_trace_Clear_l1 k n) := by
  funext _ _ _ _ _ _; simp only [d_heap_Heap_Ref, d_heap_Heap_SetRef, d_trace_Clear_l1, hide_eq, b_trace_Clear_l1, sw, strA, strR, str0]; kernel_rfl

theorem d_trace_Clear_l0_eq (k n : Nat) : d_trace_Clear_l0 k (n + 1) = b_trace_Clear_l0 k (d_heap_Heap_Ref k) (d_heap_Heap_Shape k) (d_trace_Clear_l1 k) (d_trace_marked k) (d_trace_softs k) (d_trace_Clear_l0 k n) := by
  funext _ _ _ _ _ _ _ _ _; simp only [d_heap_Heap_Ref, d_heap_Heap_Shape, d_trace_Clear_l0, d_trace_Clear_l1, d_trace_marked, d_trace_softs, hide_eq, b_trace_Clear_l0, sw, strA, strR, str0]; kernel_rfl

theorem d_trace_Clear_eq (k : Nat) : d_trace_Clear (k + 1) = b_trace_Clear k (d_trace_Clear_l0 k) (d_trace_all k) (d_trace_fits k) := by
  funext _ _ _; simp only [d_trace_Clear, d_trace_Clear_l0, d_trace_all, d_trace_fits, hide_eq, b_trace_Clear, sw, strA, strR, str0]; kernel_rfl

theorem d_trace_Marked_eq (k : Nat) : d_trace_Marked (k + 1) = b_trace_Marked k (d_trace_fits k) (d_trace_marked k) := by
  funext _ _ _ _; simp only [d_trace_Marked, d_trace_fits, d_trace_marked, hide_eq, b_trace_Marked, sw, strA, strR, str0]; kernel_rfl

theorem d_side_New_eq (k : Nat) : d_side_New (k + 1) = b_side_New k (d_slices_Contains_int k) := by
  funext _ _ _; simp only [d_side_New, d_slices_Contains_int, hide_eq, b_side_New, sw, strA, strR, str0]; kernel_rfl

theorem d_law08_play_eq (k : Nat) : d_law08_play (k + 1) = b_law08_play k (d_alloc_Allocator_Alloc k) (d_ref02_Heap_All k) (d_ref05_Allocator_Alloc k) (d_ref08_Sweeper_Block k) (d_ref08_Sweeper_Born k) (d_ref08_Sweeper_Finish k) (d_ref08_Sweeper_Need k) (d_sweep_Sweeper_Block k) (d_sweep_Sweeper_Born k) (d_sweep_Sweeper_Finish k) (d_sweep_Sweeper_Need k) := by
  funext _ _ _ _ _ _ _ _ _ _ _ _ _ _ _ _ _ _ _; simp only [d_alloc_Allocator_Alloc, d_law08_play, d_ref02_Heap_All, d_ref05_Allocator_Alloc, d_ref08_Sweeper_Block, d_ref08_Sweeper_Born, d_ref08_Sweeper_Finish, d_ref08_Sweeper_Need, d_sweep_Sweeper_Block, d_sweep_Sweeper_Born, d_sweep_Sweeper_Finish, d_sweep_Sweeper_Need, hide_eq, b_law08_play, sw, strA, strR, str0]; kernel_rfl

theorem d_sweep_Sweeper_Left_eq (k : Nat) : d_sweep_Sweeper_Left (k + 1) = b_sweep_Sweeper_Left k (d_slices_Clone_int k) (d_sweep_Sweeper_made k) := by
  funext _ _; simp only [d_slices_Clone_int, d_sweep_Sweeper_Left, d_sweep_Sweeper_made, hide_eq, b_sweep_Sweeper_Left, sw, strA, strR, str0]; kernel_rfl

theorem d_sweep_Sweeper_Clone_eq (k : Nat) : d_sweep_Sweeper_Clone (k + 1) = b_sweep_Sweeper_Clone k (d_heap_Heap_Blocks k) (d_side_Table_Clone k) (d_slices_Clone_int k) (d_sweep_Sweeper_made k) := by
  funext _ _ _; simp only [d_heap_Heap_Blocks, d_side_Table_Clone, d_slices_Clone_int, d_sweep_Sweeper_Clone, d_sweep_Sweeper_made, hide_eq, b_sweep_Sweeper_Clone, sw, strA, strR, str0]; kernel_rfl

theorem d_sweep_New_l0_eq (k n : Nat) : d_sweep_New_l0 k (n + 1) = b_sweep_New_l0 k (d_sweep_held k) (d_sweep_New_l0 k n) := by
  funext _ _ _ _ _; simp only [d_sweep_New_l0, d_sweep_held, hide_eq, b_sweep_New_l0, sw, strA, strR, str0]; kernel_rfl

theorem d_sweep_New_eq (k : Nat) : d_sweep_New (k + 1) = b_sweep_New k (d_heap_Heap_Blocks k) (d_side_Table_Clone k) (d_side_Table_Entries k) (d_side_Table_Width k) (d_sweep_New_l0 k) := by
  funext _ _ _; simp only [d_heap_Heap_Blocks, d_side_Table_Clone, d_side_Table_Entries, d_side_Table_Width, d_sweep_New, d_sweep_New_l0, hide_eq, b_sweep_New, sw, strA, strR, str0]; kernel_rfl

theorem d_sweep_Collect_l0_eq (k n : Nat) : d_sweep_Collect_l0 k (n + 1) = b_sweep_Collect_l0 k (d_sweep_block k) (d_sweep_Collect_l0 k n) := by
  funext _ _ _ _ _ _; simp only [d_sweep_Collect_l0, d_sweep_block, hide_eq, b_sweep_Collect_l0, sw, strA, strR, str0]; kernel_rfl

theorem d_sweep_Collect_eq (k : Nat) : d_sweep_Collect (k + 1) = b_sweep_Collect k (d_heap_Heap_All k) (d_heap_Heap_Blocks k) (d_heap_Heap_Used k) (d_sound_Is k) (d_sweep_Collect_l0 k) (d_trace_Clear k) (d_trace_Mark k) := by
  funext _ _ _; simp only [d_heap_Heap_All, d_heap_Heap_Blocks, d_heap_Heap_Used, d_sound_Is, d_sweep_Collect, d_sweep_Collect_l0, d_trace_Clear, d_trace_Mark, hide_eq, b_sweep_Collect, sw, strA, strR, str0]; kernel_rfl

theorem d_trace_given_eq (k : Nat) : d_trace_given (k + 1) = b_trace_given k (d_heap_Heap_Blocks k) (d_roots_Roots_Mutators k) := by
  funext _ _ _; simp only [d_heap_Heap_Blocks, d_roots_Roots_Mutators, d_trace_given, hide_eq, b_trace_given, sw, strA, strR, str0]; kernel_rfl

theorem d_trace_table_eq (k : Nat) : d_trace_table (k + 1) = b_trace_table k (d_heap_Heap_Blocks k) (d_side_New k) := by
  funext _ _; simp only [d_heap_Heap_Blocks, d_side_New, d_trace_table, hide_eq, b_trace_table, sw, strA, strR, str0]; kernel_rfl

theorem d_roots_Roots_Places_eq (k : Nat) : d_roots_Roots_Places (k + 1) = b_roots_Roots_Places k (d_callV_f_0 k) (d_roots_Roots_all k) (d_roots_Roots_made k) := by
  funext _ _; simp only [d_callV_f_0, d_roots_Roots_Places, d_roots_Roots_all, d_roots_Roots_made, hide_eq, b_roots_Roots_Places, sw, strA, strR, str0]; kernel_rfl

theorem d_roots_Roots_Get_eq (k : Nat) : d_roots_Roots_Get (k + 1) = b_roots_Roots_Get k (d_roots_Roots_place k) := by
  funext _ _ _ _ _; simp only [d_roots_Roots_Get, d_roots_Roots_place, hide_eq, b_roots_Roots_Get, sw, strA, strR, str0]; kernel_rfl

theorem d_trace_marker_reach_eq (k : Nat) : d_trace_marker_reach (k + 1) = b_trace_marker_reach k (d___trace_line_int__add k) (d_trace_mark k) := by
  funext _ _ _; simp only [d___trace_line_int__add, d_trace_mark, d_trace_marker_reach, hide_eq, b_trace_marker_reach, sw, strA, strR, str0]; kernel_rfl

theorem d_trace_marker_run_l1_eq (k n : Nat) : d_trace_marker_run_l1 k (n + 1) = b_trace_marker_run_l1 k (d_trace_marker_drain k) (d_trace_marker_scan k) (d_trace_marker_run_l1 k n) := by
  funext _ _ _ _ _ _ _; simp only [d_trace_marker_drain, d_trace_marker_run_l1, d_trace_marker_scan, hide_eq, b_trace_marker_run_l1, sw, strA, strR, str0]; kernel_rfl

theorem d_trace_marker_run_l0_eq (k n : Nat) : d_trace_marker_run_l0 k (n + 1) = b_trace_marker_run_l0 k (d_trace_all k) (d_trace_marker_run_l1 k) (d_trace_marker_run_l0 k n) := by
  funext _ _; simp only [d_trace_all, d_trace_marker_run_l0, d_trace_marker_run_l1, hide_eq, b_trace_marker_run_l0, sw, strA, strR, str0]; kernel_rfl

theorem d_trace_marker_run_eq (k : Nat) : d_trace_marker_run (k + 1) = b_trace_marker_run k (d_trace_marker_drain k) (d_trace_marker_run_l0 k) := by
  funext _ _; simp only [d_trace_marker_drain, d_trace_marker_run, d_trace_marker_run_l0, hide_eq, b_trace_marker_run, sw, strA, strR, str0]; kernel_rfl

theorem d_trace_marker_round_l0_eq (k n : Nat) : d_trace_marker_round_l0 k (n + 1) = b_trace_marker_round_l0 k (d_trace_marker_reach k) (d_trace_marker_round_l0 k n) := by
  funext _ _ _ _ _ _ _ _; simp only [d_trace_marker_reach, d_trace_marker_round_l0, hide_eq, b_trace_marker_round_l0, sw, strA, strR, str0]; kernel_rfl

theorem d_trace_marker_round_eq (k : Nat) : d_trace_marker_round (k + 1) = b_trace_marker_round k (d_trace_due k) (d_trace_marker_round_l0 k) := by
  funext _ _; simp only [d_trace_due, d_trace_marker_round, d_trace_marker_round_l0, hide_eq, b_trace_marker_round, sw, strA, strR, str0]; kernel_rfl

theorem d_roots_Roots_Leads_eq (k : Nat) : d_roots_Roots_Leads (k + 1) = b_roots_Roots_Leads k (d_callV_f_0 k) (d_roots_Roots_all k) (d_roots_Roots_made k) := by
  funext _ _; simp only [d_callV_f_0, d_roots_Roots_Leads, d_roots_Roots_all, d_roots_Roots_made, hide_eq, b_roots_Roots_Leads, sw, strA, strR, str0]; kernel_rfl

theorem d_trace_due_l0_eq (k n : Nat) : d_trace_due_l0 k (n + 1) = b_trace_due_l0 k (d_heap_Heap_Ref k) (d_heap_Heap_Shape k) (d_trace_marked k) (d_trace_due_l0 k n) := by
  funext _ _ _ _ _ _ _ _ _; simp only [d_heap_Heap_Ref, d_heap_Heap_Shape, d_trace_due_l0, d_trace_marked, hide_eq, b_trace_due_l0, sw, strA, strR, str0]; kernel_rfl

theorem d_trace_due_eq (k : Nat) : d_trace_due (k + 1) = b_trace_due k (d_trace_all k) (d_trace_due_l0 k) := by
  funext _ _ _; simp only [d_trace_all, d_trace_due, d_trace_due_l0, hide_eq, b_trace_due, sw, strA, strR, str0]; kernel_rfl

theorem d_trace_all_eq (k : Nat) : d_trace_all (k + 1) = b_trace_all k (d_heap_Heap_All k) (d_slices_DeleteFunc_int k) := by
  funext _ _ _; simp only [d_heap_Heap_All, d_slices_DeleteFunc_int, d_trace_all, hide_eq, b_trace_all, sw, strA, strR, str0]; kernel_rfl

theorem d_heap_Heap_Has_eq (k : Nat) : d_heap_Heap_Has (k + 1) = b_heap_Heap_Has k (d_heap_Heap_made k) (d_side_Table_Get k) := by
  funext _ _ _; simp only [d_heap_Heap_Has, d_heap_Heap_made, d_side_Table_Get, hide_eq, b_heap_Heap_Has, sw, strA, strR, str0]; kernel_rfl

theorem d_heap_Heap_All_eq (k : Nat) : d_heap_Heap_All (k + 1) = b_heap_Heap_All k (d_heap_Heap_between k) (d_heap_Heap_made k) := by
  funext _ _; simp only [d_heap_Heap_All, d_heap_Heap_between, d_heap_Heap_made, hide_eq, b_heap_Heap_All, sw, strA, strR, str0]; kernel_rfl

theorem d_trace_strong_l0_eq (k n : Nat) : d_trace_strong_l0 k (n + 1) = b_trace_strong_l0 k (d_heap_Heap_Ref k) (d_trace_strong_l0 k n) := by
  funext _ _ _ _ _ _; simp only [d_heap_Heap_Ref, d_trace_strong_l0, hide_eq, b_trace_strong_l0, sw, strA, strR, str0]; kernel_rfl

theorem d_trace_strong_eq (k : Nat) : d_trace_strong (k + 1) = b_trace_strong k (d_heap_Heap_Shape k) (d_trace_softs k) (d_trace_strong_l0 k) := by
  funext _ _ _; simp only [d_heap_Heap_Shape, d_trace_softs, d_trace_strong, d_trace_strong_l0, hide_eq, b_trace_strong, sw, strA, strR, str0]; kernel_rfl

theorem d___trace_line_int__oldest_eq (k : Nat) : d___trace_line_int__oldest (k + 1) = b___trace_line_int__oldest k  := by
  funext _ _; simp only [d___trace_line_int__oldest, hide_eq, b___trace_line_int__oldest, sw, strA, strR, str0]; kernel_rfl

theorem d___trace_line_int__add_eq (k : Nat) : d___trace_line_int__add (k + 1) = b___trace_line_int__add k  := by
  funext _ _ _; simp only [d___trace_line_int__add, hide_eq, b___trace_line_int__add, sw, strA, strR, str0]; kernel_rfl

theorem d_trace_fits_eq (k : Nat) : d_trace_fits (k + 1) = b_trace_fits k (d_heap_Heap_Blocks k) (d_side_Table_Entries k) (d_side_Table_Width k) := by
  funext _ _ _; simp only [d_heap_Heap_Blocks, d_side_Table_Entries, d_side_Table_Width, d_trace_fits, hide_eq, b_trace_fits, sw, strA, strR, str0]; kernel_rfl

theorem d_heap_Heap_Shape_eq (k : Nat) : d_heap_Heap_Shape (k + 1) = b_heap_Heap_Shape k (d_heap_Heap_object k) (d_heap_shape k) := by
  funext _ _ _; simp only [d_heap_Heap_Shape, d_heap_Heap_object, d_heap_shape, hide_eq, b_heap_Heap_Shape, sw, strA, strR, str0]; kernel_rfl

theorem d_trace_softs_eq (k : Nat) : d_trace_softs (k + 1) = b_trace_softs k  := by
  funext _ _ _ _; simp only [d_trace_softs, hide_eq, b_trace_softs, sw, strA, strR, str0]; kernel_rfl

theorem d_heap_Heap_Ref_eq (k : Nat) : d_heap_Heap_Ref (k + 1) = b_heap_Heap_Ref k (d_heap_Heap_field k) := by
  funext _ _ _ _; simp only [d_heap_Heap_Ref, d_heap_Heap_field, hide_eq, b_heap_Heap_Ref, sw, strA, strR, str0]; kernel_rfl

theorem d_trace_marked_eq (k : Nat) : d_trace_marked (k + 1) = b_trace_marked k (d_heap_Heap_Has k) (d_side_Table_Get k) := by
  funext _ _ _ _; simp only [d_heap_Heap_Has, d_side_Table_Get, d_trace_marked, hide_eq, b_trace_marked, sw, strA, strR, str0]; kernel_rfl

theorem d_heap_Heap_SetRef_eq (k : Nat) : d_heap_Heap_SetRef (k + 1) = b_heap_Heap_SetRef k (d_heap_Heap_Has k) (d_heap_Heap_field k) := by
  funext _ _ _ _ _; simp only [d_heap_Heap_Has, d_heap_Heap_SetRef, d_heap_Heap_field, hide_eq, b_heap_Heap_SetRef, sw, strA, strR, str0]; kernel_rfl

theorem d_slices_Contains_int_eq (k : Nat) : d_slices_Contains_int (k + 1) = b_slices_Contains_int k (d_slices_Index_int k) := by
  funext _ _ _; simp only [d_slices_Contains_int, d_slices_Index_int, hide_eq, b_slices_Contains_int, sw, strA, strR, str0]; kernel_rfl

theorem d_sweep_Sweeper_Block_eq (k : Nat) : d_sweep_Sweeper_Block (k + 1) = b_sweep_Sweeper_Block k (d_slices_Contains_int k) (d_sweep_Sweeper_made k) (d_sweep_Sweeper_sweep k) := by
  funext _ _ _; simp only [d_slices_Contains_int, d_sweep_Sweeper_Block, d_sweep_Sweeper_made, d_sweep_Sweeper_sweep, hide_eq, b_sweep_Sweeper_Block, sw, strA, strR, str0]; kernel_rfl

theorem d_ref08_Sweeper_Block_eq (k : Nat) : d_ref08_Sweeper_Block (k + 1) = b_ref08_Sweeper_Block k (d_ref08_Sweep k) (d_ref08_Sweeper_Made k) := by
  funext _ _ _; simp only [d_ref08_Sweep, d_ref08_Sweeper_Block, d_ref08_Sweeper_Made, hide_eq, b_ref08_Sweeper_Block, sw, strA, strR, str0]; kernel_rfl

theorem d_sweep_Sweeper_Need_l0_eq (k n : Nat) : d_sweep_Sweeper_Need_l0 k (n + 1) = b_sweep_Sweeper_Need_l0 k (d_sweep_Sweeper_roomy k) (d_sweep_Sweeper_sweep k) (d_sweep_Sweeper_Need_l0 k n) := by
  funext _ _ _; simp only [d_sweep_Sweeper_Need_l0, d_sweep_Sweeper_roomy, d_sweep_Sweeper_sweep, hide_eq, b_sweep_Sweeper_Need_l0, sw, strA, strR, str0]; kernel_rfl

theorem d_sweep_Sweeper_Need_eq (k : Nat) : d_sweep_Sweeper_Need (k + 1) = b_sweep_Sweeper_Need k (d_sweep_Sweeper_Need_l0 k) (d_sweep_Sweeper_made k) := by
  funext _ _ _; simp only [d_sweep_Sweeper_Need, d_sweep_Sweeper_Need_l0, d_sweep_Sweeper_made, hide_eq, b_sweep_Sweeper_Need, sw, strA, strR, str0]; kernel_rfl

theorem d_ref08_Sweeper_Need_l1_eq (k n : Nat) : d_ref08_Sweeper_Need_l1 k (n + 1) = b_ref08_Sweeper_Need_l1 k (d_ref08_Sweeper_Need_l1 k n) := by
  funext _ _ _ _ _ _ _; simp only [d_ref08_Sweeper_Need_l1, hide_eq, b_ref08_Sweeper_Need_l1, sw, strA, strR, str0]; kernel_rfl

theorem d_ref08_Sweeper_Need_l0_eq (k n : Nat) : d_ref08_Sweeper_Need_l0 k (n + 1) = b_ref08_Sweeper_Need_l0 k (d_ref02_Heap_Gaps k) (d_ref02_Heap_State k) (d_ref08_Sweeper_Block k) (d_ref08_Sweeper_Need_l1 k) (d_ref08_Sweeper_Need_l0 k n) := by
  funext _ _ _ _ _; simp only [d_ref02_Heap_Gaps, d_ref02_Heap_State, d_ref08_Sweeper_Block, d_ref08_Sweeper_Need_l0, d_ref08_Sweeper_Need_l1, hide_eq, b_ref08_Sweeper_Need_l0, sw, strA, strR, str0]; kernel_rfl

theorem d_ref08_Sweeper_Need_eq (k : Nat) : d_ref08_Sweeper_Need (k + 1) = b_ref08_Sweeper_Need k (d_ref08_Sweeper_Made k) (d_ref08_Sweeper_Need_l0 k) := by
  funext _ _ _; simp only [d_ref08_Sweeper_Made, d_ref08_Sweeper_Need, d_ref08_Sweeper_Need_l0, hide_eq, b_ref08_Sweeper_Need, sw, strA, strR, str0]; kernel_rfl

theorem d_ref02_Heap_All_l0_eq (k n : Nat) : d_ref02_Heap_All_l0 k (n + 1) = b_ref02_Heap_All_l0 k (d_ref02_Heap_Made k) (d_ref02_Heap_All_l0 k n) := by
  funext _ _ _ _; simp only [d_ref02_Heap_All_l0, d_ref02_Heap_Made, hide_eq, b_ref02_Heap_All_l0, sw, strA, strR, str0]; kernel_rfl

theorem d_ref02_Heap_All_eq (k : Nat) : d_ref02_Heap_All (k + 1) = b_ref02_Heap_All k (d_ref02_Heap_All_l0 k) := by
  funext _ _; simp only [d_ref02_Heap_All, d_ref02_Heap_All_l0, hide_eq, b_ref02_Heap_All, sw, strA, strR, str0]; kernel_rfl

theorem d_sweep_Sweeper_Born_eq (k : Nat) : d_sweep_Sweeper_Born (k + 1) = b_sweep_Sweeper_Born k (d_heap_Heap_Has k) (d_side_Table_Set k) (d_sweep_Sweeper_made k) := by
  funext _ _ _; simp only [d_heap_Heap_Has, d_side_Table_Set, d_sweep_Sweeper_Born, d_sweep_Sweeper_made, hide_eq, b_sweep_Sweeper_Born, sw, strA, strR, str0]; kernel_rfl

theorem d_ref08_Sweeper_Born_eq (k : Nat) : d_ref08_Sweeper_Born (k + 1) = b_ref08_Sweeper_Born k (d_ref01_Table_Set k) (d_ref02_Heap_Has k) (d_ref08_Sweeper_Made k) := by
  funext _ _ _; simp only [d_ref01_Table_Set, d_ref02_Heap_Has, d_ref08_Sweeper_Born, d_ref08_Sweeper_Made, hide_eq, b_ref08_Sweeper_Born, sw, strA, strR, str0]; kernel_rfl

theorem d_sweep_Sweeper_Finish_l0_eq (k n : Nat) : d_sweep_Sweeper_Finish_l0 k (n + 1) = b_sweep_Sweeper_Finish_l0 k (d_sweep_Sweeper_sweep k) (d_sweep_Sweeper_Finish_l0 k n) := by
  funext _ _ _; simp only [d_sweep_Sweeper_Finish_l0, d_sweep_Sweeper_sweep, hide_eq, b_sweep_Sweeper_Finish_l0, sw, strA, strR, str0]; kernel_rfl

theorem d_sweep_Sweeper_Finish_eq (k : Nat) : d_sweep_Sweeper_Finish (k + 1) = b_sweep_Sweeper_Finish k (d_sweep_Sweeper_Finish_l0 k) (d_sweep_Sweeper_made k) := by
  funext _ _; simp only [d_sweep_Sweeper_Finish, d_sweep_Sweeper_Finish_l0, d_sweep_Sweeper_made, hide_eq, b_sweep_Sweeper_Finish, sw, strA, strR, str0]; kernel_rfl

theorem d_ref08_Sweeper_Finish_l0_eq (k n : Nat) : d_ref08_Sweeper_Finish_l0 k (n + 1) = b_ref08_Sweeper_Finish_l0 k (d_ref08_Sweeper_Block k) (d_ref08_Sweeper_Finish_l0 k n) := by
  funext _ _ _ _; simp only [d_ref08_Sweeper_Block, d_ref08_Sweeper_Finish_l0, hide_eq, b_ref08_Sweeper_Finish_l0, sw, strA, strR, str0]; kernel_rfl

theorem d_ref08_Sweeper_Finish_eq (k : Nat) : d_ref08_Sweeper_Finish (k + 1) = b_ref08_Sweeper_Finish k (d_ref08_Sweeper_Finish_l0 k) (d_ref08_Sweeper_Made k) := by
  funext _ _; simp only [d_ref08_Sweeper_Finish, d_ref08_Sweeper_Finish_l0, d_ref08_Sweeper_Made, hide_eq, b_ref08_Sweeper_Finish, sw, strA, strR, str0]; kernel_rfl

theorem d_alloc_Allocator_Alloc_eq (k : Nat) : d_alloc_Allocator_Alloc (k + 1) = b_alloc_Allocator_Alloc k (d_alloc_Allocator_made k) (d_alloc_policies k) (d_callV_pi_it k) (d_heap_Heap_Place k) (d_heap_Heap_Space k) (d_heap_Valid k) (d_heap_Words k) := by
  funext _ _ _ _ _; simp only [d_alloc_Allocator_Alloc, d_alloc_Allocator_made, d_alloc_policies, d_callV_pi_it, d_heap_Heap_Place, d_heap_Heap_Space, d_heap_Valid, d_heap_Words, hide_eq, b_alloc_Allocator_Alloc, sw, strA, strR, str0]; kernel_rfl

theorem d_ref05_Allocator_Alloc_eq (k : Nat) : d_ref05_Allocator_Alloc (k + 1) = b_ref05_Allocator_Alloc k (d_ref02_Heap_ClaimLarge k) (d_ref02_Large k) (d_ref02_Need k) (d_ref02_Valid k) (d_ref02_Words k) (d_ref05_Allocator_Made k) (d_ref05_Allocator_bump k) (d_ref05_Allocator_choose k) (d_ref05_Allocator_lines k) (d_ref05_Allocator_place k) (d_ref05_Free k) := by
  funext _ _ _ _ _; simp only [d_ref02_Heap_ClaimLarge, d_ref02_Large, d_ref02_Need, d_ref02_Valid, d_ref02_Words, d_ref05_Allocator_Alloc, d_ref05_Allocator_Made, d_ref05_Allocator_bump, d_ref05_Allocator_choose, d_ref05_Allocator_lines, d_ref05_Allocator_place, d_ref05_Free, hide_eq, b_ref05_Allocator_Alloc, sw, strA, strR, str0]; kernel_rfl

theorem d_sweep_Sweeper_made_eq (k : Nat) : d_sweep_Sweeper_made (k + 1) = b_sweep_Sweeper_made k  := by
  funext _ _; simp only [d_sweep_Sweeper_made, hide_eq, b_sweep_Sweeper_made, sw, strA, strR, str0]; kernel_rfl

theorem d_slices_Clone_int_eq (k : Nat) : d_slices_Clone_int (k + 1) = b_slices_Clone_int k  := by
  funext _ _; simp only [d_slices_Clone_int, hide_eq, b_slices_Clone_int, sw, strA, strR, str0]; kernel_rfl

theorem d_heap_Heap_Blocks_eq (k : Nat) : d_heap_Heap_Blocks (k + 1) = b_heap_Heap_Blocks k (d_heap_Heap_made k) := by
  funext _ _; simp only [d_heap_Heap_Blocks, d_heap_Heap_made, hide_eq, b_heap_Heap_Blocks, sw, strA, strR, str0]; kernel_rfl

theorem d_side_Table_Clone_eq (k : Nat) : d_side_Table_Clone (k + 1) = b_side_Table_Clone k (d_side_Table_made k) (d_slices_Clone_uint64 k) := by
  funext _ _; simp only [d_side_Table_Clone, d_side_Table_made, d_slices_Clone_uint64, hide_eq, b_side_Table_Clone, sw, strA, strR, str0]; kernel_rfl

theorem d_side_Table_Width_eq (k : Nat) : d_side_Table_Width (k + 1) = b_side_Table_Width k (d_side_Table_made k) := by
  funext _ _; simp only [d_side_Table_Width, d_side_Table_made, hide_eq, b_side_Table_Width, sw, strA, strR, str0]; kernel_rfl

theorem d_side_Table_Entries_eq (k : Nat) : d_side_Table_Entries (k + 1) = b_side_Table_Entries k (d_side_Table_made k) := by
  funext _ _; simp only [d_side_Table_Entries, d_side_Table_made, hide_eq, b_side_Table_Entries, sw, strA, strR, str0]; kernel_rfl

theorem d_sweep_held_eq (k : Nat) : d_sweep_held (k + 1) = b_sweep_held k (d_heap_Heap_State k) := by
  funext _ _ _; simp only [d_heap_Heap_State, d_sweep_held, hide_eq, b_sweep_held, sw, strA, strR, str0]; kernel_rfl

theorem d_sound_Is_l1_eq (k n : Nat) : d_sound_Is_l1 k (n + 1) = b_sound_Is_l1 k (d_heap_Heap_Ref k) (d_sound_Is_c1 k) (d_sound_Is_l1 k n) := by
  funext _ _ _ _ _; simp only [d_heap_Heap_Ref, d_sound_Is_c1, d_sound_Is_l1, hide_eq, b_sound_Is_l1, sw, strA, strR, str0]; kernel_rfl

theorem d_sound_Is_l0_eq (k n : Nat) : d_sound_Is_l0 k (n + 1) = b_sound_Is_l0 k (d_heap_Heap_Shape k) (d_sound_Is_l1 k) (d_sound_Is_l0 k n) := by
  funext _ _ _ _ _ _ _; simp only [d_heap_Heap_Shape, d_sound_Is_l0, d_sound_Is_l1, hide_eq, b_sound_Is_l0, sw, strA, strR, str0]; kernel_rfl

theorem d_sound_Is_eq (k : Nat) : d_sound_Is (k + 1) = b_sound_Is k (d_heap_Heap_All k) (d_roots_Roots_Leads k) (d_slices_ContainsFunc_int k) (d_sound_Is_l0 k) := by
  funext _ _ _; simp only [d_heap_Heap_All, d_roots_Roots_Leads, d_slices_ContainsFunc_int, d_sound_Is, d_sound_Is_l0, hide_eq, b_sound_Is, sw, strA, strR, str0]; kernel_rfl

theorem d_sweep_block_l0_eq (k n : Nat) : d_sweep_block_l0 k (n + 1) = b_sweep_block_l0 k (d_callV_i_0 k) (d_heap_Heap_Kill k) (d_heap_Heap_Shape k) (d_heap_Words k) (d_trace_Marked k) (d_sweep_block_l0 k n) := by
  funext _ _ _ _ _ _ _ _ _; simp only [d_callV_i_0, d_heap_Heap_Kill, d_heap_Heap_Shape, d_heap_Words, d_sweep_block_l0, d_trace_Marked, hide_eq, b_sweep_block_l0, sw, strA, strR, str0]; kernel_rfl

theorem d_sweep_block_eq (k : Nat) : d_sweep_block (k + 1) = b_sweep_block k (d_heap_Heap_Objects k) (d_heap_Heap_Release k) (d_sweep_block_l0 k) (d_sweep_held k) := by
  funext _ _ _ _ _; simp only [d_heap_Heap_Objects, d_heap_Heap_Release, d_sweep_block, d_sweep_block_l0, d_sweep_held, hide_eq, b_sweep_block, sw, strA, strR, str0]; kernel_rfl

theorem d_sweep_Collect_c1_eq (k : Nat) : d_sweep_Collect_c1 (k + 1) = b_sweep_Collect_c1 k  := by
  funext _ _ _; simp only [d_sweep_Collect_c1, hide_eq, b_sweep_Collect_c1, sw, strA, strR, str0]; kernel_rfl

theorem d_heap_Heap_Used_l0_eq (k n : Nat) : d_heap_Heap_Used_l0 k (n + 1) = b_heap_Heap_Used_l0 k (d_heap_Heap_size k) (d_heap_Heap_Used_l0 k n) := by
  funext _ _ _ _ _ _ _ _; simp only [d_heap_Heap_Used_l0, d_heap_Heap_size, hide_eq, b_heap_Heap_Used_l0, sw, strA, strR, str0]; kernel_rfl

theorem d_heap_Heap_Used_eq (k : Nat) : d_heap_Heap_Used (k + 1) = b_heap_Heap_Used k (d_heap_Heap_All k) (d_heap_Heap_Used_l0 k) := by
  funext _ _; simp only [d_heap_Heap_All, d_heap_Heap_Used, d_heap_Heap_Used_l0, hide_eq, b_heap_Heap_Used, sw, strA, strR, str0]; kernel_rfl

theorem d_law06_NewWorld_l0_eq (k n : Nat) : d_law06_NewWorld_l0 k (n + 1) = b_law06_NewWorld_l0 k (d_alloc_New k) (d_law06_NewWorld_l0 k n) := by
  funext _ _ _ _; simp only [d_alloc_New, d_law06_NewWorld_l0, hide_eq, b_law06_NewWorld_l0, sw, strA, strR, str0]; kernel_rfl

theorem d_law06_NewWorld_eq (k : Nat) : d_law06_NewWorld (k + 1) = b_law06_NewWorld k (d_heap_New k) (d_law06_NewWorld_l0 k) (d_law06_blocks k) (d_law06_mutators k) (d_model_New k) (d_roots_New k) := by
  funext _ _ _ _ _; simp only [d_heap_New, d_law06_NewWorld, d_law06_NewWorld_l0, d_law06_blocks, d_law06_mutators, d_model_New, d_roots_New, hide_eq, b_law06_NewWorld, sw, strA, strR, str0]; kernel_rfl

theorem d_roots_Roots_Set_eq (k : Nat) : d_roots_Roots_Set (k + 1) = b_roots_Roots_Set k (d_roots_Roots_place k) := by
  funext _ _ _ _ _ _; simp only [d_roots_Roots_Set, d_roots_Roots_place, hide_eq, b_roots_Roots_Set, sw, strA, strR, str0]; kernel_rfl

theorem d_ref01_Ints_l0_eq (k n : Nat) : d_ref01_Ints_l0 k (n + 1) = b_ref01_Ints_l0 k (d_ref01_Ints_l0 k n) := by
  funext _ _ _ _ _ _ _ _; simp only [d_ref01_Ints_l0, hide_eq, b_ref01_Ints_l0, sw, strA, strR, str0]; kernel_rfl

theorem d_ref01_Ints_eq (k : Nat) : d_ref01_Ints (k + 1) = b_ref01_Ints k (d_ref01_Ints_l0 k) := by
  funext _ _ _; simp only [d_ref01_Ints, d_ref01_Ints_l0, hide_eq, b_ref01_Ints, sw, strA, strR, str0]; kernel_rfl

theorem d_heap_Heap_State_eq (k : Nat) : d_heap_Heap_State (k + 1) = b_heap_Heap_State k (d_heap_Heap_Blocks k) := by
  funext _ _ _; simp only [d_heap_Heap_Blocks, d_heap_Heap_State, hide_eq, b_heap_Heap_State, sw, strA, strR, str0]; kernel_rfl

theorem d_roots_Roots_Mutators_eq (k : Nat) : d_roots_Roots_Mutators (k + 1) = b_roots_Roots_Mutators k (d_roots_Roots_made k) := by
  funext _ _; simp only [d_roots_Roots_Mutators, d_roots_Roots_made, hide_eq, b_roots_Roots_Mutators, sw, strA, strR, str0]; kernel_rfl

theorem d_roots_Roots_made_eq (k : Nat) : d_roots_Roots_made (k + 1) = b_roots_Roots_made k  := by
  funext _ _; simp only [d_roots_Roots_made, hide_eq, b_roots_Roots_made, sw, strA, strR, str0]; kernel_rfl

theorem d_roots_Roots_all_eq (k : Nat) : d_roots_Roots_all (k + 1) = b_roots_Roots_all k  := by
  funext _ _; simp only [d_roots_Roots_all, hide_eq, b_roots_Roots_all, sw, strA, strR, str0]; kernel_rfl

theorem d_roots_Roots_place_eq (k : Nat) : d_roots_Roots_place (k + 1) = b_roots_Roots_place k (d_roots_Roots_at k) (d_roots_Roots_made k) := by
  funext _ _ _ _ _; simp only [d_roots_Roots_at, d_roots_Roots_made, d_roots_Roots_place, hide_eq, b_roots_Roots_place, sw, strA, strR, str0]; kernel_rfl

theorem d_trace_mark_eq (k : Nat) : d_trace_mark (k + 1) = b_trace_mark k (d_heap_Heap_Has k) (d_side_Table_Swap k) := by
  funext _ _ _ _; simp only [d_heap_Heap_Has, d_side_Table_Swap, d_trace_mark, hide_eq, b_trace_mark, sw, strA, strR, str0]; kernel_rfl

theorem d_trace_marker_drain_l0_eq (k n : Nat) : d_trace_marker_drain_l0 k (n + 1) = b_trace_marker_drain_l0 k (d___trace_line_int__newest k) (d___trace_line_int__oldest k) (d_trace_marker_scan k) (d_trace_marker_drain_l0 k n) := by
  funext _ _; simp only [d___trace_line_int__newest, d___trace_line_int__oldest, d_trace_marker_drain_l0, d_trace_marker_scan, hide_eq, b_trace_marker_drain_l0, sw, strA, strR, str0]; kernel_rfl

theorem d_trace_marker_drain_eq (k : Nat) : d_trace_marker_drain (k + 1) = b_trace_marker_drain k (d_trace_marker_drain_l0 k) := by
  funext _ _; simp only [d_trace_marker_drain, d_trace_marker_drain_l0, hide_eq, b_trace_marker_drain, sw, strA, strR, str0]; kernel_rfl

theorem d_trace_marker_scan_l0_eq (k n : Nat) : d_trace_marker_scan_l0 k (n + 1) = b_trace_marker_scan_l0 k (d_trace_marker_reach k) (d_trace_marker_scan_l0 k n) := by
  funext _ _ _ _ _ _ _; simp only [d_trace_marker_reach, d_trace_marker_scan_l0, hide_eq, b_trace_marker_scan_l0, sw, strA, strR, str0]; kernel_rfl

theorem d_trace_marker_scan_eq (k : Nat) : d_trace_marker_scan (k + 1) = b_trace_marker_scan k (d_trace_marker_scan_l0 k) (d_trace_strong k) := by
  funext _ _ _; simp only [d_trace_marker_scan, d_trace_marker_scan_l0, d_trace_strong, hide_eq, b_trace_marker_scan, sw, strA, strR, str0]; kernel_rfl

theorem d_slices_DeleteFunc_int_l0_eq (k n : Nat) : d_slices_DeleteFunc_int_l0 k (n + 1) = b_slices_DeleteFunc_int_l0 k (d_callV_i_t k) (d_slices_DeleteFunc_int_l0 k n) := by
  funext _ _ _ _ _ _ _; simp only [d_callV_i_t, d_slices_DeleteFunc_int_l0, hide_eq, b_slices_DeleteFunc_int_l0, sw, strA, strR, str0]; kernel_rfl

theorem d_slices_DeleteFunc_int_eq (k : Nat) : d_slices_DeleteFunc_int (k + 1) = b_slices_DeleteFunc_int k (d_slices_DeleteFunc_int_l0 k) (d_slices_IndexFunc_int k) := by
  funext _ _ _; simp only [d_slices_DeleteFunc_int, d_slices_DeleteFunc_int_l0, d_slices_IndexFunc_int, hide_eq, b_slices_DeleteFunc_int, sw, strA, strR, str0]; kernel_rfl

theorem d_trace_all_c1_eq (k : Nat) : d_trace_all_c1 (k + 1) = b_trace_all_c1 k (d_trace_marked k) := by
  funext _ _ _ _; simp only [d_trace_all_c1, d_trace_marked, hide_eq, b_trace_all_c1, sw, strA, strR, str0]; kernel_rfl

theorem d_heap_Heap_made_eq (k : Nat) : d_heap_Heap_made (k + 1) = b_heap_Heap_made k  := by
  funext _ _; simp only [d_heap_Heap_made, hide_eq, b_heap_Heap_made, sw, strA, strR, str0]; kernel_rfl

theorem d_side_Table_Get_eq (k : Nat) : d_side_Table_Get (k + 1) = b_side_Table_Get k (d_side_Table_get k) (d_side_Table_there k) := by
  funext _ _ _; simp only [d_side_Table_Get, d_side_Table_get, d_side_Table_there, hide_eq, b_side_Table_Get, sw, strA, strR, str0]; kernel_rfl

theorem d_heap_Heap_between_l0_eq (k n : Nat) : d_heap_Heap_between_l0 k (n + 1) = b_heap_Heap_between_l0 k (d_side_Table_Next k) (d_heap_Heap_between_l0 k n) := by
  funext _ _ _ _ _ _; simp only [d_heap_Heap_between_l0, d_side_Table_Next, hide_eq, b_heap_Heap_between_l0, sw, strA, strR, str0]; kernel_rfl

theorem d_heap_Heap_between_eq (k : Nat) : d_heap_Heap_between (k + 1) = b_heap_Heap_between k (d_heap_Heap_between_l0 k) (d_side_Table_Next k) := by
  funext _ _ _ _; simp only [d_heap_Heap_between, d_heap_Heap_between_l0, d_side_Table_Next, hide_eq, b_heap_Heap_between, sw, strA, strR, str0]; kernel_rfl

theorem d_heap_Heap_object_eq (k : Nat) : d_heap_Heap_object (k + 1) = b_heap_Heap_object k (d_heap_Heap_Has k) (d_heap_Heap_made k) := by
  funext _ _ _; simp only [d_heap_Heap_Has, d_heap_Heap_made, d_heap_Heap_object, hide_eq, b_heap_Heap_object, sw, strA, strR, str0]; kernel_rfl

theorem d_heap_shape_eq (k : Nat) : d_heap_shape (k + 1) = b_heap_shape k  := by
  funext _ _; simp only [d_heap_shape, hide_eq, b_heap_shape, sw, strA, strR, str0]; kernel_rfl

theorem d_heap_Heap_field_eq (k : Nat) : d_heap_Heap_field (k + 1) = b_heap_Heap_field k (d_heap_Heap_object k) (d_heap_shape k) := by
  funext _ _ _ _ _; simp only [d_heap_Heap_field, d_heap_Heap_object, d_heap_shape, hide_eq, b_heap_Heap_field, sw, strA, strR, str0]; kernel_rfl

theorem d_slices_Index_int_l0_eq (k n : Nat) : d_slices_Index_int_l0 k (n + 1) = b_slices_Index_int_l0 k (d_slices_Index_int_l0 k n) := by
  funext _ _ _ _ _ _ _; simp only [d_slices_Index_int_l0, hide_eq, b_slices_Index_int_l0, sw, strA, strR, str0]; kernel_rfl

theorem d_slices_Index_int_eq (k : Nat) : d_slices_Index_int (k + 1) = b_slices_Index_int k (d_slices_Index_int_l0 k) := by
  funext _ _ _; simp only [d_slices_Index_int, d_slices_Index_int_l0, hide_eq, b_slices_Index_int, sw, strA, strR, str0]; kernel_rfl

theorem d_sweep_Sweeper_sweep_eq (k : Nat) : d_sweep_Sweeper_sweep (k + 1) = b_sweep_Sweeper_sweep k (d_slices_DeleteFunc_int k) (d_sweep_block k) := by
  funext _ _ _; simp only [d_slices_DeleteFunc_int, d_sweep_Sweeper_sweep, d_sweep_block, hide_eq, b_sweep_Sweeper_sweep, sw, strA, strR, str0]; kernel_rfl

theorem d_ref08_Sweeper_Made_eq (k : Nat) : d_ref08_Sweeper_Made (k + 1) = b_ref08_Sweeper_Made k (d_ref02_Heap_Made k) := by
  funext _ _; simp only [d_ref02_Heap_Made, d_ref08_Sweeper_Made, hide_eq, b_ref08_Sweeper_Made, sw, strA, strR, str0]; kernel_rfl

theorem d_ref08_Sweep_l0_eq (k n : Nat) : d_ref08_Sweep_l0 k (n + 1) = b_ref08_Sweep_l0 k (d_ref01_Table_Get k) (d_ref02_Heap_Kill k) (d_ref02_Heap_Shape k) (d_ref02_Words k) (d_ref08_Sweep_l0 k n) := by
  funext _ _ _ _ _ _ _ _; simp only [d_ref01_Table_Get, d_ref02_Heap_Kill, d_ref02_Heap_Shape, d_ref02_Words, d_ref08_Sweep_l0, hide_eq, b_ref08_Sweep_l0, sw, strA, strR, str0]; kernel_rfl

theorem d_ref08_Sweep_eq (k : Nat) : d_ref08_Sweep (k + 1) = b_ref08_Sweep k (d_ref02_Heap_Objects k) (d_ref02_Heap_Release k) (d_ref02_Heap_State k) (d_ref08_Sweep_l0 k) := by
  funext _ _ _ _; simp only [d_ref02_Heap_Objects, d_ref02_Heap_Release, d_ref02_Heap_State, d_ref08_Sweep, d_ref08_Sweep_l0, hide_eq, b_ref08_Sweep, sw, strA, strR, str0]; kernel_rfl

theorem d_sweep_Sweeper_roomy_eq (k : Nat) : d_sweep_Sweeper_roomy (k + 1) = b_sweep_Sweeper_roomy k (d_heap_Heap_Gaps k) (d_heap_Heap_State k) (d_slices_ContainsFunc_api_Run k) := by
  funext _ _ _ _; simp only [d_heap_Heap_Gaps, d_heap_Heap_State, d_slices_ContainsFunc_api_Run, d_sweep_Sweeper_roomy, hide_eq, b_sweep_Sweeper_roomy, sw, strA, strR, str0]; kernel_rfl

theorem d_ref02_Heap_State_eq (k : Nat) : d_ref02_Heap_State (k + 1) = b_ref02_Heap_State k (d_ref02_Heap_Made k) := by
  funext _ _ _; simp only [d_ref02_Heap_Made, d_ref02_Heap_State, hide_eq, b_ref02_Heap_State, sw, strA, strR, str0]; kernel_rfl

theorem d_ref02_Heap_Gaps_l0_eq (k n : Nat) : d_ref02_Heap_Gaps_l0 k (n + 1) = b_ref02_Heap_Gaps_l0 k (d_ref02_Heap_Index k) (d_ref02_Words k) (d_ref02_Heap_Gaps_l0 k n) := by
  funext _ _ _ _ _ _ _ _; simp only [d_ref02_Heap_Gaps_l0, d_ref02_Heap_Index, d_ref02_Words, hide_eq, b_ref02_Heap_Gaps_l0, sw, strA, strR, str0]; kernel_rfl

theorem d_ref02_Heap_Gaps_eq (k : Nat) : d_ref02_Heap_Gaps (k + 1) = b_ref02_Heap_Gaps k (d_ref02_Heap_Gaps_l0 k) (d_ref02_Heap_Objects k) (d_ref02_Heap_State k) := by
  funext _ _ _; simp only [d_ref02_Heap_Gaps, d_ref02_Heap_Gaps_l0, d_ref02_Heap_Objects, d_ref02_Heap_State, hide_eq, b_ref02_Heap_Gaps, sw, strA, strR, str0]; kernel_rfl

theorem d_ref02_Heap_Made_eq (k : Nat) : d_ref02_Heap_Made (k + 1) = b_ref02_Heap_Made k  := by
  funext _ _; simp only [d_ref02_Heap_Made, hide_eq, b_ref02_Heap_Made, sw, strA, strR, str0]; kernel_rfl

theorem d_side_Table_Set_eq (k : Nat) : d_side_Table_Set (k + 1) = b_side_Table_Set k (d_side_Table_check k) (d_side_Table_put k) := by
  funext _ _ _ _; simp only [d_side_Table_Set, d_side_Table_check, d_side_Table_put, hide_eq, b_side_Table_Set, sw, strA, strR, str0]; kernel_rfl

theorem d_ref02_Heap_Has_eq (k : Nat) : d_ref02_Heap_Has (k + 1) = b_ref02_Heap_Has k (d_ref02_Heap_Index k) := by
  funext _ _ _; simp only [d_ref02_Heap_Has, d_ref02_Heap_Index, hide_eq, b_ref02_Heap_Has, sw, strA, strR, str0]; kernel_rfl

theorem d_ref01_Table_Set_eq (k : Nat) : d_ref01_Table_Set (k + 1) = b_ref01_Table_Set k (d_ref01_Table_has k) (d_ref01_Table_made k) (d_ref01_Table_may k) := by
  funext _ _ _ _; simp only [d_ref01_Table_Set, d_ref01_Table_has, d_ref01_Table_made, d_ref01_Table_may, hide_eq, b_ref01_Table_Set, sw, strA, strR, str0]; kernel_rfl

theorem d_alloc_Allocator_made_eq (k : Nat) : d_alloc_Allocator_made (k + 1) = b_alloc_Allocator_made k  := by
  funext _ _; simp only [d_alloc_Allocator_made, hide_eq, b_alloc_Allocator_made, sw, strA, strR, str0]; kernel_rfl

theorem d_heap_Valid_eq (k : Nat) : d_heap_Valid (k + 1) = b_heap_Valid k  := by
  funext _ _ _ _; simp only [d_heap_Valid, hide_eq, b_heap_Valid, sw, strA, strR, str0]; kernel_rfl

theorem d_heap_Words_eq (k : Nat) : d_heap_Words (k + 1) = b_heap_Words k (d_heap_Valid k) := by
  funext _ _ _ _; simp only [d_heap_Valid, d_heap_Words, hide_eq, b_heap_Words, sw, strA, strR, str0]; kernel_rfl

theorem d_alloc_policies_eq (k : Nat) : d_alloc_policies (k + 1) = b_alloc_policies k  := by
  funext  _; simp only [d_alloc_policies, hide_eq, b_alloc_policies, sw, strA, strR, str0]; kernel_rfl

theorem d_alloc_Allocator_large_l0_eq (k n : Nat) : d_alloc_Allocator_large_l0 k (n + 1) = b_alloc_Allocator_large_l0 k (d_heap_Heap_Blocks k) (d_heap_Heap_ClaimLarge k) (d_alloc_Allocator_large_l0 k n) := by
  funext _ _ _ _; simp only [d_alloc_Allocator_large_l0, d_heap_Heap_Blocks, d_heap_Heap_ClaimLarge, hide_eq, b_alloc_Allocator_large_l0, sw, strA, strR, str0]; kernel_rfl

theorem d_alloc_Allocator_large_eq (k : Nat) : d_alloc_Allocator_large (k + 1) = b_alloc_Allocator_large k (d_alloc_Allocator_large_l0 k) := by
  funext _ _ _; simp only [d_alloc_Allocator_large, d_alloc_Allocator_large_l0, hide_eq, b_alloc_Allocator_large, sw, strA, strR, str0]; kernel_rfl

theorem d_heap_Heap_Space_eq (k : Nat) : d_heap_Heap_Space (k + 1) = b_heap_Heap_Space k (d_heap_Heap_Blocks k) := by
  funext _ _ _; simp only [d_heap_Heap_Blocks, d_heap_Heap_Space, hide_eq, b_heap_Heap_Space, sw, strA, strR, str0]; kernel_rfl

theorem d_heap_Heap_Place_eq (k : Nat) : d_heap_Heap_Place (k + 1) = b_heap_Heap_Place k (d_heap_Heap_fits k) (d_heap_Heap_made k) (d_heap_Valid k) (d_heap_Words k) (d_heap_number k) (d_side_Table_Set k) := by
  funext _ _ _ _ _ _; simp only [d_heap_Heap_Place, d_heap_Heap_fits, d_heap_Heap_made, d_heap_Valid, d_heap_Words, d_heap_number, d_side_Table_Set, hide_eq, b_heap_Heap_Place, sw, strA, strR, str0]; kernel_rfl

theorem d_ref05_Allocator_Made_eq (k : Nat) : d_ref05_Allocator_Made (k + 1) = b_ref05_Allocator_Made k (d_ref02_Heap_Made k) := by
  funext _ _; simp only [d_ref02_Heap_Made, d_ref05_Allocator_Made, hide_eq, b_ref05_Allocator_Made, sw, strA, strR, str0]; kernel_rfl

theorem d_ref02_Valid_eq (k : Nat) : d_ref02_Valid (k + 1) = b_ref02_Valid k  := by
  funext _ _ _ _; simp only [d_ref02_Valid, hide_eq, b_ref02_Valid, sw, strA, strR, str0]; kernel_rfl

theorem d_ref02_Large_eq (k : Nat) : d_ref02_Large (k + 1) = b_ref02_Large k (d_ref02_Words k) := by
  funext _ _ _ _; simp only [d_ref02_Large, d_ref02_Words, hide_eq, b_ref02_Large, sw, strA, strR, str0]; kernel_rfl

theorem d_ref02_Need_eq (k : Nat) : d_ref02_Need (k + 1) = b_ref02_Need k (d_ref02_Words k) := by
  funext _ _ _ _; simp only [d_ref02_Need, d_ref02_Words, hide_eq, b_ref02_Need, sw, strA, strR, str0]; kernel_rfl

theorem d_ref05_Free_l1_eq (k n : Nat) : d_ref05_Free_l1 k (n + 1) = b_ref05_Free_l1 k (d_ref02_Heap_State k) (d_ref05_Free_l1 k n) := by
  funext _ _ _ _ _; simp only [d_ref02_Heap_State, d_ref05_Free_l1, hide_eq, b_ref05_Free_l1, sw, strA, strR, str0]; kernel_rfl

theorem d_ref05_Free_l0_eq (k n : Nat) : d_ref05_Free_l0 k (n + 1) = b_ref05_Free_l0 k (d_ref02_Heap_Blocks k) (d_ref05_Free_l1 k) (d_ref05_Free_l0 k n) := by
  funext _ _ _ _; simp only [d_ref02_Heap_Blocks, d_ref05_Free_l0, d_ref05_Free_l1, hide_eq, b_ref05_Free_l0, sw, strA, strR, str0]; kernel_rfl

theorem d_ref05_Free_eq (k : Nat) : d_ref05_Free (k + 1) = b_ref05_Free k (d_ref05_Free_l0 k) := by
  funext _ _ _; simp only [d_ref05_Free, d_ref05_Free_l0, hide_eq, b_ref05_Free, sw, strA, strR, str0]; kernel_rfl

theorem d_ref02_Heap_ClaimLarge_l0_eq (k n : Nat) : d_ref02_Heap_ClaimLarge_l0 k (n + 1) = b_ref02_Heap_ClaimLarge_l0 k (d_ref02_Heap_ClaimLarge_l0 k n) := by
  funext _ _ _ _ _; simp only [d_ref02_Heap_ClaimLarge_l0, hide_eq, b_ref02_Heap_ClaimLarge_l0, sw, strA, strR, str0]; kernel_rfl

theorem d_ref02_Heap_ClaimLarge_l1_eq (k n : Nat) : d_ref02_Heap_ClaimLarge_l1 k (n + 1) = b_ref02_Heap_ClaimLarge_l1 k (d_ref02_Heap_ClaimLarge_l1 k n) := by
  funext _ _ _ _ _ _; simp only [d_ref02_Heap_ClaimLarge_l1, hide_eq, b_ref02_Heap_ClaimLarge_l1, sw, strA, strR, str0]; kernel_rfl

theorem d_ref02_Heap_ClaimLarge_eq (k : Nat) : d_ref02_Heap_ClaimLarge (k + 1) = b_ref02_Heap_ClaimLarge k (d_ref02_Heap_ClaimLarge_l0 k) (d_ref02_Heap_ClaimLarge_l1 k) (d_ref02_Heap_Made k) (d_ref02_Heap_block k) (d_ref02_space k) := by
  funext _ _ _ _ _; simp only [d_ref02_Heap_ClaimLarge, d_ref02_Heap_ClaimLarge_l0, d_ref02_Heap_ClaimLarge_l1, d_ref02_Heap_Made, d_ref02_Heap_block, d_ref02_space, hide_eq, b_ref02_Heap_ClaimLarge, sw, strA, strR, str0]; kernel_rfl

theorem d_ref05_Allocator_place_eq (k : Nat) : d_ref05_Allocator_place (k + 1) = b_ref05_Allocator_place k (d_ref02_Heap_Claim k) (d_ref02_Heap_Place k) (d_ref02_Heap_Space k) (d_ref02_Large k) := by
  funext _ _ _ _ _ _ _; simp only [d_ref02_Heap_Claim, d_ref02_Heap_Place, d_ref02_Heap_Space, d_ref02_Large, d_ref05_Allocator_place, hide_eq, b_ref05_Allocator_place, sw, strA, strR, str0]; kernel_rfl

theorem d_ref02_Words_eq (k : Nat) : d_ref02_Words (k + 1) = b_ref02_Words k (d_ref02_Valid k) := by
  funext _ _ _ _; simp only [d_ref02_Valid, d_ref02_Words, hide_eq, b_ref02_Words, sw, strA, strR, str0]; kernel_rfl

theorem d_ref05_Allocator_bump_eq (k : Nat) : d_ref05_Allocator_bump (k + 1) = b_ref05_Allocator_bump k (d_ref05_Allocator_place k) (d_ref05_Free k) := by
  funext _ _ _ _ _ _; simp only [d_ref05_Allocator_bump, d_ref05_Allocator_place, d_ref05_Free, hide_eq, b_ref05_Allocator_bump, sw, strA, strR, str0]; kernel_rfl

theorem d_ref05_Allocator_lines_l1_eq (k n : Nat) : d_ref05_Allocator_lines_l1 k (n + 1) = b_ref05_Allocator_lines_l1 k (d_ref05_Allocator_place k) (d_ref05_Allocator_lines_l1 k n) := by
  funext _ _ _ _ _ _ _ _ _; simp only [d_ref05_Allocator_lines_l1, d_ref05_Allocator_place, hide_eq, b_ref05_Allocator_lines_l1, sw, strA, strR, str0]; kernel_rfl

theorem d_ref05_Allocator_lines_l0_eq (k n : Nat) : d_ref05_Allocator_lines_l0 k (n + 1) = b_ref05_Allocator_lines_l0 k (d_ref02_Heap_Blocks k) (d_ref02_Heap_Space k) (d_ref02_Heap_State k) (d_ref05_Allocator_lines_l1 k) (d_ref05_Holes k) (d_ref05_Allocator_lines_l0 k n) := by
  funext _ _ _ _ _; simp only [d_ref02_Heap_Blocks, d_ref02_Heap_Space, d_ref02_Heap_State, d_ref05_Allocator_lines_l0, d_ref05_Allocator_lines_l1, d_ref05_Holes, hide_eq, b_ref05_Allocator_lines_l0, sw, strA, strR, str0]; kernel_rfl

theorem d_ref05_Allocator_lines_eq (k : Nat) : d_ref05_Allocator_lines (k + 1) = b_ref05_Allocator_lines k (d_ref05_Allocator_bump k) (d_ref05_Allocator_lines_l0 k) (d_ref05_Allocator_over k) := by
  funext _ _ _ _ _ _; simp only [d_ref05_Allocator_bump, d_ref05_Allocator_lines, d_ref05_Allocator_lines_l0, d_ref05_Allocator_over, hide_eq, b_ref05_Allocator_lines, sw, strA, strR, str0]; kernel_rfl

theorem d_ref05_Allocator_choose_l0_eq (k n : Nat) : d_ref05_Allocator_choose_l0 k (n + 1) = b_ref05_Allocator_choose_l0 k (d_ref05_Allocator_choose_l0 k n) := by
  funext _ _ _ _ _ _ _; simp only [d_ref05_Allocator_choose_l0, hide_eq, b_ref05_Allocator_choose_l0, sw, strA, strR, str0]; kernel_rfl

theorem d_ref05_Allocator_choose_l1_eq (k n : Nat) : d_ref05_Allocator_choose_l1 k (n + 1) = b_ref05_Allocator_choose_l1 k (d_ref05_Allocator_choose_l1 k n) := by
  funext _ _ _ _ _ _ _ _; simp only [d_ref05_Allocator_choose_l1, hide_eq, b_ref05_Allocator_choose_l1, sw, strA, strR, str0]; kernel_rfl

theorem d_ref05_Allocator_choose_eq (k : Nat) : d_ref05_Allocator_choose (k + 1) = b_ref05_Allocator_choose k (d_ref05_Allocator_choose_l0 k) (d_ref05_Allocator_choose_l1 k) (d_ref05_Allocator_gaps k) := by
  funext _ _ _; simp only [d_ref05_Allocator_choose, d_ref05_Allocator_choose_l0, d_ref05_Allocator_choose_l1, d_ref05_Allocator_gaps, hide_eq, b_ref05_Allocator_choose, sw, strA, strR, str0]; kernel_rfl

theorem d_side_Table_made_eq (k : Nat) : d_side_Table_made (k + 1) = b_side_Table_made k  := by
  funext _ _; simp only [d_side_Table_made, hide_eq, b_side_Table_made, sw, strA, strR, str0]; kernel_rfl

theorem d_slices_Clone_uint64_eq (k : Nat) : d_slices_Clone_uint64 (k + 1) = b_slices_Clone_uint64 k  := by
  funext _ _; simp only [d_slices_Clone_uint64, hide_eq, b_slices_Clone_uint64, sw, strA, strR, str0]; kernel_rfl

theorem d_sound_Is_c1_eq (k : Nat) : d_sound_Is_c1 (k + 1) = b_sound_Is_c1 k (d_heap_Heap_Has k) := by
  funext _ _ _; simp only [d_heap_Heap_Has, d_sound_Is_c1, hide_eq, b_sound_Is_c1, sw, strA, strR, str0]; kernel_rfl

theorem d_slices_ContainsFunc_int_eq (k : Nat) : d_slices_ContainsFunc_int (k + 1) = b_slices_ContainsFunc_int k (d_slices_IndexFunc_int k) := by
  funext _ _ _; simp only [d_slices_ContainsFunc_int, d_slices_IndexFunc_int, hide_eq, b_slices_ContainsFunc_int, sw, strA, strR, str0]; kernel_rfl

theorem d_heap_Heap_Objects_eq (k : Nat) : d_heap_Heap_Objects (k + 1) = b_heap_Heap_Objects k (d_heap_Heap_between k) (d_heap_Heap_made k) := by
  funext _ _ _; simp only [d_heap_Heap_Objects, d_heap_Heap_between, d_heap_Heap_made, hide_eq, b_heap_Heap_Objects, sw, strA, strR, str0]; kernel_rfl

theorem d_heap_Heap_Kill_eq (k : Nat) : d_heap_Heap_Kill (k + 1) = b_heap_Heap_Kill k (d_heap_Heap_object k) (d_heap_Heap_size k) (d_heap_Heap_wipe k) (d_side_Table_Set k) := by
  funext _ _ _; simp only [d_heap_Heap_Kill, d_heap_Heap_object, d_heap_Heap_size, d_heap_Heap_wipe, d_side_Table_Set, hide_eq, b_heap_Heap_Kill, sw, strA, strR, str0]; kernel_rfl

theorem d_heap_Heap_Release_l0_eq (k n : Nat) : d_heap_Heap_Release_l0 k (n + 1) = b_heap_Heap_Release_l0 k (d_heap_Heap_Release_l0 k n) := by
  funext _ _ _ _; simp only [d_heap_Heap_Release_l0, hide_eq, b_heap_Heap_Release_l0, sw, strA, strR, str0]; kernel_rfl

theorem d_heap_Heap_Release_eq (k : Nat) : d_heap_Heap_Release (k + 1) = b_heap_Heap_Release k (d_heap_Heap_Objects k) (d_heap_Heap_Release_l0 k) (d_heap_Heap_held k) (d_heap_Heap_span k) := by
  funext _ _ _; simp only [d_heap_Heap_Objects, d_heap_Heap_Release, d_heap_Heap_Release_l0, d_heap_Heap_held, d_heap_Heap_span, hide_eq, b_heap_Heap_Release, sw, strA, strR, str0]; kernel_rfl

theorem d_heap_Heap_size_eq (k : Nat) : d_heap_Heap_size (k + 1) = b_heap_Heap_size k (d_heap_Words k) (d_heap_shape k) := by
  funext _ _ _; simp only [d_heap_Heap_size, d_heap_Words, d_heap_shape, hide_eq, b_heap_Heap_size, sw, strA, strR, str0]; kernel_rfl

theorem d_law06_blocks_eq (k : Nat) : d_law06_blocks (k + 1) = b_law06_blocks k  := by
  funext _ _ _ _ _; simp only [d_law06_blocks, hide_eq, b_law06_blocks, sw, strA, strR, str0]; kernel_rfl

theorem d_law06_mutators_eq (k : Nat) : d_law06_mutators (k + 1) = b_law06_mutators k  := by
  funext _ _ _ _ _; simp only [d_law06_mutators, hide_eq, b_law06_mutators, sw, strA, strR, str0]; kernel_rfl

theorem d_model_New_l0_eq (k n : Nat) : d_model_New_l0 k (n + 1) = b_model_New_l0 k (d_model_New_l0 k n) := by
  funext _ _ _ _; simp only [d_model_New_l0, hide_eq, b_model_New_l0, sw, strA, strR, str0]; kernel_rfl

theorem d_model_New_eq (k : Nat) : d_model_New (k + 1) = b_model_New k (d_model_New_l0 k) := by
  funext _ _; simp only [d_model_New, d_model_New_l0, hide_eq, b_model_New, sw, strA, strR, str0]; kernel_rfl

theorem d_alloc_New_eq (k : Nat) : d_alloc_New (k + 1) = b_alloc_New k (d_alloc_policies k) (d_heap_Heap_Blocks k) := by
  funext _ _ _ _; simp only [d_alloc_New, d_alloc_policies, d_heap_Heap_Blocks, hide_eq, b_alloc_New, sw, strA, strR, str0]; kernel_rfl

theorem d_roots_Roots_all_c1_l1_eq (k n : Nat) : d_roots_Roots_all_c1_l1 k (n + 1) = b_roots_Roots_all_c1_l1 k (d_callV_iiip_t k) (d_roots_Roots_all_c1_l1 k n) := by
  funext _ _ _ _ _ _ _ _; simp only [d_callV_iiip_t, d_roots_Roots_all_c1_l1, hide_eq, b_roots_Roots_all_c1_l1, sw, strA, strR, str0]; kernel_rfl

theorem d_roots_Roots_all_c1_l0_eq (k n : Nat) : d_roots_Roots_all_c1_l0 k (n + 1) = b_roots_Roots_all_c1_l0 k (d_roots_Roots_all_c1_l1 k) (d_roots_Roots_all_c1_l0 k n) := by
  funext _ _ _ _ _; simp only [d_roots_Roots_all_c1_l0, d_roots_Roots_all_c1_l1, hide_eq, b_roots_Roots_all_c1_l0, sw, strA, strR, str0]; kernel_rfl

theorem d_roots_Roots_all_c1_eq (k : Nat) : d_roots_Roots_all_c1 (k + 1) = b_roots_Roots_all_c1 k (d_roots_Roots_all_c1_l0 k) := by
  funext _ _ _; simp only [d_roots_Roots_all_c1, d_roots_Roots_all_c1_l0, hide_eq, b_roots_Roots_all_c1, sw, strA, strR, str0]; kernel_rfl

theorem d_roots_Roots_at_eq (k : Nat) : d_roots_Roots_at (k + 1) = b_roots_Roots_at k (d_roots_Roots_at_c1 k) := by
  funext _ _ _ _ _; simp only [d_roots_Roots_at, d_roots_Roots_at_c1, hide_eq, b_roots_Roots_at, sw, strA, strR, str0]; kernel_rfl

theorem d_side_Table_Swap_eq (k : Nat) : d_side_Table_Swap (k + 1) = b_side_Table_Swap k (d_side_Table_check k) (d_side_Table_get k) (d_side_Table_put k) := by
  funext _ _ _ _ _; simp only [d_side_Table_Swap, d_side_Table_check, d_side_Table_get, d_side_Table_put, hide_eq, b_side_Table_Swap, sw, strA, strR, str0]; kernel_rfl

theorem d___trace_line_int__newest_eq (k : Nat) : d___trace_line_int__newest (k + 1) = b___trace_line_int__newest k  := by
  funext _ _; simp only [d___trace_line_int__newest, hide_eq, b___trace_line_int__newest, sw, strA, strR, str0]; kernel_rfl

theorem d_slices_IndexFunc_int_l0_eq (k n : Nat) : d_slices_IndexFunc_int_l0 k (n + 1) = b_slices_IndexFunc_int_l0 k (d_callV_i_t k) (d_slices_IndexFunc_int_l0 k n) := by
  funext _ _ _ _ _ _ _; simp only [d_callV_i_t, d_slices_IndexFunc_int_l0, hide_eq, b_slices_IndexFunc_int_l0, sw, strA, strR, str0]; kernel_rfl

theorem d_slices_IndexFunc_int_eq (k : Nat) : d_slices_IndexFunc_int (k + 1) = b_slices_IndexFunc_int k (d_slices_IndexFunc_int_l0 k) := by
  funext _ _ _; simp only [d_slices_IndexFunc_int, d_slices_IndexFunc_int_l0, hide_eq, b_slices_IndexFunc_int, sw, strA, strR, str0]; kernel_rfl

theorem d_side_Table_there_eq (k : Nat) : d_side_Table_there (k + 1) = b_side_Table_there k (d_side_Table_made k) := by
  funext _ _ _; simp only [d_side_Table_made, d_side_Table_there, hide_eq, b_side_Table_there, sw, strA, strR, str0]; kernel_rfl

theorem d_side_Table_get_eq (k : Nat) : d_side_Table_get (k + 1) = b_side_Table_get k (d_side_Table_most k) := by
  funext _ _ _; simp only [d_side_Table_get, d_side_Table_most, hide_eq, b_side_Table_get, sw, strA, strR, str0]; kernel_rfl

theorem d_side_Table_Next_l0_eq (k n : Nat) : d_side_Table_Next_l0 k (n + 1) = b_side_Table_Next_l0 k (d_side_Table_get k) (d_side_Table_Next_l0 k n) := by
  funext _ _ _ _; simp only [d_side_Table_Next_l0, d_side_Table_get, hide_eq, b_side_Table_Next_l0, sw, strA, strR, str0]; kernel_rfl

theorem d_side_Table_Next_eq (k : Nat) : d_side_Table_Next (k + 1) = b_side_Table_Next k (d_side_Table_Next_l0 k) (d_side_Table_made k) := by
  funext _ _ _ _; simp only [d_side_Table_Next, d_side_Table_Next_l0, d_side_Table_made, hide_eq, b_side_Table_Next, sw, strA, strR, str0]; kernel_rfl

theorem d_sweep_Sweeper_sweep_c1_eq (k : Nat) : d_sweep_Sweeper_sweep_c1 (k + 1) = b_sweep_Sweeper_sweep_c1 k  := by
  funext _ _ _; simp only [d_sweep_Sweeper_sweep_c1, hide_eq, b_sweep_Sweeper_sweep_c1, sw, strA, strR, str0]; kernel_rfl

theorem d_sweep_Sweeper_sweep_c2_eq (k : Nat) : d_sweep_Sweeper_sweep_c2 (k + 1) = b_sweep_Sweeper_sweep_c2 k  := by
  funext _ _ _; simp only [d_sweep_Sweeper_sweep_c2, hide_eq, b_sweep_Sweeper_sweep_c2, sw, strA, strR, str0]; kernel_rfl

theorem d_ref02_Heap_Objects_l0_eq (k n : Nat) : d_ref02_Heap_Objects_l0 k (n + 1) = b_ref02_Heap_Objects_l0 k (d_ref02_Heap_Made k) (d_ref02_Heap_Objects_l0 k n) := by
  funext _ _ _ _ _; simp only [d_ref02_Heap_Made, d_ref02_Heap_Objects_l0, hide_eq, b_ref02_Heap_Objects_l0, sw, strA, strR, str0]; kernel_rfl

theorem d_ref02_Heap_Objects_eq (k : Nat) : d_ref02_Heap_Objects (k + 1) = b_ref02_Heap_Objects k (d_ref02_Heap_Objects_l0 k) := by
  funext _ _ _; simp only [d_ref02_Heap_Objects, d_ref02_Heap_Objects_l0, hide_eq, b_ref02_Heap_Objects, sw, strA, strR, str0]; kernel_rfl

theorem d_ref01_Table_Get_eq (k : Nat) : d_ref01_Table_Get (k + 1) = b_ref01_Table_Get k (d_ref01_Table_has k) := by
  funext _ _ _; simp only [d_ref01_Table_Get, d_ref01_Table_has, hide_eq, b_ref01_Table_Get, sw, strA, strR, str0]; kernel_rfl

theorem d_ref02_Heap_Shape_eq (k : Nat) : d_ref02_Heap_Shape (k + 1) = b_ref02_Heap_Shape k (d_ref02_Heap_Index k) (d_ref02_Heap_lacks k) := by
  funext _ _ _; simp only [d_ref02_Heap_Index, d_ref02_Heap_Shape, d_ref02_Heap_lacks, hide_eq, b_ref02_Heap_Shape, sw, strA, strR, str0]; kernel_rfl

theorem d_ref02_Heap_Kill_eq (k : Nat) : d_ref02_Heap_Kill (k + 1) = b_ref02_Heap_Kill k (d_ref02_Heap_Index k) (d_ref02_Heap_cut k) (d_ref02_Heap_lacks k) := by
  funext _ _ _; simp only [d_ref02_Heap_Index, d_ref02_Heap_Kill, d_ref02_Heap_cut, d_ref02_Heap_lacks, hide_eq, b_ref02_Heap_Kill, sw, strA, strR, str0]; kernel_rfl

theorem d_ref02_Heap_Release_l0_eq (k n : Nat) : d_ref02_Heap_Release_l0 k (n + 1) = b_ref02_Heap_Release_l0 k (d_ref02_Heap_Release_l0 k n) := by
  funext _ _ _ _ _; simp only [d_ref02_Heap_Release_l0, hide_eq, b_ref02_Heap_Release_l0, sw, strA, strR, str0]; kernel_rfl

theorem d_ref02_Heap_Release_eq (k : Nat) : d_ref02_Heap_Release (k + 1) = b_ref02_Heap_Release k (d_ref02_Heap_Made k) (d_ref02_Heap_Objects k) (d_ref02_Heap_Release_l0 k) (d_ref02_Heap_Whole k) (d_ref02_Heap_block k) := by
  funext _ _ _; simp only [d_ref02_Heap_Made, d_ref02_Heap_Objects, d_ref02_Heap_Release, d_ref02_Heap_Release_l0, d_ref02_Heap_Whole, d_ref02_Heap_block, hide_eq, b_ref02_Heap_Release, sw, strA, strR, str0]; kernel_rfl

theorem d_slices_ContainsFunc_api_Run_eq (k : Nat) : d_slices_ContainsFunc_api_Run (k + 1) = b_slices_ContainsFunc_api_Run k (d_slices_IndexFunc_api_Run k) := by
  funext _ _ _; simp only [d_slices_ContainsFunc_api_Run, d_slices_IndexFunc_api_Run, hide_eq, b_slices_ContainsFunc_api_Run, sw, strA, strR, str0]; kernel_rfl

theorem d_heap_Heap_Gaps_l0_eq (k n : Nat) : d_heap_Heap_Gaps_l0 k (n + 1) = b_heap_Heap_Gaps_l0 k (d_heap_Heap_Gaps_c1 k) (d_heap_Heap_size k) (d_heap_Heap_Gaps_l0 k n) := by
  funext _ _ _ _ _ _ _ _ _; simp only [d_heap_Heap_Gaps_c1, d_heap_Heap_Gaps_l0, d_heap_Heap_size, hide_eq, b_heap_Heap_Gaps_l0, sw, strA, strR, str0]; kernel_rfl

theorem d_heap_Heap_Gaps_eq (k : Nat) : d_heap_Heap_Gaps (k + 1) = b_heap_Heap_Gaps k (d_heap_Heap_Gaps_c1 k) (d_heap_Heap_Gaps_l0 k) (d_heap_Heap_Objects k) (d_heap_Heap_used k) := by
  funext _ _ _; simp only [d_heap_Heap_Gaps, d_heap_Heap_Gaps_c1, d_heap_Heap_Gaps_l0, d_heap_Heap_Objects, d_heap_Heap_used, hide_eq, b_heap_Heap_Gaps, sw, strA, strR, str0]; kernel_rfl

theorem d_sweep_Sweeper_roomy_c1_eq (k : Nat) : d_sweep_Sweeper_roomy_c1 (k + 1) = b_sweep_Sweeper_roomy_c1 k  := by
  funext _ _ _ _; simp only [d_sweep_Sweeper_roomy_c1, hide_eq, b_sweep_Sweeper_roomy_c1, sw, strA, strR, str0]; kernel_rfl

theorem d_ref02_Heap_Index_l0_eq (k n : Nat) : d_ref02_Heap_Index_l0 k (n + 1) = b_ref02_Heap_Index_l0 k (d_ref02_Heap_Index_l0 k n) := by
  funext _ _ _ _; simp only [d_ref02_Heap_Index_l0, hide_eq, b_ref02_Heap_Index_l0, sw, strA, strR, str0]; kernel_rfl

theorem d_ref02_Heap_Index_eq (k : Nat) : d_ref02_Heap_Index (k + 1) = b_ref02_Heap_Index k (d_ref02_Heap_Index_l0 k) (d_ref02_Heap_Made k) := by
  funext _ _ _; simp only [d_ref02_Heap_Index, d_ref02_Heap_Index_l0, d_ref02_Heap_Made, hide_eq, b_ref02_Heap_Index, sw, strA, strR, str0]; kernel_rfl

theorem d_side_Table_check_eq (k : Nat) : d_side_Table_check (k + 1) = b_side_Table_check k (d_side_Table_made k) (d_side_Table_there k) (d_slices_ContainsFunc_int k) := by
  funext _ _ _ _; simp only [d_side_Table_check, d_side_Table_made, d_side_Table_there, d_slices_ContainsFunc_int, hide_eq, b_side_Table_check, sw, strA, strR, str0]; kernel_rfl

theorem d_side_Table_put_eq (k : Nat) : d_side_Table_put (k + 1) = b_side_Table_put k (d_side_Table_most k) := by
  funext _ _ _ _; simp only [d_side_Table_most, d_side_Table_put, hide_eq, b_side_Table_put, sw, strA, strR, str0]; kernel_rfl

theorem d_ref01_Table_made_eq (k : Nat) : d_ref01_Table_made (k + 1) = b_ref01_Table_made k  := by
  funext _ _; simp only [d_ref01_Table_made, hide_eq, b_ref01_Table_made, sw, strA, strR, str0]; kernel_rfl

theorem d_ref01_Table_has_eq (k : Nat) : d_ref01_Table_has (k + 1) = b_ref01_Table_has k (d_ref01_Table_made k) := by
  funext _ _ _; simp only [d_ref01_Table_has, d_ref01_Table_made, hide_eq, b_ref01_Table_has, sw, strA, strR, str0]; kernel_rfl

theorem d_ref01_Table_may_eq (k : Nat) : d_ref01_Table_may (k + 1) = b_ref01_Table_may k  := by
  funext _ _ _; simp only [d_ref01_Table_may, hide_eq, b_ref01_Table_may, sw, strA, strR, str0]; kernel_rfl

theorem d_heap_Heap_ClaimLarge_eq (k : Nat) : d_heap_Heap_ClaimLarge (k + 1) = b_heap_Heap_ClaimLarge k (d_heap_Heap_claim k) := by
  funext _ _ _ _ _; simp only [d_heap_Heap_ClaimLarge, d_heap_Heap_claim, hide_eq, b_heap_Heap_ClaimLarge, sw, strA, strR, str0]; kernel_rfl

theorem d_heap_Heap_fits_l0_eq (k n : Nat) : d_heap_Heap_fits_l0 k (n + 1) = b_heap_Heap_fits_l0 k (d_heap_Heap_Find k) (d_heap_Heap_fits_l0 k n) := by
  funext _ _ _ _ _ _; simp only [d_heap_Heap_Find, d_heap_Heap_fits_l0, hide_eq, b_heap_Heap_fits_l0, sw, strA, strR, str0]; kernel_rfl

theorem d_heap_Heap_fits_eq (k : Nat) : d_heap_Heap_fits (k + 1) = b_heap_Heap_fits k (d_heap_Heap_fits_l0 k) (d_heap_Heap_span k) := by
  funext _ _ _ _ _; simp only [d_heap_Heap_fits, d_heap_Heap_fits_l0, d_heap_Heap_span, hide_eq, b_heap_Heap_fits, sw, strA, strR, str0]; kernel_rfl

theorem d_heap_number_eq (k : Nat) : d_heap_number (k + 1) = b_heap_number k  := by
  funext _ _ _ _; simp only [d_heap_number, hide_eq, b_heap_number, sw, strA, strR, str0]; kernel_rfl

theorem d_ref02_Heap_Blocks_eq (k : Nat) : d_ref02_Heap_Blocks (k + 1) = b_ref02_Heap_Blocks k (d_ref02_Heap_Made k) := by
  funext _ _; simp only [d_ref02_Heap_Blocks, d_ref02_Heap_Made, hide_eq, b_ref02_Heap_Blocks, sw, strA, strR, str0]; kernel_rfl

theorem d_ref02_Heap_block_eq (k : Nat) : d_ref02_Heap_block (k + 1) = b_ref02_Heap_block k  := by
  funext _ _ _; simp only [d_ref02_Heap_block, hide_eq, b_ref02_Heap_block, sw, strA, strR, str0]; kernel_rfl

theorem d_ref02_space_eq (k : Nat) : d_ref02_space (k + 1) = b_ref02_space k  := by
  funext _ _; simp only [d_ref02_space, hide_eq, b_ref02_space, sw, strA, strR, str0]; kernel_rfl

theorem d_ref02_Heap_Claim_eq (k : Nat) : d_ref02_Heap_Claim (k + 1) = b_ref02_Heap_Claim k (d_ref02_Heap_Made k) (d_ref02_Heap_block k) (d_ref02_space k) := by
  funext _ _ _ _; simp only [d_ref02_Heap_Claim, d_ref02_Heap_Made, d_ref02_Heap_block, d_ref02_space, hide_eq, b_ref02_Heap_Claim, sw, strA, strR, str0]; kernel_rfl

theorem d_ref02_Heap_Space_eq (k : Nat) : d_ref02_Heap_Space (k + 1) = b_ref02_Heap_Space k (d_ref02_Heap_Made k) := by
  funext _ _ _; simp only [d_ref02_Heap_Made, d_ref02_Heap_Space, hide_eq, b_ref02_Heap_Space, sw, strA, strR, str0]; kernel_rfl

theorem d_ref02_Heap_Place_eq (k : Nat) : d_ref02_Heap_Place (k + 1) = b_ref02_Heap_Place k (d_ref02_Heap_Made k) (d_ref02_Heap_fits k) (d_ref02_Heap_put k) (d_ref02_Valid k) := by
  funext _ _ _ _ _ _; simp only [d_ref02_Heap_Made, d_ref02_Heap_Place, d_ref02_Heap_fits, d_ref02_Heap_put, d_ref02_Valid, hide_eq, b_ref02_Heap_Place, sw, strA, strR, str0]; kernel_rfl

theorem d_ref05_Allocator_over_eq (k : Nat) : d_ref05_Allocator_over (k + 1) = b_ref05_Allocator_over k (d_ref05_Allocator_place k) (d_ref05_Free k) := by
  funext _ _ _ _ _ _; simp only [d_ref05_Allocator_over, d_ref05_Allocator_place, d_ref05_Free, hide_eq, b_ref05_Allocator_over, sw, strA, strR, str0]; kernel_rfl

theorem d_ref05_Holes_l0_eq (k n : Nat) : d_ref05_Holes_l0 k (n + 1) = b_ref05_Holes_l0 k (d_ref05_Holes_l0 k n) := by
  funext _ _ _ _ _ _; simp only [d_ref05_Holes_l0, hide_eq, b_ref05_Holes_l0, sw, strA, strR, str0]; kernel_rfl

theorem d_ref05_Holes_eq (k : Nat) : d_ref05_Holes (k + 1) = b_ref05_Holes k (d_ref02_Heap_Lines k) (d_ref05_Holes_l0 k) := by
  funext _ _ _; simp only [d_ref02_Heap_Lines, d_ref05_Holes, d_ref05_Holes_l0, hide_eq, b_ref05_Holes, sw, strA, strR, str0]; kernel_rfl

theorem d_ref05_Allocator_gaps_l0_eq (k n : Nat) : d_ref05_Allocator_gaps_l0 k (n + 1) = b_ref05_Allocator_gaps_l0 k (d_ref02_Heap_Blocks k) (d_ref02_Heap_Gaps k) (d_ref02_Heap_Space k) (d_ref02_Heap_State k) (d_ref05_Allocator_gaps_l0 k n) := by
  funext _ _ _ _; simp only [d_ref02_Heap_Blocks, d_ref02_Heap_Gaps, d_ref02_Heap_Space, d_ref02_Heap_State, d_ref05_Allocator_gaps_l0, hide_eq, b_ref05_Allocator_gaps_l0, sw, strA, strR, str0]; kernel_rfl

theorem d_ref05_Allocator_gaps_eq (k : Nat) : d_ref05_Allocator_gaps (k + 1) = b_ref05_Allocator_gaps k (d_ref05_Allocator_gaps_l0 k) := by
  funext _ _; simp only [d_ref05_Allocator_gaps, d_ref05_Allocator_gaps_l0, hide_eq, b_ref05_Allocator_gaps, sw, strA, strR, str0]; kernel_rfl

theorem d_heap_Heap_wipe_eq (k : Nat) : d_heap_Heap_wipe (k + 1) = b_heap_Heap_wipe k  := by
  funext _ _ _ _; simp only [d_heap_Heap_wipe, hide_eq, b_heap_Heap_wipe, sw, strA, strR, str0]; kernel_rfl

theorem d_heap_Heap_held_eq (k : Nat) : d_heap_Heap_held (k + 1) = b_heap_Heap_held k (d_heap_Heap_made k) (d_heap_Heap_there k) := by
  funext _ _ _ _; simp only [d_heap_Heap_held, d_heap_Heap_made, d_heap_Heap_there, hide_eq, b_heap_Heap_held, sw, strA, strR, str0]; kernel_rfl

theorem d_heap_Heap_span_l0_eq (k n : Nat) : d_heap_Heap_span_l0 k (n + 1) = b_heap_Heap_span_l0 k (d_heap_Heap_span_l0 k n) := by
  funext _ _ _ _; simp only [d_heap_Heap_span_l0, hide_eq, b_heap_Heap_span_l0, sw, strA, strR, str0]; kernel_rfl

theorem d_heap_Heap_span_eq (k : Nat) : d_heap_Heap_span (k + 1) = b_heap_Heap_span k (d_heap_Heap_span_l0 k) := by
  funext _ _ _; simp only [d_heap_Heap_span, d_heap_Heap_span_l0, hide_eq, b_heap_Heap_span, sw, strA, strR, str0]; kernel_rfl

theorem d_roots_Roots_at_c1_eq (k : Nat) : d_roots_Roots_at_c1 (k + 1) = b_roots_Roots_at_c1 k  := by
  funext _ _ _; simp only [d_roots_Roots_at_c1, hide_eq, b_roots_Roots_at_c1, sw, strA, strR, str0]; kernel_rfl

theorem d_side_Table_most_eq (k : Nat) : d_side_Table_most (k + 1) = b_side_Table_most k  := by
  funext _ _; simp only [d_side_Table_most, hide_eq, b_side_Table_most, sw, strA, strR, str0]; kernel_rfl

theorem d_ref02_Heap_lacks_eq (k : Nat) : d_ref02_Heap_lacks (k + 1) = b_ref02_Heap_lacks k (d_ref02_Heap_Index k) (d_ref02_Heap_Made k) := by
  funext _ _ _; simp only [d_ref02_Heap_Index, d_ref02_Heap_Made, d_ref02_Heap_lacks, hide_eq, b_ref02_Heap_lacks, sw, strA, strR, str0]; kernel_rfl

theorem d_ref02_Heap_cut_eq (k : Nat) : d_ref02_Heap_cut (k + 1) = b_ref02_Heap_cut k  := by
  funext _ _ _; simp only [d_ref02_Heap_cut, hide_eq, b_ref02_Heap_cut, sw, strA, strR, str0]; kernel_rfl

theorem d_ref02_Heap_Whole_l0_eq (k n : Nat) : d_ref02_Heap_Whole_l0 k (n + 1) = b_ref02_Heap_Whole_l0 k (d_ref02_Heap_Whole_l0 k n) := by
  funext _ _ _ _; simp only [d_ref02_Heap_Whole_l0, hide_eq, b_ref02_Heap_Whole_l0, sw, strA, strR, str0]; kernel_rfl

theorem d_ref02_Heap_Whole_eq (k : Nat) : d_ref02_Heap_Whole (k + 1) = b_ref02_Heap_Whole k (d_ref02_Heap_Whole_l0 k) := by
  funext _ _ _; simp only [d_ref02_Heap_Whole, d_ref02_Heap_Whole_l0, hide_eq, b_ref02_Heap_Whole, sw, strA, strR, str0]; kernel_rfl

theorem d_slices_IndexFunc_api_Run_l0_eq (k n : Nat) : d_slices_IndexFunc_api_Run_l0 k (n + 1) = b_slices_IndexFunc_api_Run_l0 k (d_callV_ii_t k) (d_slices_IndexFunc_api_Run_l0 k n) := by
  funext _ _ _ _ _ _ _; simp only [d_callV_ii_t, d_slices_IndexFunc_api_Run_l0, hide_eq, b_slices_IndexFunc_api_Run_l0, sw, strA, strR, str0]; kernel_rfl

theorem d_slices_IndexFunc_api_Run_eq (k : Nat) : d_slices_IndexFunc_api_Run (k + 1) = b_slices_IndexFunc_api_Run k (d_slices_IndexFunc_api_Run_l0 k) := by
  funext _ _ _; simp only [d_slices_IndexFunc_api_Run, d_slices_IndexFunc_api_Run_l0, hide_eq, b_slices_IndexFunc_api_Run, sw, strA, strR, str0]; kernel_rfl

theorem d_heap_Heap_used_eq (k : Nat) : d_heap_Heap_used (k + 1) = b_heap_Heap_used k (d_heap_Heap_there k) := by
  funext _ _ _; simp only [d_heap_Heap_there, d_heap_Heap_used, hide_eq, b_heap_Heap_used, sw, strA, strR, str0]; kernel_rfl

theorem d_heap_Heap_Gaps_c1_eq (k : Nat) : d_heap_Heap_Gaps_c1 (k + 1) = b_heap_Heap_Gaps_c1 k  := by
  funext _ _ _ _; simp only [d_heap_Heap_Gaps_c1, hide_eq, b_heap_Heap_Gaps_c1, sw, strA, strR, str0]; kernel_rfl

theorem d_side_Table_check_c1_eq (k : Nat) : d_side_Table_check_c1 (k + 1) = b_side_Table_check_c1 k (d_side_Table_value k) := by
  funext _ _ _; simp only [d_side_Table_check_c1, d_side_Table_value, hide_eq, b_side_Table_check_c1, sw, strA, strR, str0]; kernel_rfl

theorem d_side_Table_value_eq (k : Nat) : d_side_Table_value (k + 1) = b_side_Table_value k (d_side_Table_most k) := by
  funext _ _ _; simp only [d_side_Table_most, d_side_Table_value, hide_eq, b_side_Table_value, sw, strA, strR, str0]; kernel_rfl

theorem d_heap_Heap_claim_l0_eq (k n : Nat) : d_heap_Heap_claim_l0 k (n + 1) = b_heap_Heap_claim_l0 k (d_heap_Heap_claim_l0 k n) := by
  funext _ _ _ _ _ _; simp only [d_heap_Heap_claim_l0, hide_eq, b_heap_Heap_claim_l0, sw, strA, strR, str0]; kernel_rfl

theorem d_heap_Heap_claim_eq (k : Nat) : d_heap_Heap_claim (k + 1) = b_heap_Heap_claim k (d_heap_Heap_claim_l0 k) (d_heap_Heap_made k) (d_heap_Heap_there k) (d_heap_space k) (d_slices_ContainsFunc_heap_block k) := by
  funext _ _ _ _ _ _ _ _; simp only [d_heap_Heap_claim, d_heap_Heap_claim_l0, d_heap_Heap_made, d_heap_Heap_there, d_heap_space, d_slices_ContainsFunc_heap_block, hide_eq, b_heap_Heap_claim, sw, strA, strR, str0]; kernel_rfl

theorem d_heap_Heap_Find_eq (k : Nat) : d_heap_Heap_Find (k + 1) = b_heap_Heap_Find k (d_heap_Heap_made k) (d_heap_Heap_size k) (d_side_Table_Last k) := by
  funext _ _ _; simp only [d_heap_Heap_Find, d_heap_Heap_made, d_heap_Heap_size, d_side_Table_Last, hide_eq, b_heap_Heap_Find, sw, strA, strR, str0]; kernel_rfl

theorem d_ref02_Heap_fits_l0_eq (k n : Nat) : d_ref02_Heap_fits_l0 k (n + 1) = b_ref02_Heap_fits_l0 k (d_ref02_Words k) (d_ref02_Heap_fits_l0 k n) := by
  funext _ _ _ _ _ _; simp only [d_ref02_Heap_fits_l0, d_ref02_Words, hide_eq, b_ref02_Heap_fits_l0, sw, strA, strR, str0]; kernel_rfl

theorem d_ref02_Heap_fits_eq (k : Nat) : d_ref02_Heap_fits (k + 1) = b_ref02_Heap_fits k (d_ref02_Heap_Whole k) (d_ref02_Heap_fits_l0 k) (d_ref02_Large k) (d_ref02_Need k) (d_ref02_Words k) := by
  funext _ _ _ _ _ _ _; simp only [d_ref02_Heap_Whole, d_ref02_Heap_fits, d_ref02_Heap_fits_l0, d_ref02_Large, d_ref02_Need, d_ref02_Words, hide_eq, b_ref02_Heap_fits, sw, strA, strR, str0]; kernel_rfl

theorem d_ref02_Heap_put_l0_eq (k n : Nat) : d_ref02_Heap_put_l0 k (n + 1) = b_ref02_Heap_put_l0 k (d_ref02_Heap_put_l0 k n) := by
  funext _ _ _ _; simp only [d_ref02_Heap_put_l0, hide_eq, b_ref02_Heap_put_l0, sw, strA, strR, str0]; kernel_rfl

theorem d_ref02_Heap_put_eq (k : Nat) : d_ref02_Heap_put (k + 1) = b_ref02_Heap_put k (d_ref02_Heap_put_l0 k) := by
  funext _ _ _ _ _ _ _ _ _ _; simp only [d_ref02_Heap_put, d_ref02_Heap_put_l0, hide_eq, b_ref02_Heap_put, sw, strA, strR, str0]; kernel_rfl

theorem d_ref02_Heap_Lines_l1_eq (k n : Nat) : d_ref02_Heap_Lines_l1 k (n + 1) = b_ref02_Heap_Lines_l1 k (d_ref02_Heap_Find k) (d_ref02_Heap_Lines_l1 k n) := by
  funext _ _ _ _ _ _; simp only [d_ref02_Heap_Find, d_ref02_Heap_Lines_l1, hide_eq, b_ref02_Heap_Lines_l1, sw, strA, strR, str0]; kernel_rfl

theorem d_ref02_Heap_Lines_l0_eq (k n : Nat) : d_ref02_Heap_Lines_l0 k (n + 1) = b_ref02_Heap_Lines_l0 k (d_ref02_Heap_Lines_l1 k) (d_ref02_Heap_Lines_l0 k n) := by
  funext _ _ _ _ _; simp only [d_ref02_Heap_Lines_l0, d_ref02_Heap_Lines_l1, hide_eq, b_ref02_Heap_Lines_l0, sw, strA, strR, str0]; kernel_rfl

theorem d_ref02_Heap_Lines_eq (k : Nat) : d_ref02_Heap_Lines (k + 1) = b_ref02_Heap_Lines k (d_ref02_Heap_Lines_l0 k) (d_ref02_Heap_State k) := by
  funext _ _ _; simp only [d_ref02_Heap_Lines, d_ref02_Heap_Lines_l0, d_ref02_Heap_State, hide_eq, b_ref02_Heap_Lines, sw, strA, strR, str0]; kernel_rfl

theorem d_heap_Heap_there_eq (k : Nat) : d_heap_Heap_there (k + 1) = b_heap_Heap_there k (d_heap_Heap_made k) := by
  funext _ _ _; simp only [d_heap_Heap_made, d_heap_Heap_there, hide_eq, b_heap_Heap_there, sw, strA, strR, str0]; kernel_rfl

theorem d_heap_space_eq (k : Nat) : d_heap_space (k + 1) = b_heap_space k  := by
  funext _ _; simp only [d_heap_space, hide_eq, b_heap_space, sw, strA, strR, str0]; kernel_rfl

theorem d_slices_ContainsFunc_heap_block_eq (k : Nat) : d_slices_ContainsFunc_heap_block (k + 1) = b_slices_ContainsFunc_heap_block k (d_slices_IndexFunc_heap_block k) := by
  funext _ _ _; simp only [d_slices_ContainsFunc_heap_block, d_slices_IndexFunc_heap_block, hide_eq, b_slices_ContainsFunc_heap_block, sw, strA, strR, str0]; kernel_rfl

theorem d_heap_Heap_claim_c1_eq (k : Nat) : d_heap_Heap_claim_c1 (k + 1) = b_heap_Heap_claim_c1 k  := by
  funext _ _ _; simp only [d_heap_Heap_claim_c1, hide_eq, b_heap_Heap_claim_c1, sw, strA, strR, str0]; kernel_rfl

theorem d_side_Table_Last_l0_eq (k n : Nat) : d_side_Table_Last_l0 k (n + 1) = b_side_Table_Last_l0 k (d_side_Table_get k) (d_side_Table_Last_l0 k n) := by
  funext _ _ _ _; simp only [d_side_Table_Last_l0, d_side_Table_get, hide_eq, b_side_Table_Last_l0, sw, strA, strR, str0]; kernel_rfl

theorem d_side_Table_Last_eq (k : Nat) : d_side_Table_Last (k + 1) = b_side_Table_Last k (d_side_Table_Last_l0 k) (d_side_Table_made k) := by
  funext _ _ _ _; simp only [d_side_Table_Last, d_side_Table_Last_l0, d_side_Table_made, hide_eq, b_side_Table_Last, sw, strA, strR, str0]; kernel_rfl

theorem d_ref02_Heap_Find_l0_eq (k n : Nat) : d_ref02_Heap_Find_l0 k (n + 1) = b_ref02_Heap_Find_l0 k (d_ref02_Words k) (d_ref02_Heap_Find_l0 k n) := by
  funext _ _ _ _; simp only [d_ref02_Heap_Find_l0, d_ref02_Words, hide_eq, b_ref02_Heap_Find_l0, sw, strA, strR, str0]; kernel_rfl

theorem d_ref02_Heap_Find_eq (k : Nat) : d_ref02_Heap_Find (k + 1) = b_ref02_Heap_Find k (d_ref02_Heap_Find_l0 k) (d_ref02_Heap_Made k) := by
  funext _ _ _; simp only [d_ref02_Heap_Find, d_ref02_Heap_Find_l0, d_ref02_Heap_Made, hide_eq, b_ref02_Heap_Find, sw, strA, strR, str0]; kernel_rfl

theorem d_slices_IndexFunc_heap_block_l0_eq (k n : Nat) : d_slices_IndexFunc_heap_block_l0 k (n + 1) = b_slices_IndexFunc_heap_block_l0 k (d_callV_ii_tx k) (d_slices_IndexFunc_heap_block_l0 k n) := by
  funext _ _ _ _ _ _ _; simp only [d_callV_ii_tx, d_slices_IndexFunc_heap_block_l0, hide_eq, b_slices_IndexFunc_heap_block_l0, sw, strA, strR, str0]; kernel_rfl

theorem d_slices_IndexFunc_heap_block_eq (k : Nat) : d_slices_IndexFunc_heap_block (k + 1) = b_slices_IndexFunc_heap_block k (d_slices_IndexFunc_heap_block_l0 k) := by
  funext _ _ _; simp only [d_slices_IndexFunc_heap_block, d_slices_IndexFunc_heap_block_l0, hide_eq, b_slices_IndexFunc_heap_block, sw, strA, strR, str0]; kernel_rfl

theorem d_alloc_first_place_eq (k : Nat) : d_alloc_first_place (k + 1) = b_alloc_first_place k (d_alloc_Allocator_gaps k) (d_alloc_Allocator_start k) := by
  funext _ _ _; simp only [d_alloc_Allocator_gaps, d_alloc_Allocator_start, d_alloc_first_place, hide_eq, b_alloc_first_place, sw, strA, strR, str0]; kernel_rfl

theorem d_alloc_Allocator_start_eq (k : Nat) : d_alloc_Allocator_start (k + 1) = b_alloc_Allocator_start k (d_alloc_Allocator_begin k) := by
  funext _ _ _; simp only [d_alloc_Allocator_begin, d_alloc_Allocator_start, hide_eq, b_alloc_Allocator_start, sw, strA, strR, str0]; kernel_rfl

theorem d_alloc_Allocator_gaps_l1_eq (k n : Nat) : d_alloc_Allocator_gaps_l1 k (n + 1) = b_alloc_Allocator_gaps_l1 k (d_alloc_Allocator_gaps_l1 k n) := by
  funext _ _ _ _ _ _ _ _ _; simp only [d_alloc_Allocator_gaps_l1, hide_eq, b_alloc_Allocator_gaps_l1, sw, strA, strR, str0]; kernel_rfl

theorem d_alloc_Allocator_gaps_l0_eq (k n : Nat) : d_alloc_Allocator_gaps_l0 k (n + 1) = b_alloc_Allocator_gaps_l0 k (d_alloc_Allocator_gaps_l1 k) (d_heap_Heap_Gaps k) (d_alloc_Allocator_gaps_l0 k n) := by
  funext _ _ _ _ _ _ _ _ _ _; simp only [d_alloc_Allocator_gaps_l0, d_alloc_Allocator_gaps_l1, d_heap_Heap_Gaps, hide_eq, b_alloc_Allocator_gaps_l0, sw, strA, strR, str0]; kernel_rfl

theorem d_alloc_Allocator_gaps_eq (k : Nat) : d_alloc_Allocator_gaps (k + 1) = b_alloc_Allocator_gaps k (d_alloc_Allocator_blocks k) (d_alloc_Allocator_gaps_l0 k) := by
  funext _ _ _ _; simp only [d_alloc_Allocator_blocks, d_alloc_Allocator_gaps, d_alloc_Allocator_gaps_l0, hide_eq, b_alloc_Allocator_gaps, sw, strA, strR, str0]; kernel_rfl

theorem d_alloc_Allocator_begin_l0_eq (k n : Nat) : d_alloc_Allocator_begin_l0 k (n + 1) = b_alloc_Allocator_begin_l0 k (d_heap_Heap_Blocks k) (d_heap_Heap_Claim k) (d_alloc_Allocator_begin_l0 k n) := by
  funext _ _ _ _; simp only [d_alloc_Allocator_begin_l0, d_heap_Heap_Blocks, d_heap_Heap_Claim, hide_eq, b_alloc_Allocator_begin_l0, sw, strA, strR, str0]; kernel_rfl

theorem d_alloc_Allocator_begin_eq (k : Nat) : d_alloc_Allocator_begin (k + 1) = b_alloc_Allocator_begin k (d_alloc_Allocator_begin_l0 k) := by
  funext _ _; simp only [d_alloc_Allocator_begin, d_alloc_Allocator_begin_l0, hide_eq, b_alloc_Allocator_begin, sw, strA, strR, str0]; kernel_rfl

theorem d_alloc_Allocator_blocks_l0_eq (k n : Nat) : d_alloc_Allocator_blocks_l0 k (n + 1) = b_alloc_Allocator_blocks_l0 k (d_heap_Heap_Space k) (d_heap_Heap_State k) (d_alloc_Allocator_blocks_l0 k n) := by
  funext _ _ _ _ _; simp only [d_alloc_Allocator_blocks_l0, d_heap_Heap_Space, d_heap_Heap_State, hide_eq, b_alloc_Allocator_blocks_l0, sw, strA, strR, str0]; kernel_rfl

theorem d_alloc_Allocator_blocks_eq (k : Nat) : d_alloc_Allocator_blocks (k + 1) = b_alloc_Allocator_blocks k (d_alloc_Allocator_blocks_l0 k) (d_heap_Heap_Blocks k) := by
  funext _ _; simp only [d_alloc_Allocator_blocks, d_alloc_Allocator_blocks_l0, d_heap_Heap_Blocks, hide_eq, b_alloc_Allocator_blocks, sw, strA, strR, str0]; kernel_rfl

theorem d_heap_Heap_Claim_eq (k : Nat) : d_heap_Heap_Claim (k + 1) = b_heap_Heap_Claim k (d_heap_Heap_claim k) := by
  funext _ _ _ _; simp only [d_heap_Heap_Claim, d_heap_Heap_claim, hide_eq, b_heap_Heap_Claim, sw, strA, strR, str0]; kernel_rfl

theorem d_alloc_best_place_eq (k : Nat) : d_alloc_best_place (k + 1) = b_alloc_best_place k (d_alloc_Allocator_gaps k) (d_alloc_Allocator_start k) (d_slices_SortStableFunc_api_Run k) := by
  funext _ _ _; simp only [d_alloc_Allocator_gaps, d_alloc_Allocator_start, d_alloc_best_place, d_slices_SortStableFunc_api_Run, hide_eq, b_alloc_best_place, sw, strA, strR, str0]; kernel_rfl

theorem d_slices_SortStableFunc_api_Run_eq (k : Nat) : d_slices_SortStableFunc_api_Run (k + 1) = b_slices_SortStableFunc_api_Run k (d_slices_stableCmpFunc_api_Run k) := by
  funext _ _ _; simp only [d_slices_SortStableFunc_api_Run, d_slices_stableCmpFunc_api_Run, hide_eq, b_slices_SortStableFunc_api_Run, sw, strA, strR, str0]; kernel_rfl

theorem d_alloc_best_place_c1_eq (k : Nat) : d_alloc_best_place_c1 (k + 1) = b_alloc_best_place_c1 k  := by
  funext _ _ _ _ _; simp only [d_alloc_best_place_c1, hide_eq, b_alloc_best_place_c1, sw, strA, strR, str0]; kernel_rfl

theorem d_slices_stableCmpFunc_api_Run_l0_eq (k n : Nat) : d_slices_stableCmpFunc_api_Run_l0 k (n + 1) = b_slices_stableCmpFunc_api_Run_l0 k (d_slices_insertionSortCmpFunc_api_Run k) (d_slices_stableCmpFunc_api_Run_l0 k n) := by
  funext _ _ _ _ _ _ _ _; simp only [d_slices_insertionSortCmpFunc_api_Run, d_slices_stableCmpFunc_api_Run_l0, hide_eq, b_slices_stableCmpFunc_api_Run_l0, sw, strA, strR, str0]; kernel_rfl

theorem d_slices_stableCmpFunc_api_Run_l2_eq (k n : Nat) : d_slices_stableCmpFunc_api_Run_l2 k (n + 1) = b_slices_stableCmpFunc_api_Run_l2 k (d_slices_symMergeCmpFunc_api_Run k) (d_slices_stableCmpFunc_api_Run_l2 k n) := by
  funext _ _ _ _ _ _ _ _ _; simp only [d_slices_stableCmpFunc_api_Run_l2, d_slices_symMergeCmpFunc_api_Run, hide_eq, b_slices_stableCmpFunc_api_Run_l2, sw, strA, strR, str0]; kernel_rfl

theorem d_slices_stableCmpFunc_api_Run_l1_eq (k n : Nat) : d_slices_stableCmpFunc_api_Run_l1 k (n + 1) = b_slices_stableCmpFunc_api_Run_l1 k (d_slices_stableCmpFunc_api_Run_l2 k) (d_slices_symMergeCmpFunc_api_Run k) (d_slices_stableCmpFunc_api_Run_l1 k n) := by
  funext _ _ _ _ _ _ _; simp only [d_slices_stableCmpFunc_api_Run_l1, d_slices_stableCmpFunc_api_Run_l2, d_slices_symMergeCmpFunc_api_Run, hide_eq, b_slices_stableCmpFunc_api_Run_l1, sw, strA, strR, str0]; kernel_rfl

theorem d_slices_stableCmpFunc_api_Run_eq (k : Nat) : d_slices_stableCmpFunc_api_Run (k + 1) = b_slices_stableCmpFunc_api_Run k (d_slices_insertionSortCmpFunc_api_Run k) (d_slices_stableCmpFunc_api_Run_l0 k) (d_slices_stableCmpFunc_api_Run_l1 k) := by
  funext _ _ _ _; simp only [d_slices_insertionSortCmpFunc_api_Run, d_slices_stableCmpFunc_api_Run, d_slices_stableCmpFunc_api_Run_l0, d_slices_stableCmpFunc_api_Run_l1, hide_eq, b_slices_stableCmpFunc_api_Run, sw, strA, strR, str0]; kernel_rfl

theorem d_slices_insertionSortCmpFunc_api_Run_l1_eq (k n : Nat) : d_slices_insertionSortCmpFunc_api_Run_l1 k (n + 1) = b_slices_insertionSortCmpFunc_api_Run_l1 k (d_callV_iiii_i k) (d_slices_insertionSortCmpFunc_api_Run_l1 k n) := by
  funext _ _ _ _ _ _ _; simp only [d_callV_iiii_i, d_slices_insertionSortCmpFunc_api_Run_l1, hide_eq, b_slices_insertionSortCmpFunc_api_Run_l1, sw, strA, strR, str0]; kernel_rfl

theorem d_slices_insertionSortCmpFunc_api_Run_l0_eq (k n : Nat) : d_slices_insertionSortCmpFunc_api_Run_l0 k (n + 1) = b_slices_insertionSortCmpFunc_api_Run_l0 k (d_slices_insertionSortCmpFunc_api_Run_l1 k) (d_slices_insertionSortCmpFunc_api_Run_l0 k n) := by
  funext _ _ _ _ _ _ _ _; simp only [d_slices_insertionSortCmpFunc_api_Run_l0, d_slices_insertionSortCmpFunc_api_Run_l1, hide_eq, b_slices_insertionSortCmpFunc_api_Run_l0, sw, strA, strR, str0]; kernel_rfl

theorem d_slices_insertionSortCmpFunc_api_Run_eq (k : Nat) : d_slices_insertionSortCmpFunc_api_Run (k + 1) = b_slices_insertionSortCmpFunc_api_Run k (d_slices_insertionSortCmpFunc_api_Run_l0 k) := by
  funext _ _ _ _ _; simp only [d_slices_insertionSortCmpFunc_api_Run, d_slices_insertionSortCmpFunc_api_Run_l0, hide_eq, b_slices_insertionSortCmpFunc_api_Run, sw, strA, strR, str0]; kernel_rfl

theorem d_slices_symMergeCmpFunc_api_Run_l0_eq (k n : Nat) : d_slices_symMergeCmpFunc_api_Run_l0 k (n + 1) = b_slices_symMergeCmpFunc_api_Run_l0 k (d_callV_iiii_i k) (d_slices_symMergeCmpFunc_api_Run_l0 k n) := by
  funext _ _ _ _ _ _ _ _; simp only [d_callV_iiii_i, d_slices_symMergeCmpFunc_api_Run_l0, hide_eq, b_slices_symMergeCmpFunc_api_Run_l0, sw, strA, strR, str0]; kernel_rfl

theorem d_slices_symMergeCmpFunc_api_Run_l1_eq (k n : Nat) : d_slices_symMergeCmpFunc_api_Run_l1 k (n + 1) = b_slices_symMergeCmpFunc_api_Run_l1 k (d_slices_symMergeCmpFunc_api_Run_l1 k n) := by
  funext _ _ _ _ _ _; simp only [d_slices_symMergeCmpFunc_api_Run_l1, hide_eq, b_slices_symMergeCmpFunc_api_Run_l1, sw, strA, strR, str0]; kernel_rfl

theorem d_slices_symMergeCmpFunc_api_Run_l2_eq (k n : Nat) : d_slices_symMergeCmpFunc_api_Run_l2 k (n + 1) = b_slices_symMergeCmpFunc_api_Run_l2 k (d_callV_iiii_i k) (d_slices_symMergeCmpFunc_api_Run_l2 k n) := by
  funext _ _ _ _ _ _ _ _; simp only [d_callV_iiii_i, d_slices_symMergeCmpFunc_api_Run_l2, hide_eq, b_slices_symMergeCmpFunc_api_Run_l2, sw, strA, strR, str0]; kernel_rfl

theorem d_slices_symMergeCmpFunc_api_Run_l3_eq (k n : Nat) : d_slices_symMergeCmpFunc_api_Run_l3 k (n + 1) = b_slices_symMergeCmpFunc_api_Run_l3 k (d_slices_symMergeCmpFunc_api_Run_l3 k n) := by
  funext _ _ _ _ _ _; simp only [d_slices_symMergeCmpFunc_api_Run_l3, hide_eq, b_slices_symMergeCmpFunc_api_Run_l3, sw, strA, strR, str0]; kernel_rfl

theorem d_slices_symMergeCmpFunc_api_Run_l4_eq (k n : Nat) : d_slices_symMergeCmpFunc_api_Run_l4 k (n + 1) = b_slices_symMergeCmpFunc_api_Run_l4 k (d_callV_iiii_i k) (d_slices_symMergeCmpFunc_api_Run_l4 k n) := by
  funext _ _ _ _ _ _ _ _; simp only [d_callV_iiii_i, d_slices_symMergeCmpFunc_api_Run_l4, hide_eq, b_slices_symMergeCmpFunc_api_Run_l4, sw, strA, strR, str0]; kernel_rfl

theorem d_slices_symMergeCmpFunc_api_Run_eq (k : Nat) : d_slices_symMergeCmpFunc_api_Run (k + 1) = b_slices_symMergeCmpFunc_api_Run k (d_slices_rotateCmpFunc_api_Run k) (d_slices_symMergeCmpFunc_api_Run k) (d_slices_symMergeCmpFunc_api_Run_l0 k) (d_slices_symMergeCmpFunc_api_Run_l1 k) (d_slices_symMergeCmpFunc_api_Run_l2 k) (d_slices_symMergeCmpFunc_api_Run_l3 k) (d_slices_symMergeCmpFunc_api_Run_l4 k) := by
  funext _ _ _ _ _ _; simp only [d_slices_rotateCmpFunc_api_Run, d_slices_symMergeCmpFunc_api_Run, d_slices_symMergeCmpFunc_api_Run_l0, d_slices_symMergeCmpFunc_api_Run_l1, d_slices_symMergeCmpFunc_api_Run_l2, d_slices_symMergeCmpFunc_api_Run_l3, d_slices_symMergeCmpFunc_api_Run_l4, hide_eq, b_slices_symMergeCmpFunc_api_Run, sw, strA, strR, str0]; kernel_rfl

theorem d_slices_rotateCmpFunc_api_Run_l0_eq (k n : Nat) : d_slices_rotateCmpFunc_api_Run_l0 k (n + 1) = b_slices_rotateCmpFunc_api_Run_l0 k (d_slices_swapRangeCmpFunc_api_Run k) (d_slices_rotateCmpFunc_api_Run_l0 k n) := by
  funext _ _ _ _ _ _ _ _; simp only [d_slices_rotateCmpFunc_api_Run_l0, d_slices_swapRangeCmpFunc_api_Run, hide_eq, b_slices_rotateCmpFunc_api_Run_l0, sw, strA, strR, str0]; kernel_rfl

theorem d_slices_rotateCmpFunc_api_Run_eq (k : Nat) : d_slices_rotateCmpFunc_api_Run (k + 1) = b_slices_rotateCmpFunc_api_Run k (d_slices_rotateCmpFunc_api_Run_l0 k) (d_slices_swapRangeCmpFunc_api_Run k) := by
  funext _ _ _ _ _ _; simp only [d_slices_rotateCmpFunc_api_Run, d_slices_rotateCmpFunc_api_Run_l0, d_slices_swapRangeCmpFunc_api_Run, hide_eq, b_slices_rotateCmpFunc_api_Run, sw, strA, strR, str0]; kernel_rfl

theorem d_slices_swapRangeCmpFunc_api_Run_l0_eq (k n : Nat) : d_slices_swapRangeCmpFunc_api_Run_l0 k (n + 1) = b_slices_swapRangeCmpFunc_api_Run_l0 k (d_slices_swapRangeCmpFunc_api_Run_l0 k n) := by
  funext _ _ _ _ _ _ _ _; simp only [d_slices_swapRangeCmpFunc_api_Run_l0, hide_eq, b_slices_swapRangeCmpFunc_api_Run_l0, sw, strA, strR, str0]; kernel_rfl

theorem d_slices_swapRangeCmpFunc_api_Run_eq (k : Nat) : d_slices_swapRangeCmpFunc_api_Run (k + 1) = b_slices_swapRangeCmpFunc_api_Run k (d_slices_swapRangeCmpFunc_api_Run_l0 k) := by
  funext _ _ _ _ _ _; simp only [d_slices_swapRangeCmpFunc_api_Run, d_slices_swapRangeCmpFunc_api_Run_l0, hide_eq, b_slices_swapRangeCmpFunc_api_Run, sw, strA, strR, str0]; kernel_rfl

theorem d_alloc_next_place_eq (k : Nat) : d_alloc_next_place (k + 1) = b_alloc_next_place k (d_alloc_Allocator_gaps k) (d_alloc_Allocator_start k) := by
  funext _ _ _; simp only [d_alloc_Allocator_gaps, d_alloc_Allocator_start, d_alloc_next_place, hide_eq, b_alloc_next_place, sw, strA, strR, str0]; kernel_rfl

theorem d_alloc_bump_place_eq (k : Nat) : d_alloc_bump_place (k + 1) = b_alloc_bump_place k (d_alloc_Allocator_bumped k) := by
  funext _ _ _; simp only [d_alloc_Allocator_bumped, d_alloc_bump_place, hide_eq, b_alloc_bump_place, sw, strA, strR, str0]; kernel_rfl

theorem d_alloc_Allocator_bumped_eq (k : Nat) : d_alloc_Allocator_bumped (k + 1) = b_alloc_Allocator_bumped k (d_alloc_Allocator_begin k) (d_alloc_area_has k) (d_alloc_area_take k) := by
  funext _ _ _ _; simp only [d_alloc_Allocator_begin, d_alloc_Allocator_bumped, d_alloc_area_has, d_alloc_area_take, hide_eq, b_alloc_Allocator_bumped, sw, strA, strR, str0]; kernel_rfl

theorem d_alloc_area_has_eq (k : Nat) : d_alloc_area_has (k + 1) = b_alloc_area_has k  := by
  funext _ _ _; simp only [d_alloc_area_has, hide_eq, b_alloc_area_has, sw, strA, strR, str0]; kernel_rfl

theorem d_alloc_area_take_eq (k : Nat) : d_alloc_area_take (k + 1) = b_alloc_area_take k  := by
  funext _ _ _; simp only [d_alloc_area_take, hide_eq, b_alloc_area_take, sw, strA, strR, str0]; kernel_rfl

theorem d_alloc_lines_place_eq (k : Nat) : d_alloc_lines_place (k + 1) = b_alloc_lines_place k (d_alloc_Allocator_bumped k) (d_alloc_Allocator_hole k) (d_alloc_area_has k) (d_alloc_area_take k) := by
  funext _ _ _; simp only [d_alloc_Allocator_bumped, d_alloc_Allocator_hole, d_alloc_area_has, d_alloc_area_take, d_alloc_lines_place, hide_eq, b_alloc_lines_place, sw, strA, strR, str0]; kernel_rfl

theorem d_alloc_Allocator_hole_l2_eq (k n : Nat) : d_alloc_Allocator_hole_l2 k (n + 1) = b_alloc_Allocator_hole_l2 k (d_alloc_Allocator_hole_l2 k n) := by
  funext _ _ _ _ _; simp only [d_alloc_Allocator_hole_l2, hide_eq, b_alloc_Allocator_hole_l2, sw, strA, strR, str0]; kernel_rfl

theorem d_alloc_Allocator_hole_l1_eq (k n : Nat) : d_alloc_Allocator_hole_l1 k (n + 1) = b_alloc_Allocator_hole_l1 k (d_alloc_Allocator_hole_l2 k) (d_alloc_Allocator_hole_l1 k n) := by
  funext _ _ _ _ _ _ _ _; simp only [d_alloc_Allocator_hole_l1, d_alloc_Allocator_hole_l2, hide_eq, b_alloc_Allocator_hole_l1, sw, strA, strR, str0]; kernel_rfl

theorem d_alloc_Allocator_hole_l0_eq (k n : Nat) : d_alloc_Allocator_hole_l0 k (n + 1) = b_alloc_Allocator_hole_l0 k (d_alloc_Allocator_hole_l1 k) (d_heap_Heap_Lines k) (d_alloc_Allocator_hole_l0 k n) := by
  funext _ _ _ _ _ _ _ _; simp only [d_alloc_Allocator_hole_l0, d_alloc_Allocator_hole_l1, d_heap_Heap_Lines, hide_eq, b_alloc_Allocator_hole_l0, sw, strA, strR, str0]; kernel_rfl

theorem d_alloc_Allocator_hole_eq (k : Nat) : d_alloc_Allocator_hole (k + 1) = b_alloc_Allocator_hole k (d_alloc_Allocator_begin k) (d_alloc_Allocator_blocks k) (d_alloc_Allocator_hole_l0 k) := by
  funext _ _; simp only [d_alloc_Allocator_begin, d_alloc_Allocator_blocks, d_alloc_Allocator_hole, d_alloc_Allocator_hole_l0, hide_eq, b_alloc_Allocator_hole, sw, strA, strR, str0]; kernel_rfl

theorem d_heap_Heap_Lines_l1_eq (k n : Nat) : d_heap_Heap_Lines_l1 k (n + 1) = b_heap_Heap_Lines_l1 k (d_heap_Heap_Lines_l1 k n) := by
  funext _ _ _ _ _; simp only [d_heap_Heap_Lines_l1, hide_eq, b_heap_Heap_Lines_l1, sw, strA, strR, str0]; kernel_rfl

theorem d_heap_Heap_Lines_l0_eq (k n : Nat) : d_heap_Heap_Lines_l0 k (n + 1) = b_heap_Heap_Lines_l0 k (d_heap_Heap_Lines_l1 k) (d_heap_Heap_size k) (d_heap_Heap_Lines_l0 k n) := by
  funext _ _ _ _ _ _ _ _ _; simp only [d_heap_Heap_Lines_l0, d_heap_Heap_Lines_l1, d_heap_Heap_size, hide_eq, b_heap_Heap_Lines_l0, sw, strA, strR, str0]; kernel_rfl

theorem d_heap_Heap_Lines_eq (k : Nat) : d_heap_Heap_Lines (k + 1) = b_heap_Heap_Lines k (d_heap_Heap_Lines_l0 k) (d_heap_Heap_Objects k) (d_heap_Heap_used k) := by
  funext _ _ _; simp only [d_heap_Heap_Lines, d_heap_Heap_Lines_l0, d_heap_Heap_Objects, d_heap_Heap_used, hide_eq, b_heap_Heap_Lines, sw, strA, strR, str0]; kernel_rfl

theorem law08_SweepNone_is (k : Nat) (x0_0 : Int) (x0_1 : Int) (x0_2 : Int) (x0_3 : Int) (x0_4 : Int) (x0_5 : Int) (x1 : Int) (x2 : Int) (σ : AMem) : fn P (XK Kn.b) H k 4 [.agg #[.int .i64 x0_0, .int .i64 x0_1, .int .i64 x0_2, .int .i64 x0_3, .int .i64 x0_4, .int .i64 x0_5], .int .i64 x1, .int .i64 x2] σ = d_law08_SweepNone k x0_0 x0_1 x0_2 x0_3 x0_4 x0_5 x1 x2 σ := by
  simp only [d_law08_SweepNone, hide_eq]

theorem callV_f_0_roots_Roots_all_c1 (k : Nat) (x0 : Value) (c0 : Option Addr) (σ : AMem) : d_callV_f_0 k (.func (.func 187) #[] #[.pointer c0]) [x0] σ = d_roots_Roots_all_c1 k x0 c0 σ := by
  simp only [d_callV_f_0, d_roots_Roots_all_c1, hide_eq]; kernel_rfl

theorem callV_pi_it_alloc_Allocator_large (k : Nat) (x0 : Option Addr) (x1 : Int) (σ : AMem) : d_callV_pi_it k (.func (.func 156) #[] #[]) [.pointer x0, .int .i64 x1] σ = d_alloc_Allocator_large k x0 x1 σ := by
  simp only [d_callV_pi_it, d_alloc_Allocator_large, hide_eq]; kernel_rfl

theorem callV_i_0_sweep_Collect_c1 (k : Nat) (x0 : Int) (c0 : Option Addr) (σ : AMem) : d_callV_i_0 k (.func (.func 97) #[] #[.pointer c0]) [.int .i64 x0] σ = d_sweep_Collect_c1 k x0 c0 σ := by
  simp only [d_callV_i_0, d_sweep_Collect_c1, hide_eq]; kernel_rfl

theorem callV_i_0_sweep_Sweeper_sweep_c2 (k : Nat) (x0 : Int) (c0 : Option Addr) (σ : AMem) : d_callV_i_0 k (.func (.func 196) #[] #[.pointer c0]) [.int .i64 x0] σ = d_sweep_Sweeper_sweep_c2 k x0 c0 σ := by
  simp only [d_callV_i_0, d_sweep_Sweeper_sweep_c2, hide_eq]; kernel_rfl

theorem callV_i_0_heap_Heap_Gaps_c1 (k : Nat) (x0 : Int) (c0 : Option Addr) (c1 : Option Addr) (σ : AMem) : d_callV_i_0 k (.func (.func 236) #[] #[.pointer c0, .pointer c1]) [.int .i64 x0] σ = d_heap_Heap_Gaps_c1 k x0 c0 c1 σ := by
  simp only [d_callV_i_0, d_heap_Heap_Gaps_c1, hide_eq]; kernel_rfl

theorem callV_i_t_trace_all_c1 (k : Nat) (x0 : Int) (c0 : Option Addr) (c1 : Option Addr) (σ : AMem) : d_callV_i_t k (.func (.func 134) #[] #[.pointer c0, .pointer c1]) [.int .i64 x0] σ = d_trace_all_c1 k x0 c0 c1 σ := by
  simp only [d_callV_i_t, d_trace_all_c1, hide_eq]; kernel_rfl

theorem callV_i_t_sound_Is_c1 (k : Nat) (x0 : Int) (c0 : Option Addr) (σ : AMem) : d_callV_i_t k (.func (.func 172) #[] #[.pointer c0]) [.int .i64 x0] σ = d_sound_Is_c1 k x0 c0 σ := by
  simp only [d_callV_i_t, d_sound_Is_c1, hide_eq]; kernel_rfl

theorem callV_i_t_sweep_Sweeper_sweep_c1 (k : Nat) (x0 : Int) (c0 : Option Addr) (σ : AMem) : d_callV_i_t k (.func (.func 195) #[] #[.pointer c0]) [.int .i64 x0] σ = d_sweep_Sweeper_sweep_c1 k x0 c0 σ := by
  simp only [d_callV_i_t, d_sweep_Sweeper_sweep_c1, hide_eq]; kernel_rfl

theorem callV_i_t_side_Table_check_c1 (k : Nat) (x0 : Int) (c0 : Option Addr) (σ : AMem) : d_callV_i_t k (.func (.func 237) #[] #[.pointer c0]) [.int .i64 x0] σ = d_side_Table_check_c1 k x0 c0 σ := by
  simp only [d_callV_i_t, d_side_Table_check_c1, hide_eq]; kernel_rfl

theorem callV_ii_t_sweep_Sweeper_roomy_c1 (k : Nat) (x0_0 : Int) (x0_1 : Int) (c0 : Option Addr) (σ : AMem) : d_callV_ii_t k (.func (.func 204) #[] #[.pointer c0]) [.agg #[.int .i64 x0_0, .int .i64 x0_1]] σ = d_sweep_Sweeper_roomy_c1 k x0_0 x0_1 c0 σ := by
  simp only [d_callV_ii_t, d_sweep_Sweeper_roomy_c1, hide_eq]; kernel_rfl

theorem callV_ii_tx_heap_Heap_claim_c1 (k : Nat) (x0_0 : Int) (x0_1 : Int) (σ : AMem) : d_callV_ii_tx k (.func (.func 252) #[] #[]) [.agg #[.int .i64 x0_0, .int .i64 x0_1]] σ = d_heap_Heap_claim_c1 k x0_0 x0_1 σ := by
  simp only [d_callV_ii_tx, d_heap_Heap_claim_c1, hide_eq]; kernel_rfl

theorem callV_iiii_i_alloc_best_place_c1 (k : Nat) (x0_0 : Int) (x0_1 : Int) (x1_0 : Int) (x1_1 : Int) (σ : AMem) : d_callV_iiii_i k (.func (.func 288) #[] #[]) [.agg #[.int .i64 x0_0, .int .i64 x0_1], .agg #[.int .i64 x1_0, .int .i64 x1_1]] σ = d_alloc_best_place_c1 k x0_0 x0_1 x1_0 x1_1 σ := by
  simp only [d_callV_iiii_i, d_alloc_best_place_c1, hide_eq]; kernel_rfl

theorem callV_iiip_t_roots_Roots_Places_r (k : Nat) (h : Nat) (qh0 : Nat) (z0_0 : Int) (z0_1 : Int) (z0_2 : Int) (z1 : Option Addr) (σ : AMem) (hσ : σ[h]? = some (.loop 54 .ready (rgs 0 17 [(3, .pointer (some ⟨qh0, 0, none⟩))]))) : d_callV_iiip_t (k + 1) (.func (.yield h) #[] #[]) [.agg #[.int .i64 z0_0, .int .i64 z0_1, .int .i64 z0_2], .pointer z1] σ = b_roots_Roots_Places_r k  h qh0 z0_0 z0_1 z0_2 z1 σ := by
  simp only [d_callV_iiip_t, hide_eq, b_roots_Roots_Places_r, sw, strA, strR, str0]
  exact (round_eq (F := Tryz.f54) (c := bodyC Tryz.f54) (x := (theRange (bodyC Tryz.f54)).getD default) hσ (by kernel_rfl) (by kernel_rfl) (by kernel_rfl) (by kernel_rfl) (by kernel_rfl) (by kernel_rfl)).trans (by kernel_rfl)

theorem callV_iiip_t_roots_Roots_Leads_r (k : Nat) (h : Nat) (qh0 : Nat) (z0_0 : Int) (z0_1 : Int) (z0_2 : Int) (z1 : Option Addr) (σ : AMem) (hσ : σ[h]? = some (.loop 60 .ready (rgs 0 26 [(3, .pointer (some ⟨qh0, 0, none⟩))]))) : d_callV_iiip_t (k + 1) (.func (.yield h) #[] #[]) [.agg #[.int .i64 z0_0, .int .i64 z0_1, .int .i64 z0_2], .pointer z1] σ = b_roots_Roots_Leads_r k (d_slices_Contains_int k) h qh0 z0_0 z0_1 z0_2 z1 σ := by
  simp only [d_callV_iiip_t, d_slices_Contains_int, hide_eq, b_roots_Roots_Leads_r, sw, strA, strR, str0]
  exact (round_eq (F := Tryz.f60) (c := bodyC Tryz.f60) (x := (theRange (bodyC Tryz.f60)).getD default) hσ (by kernel_rfl) (by kernel_rfl) (by kernel_rfl) (by kernel_rfl) (by kernel_rfl) (by kernel_rfl)).trans (by kernel_rfl)

end

theorem d_law08_alive_eq [Quiet] (k : Nat) (σ : AMem) : @d_law08_alive _ ⟨true⟩ (k + 1) σ = some (.bool true, σ) := by
  simp only [d_law08_alive, hide_eq]; kernel_rfl

theorem eqA_ptrs (a : Addr) : eqA P pt_side_Table (.pointer (some a)) (.pointer none) = some false ∧ eqA P pt_side_Table (.pointer none) (.pointer none) = some true ∧ eqA P pt_heap_Heap (.pointer (some a)) (.pointer none) = some false ∧ eqA P pt_heap_Heap (.pointer none) (.pointer none) = some true ∧ eqA P pt_roots_Roots (.pointer (some a)) (.pointer none) = some false ∧ eqA P pt_roots_Roots (.pointer none) (.pointer none) = some true ∧ eqA P pt_sweep_Sweeper (.pointer (some a)) (.pointer none) = some false ∧ eqA P pt_sweep_Sweeper (.pointer none) (.pointer none) = some true ∧ eqA P pt_dustcartref08_Sweeper (.pointer (some a)) (.pointer none) = some false ∧ eqA P pt_dustcartref08_Sweeper (.pointer none) (.pointer none) = some true ∧ eqA P pt_alloc_Allocator (.pointer (some a)) (.pointer none) = some false ∧ eqA P pt_alloc_Allocator (.pointer none) (.pointer none) = some true ∧ eqA P pt_dustcartref02_Heap (.pointer (some a)) (.pointer none) = some false ∧ eqA P pt_dustcartref02_Heap (.pointer none) (.pointer none) = some true ∧ eqA P pt_dustcartref05_Allocator (.pointer (some a)) (.pointer none) = some false ∧ eqA P pt_dustcartref05_Allocator (.pointer none) (.pointer none) = some true ∧ eqA P pt_int (.pointer (some a)) (.pointer none) = some false ∧ eqA P pt_int (.pointer none) (.pointer none) = some true ∧ eqA P pt_dustcartref01_Table (.pointer (some a)) (.pointer none) = some false ∧ eqA P pt_dustcartref01_Table (.pointer none) (.pointer none) = some true := by
  refine ⟨?_, ?_, ?_, ?_, ?_, ?_, ?_, ?_, ?_, ?_, ?_, ?_, ?_, ?_, ?_, ?_, ?_, ?_, ?_, ?_⟩ <;> kernel_rfl

abbrev fn_law08_SweepNone : FuncId := 4
abbrev fn_heap_New : FuncId := 7
abbrev fn_roots_New : FuncId := 8
abbrev fn_trace_Mark : FuncId := 9
abbrev fn_trace_Clear : FuncId := 13
abbrev fn_trace_Marked : FuncId := 14
abbrev fn_side_New : FuncId := 16
abbrev fn_law08_play : FuncId := 17
abbrev fn_sweep_Sweeper_Left : FuncId := 18
abbrev fn_sweep_Sweeper_Clone : FuncId := 19
abbrev fn_sweep_New : FuncId := 20
abbrev fn_sweep_Collect : FuncId := 21
abbrev fn_law08_alive : FuncId := 22
abbrev fn_trace_given : FuncId := 52
abbrev fn_trace_table : FuncId := 53
abbrev fn_roots_Roots_Places : FuncId := 54
abbrev fn_roots_Roots_Get : FuncId := 55
abbrev fn_trace_marker_reach : FuncId := 56
abbrev fn_trace_marker_run : FuncId := 57
abbrev fn_trace_marker_round : FuncId := 58
abbrev fn_roots_Roots_Leads : FuncId := 60
abbrev fn_trace_due : FuncId := 61
abbrev fn_trace_all : FuncId := 63
abbrev fn_heap_Heap_Has : FuncId := 64
abbrev fn_heap_Heap_All : FuncId := 65
abbrev fn_trace_strong : FuncId := 66
abbrev fn___trace_line_int__oldest : FuncId := 67
abbrev fn___trace_line_int__add : FuncId := 68
abbrev fn_trace_fits : FuncId := 69
abbrev fn_heap_Heap_Shape : FuncId := 70
abbrev fn_trace_softs : FuncId := 71
abbrev fn_heap_Heap_Ref : FuncId := 72
abbrev fn_trace_marked : FuncId := 73
abbrev fn_heap_Heap_SetRef : FuncId := 74
abbrev fn_slices_Contains_int : FuncId := 76
abbrev fn_sweep_Sweeper_Block : FuncId := 77
abbrev fn_ref08_Sweeper_Block : FuncId := 78
abbrev fn_sweep_Sweeper_Need : FuncId := 79
abbrev fn_ref08_Sweeper_Need : FuncId := 80
abbrev fn_ref02_Heap_All : FuncId := 81
abbrev fn_sweep_Sweeper_Born : FuncId := 82
abbrev fn_ref08_Sweeper_Born : FuncId := 83
abbrev fn_sweep_Sweeper_Finish : FuncId := 84
abbrev fn_ref08_Sweeper_Finish : FuncId := 85
abbrev fn_alloc_Allocator_Alloc : FuncId := 86
abbrev fn_ref05_Allocator_Alloc : FuncId := 87
abbrev fn_sweep_Sweeper_made : FuncId := 88
abbrev fn_slices_Clone_int : FuncId := 89
abbrev fn_heap_Heap_Blocks : FuncId := 90
abbrev fn_side_Table_Clone : FuncId := 91
abbrev fn_side_Table_Width : FuncId := 92
abbrev fn_side_Table_Entries : FuncId := 93
abbrev fn_sweep_held : FuncId := 94
abbrev fn_sound_Is : FuncId := 95
abbrev fn_sweep_block : FuncId := 96
abbrev fn_sweep_Collect_c1 : FuncId := 97
abbrev fn_heap_Heap_Used : FuncId := 98
abbrev fn_law06_NewWorld : FuncId := 99
abbrev fn_roots_Roots_Set : FuncId := 100
abbrev fn_ref01_Ints : FuncId := 101
abbrev fn_heap_Heap_State : FuncId := 102
abbrev fn_roots_Roots_Mutators : FuncId := 124
abbrev fn_roots_Roots_made : FuncId := 125
abbrev fn_roots_Roots_all : FuncId := 126
abbrev fn_roots_Roots_place : FuncId := 127
abbrev fn_trace_mark : FuncId := 128
abbrev fn_trace_marker_drain : FuncId := 129
abbrev fn_trace_marker_scan : FuncId := 130
abbrev fn_slices_DeleteFunc_int : FuncId := 133
abbrev fn_trace_all_c1 : FuncId := 134
abbrev fn_heap_Heap_made : FuncId := 135
abbrev fn_side_Table_Get : FuncId := 136
abbrev fn_heap_Heap_between : FuncId := 137
abbrev fn_heap_Heap_object : FuncId := 138
abbrev fn_heap_shape : FuncId := 139
abbrev fn_heap_Heap_field : FuncId := 140
abbrev fn_slices_Index_int : FuncId := 141
abbrev fn_sweep_Sweeper_sweep : FuncId := 142
abbrev fn_ref08_Sweeper_Made : FuncId := 143
abbrev fn_ref08_Sweep : FuncId := 144
abbrev fn_sweep_Sweeper_roomy : FuncId := 145
abbrev fn_ref02_Heap_State : FuncId := 146
abbrev fn_ref02_Heap_Gaps : FuncId := 147
abbrev fn_ref02_Heap_Made : FuncId := 148
abbrev fn_side_Table_Set : FuncId := 149
abbrev fn_ref02_Heap_Has : FuncId := 150
abbrev fn_ref01_Table_Set : FuncId := 151
abbrev fn_alloc_Allocator_made : FuncId := 152
abbrev fn_heap_Valid : FuncId := 153
abbrev fn_heap_Words : FuncId := 154
abbrev fn_alloc_policies : FuncId := 155
abbrev fn_alloc_Allocator_large : FuncId := 156
abbrev fn_heap_Heap_Space : FuncId := 157
abbrev fn_heap_Heap_Place : FuncId := 158
abbrev fn_ref05_Allocator_Made : FuncId := 159
abbrev fn_ref02_Valid : FuncId := 160
abbrev fn_ref02_Large : FuncId := 161
abbrev fn_ref02_Need : FuncId := 162
abbrev fn_ref05_Free : FuncId := 163
abbrev fn_ref02_Heap_ClaimLarge : FuncId := 164
abbrev fn_ref05_Allocator_place : FuncId := 165
abbrev fn_ref02_Words : FuncId := 166
abbrev fn_ref05_Allocator_bump : FuncId := 167
abbrev fn_ref05_Allocator_lines : FuncId := 168
abbrev fn_ref05_Allocator_choose : FuncId := 169
abbrev fn_side_Table_made : FuncId := 170
abbrev fn_slices_Clone_uint64 : FuncId := 171
abbrev fn_sound_Is_c1 : FuncId := 172
abbrev fn_slices_ContainsFunc_int : FuncId := 173
abbrev fn_heap_Heap_Objects : FuncId := 174
abbrev fn_heap_Heap_Kill : FuncId := 175
abbrev fn_heap_Heap_Release : FuncId := 176
abbrev fn_heap_Heap_size : FuncId := 177
abbrev fn_law06_blocks : FuncId := 178
abbrev fn_law06_mutators : FuncId := 179
abbrev fn_model_New : FuncId := 180
abbrev fn_alloc_New : FuncId := 181
abbrev fn_roots_Roots_all_c1 : FuncId := 187
abbrev fn_roots_Roots_at : FuncId := 188
abbrev fn_side_Table_Swap : FuncId := 189
abbrev fn___trace_line_int__newest : FuncId := 190
abbrev fn_slices_IndexFunc_int : FuncId := 191
abbrev fn_side_Table_there : FuncId := 192
abbrev fn_side_Table_get : FuncId := 193
abbrev fn_side_Table_Next : FuncId := 194
abbrev fn_sweep_Sweeper_sweep_c1 : FuncId := 195
abbrev fn_sweep_Sweeper_sweep_c2 : FuncId := 196
abbrev fn_ref02_Heap_Objects : FuncId := 197
abbrev fn_ref01_Table_Get : FuncId := 198
abbrev fn_ref02_Heap_Shape : FuncId := 199
abbrev fn_ref02_Heap_Kill : FuncId := 200
abbrev fn_ref02_Heap_Release : FuncId := 201
abbrev fn_slices_ContainsFunc_api_Run : FuncId := 202
abbrev fn_heap_Heap_Gaps : FuncId := 203
abbrev fn_sweep_Sweeper_roomy_c1 : FuncId := 204
abbrev fn_ref02_Heap_Index : FuncId := 205
abbrev fn_side_Table_check : FuncId := 206
abbrev fn_side_Table_put : FuncId := 207
abbrev fn_ref01_Table_made : FuncId := 208
abbrev fn_ref01_Table_has : FuncId := 209
abbrev fn_ref01_Table_may : FuncId := 210
abbrev fn_heap_Heap_ClaimLarge : FuncId := 211
abbrev fn_heap_Heap_fits : FuncId := 212
abbrev fn_heap_number : FuncId := 213
abbrev fn_ref02_Heap_Blocks : FuncId := 214
abbrev fn_ref02_Heap_block : FuncId := 215
abbrev fn_ref02_space : FuncId := 216
abbrev fn_ref02_Heap_Claim : FuncId := 217
abbrev fn_ref02_Heap_Space : FuncId := 218
abbrev fn_ref02_Heap_Place : FuncId := 219
abbrev fn_ref05_Allocator_over : FuncId := 220
abbrev fn_ref05_Holes : FuncId := 221
abbrev fn_ref05_Allocator_gaps : FuncId := 222
abbrev fn_heap_Heap_wipe : FuncId := 223
abbrev fn_heap_Heap_held : FuncId := 224
abbrev fn_heap_Heap_span : FuncId := 225
abbrev fn_roots_Roots_at_c1 : FuncId := 229
abbrev fn_side_Table_most : FuncId := 230
abbrev fn_ref02_Heap_lacks : FuncId := 231
abbrev fn_ref02_Heap_cut : FuncId := 232
abbrev fn_ref02_Heap_Whole : FuncId := 233
abbrev fn_slices_IndexFunc_api_Run : FuncId := 234
abbrev fn_heap_Heap_used : FuncId := 235
abbrev fn_heap_Heap_Gaps_c1 : FuncId := 236
abbrev fn_side_Table_check_c1 : FuncId := 237
abbrev fn_side_Table_value : FuncId := 238
abbrev fn_heap_Heap_claim : FuncId := 239
abbrev fn_heap_Heap_Find : FuncId := 240
abbrev fn_ref02_Heap_fits : FuncId := 241
abbrev fn_ref02_Heap_put : FuncId := 242
abbrev fn_ref02_Heap_Lines : FuncId := 243
abbrev fn_heap_Heap_there : FuncId := 244
abbrev fn_heap_space : FuncId := 250
abbrev fn_slices_ContainsFunc_heap_block : FuncId := 251
abbrev fn_heap_Heap_claim_c1 : FuncId := 252
abbrev fn_side_Table_Last : FuncId := 253
abbrev fn_ref02_Heap_Find : FuncId := 254
abbrev fn_slices_IndexFunc_heap_block : FuncId := 256
abbrev fn_alloc_first_place : FuncId := 280
abbrev fn_alloc_Allocator_start : FuncId := 281
abbrev fn_alloc_Allocator_gaps : FuncId := 282
abbrev fn_alloc_Allocator_begin : FuncId := 283
abbrev fn_alloc_Allocator_blocks : FuncId := 284
abbrev fn_heap_Heap_Claim : FuncId := 285
abbrev fn_alloc_best_place : FuncId := 286
abbrev fn_slices_SortStableFunc_api_Run : FuncId := 287
abbrev fn_alloc_best_place_c1 : FuncId := 288
abbrev fn_slices_stableCmpFunc_api_Run : FuncId := 289
abbrev fn_slices_insertionSortCmpFunc_api_Run : FuncId := 290
abbrev fn_slices_symMergeCmpFunc_api_Run : FuncId := 291
abbrev fn_slices_rotateCmpFunc_api_Run : FuncId := 292
abbrev fn_slices_swapRangeCmpFunc_api_Run : FuncId := 293
abbrev fn_alloc_next_place : FuncId := 294
abbrev fn_alloc_bump_place : FuncId := 295
abbrev fn_alloc_Allocator_bumped : FuncId := 296
abbrev fn_alloc_area_has : FuncId := 297
abbrev fn_alloc_area_take : FuncId := 298
abbrev fn_alloc_lines_place : FuncId := 299
abbrev fn_alloc_Allocator_hole : FuncId := 300
abbrev fn_heap_Heap_Lines : FuncId := 301

section
local instance kn0 : Kn := ⟨false⟩
variable [Quiet]

theorem d_law08_alive_run_eq (k : Nat) : d_law08_alive (k + 1) = b_law08_alive k (d_alloc_Allocator_Alloc k) (d_heap_Heap_State k) (d_law06_NewWorld k) (d_ref01_Ints k) (d_roots_Roots_Set k) (d_sweep_Collect k) (d_sweep_New k) (d_sweep_Sweeper_Block k) (d_sweep_Sweeper_Left k) (d_trace_Mark k) := by
  funext  _; simp only [d_alloc_Allocator_Alloc, d_heap_Heap_State, d_law06_NewWorld, d_law08_alive, d_ref01_Ints, d_roots_Roots_Set, d_sweep_Collect, d_sweep_New, d_sweep_Sweeper_Block, d_sweep_Sweeper_Left, d_trace_Mark, hide_eq, b_law08_alive, sw, strA, strR, str0]; kernel_rfl

end

end Go.Proofs.YtilefhlamdiomaaGreat
