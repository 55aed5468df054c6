/-
  PRINTED BY A PROGRAM OF THIS SESSION'S OWN (gen2.py): the unfolding equations.
-/
import Derived.Test.YtilefhlamdiomaaGreatF0
set_option maxRecDepth 100000
set_option linter.unusedVariables false
set_option linter.unusedSimpArgs false
set_option linter.unusedSectionVars false
namespace Go.Proofs.YtilefhlamdiomaaGreat
open Go Go.AX
section
variable [Quiet] [Kn]

theorem d_law07_TraceNone_l0_eq (k n : Nat) (i0 : Int) (i1 : Int) (i2 : Int) (i3 : Int) (h4 : Nat) (h5 : Nat) (x18 : Int) (σ : AMem) : d_law07_TraceNone_l0 k (n + 1) i0 i1 i2 i3 h4 h5 x18 σ = b_law07_TraceNone_l0 k n (d_law07_TraceNone_l0 k) (d_trace_Kept k) (d_trace_Mark k) (d_trace_Share k) (d_trace_Shortest k) i0 i1 i2 i3 h4 h5 x18 σ := by
  simp only [d_law07_TraceNone_l0, d_trace_Kept, d_trace_Mark, d_trace_Share, d_trace_Shortest, hide_eq]; kernel_rfl

theorem d_law07_TraceNone_eq (k : Nat) (x0 : Int) (x1 : Int) (x2 : Int) (x3 : Int) (σ : AMem) : d_law07_TraceNone (k + 1) x0 x1 x2 x3 σ = b_law07_TraceNone k (d_heap_New k) (d_law07_TraceNone_l0 k) (d_law07_alive k) (d_roots_New k) (d_trace_Clear k) (d_trace_Marked k) x0 x1 x2 x3 σ := by
  simp only [d_heap_New, d_law07_TraceNone, d_law07_TraceNone_l0, d_law07_alive, d_roots_New, d_trace_Clear, d_trace_Marked, hide_eq]; kernel_rfl

theorem d_heap_New_eq (k : Nat) (x0 : Int) (σ : AMem) : d_heap_New (k + 1) x0 σ = b_heap_New k (d_side_New k) x0 σ := by
  simp only [d_heap_New, d_side_New, hide_eq]; kernel_rfl

theorem d_roots_New_eq (k : Nat) (x0 : Int) (σ : AMem) : d_roots_New (k + 1) x0 σ = b_roots_New k  x0 σ := by
  simp only [d_roots_New, hide_eq]; kernel_rfl

theorem d_trace_Mark_l0_eq (k n : Nat) (p0 : Option Addr) (h1 : Nat) (p2 : Option Addr) (c3 : Nat) (c4 : Nat) (i5 : Int) (x47 : Int) (σ : AMem) : d_trace_Mark_l0 k (n + 1) p0 h1 p2 c3 c4 i5 x47 σ = b_trace_Mark_l0 k n (d_roots_Roots_Get k) (d_trace_Mark_l0 k) (d_trace_marker_reach k) p0 h1 p2 c3 c4 i5 x47 σ := by
  simp only [d_roots_Roots_Get, d_trace_Mark_l0, d_trace_marker_reach, hide_eq]; kernel_rfl

theorem d_trace_Mark_l1_eq (k n : Nat) (h0 : Nat) (σ : AMem) : d_trace_Mark_l1 k (n + 1) h0 σ = b_trace_Mark_l1 k n (d_trace_Mark_l1 k) (d_trace_marker_round k) (d_trace_marker_run k) h0 σ := by
  simp only [d_trace_Mark_l1, d_trace_marker_round, d_trace_marker_run, hide_eq]; kernel_rfl

theorem d_trace_Mark_eq (k : Nat) (x0 : Option Addr) (x1 : Option Addr) (x2 : Int) (x3 : Int) (σ : AMem) : d_trace_Mark (k + 1) x0 x1 x2 x3 σ = b_trace_Mark k (d_roots_Roots_Places k) (d_trace_Mark_l0 k) (d_trace_Mark_l1 k) (d_trace_given k) (d_trace_marker_run k) (d_trace_table k) x0 x1 x2 x3 σ := by
  simp only [d_roots_Roots_Places, d_trace_Mark, d_trace_Mark_l0, d_trace_Mark_l1, d_trace_given, d_trace_marker_run, d_trace_table, hide_eq]; kernel_rfl

theorem d_trace_Share_l0_eq (k n : Nat) (p0 : Option Addr) (h1 : Nat) (x11 : Bool) (σ : AMem) : d_trace_Share_l0 k (n + 1) p0 h1 x11 σ = b_trace_Share_l0 k n (d_trace_Share_l0 k) (d_trace_crew_deal k) (d_trace_crew_work k) (d_trace_due k) p0 h1 x11 σ := by
  simp only [d_trace_Share_l0, d_trace_crew_deal, d_trace_crew_work, d_trace_due, hide_eq]; kernel_rfl

theorem d_trace_Share_l1_eq (k n : Nat) (p0 : Option Addr) (c1 : Nat) (c2 : Nat) (i3 : Int) (x12 : Option Addr × Nat × Nat) (x54 : Int) (σ : AMem) : d_trace_Share_l1 k (n + 1) p0 c1 c2 i3 x12 x54 σ = b_trace_Share_l1 k n (d_trace_Share_l1 k) p0 c1 c2 i3 x12 x54 σ := by
  simp only [d_trace_Share_l1, hide_eq]; kernel_rfl

theorem d_trace_Share_eq (k : Nat) (x0 : Option Addr) (x1 : Option Addr) (x2 : Int) (σ : AMem) : d_trace_Share (k + 1) x0 x1 x2 σ = b_trace_Share k (d_roots_Roots_Leads k) (d_trace_Share_l0 k) (d_trace_Share_l1 k) (d_trace_crew_deal k) (d_trace_given k) (d_trace_table k) x0 x1 x2 σ := by
  simp only [d_roots_Roots_Leads, d_trace_Share, d_trace_Share_l0, d_trace_Share_l1, d_trace_crew_deal, d_trace_given, d_trace_table, hide_eq]; kernel_rfl

theorem d_trace_Kept_eq (k : Nat) (x0 : Option Addr) (x1 : Option Addr) (σ : AMem) : d_trace_Kept (k + 1) x0 x1 σ = b_trace_Kept k (d_trace_Mark k) (d_trace_all k) x0 x1 σ := by
  simp only [d_trace_Kept, d_trace_Mark, d_trace_all, hide_eq]; kernel_rfl

theorem d_trace_Shortest_eq (k : Nat) (x0 : Option Addr) (x1 : Option Addr) (x2 : Int) (σ : AMem) : d_trace_Shortest (k + 1) x0 x1 x2 σ = b_trace_Shortest k (d_heap_Heap_Has k) (d_trace_given k) x0 x1 x2 σ := by
  simp only [d_heap_Heap_Has, d_trace_Shortest, d_trace_given, hide_eq]; kernel_rfl

theorem d_trace_Clear_l1_eq (k n : Nat) (p0 : Option Addr) (i1 : Int) (i2 : Int) (x14 : Bool) (x53 : Int) (σ : AMem) : d_trace_Clear_l1 k (n + 1) p0 i1 i2 x14 x53 σ = b_trace_Clear_l1 k n (d_heap_Heap_Ref k) (d_heap_Heap_SetRef k) (d_trace_Clear_l1 k) p0 i1 i2 x14 x53 σ := by
  simp only [d_heap_Heap_Ref, d_heap_Heap_SetRef, d_trace_Clear_l1, hide_eq]; kernel_rfl

theorem d_trace_Clear_l0_eq (k n : Nat) (p0 : Option Addr) (p1 : Option Addr) (p2 : Option Addr) (c3 : Nat) (c4 : Nat) (i5 : Int) (x6 : Int) (x26 : Int) (σ : AMem) : d_trace_Clear_l0 k (n + 1) p0 p1 p2 c3 c4 i5 x6 x26 σ = b_trace_Clear_l0 k n (d_heap_Heap_Ref k) (d_heap_Heap_Shape k) (d_trace_Clear_l0 k) (d_trace_Clear_l1 k) (d_trace_marked k) (d_trace_softs k) p0 p1 p2 c3 c4 i5 x6 x26 σ := by
  simp only [d_heap_Heap_Ref, d_heap_Heap_Shape, d_trace_Clear_l0, d_trace_Clear_l1, d_trace_marked, d_trace_softs, hide_eq]; kernel_rfl

theorem d_trace_Clear_eq (k : Nat) (x0 : Option Addr) (x1 : Option Addr) (σ : AMem) : d_trace_Clear (k + 1) x0 x1 σ = b_trace_Clear k (d_trace_Clear_l0 k) (d_trace_all k) (d_trace_fits k) x0 x1 σ := by
  simp only [d_trace_Clear, d_trace_Clear_l0, d_trace_all, d_trace_fits, hide_eq]; kernel_rfl

theorem d_trace_Marked_eq (k : Nat) (x0 : Option Addr) (x1 : Option Addr) (x2 : Int) (σ : AMem) : d_trace_Marked (k + 1) x0 x1 x2 σ = b_trace_Marked k (d_trace_fits k) (d_trace_marked k) x0 x1 x2 σ := by
  simp only [d_trace_Marked, d_trace_fits, d_trace_marked, hide_eq]; kernel_rfl

theorem d_law07_alive_eq (k : Nat)  (σ : AMem) : d_law07_alive (k + 1)  σ = b_law07_alive k (d_law07_Chain k) (d_trace_Mark k)  σ := by
  simp only [d_law07_Chain, d_law07_alive, d_trace_Mark, hide_eq]; kernel_rfl

theorem d_side_New_eq (k : Nat) (x0 : Int) (x1 : Int) (σ : AMem) : d_side_New (k + 1) x0 x1 σ = b_side_New k (d_slices_Contains_int k) x0 x1 σ := by
  simp only [d_side_New, d_slices_Contains_int, hide_eq]; kernel_rfl

theorem d_trace_given_eq (k : Nat) (x0 : Option Addr) (x1 : Option Addr) (σ : AMem) : d_trace_given (k + 1) x0 x1 σ = b_trace_given k (d_heap_Heap_Blocks k) (d_roots_Roots_Mutators k) x0 x1 σ := by
  simp only [d_heap_Heap_Blocks, d_roots_Roots_Mutators, d_trace_given, hide_eq]; kernel_rfl

theorem d_trace_table_eq (k : Nat) (x0 : Option Addr) (σ : AMem) : d_trace_table (k + 1) x0 σ = b_trace_table k (d_heap_Heap_Blocks k) (d_side_New k) x0 σ := by
  simp only [d_heap_Heap_Blocks, d_side_New, d_trace_table, hide_eq]; kernel_rfl

theorem d_roots_Roots_Places_eq (k : Nat) (x0 : Option Addr) (σ : AMem) : d_roots_Roots_Places (k + 1) x0 σ = b_roots_Roots_Places k (d_callV_f_0 k) (d_roots_Roots_all k) (d_roots_Roots_made k) x0 σ := by
  simp only [d_callV_f_0, d_roots_Roots_Places, d_roots_Roots_all, d_roots_Roots_made, hide_eq]; kernel_rfl

theorem d_roots_Roots_Get_eq (k : Nat) (x0 : Option Addr) (x1_0 : Int) (x1_1 : Int) (x1_2 : Int) (σ : AMem) : d_roots_Roots_Get (k + 1) x0 x1_0 x1_1 x1_2 σ = b_roots_Roots_Get k (d_roots_Roots_place k) x0 x1_0 x1_1 x1_2 σ := by
  simp only [d_roots_Roots_Get, d_roots_Roots_place, hide_eq]; kernel_rfl

theorem d_trace_marker_reach_eq (k : Nat) (x0 : Option Addr) (x1 : Int) (σ : AMem) : d_trace_marker_reach (k + 1) x0 x1 σ = b_trace_marker_reach k (d___trace_line_int__add k) (d_trace_mark k) x0 x1 σ := by
  simp only [d___trace_line_int__add, d_trace_mark, d_trace_marker_reach, hide_eq]; kernel_rfl

theorem d_trace_marker_run_l1_eq (k n : Nat) (p0 : Option Addr) (p1 : Option Addr) (c2 : Nat) (c3 : Nat) (i4 : Int) (x32 : Int) (σ : AMem) : d_trace_marker_run_l1 k (n + 1) p0 p1 c2 c3 i4 x32 σ = b_trace_marker_run_l1 k n (d_trace_marker_drain k) (d_trace_marker_run_l1 k) (d_trace_marker_scan k) p0 p1 c2 c3 i4 x32 σ := by
  simp only [d_trace_marker_drain, d_trace_marker_run_l1, d_trace_marker_scan, hide_eq]; kernel_rfl

theorem d_trace_marker_run_l0_eq (k n : Nat) (p0 : Option Addr) (σ : AMem) : d_trace_marker_run_l0 k (n + 1) p0 σ = b_trace_marker_run_l0 k n (d_trace_all k) (d_trace_marker_run_l0 k) (d_trace_marker_run_l1 k) p0 σ := by
  simp only [d_trace_all, d_trace_marker_run_l0, d_trace_marker_run_l1, hide_eq]; kernel_rfl

theorem d_trace_marker_run_eq (k : Nat) (x0 : Option Addr) (σ : AMem) : d_trace_marker_run (k + 1) x0 σ = b_trace_marker_run k (d_trace_marker_drain k) (d_trace_marker_run_l0 k) x0 σ := by
  simp only [d_trace_marker_drain, d_trace_marker_run, d_trace_marker_run_l0, hide_eq]; kernel_rfl

theorem d_trace_marker_round_l0_eq (k n : Nat) (p0 : Option Addr) (p1 : Option Addr) (c2 : Nat) (c3 : Nat) (i4 : Int) (x3 : Bool) (x25 : Int) (σ : AMem) : d_trace_marker_round_l0 k (n + 1) p0 p1 c2 c3 i4 x3 x25 σ = b_trace_marker_round_l0 k n (d_trace_marker_reach k) (d_trace_marker_round_l0 k) p0 p1 c2 c3 i4 x3 x25 σ := by
  simp only [d_trace_marker_reach, d_trace_marker_round_l0, hide_eq]; kernel_rfl

theorem d_trace_marker_round_eq (k : Nat) (x0 : Option Addr) (σ : AMem) : d_trace_marker_round (k + 1) x0 σ = b_trace_marker_round k (d_trace_due k) (d_trace_marker_round_l0 k) x0 σ := by
  simp only [d_trace_due, d_trace_marker_round, d_trace_marker_round_l0, hide_eq]; kernel_rfl

theorem d_trace_crew_deal_l0_eq (k n : Nat) (p0 : Option Addr) (p1 : Option Addr) (c2 : Nat) (c3 : Nat) (i4 : Int) (x5 : Int) (x10 : Int) (σ : AMem) : d_trace_crew_deal_l0 k (n + 1) p0 p1 c2 c3 i4 x5 x10 σ = b_trace_crew_deal_l0 k n (d___trace_line_int__add k) (d_trace_crew_deal_l0 k) (d_trace_mark k) p0 p1 c2 c3 i4 x5 x10 σ := by
  simp only [d___trace_line_int__add, d_trace_crew_deal_l0, d_trace_mark, hide_eq]; kernel_rfl

theorem d_trace_crew_deal_eq (k : Nat) (x0 : Option Addr) (x1 : Option Addr × Nat × Nat) (σ : AMem) : d_trace_crew_deal (k + 1) x0 x1 σ = b_trace_crew_deal k (d_trace_crew_deal_l0 k) x0 x1 σ := by
  simp only [d_trace_crew_deal, d_trace_crew_deal_l0, hide_eq]; kernel_rfl

theorem d_roots_Roots_Leads_eq (k : Nat) (x0 : Option Addr) (σ : AMem) : d_roots_Roots_Leads (k + 1) x0 σ = b_roots_Roots_Leads k (d_callV_f_0 k) (d_roots_Roots_all k) (d_roots_Roots_made k) x0 σ := by
  simp only [d_callV_f_0, d_roots_Roots_Leads, d_roots_Roots_all, d_roots_Roots_made, hide_eq]; kernel_rfl

theorem d_trace_due_l0_eq (k n : Nat) (p0 : Option Addr) (p1 : Option Addr) (p2 : Option Addr) (c3 : Nat) (c4 : Nat) (i5 : Int) (x5 : Option Addr × Nat × Nat) (x18 : Int) (σ : AMem) : d_trace_due_l0 k (n + 1) p0 p1 p2 c3 c4 i5 x5 x18 σ = b_trace_due_l0 k n (d_heap_Heap_Ref k) (d_heap_Heap_Shape k) (d_trace_due_l0 k) (d_trace_marked k) p0 p1 p2 c3 c4 i5 x5 x18 σ := by
  simp only [d_heap_Heap_Ref, d_heap_Heap_Shape, d_trace_due_l0, d_trace_marked, hide_eq]; kernel_rfl

theorem d_trace_due_eq (k : Nat) (x0 : Option Addr) (x1 : Option Addr) (σ : AMem) : d_trace_due (k + 1) x0 x1 σ = b_trace_due k (d_trace_all k) (d_trace_due_l0 k) x0 x1 σ := by
  simp only [d_trace_all, d_trace_due, d_trace_due_l0, hide_eq]; kernel_rfl

theorem d_trace_crew_work_l1_eq (k n : Nat) (p0 : Option Addr) (i1 : Int) (x8 : Int) (σ : AMem) : d_trace_crew_work_l1 k (n + 1) p0 i1 x8 σ = b_trace_crew_work_l1 k n (d_trace_crew_longest k) (d_trace_crew_turn k) (d_trace_crew_work_l1 k) p0 i1 x8 σ := by
  simp only [d_trace_crew_longest, d_trace_crew_turn, d_trace_crew_work_l1, hide_eq]; kernel_rfl

theorem d_trace_crew_work_l0_eq (k n : Nat) (p0 : Option Addr) (σ : AMem) : d_trace_crew_work_l0 k (n + 1) p0 σ = b_trace_crew_work_l0 k n (d_trace_crew_work_l0 k) (d_trace_crew_work_l1 k) p0 σ := by
  simp only [d_trace_crew_work_l0, d_trace_crew_work_l1, hide_eq]; kernel_rfl

theorem d_trace_crew_work_eq (k : Nat) (x0 : Option Addr) (σ : AMem) : d_trace_crew_work (k + 1) x0 σ = b_trace_crew_work k (d_trace_crew_work_l0 k) x0 σ := by
  simp only [d_trace_crew_work, d_trace_crew_work_l0, hide_eq]; kernel_rfl

theorem d_trace_all_eq (k : Nat) (x0 : Option Addr) (x1 : Option Addr) (σ : AMem) : d_trace_all (k + 1) x0 x1 σ = b_trace_all k (d_heap_Heap_All k) (d_slices_DeleteFunc_int k) x0 x1 σ := by
  simp only [d_heap_Heap_All, d_slices_DeleteFunc_int, d_trace_all, hide_eq]; kernel_rfl

theorem d_heap_Heap_Has_eq (k : Nat) (x0 : Option Addr) (x1 : Int) (σ : AMem) : d_heap_Heap_Has (k + 1) x0 x1 σ = b_heap_Heap_Has k (d_heap_Heap_made k) (d_side_Table_Get k) x0 x1 σ := by
  simp only [d_heap_Heap_Has, d_heap_Heap_made, d_side_Table_Get, hide_eq]; kernel_rfl

theorem d_heap_Heap_All_eq (k : Nat) (x0 : Option Addr) (σ : AMem) : d_heap_Heap_All (k + 1) x0 σ = b_heap_Heap_All k (d_heap_Heap_between k) (d_heap_Heap_made k) x0 σ := by
  simp only [d_heap_Heap_All, d_heap_Heap_between, d_heap_Heap_made, hide_eq]; kernel_rfl

theorem d_trace_strong_l0_eq (k n : Nat) (p0 : Option Addr) (i1 : Int) (h2 : Nat) (x7 : Option Addr × Nat × Nat) (x8 : Int) (σ : AMem) : d_trace_strong_l0 k (n + 1) p0 i1 h2 x7 x8 σ = b_trace_strong_l0 k n (d_heap_Heap_Ref k) (d_trace_strong_l0 k) p0 i1 h2 x7 x8 σ := by
  simp only [d_heap_Heap_Ref, d_trace_strong_l0, hide_eq]; kernel_rfl

theorem d_trace_strong_eq (k : Nat) (x0 : Option Addr) (x1 : Int) (σ : AMem) : d_trace_strong (k + 1) x0 x1 σ = b_trace_strong k (d_heap_Heap_Shape k) (d_trace_softs k) (d_trace_strong_l0 k) x0 x1 σ := by
  simp only [d_heap_Heap_Shape, d_trace_softs, d_trace_strong, d_trace_strong_l0, hide_eq]; kernel_rfl

theorem d___trace_line_int__oldest_eq (k : Nat) (x0 : Option Addr) (σ : AMem) : d___trace_line_int__oldest (k + 1) x0 σ = b___trace_line_int__oldest k  x0 σ := by
  simp only [d___trace_line_int__oldest, hide_eq]; kernel_rfl

theorem d___trace_line_int__add_eq (k : Nat) (x0 : Option Addr) (x1 : Int) (σ : AMem) : d___trace_line_int__add (k + 1) x0 x1 σ = b___trace_line_int__add k  x0 x1 σ := by
  simp only [d___trace_line_int__add, hide_eq]; kernel_rfl

theorem d_trace_fits_eq (k : Nat) (x0 : Option Addr) (x1 : Option Addr) (σ : AMem) : d_trace_fits (k + 1) x0 x1 σ = b_trace_fits k (d_heap_Heap_Blocks k) (d_side_Table_Entries k) (d_side_Table_Width k) x0 x1 σ := by
  simp only [d_heap_Heap_Blocks, d_side_Table_Entries, d_side_Table_Width, d_trace_fits, hide_eq]; kernel_rfl

theorem d_heap_Heap_Shape_eq (k : Nat) (x0 : Option Addr) (x1 : Int) (σ : AMem) : d_heap_Heap_Shape (k + 1) x0 x1 σ = b_heap_Heap_Shape k (d_heap_Heap_object k) (d_heap_shape k) x0 x1 σ := by
  simp only [d_heap_Heap_Shape, d_heap_Heap_object, d_heap_shape, hide_eq]; kernel_rfl

theorem d_trace_softs_eq (k : Nat) (x0_0 : Int) (x0_1 : Int) (x0_2 : Int) (σ : AMem) : d_trace_softs (k + 1) x0_0 x0_1 x0_2 σ = b_trace_softs k  x0_0 x0_1 x0_2 σ := by
  simp only [d_trace_softs, hide_eq]; kernel_rfl

theorem d_heap_Heap_Ref_eq (k : Nat) (x0 : Option Addr) (x1 : Int) (x2 : Int) (σ : AMem) : d_heap_Heap_Ref (k + 1) x0 x1 x2 σ = b_heap_Heap_Ref k (d_heap_Heap_field k) x0 x1 x2 σ := by
  simp only [d_heap_Heap_Ref, d_heap_Heap_field, hide_eq]; kernel_rfl

theorem d_trace_marked_eq (k : Nat) (x0 : Option Addr) (x1 : Option Addr) (x2 : Int) (σ : AMem) : d_trace_marked (k + 1) x0 x1 x2 σ = b_trace_marked k (d_heap_Heap_Has k) (d_side_Table_Get k) x0 x1 x2 σ := by
  simp only [d_heap_Heap_Has, d_side_Table_Get, d_trace_marked, hide_eq]; kernel_rfl

theorem d_heap_Heap_SetRef_eq (k : Nat) (x0 : Option Addr) (x1 : Int) (x2 : Int) (x3 : Int) (σ : AMem) : d_heap_Heap_SetRef (k + 1) x0 x1 x2 x3 σ = b_heap_Heap_SetRef k (d_heap_Heap_Has k) (d_heap_Heap_field k) x0 x1 x2 x3 σ := by
  simp only [d_heap_Heap_Has, d_heap_Heap_SetRef, d_heap_Heap_field, hide_eq]; kernel_rfl

theorem d_law07_Chain_l0_eq (k n : Nat) (p0 : Option Addr) (c1 : Nat) (c2 : Nat) (h3 : Nat) (x4 : Int) (σ : AMem) : d_law07_Chain_l0 k (n + 1) p0 c1 c2 h3 x4 σ = b_law07_Chain_l0 k n (d_alloc_Allocator_Alloc k) (d_law07_Chain_l0 k) (d_roots_Roots_Set k) p0 c1 c2 h3 x4 σ := by
  simp only [d_alloc_Allocator_Alloc, d_law07_Chain_l0, d_roots_Roots_Set, hide_eq]; kernel_rfl

theorem d_law07_Chain_l2_eq (k n : Nat) (p0 : Option Addr) (c1 : Nat) (c2 : Nat) (h3 : Nat) (p4 : Option Addr) (c5 : Nat) (c6 : Nat) (i7 : Int) (x9 : Int) (σ : AMem) : d_law07_Chain_l2 k (n + 1) p0 c1 c2 h3 p4 c5 c6 i7 x9 σ = b_law07_Chain_l2 k n (d_heap_Heap_SetRef k) (d_law07_Chain_l2 k) p0 c1 c2 h3 p4 c5 c6 i7 x9 σ := by
  simp only [d_heap_Heap_SetRef, d_law07_Chain_l2, hide_eq]; kernel_rfl

theorem d_law07_Chain_l1_eq (k n : Nat) (p0 : Option Addr) (c1 : Nat) (c2 : Nat) (h3 : Nat) (p4 : Option Addr) (c5 : Nat) (c6 : Nat) (x8 : Int) (σ : AMem) : d_law07_Chain_l1 k (n + 1) p0 c1 c2 h3 p4 c5 c6 x8 σ = b_law07_Chain_l1 k n (d_law07_Chain_l1 k) (d_law07_Chain_l2 k) p0 c1 c2 h3 p4 c5 c6 x8 σ := by
  simp only [d_law07_Chain_l1, d_law07_Chain_l2, hide_eq]; kernel_rfl

theorem d_law07_Chain_eq (k : Nat) (x0 : Option Addr × Nat × Nat) (σ : AMem) : d_law07_Chain (k + 1) x0 σ = b_law07_Chain k (d_heap_Heap_All k) (d_law06_NewWorld k) (d_law07_Chain_l0 k) (d_law07_Chain_l1 k) x0 σ := by
  simp only [d_heap_Heap_All, d_law06_NewWorld, d_law07_Chain, d_law07_Chain_l0, d_law07_Chain_l1, hide_eq]; kernel_rfl

theorem d_slices_Contains_int_eq (k : Nat) (x0 : Option Addr × Nat × Nat) (x1 : Int) (σ : AMem) : d_slices_Contains_int (k + 1) x0 x1 σ = b_slices_Contains_int k (d_slices_Index_int k) x0 x1 σ := by
  simp only [d_slices_Contains_int, d_slices_Index_int, hide_eq]; kernel_rfl

theorem d_alloc_Allocator_Alloc_eq (k : Nat) (x0 : Option Addr) (x1_0 : Int) (x1_1 : Int) (x1_2 : Int) (σ : AMem) : d_alloc_Allocator_Alloc (k + 1) x0 x1_0 x1_1 x1_2 σ = b_alloc_Allocator_Alloc k (d_alloc_Allocator_made k) (d_alloc_policies k) (d_callV_pi_it k) (d_heap_Heap_Place k) (d_heap_Heap_Space k) (d_heap_Valid k) (d_heap_Words k) x0 x1_0 x1_1 x1_2 σ := by
  simp only [d_alloc_Allocator_Alloc, d_alloc_Allocator_made, d_alloc_policies, d_callV_pi_it, d_heap_Heap_Place, d_heap_Heap_Space, d_heap_Valid, d_heap_Words, hide_eq]; kernel_rfl

theorem d_heap_Heap_Blocks_eq (k : Nat) (x0 : Option Addr) (σ : AMem) : d_heap_Heap_Blocks (k + 1) x0 σ = b_heap_Heap_Blocks k (d_heap_Heap_made k) x0 σ := by
  simp only [d_heap_Heap_Blocks, d_heap_Heap_made, hide_eq]; kernel_rfl

theorem d_side_Table_Width_eq (k : Nat) (x0 : Option Addr) (σ : AMem) : d_side_Table_Width (k + 1) x0 σ = b_side_Table_Width k (d_side_Table_made k) x0 σ := by
  simp only [d_side_Table_Width, d_side_Table_made, hide_eq]; kernel_rfl

theorem d_side_Table_Entries_eq (k : Nat) (x0 : Option Addr) (σ : AMem) : d_side_Table_Entries (k + 1) x0 σ = b_side_Table_Entries k (d_side_Table_made k) x0 σ := by
  simp only [d_side_Table_Entries, d_side_Table_made, hide_eq]; kernel_rfl

theorem d_law06_NewWorld_l0_eq (k n : Nat) (h0 : Nat) (h1 : Nat) (x4 : Int) (σ : AMem) : d_law06_NewWorld_l0 k (n + 1) h0 h1 x4 σ = b_law06_NewWorld_l0 k n (d_alloc_New k) (d_law06_NewWorld_l0 k) h0 h1 x4 σ := by
  simp only [d_alloc_New, d_law06_NewWorld_l0, hide_eq]; kernel_rfl

theorem d_law06_NewWorld_eq (k : Nat) (x0_0 : Int) (x0_1 : Int) (x0_2 : Int) (x0_3 : Option Addr × Nat × Nat) (σ : AMem) : d_law06_NewWorld (k + 1) x0_0 x0_1 x0_2 x0_3 σ = b_law06_NewWorld k (d_heap_New k) (d_law06_NewWorld_l0 k) (d_law06_blocks k) (d_law06_mutators k) (d_model_New k) (d_roots_New k) x0_0 x0_1 x0_2 x0_3 σ := by
  simp only [d_heap_New, d_law06_NewWorld, d_law06_NewWorld_l0, d_law06_blocks, d_law06_mutators, d_model_New, d_roots_New, hide_eq]; kernel_rfl

theorem d_roots_Roots_Set_eq (k : Nat) (x0 : Option Addr) (x1_0 : Int) (x1_1 : Int) (x1_2 : Int) (x2 : Int) (σ : AMem) : d_roots_Roots_Set (k + 1) x0 x1_0 x1_1 x1_2 x2 σ = b_roots_Roots_Set k (d_roots_Roots_place k) x0 x1_0 x1_1 x1_2 x2 σ := by
  simp only [d_roots_Roots_Set, d_roots_Roots_place, hide_eq]; kernel_rfl

theorem d_heap_Heap_State_eq (k : Nat) (x0 : Option Addr) (x1 : Int) (σ : AMem) : d_heap_Heap_State (k + 1) x0 x1 σ = b_heap_Heap_State k (d_heap_Heap_Blocks k) x0 x1 σ := by
  simp only [d_heap_Heap_Blocks, d_heap_Heap_State, hide_eq]; kernel_rfl

theorem d_roots_Roots_Mutators_eq (k : Nat) (x0 : Option Addr) (σ : AMem) : d_roots_Roots_Mutators (k + 1) x0 σ = b_roots_Roots_Mutators k (d_roots_Roots_made k) x0 σ := by
  simp only [d_roots_Roots_Mutators, d_roots_Roots_made, hide_eq]; kernel_rfl

theorem d_roots_Roots_made_eq (k : Nat) (x0 : Option Addr) (σ : AMem) : d_roots_Roots_made (k + 1) x0 σ = b_roots_Roots_made k  x0 σ := by
  simp only [d_roots_Roots_made, hide_eq]; kernel_rfl

theorem d_roots_Roots_all_eq (k : Nat) (x0 : Option Addr) (σ : AMem) : d_roots_Roots_all (k + 1) x0 σ = b_roots_Roots_all k  x0 σ := by
  simp only [d_roots_Roots_all, hide_eq]; kernel_rfl

theorem d_roots_Roots_place_eq (k : Nat) (x0 : Option Addr) (x1_0 : Int) (x1_1 : Int) (x1_2 : Int) (σ : AMem) : d_roots_Roots_place (k + 1) x0 x1_0 x1_1 x1_2 σ = b_roots_Roots_place k (d_roots_Roots_at k) (d_roots_Roots_made k) x0 x1_0 x1_1 x1_2 σ := by
  simp only [d_roots_Roots_at, d_roots_Roots_made, d_roots_Roots_place, hide_eq]; kernel_rfl

theorem d_trace_mark_eq (k : Nat) (x0 : Option Addr) (x1 : Option Addr) (x2 : Int) (σ : AMem) : d_trace_mark (k + 1) x0 x1 x2 σ = b_trace_mark k (d_heap_Heap_Has k) (d_side_Table_Swap k) x0 x1 x2 σ := by
  simp only [d_heap_Heap_Has, d_side_Table_Swap, d_trace_mark, hide_eq]; kernel_rfl

theorem d_trace_marker_drain_l0_eq (k n : Nat) (p0 : Option Addr) (σ : AMem) : d_trace_marker_drain_l0 k (n + 1) p0 σ = b_trace_marker_drain_l0 k n (d___trace_line_int__newest k) (d___trace_line_int__oldest k) (d_trace_marker_drain_l0 k) (d_trace_marker_scan k) p0 σ := by
  simp only [d___trace_line_int__newest, d___trace_line_int__oldest, d_trace_marker_drain_l0, d_trace_marker_scan, hide_eq]; kernel_rfl

theorem d_trace_marker_drain_eq (k : Nat) (x0 : Option Addr) (σ : AMem) : d_trace_marker_drain (k + 1) x0 σ = b_trace_marker_drain k (d_trace_marker_drain_l0 k) x0 σ := by
  simp only [d_trace_marker_drain, d_trace_marker_drain_l0, hide_eq]; kernel_rfl

theorem d_trace_marker_scan_l0_eq (k n : Nat) (p0 : Option Addr) (p1 : Option Addr) (c2 : Nat) (c3 : Nat) (i4 : Int) (x22 : Int) (σ : AMem) : d_trace_marker_scan_l0 k (n + 1) p0 p1 c2 c3 i4 x22 σ = b_trace_marker_scan_l0 k n (d_trace_marker_reach k) (d_trace_marker_scan_l0 k) p0 p1 c2 c3 i4 x22 σ := by
  simp only [d_trace_marker_reach, d_trace_marker_scan_l0, hide_eq]; kernel_rfl

theorem d_trace_marker_scan_eq (k : Nat) (x0 : Option Addr) (x1 : Int) (σ : AMem) : d_trace_marker_scan (k + 1) x0 x1 σ = b_trace_marker_scan k (d_trace_marker_scan_l0 k) (d_trace_strong k) x0 x1 σ := by
  simp only [d_trace_marker_scan, d_trace_marker_scan_l0, d_trace_strong, hide_eq]; kernel_rfl

theorem d_trace_crew_longest_l0_eq (k n : Nat) (p0 : Option Addr) (i1 : Int) (x3 : Option Addr) (x16 : Int) (σ : AMem) : d_trace_crew_longest_l0 k (n + 1) p0 i1 x3 x16 σ = b_trace_crew_longest_l0 k n (d_trace_crew_longest_l0 k) p0 i1 x3 x16 σ := by
  simp only [d_trace_crew_longest_l0, hide_eq]; kernel_rfl

theorem d_trace_crew_longest_eq (k : Nat) (x0 : Option Addr) (σ : AMem) : d_trace_crew_longest (k + 1) x0 σ = b_trace_crew_longest k (d_trace_crew_longest_l0 k) x0 σ := by
  simp only [d_trace_crew_longest, d_trace_crew_longest_l0, hide_eq]; kernel_rfl

theorem d_trace_crew_turn_l0_eq (k n : Nat) (p0 : Option Addr) (p1 : Option Addr) (p2 : Option Addr) (c3 : Nat) (c4 : Nat) (i5 : Int) (x55 : Int) (σ : AMem) : d_trace_crew_turn_l0 k (n + 1) p0 p1 p2 c3 c4 i5 x55 σ = b_trace_crew_turn_l0 k n (d___trace_line_int__add k) (d_trace_crew_turn_l0 k) (d_trace_mark k) p0 p1 p2 c3 c4 i5 x55 σ := by
  simp only [d___trace_line_int__add, d_trace_crew_turn_l0, d_trace_mark, hide_eq]; kernel_rfl

theorem d_trace_crew_turn_eq (k : Nat) (x0 : Option Addr) (x1 : Option Addr) (σ : AMem) : d_trace_crew_turn (k + 1) x0 x1 σ = b_trace_crew_turn k (d___trace_line_int__add k) (d___trace_line_int__newest k) (d___trace_line_int__oldest k) (d_trace_crew_longest k) (d_trace_crew_turn_l0 k) (d_trace_strong k) x0 x1 σ := by
  simp only [d___trace_line_int__add, d___trace_line_int__newest, d___trace_line_int__oldest, d_trace_crew_longest, d_trace_crew_turn, d_trace_crew_turn_l0, d_trace_strong, hide_eq]; kernel_rfl

theorem d_slices_DeleteFunc_int_l0_eq (k n : Nat) (p0 : Option Addr) (c1 : Nat) (c2 : Nat) (v3 : Value) (x5 : Int) (x6 : Int) (σ : AMem) : d_slices_DeleteFunc_int_l0 k (n + 1) p0 c1 c2 v3 x5 x6 σ = b_slices_DeleteFunc_int_l0 k n (d_callV_i_t k) (d_slices_DeleteFunc_int_l0 k) p0 c1 c2 v3 x5 x6 σ := by
  simp only [d_callV_i_t, d_slices_DeleteFunc_int_l0, hide_eq]; kernel_rfl

theorem d_slices_DeleteFunc_int_eq (k : Nat) (x0 : Option Addr × Nat × Nat) (x1 : Value) (σ : AMem) : d_slices_DeleteFunc_int (k + 1) x0 x1 σ = b_slices_DeleteFunc_int k (d_slices_DeleteFunc_int_l0 k) (d_slices_IndexFunc_int k) x0 x1 σ := by
  simp only [d_slices_DeleteFunc_int, d_slices_DeleteFunc_int_l0, d_slices_IndexFunc_int, hide_eq]; kernel_rfl

theorem d_trace_all_c1_eq (k : Nat) (x0 : Int) (c0 : Option Addr) (c1 : Option Addr) (σ : AMem) : d_trace_all_c1 (k + 1) x0 c0 c1 σ = b_trace_all_c1 k (d_trace_marked k) x0 c0 c1 σ := by
  simp only [d_trace_all_c1, d_trace_marked, hide_eq]; kernel_rfl

theorem d_heap_Heap_made_eq (k : Nat) (x0 : Option Addr) (σ : AMem) : d_heap_Heap_made (k + 1) x0 σ = b_heap_Heap_made k  x0 σ := by
  simp only [d_heap_Heap_made, hide_eq]; kernel_rfl

theorem d_side_Table_Get_eq (k : Nat) (x0 : Option Addr) (x1 : Int) (σ : AMem) : d_side_Table_Get (k + 1) x0 x1 σ = b_side_Table_Get k (d_side_Table_get k) (d_side_Table_there k) x0 x1 σ := by
  simp only [d_side_Table_Get, d_side_Table_get, d_side_Table_there, hide_eq]; kernel_rfl

theorem d_heap_Heap_between_l0_eq (k n : Nat) (p0 : Option Addr) (i1 : Int) (x7 : Option Addr × Nat × Nat) (x8 : Int) (x9 : Int) (σ : AMem) : d_heap_Heap_between_l0 k (n + 1) p0 i1 x7 x8 x9 σ = b_heap_Heap_between_l0 k n (d_heap_Heap_between_l0 k) (d_side_Table_Next k) p0 i1 x7 x8 x9 σ := by
  simp only [d_heap_Heap_between_l0, d_side_Table_Next, hide_eq]; kernel_rfl

theorem d_heap_Heap_between_eq (k : Nat) (x0 : Option Addr) (x1 : Int) (x2 : Int) (σ : AMem) : d_heap_Heap_between (k + 1) x0 x1 x2 σ = b_heap_Heap_between k (d_heap_Heap_between_l0 k) (d_side_Table_Next k) x0 x1 x2 σ := by
  simp only [d_heap_Heap_between, d_heap_Heap_between_l0, d_side_Table_Next, hide_eq]; kernel_rfl

theorem d_heap_Heap_object_eq (k : Nat) (x0 : Option Addr) (x1 : Int) (σ : AMem) : d_heap_Heap_object (k + 1) x0 x1 σ = b_heap_Heap_object k (d_heap_Heap_Has k) (d_heap_Heap_made k) x0 x1 σ := by
  simp only [d_heap_Heap_Has, d_heap_Heap_made, d_heap_Heap_object, hide_eq]; kernel_rfl

theorem d_heap_shape_eq (k : Nat) (x0 : Int) (σ : AMem) : d_heap_shape (k + 1) x0 σ = b_heap_shape k  x0 σ := by
  simp only [d_heap_shape, hide_eq]; kernel_rfl

theorem d_heap_Heap_field_eq (k : Nat) (x0 : Option Addr) (x1 : Int) (x2 : Int) (x3 : Bool) (σ : AMem) : d_heap_Heap_field (k + 1) x0 x1 x2 x3 σ = b_heap_Heap_field k (d_heap_Heap_object k) (d_heap_shape k) x0 x1 x2 x3 σ := by
  simp only [d_heap_Heap_field, d_heap_Heap_object, d_heap_shape, hide_eq]; kernel_rfl

theorem d_slices_Index_int_l0_eq (k n : Nat) (p0 : Option Addr) (c1 : Nat) (c2 : Nat) (i3 : Int) (i4 : Int) (x8 : Int) (σ : AMem) : d_slices_Index_int_l0 k (n + 1) p0 c1 c2 i3 i4 x8 σ = b_slices_Index_int_l0 k n (d_slices_Index_int_l0 k) p0 c1 c2 i3 i4 x8 σ := by
  simp only [d_slices_Index_int_l0, hide_eq]; kernel_rfl

theorem d_slices_Index_int_eq (k : Nat) (x0 : Option Addr × Nat × Nat) (x1 : Int) (σ : AMem) : d_slices_Index_int (k + 1) x0 x1 σ = b_slices_Index_int k (d_slices_Index_int_l0 k) x0 x1 σ := by
  simp only [d_slices_Index_int, d_slices_Index_int_l0, hide_eq]; kernel_rfl

theorem d_side_Table_Set_eq (k : Nat) (x0 : Option Addr) (x1 : Int) (x2 : Int) (σ : AMem) : d_side_Table_Set (k + 1) x0 x1 x2 σ = b_side_Table_Set k (d_side_Table_check k) (d_side_Table_put k) x0 x1 x2 σ := by
  simp only [d_side_Table_Set, d_side_Table_check, d_side_Table_put, hide_eq]; kernel_rfl

theorem d_alloc_Allocator_made_eq (k : Nat) (x0 : Option Addr) (σ : AMem) : d_alloc_Allocator_made (k + 1) x0 σ = b_alloc_Allocator_made k  x0 σ := by
  simp only [d_alloc_Allocator_made, hide_eq]; kernel_rfl

theorem d_heap_Valid_eq (k : Nat) (x0_0 : Int) (x0_1 : Int) (x0_2 : Int) (σ : AMem) : d_heap_Valid (k + 1) x0_0 x0_1 x0_2 σ = b_heap_Valid k  x0_0 x0_1 x0_2 σ := by
  simp only [d_heap_Valid, hide_eq]; kernel_rfl

theorem d_heap_Words_eq (k : Nat) (x0_0 : Int) (x0_1 : Int) (x0_2 : Int) (σ : AMem) : d_heap_Words (k + 1) x0_0 x0_1 x0_2 σ = b_heap_Words k (d_heap_Valid k) x0_0 x0_1 x0_2 σ := by
  simp only [d_heap_Valid, d_heap_Words, hide_eq]; kernel_rfl

theorem d_alloc_policies_eq (k : Nat)  (σ : AMem) : d_alloc_policies (k + 1)  σ = b_alloc_policies k   σ := by
  simp only [d_alloc_policies, hide_eq]; kernel_rfl

theorem d_alloc_Allocator_large_l0_eq (k n : Nat) (p0 : Option Addr) (i1 : Int) (x7 : Int) (σ : AMem) : d_alloc_Allocator_large_l0 k (n + 1) p0 i1 x7 σ = b_alloc_Allocator_large_l0 k n (d_alloc_Allocator_large_l0 k) (d_heap_Heap_Blocks k) (d_heap_Heap_ClaimLarge k) p0 i1 x7 σ := by
  simp only [d_alloc_Allocator_large_l0, d_heap_Heap_Blocks, d_heap_Heap_ClaimLarge, hide_eq]; kernel_rfl

theorem d_alloc_Allocator_large_eq (k : Nat) (x0 : Option Addr) (x1 : Int) (σ : AMem) : d_alloc_Allocator_large (k + 1) x0 x1 σ = b_alloc_Allocator_large k (d_alloc_Allocator_large_l0 k) x0 x1 σ := by
  simp only [d_alloc_Allocator_large, d_alloc_Allocator_large_l0, hide_eq]; kernel_rfl

theorem d_heap_Heap_Space_eq (k : Nat) (x0 : Option Addr) (x1 : Int) (σ : AMem) : d_heap_Heap_Space (k + 1) x0 x1 σ = b_heap_Heap_Space k (d_heap_Heap_Blocks k) x0 x1 σ := by
  simp only [d_heap_Heap_Blocks, d_heap_Heap_Space, hide_eq]; kernel_rfl

theorem d_heap_Heap_Place_eq (k : Nat) (x0 : Option Addr) (x1 : Int) (x2_0 : Int) (x2_1 : Int) (x2_2 : Int) (σ : AMem) : d_heap_Heap_Place (k + 1) x0 x1 x2_0 x2_1 x2_2 σ = b_heap_Heap_Place k (d_heap_Heap_fits k) (d_heap_Heap_made k) (d_heap_Valid k) (d_heap_Words k) (d_heap_number k) (d_side_Table_Set k) x0 x1 x2_0 x2_1 x2_2 σ := by
  simp only [d_heap_Heap_Place, d_heap_Heap_fits, d_heap_Heap_made, d_heap_Valid, d_heap_Words, d_heap_number, d_side_Table_Set, hide_eq]; kernel_rfl

theorem d_side_Table_made_eq (k : Nat) (x0 : Option Addr) (σ : AMem) : d_side_Table_made (k + 1) x0 σ = b_side_Table_made k  x0 σ := by
  simp only [d_side_Table_made, hide_eq]; kernel_rfl

theorem d_slices_ContainsFunc_int_eq (k : Nat) (x0 : Option Addr × Nat × Nat) (x1 : Value) (σ : AMem) : d_slices_ContainsFunc_int (k + 1) x0 x1 σ = b_slices_ContainsFunc_int k (d_slices_IndexFunc_int k) x0 x1 σ := by
  simp only [d_slices_ContainsFunc_int, d_slices_IndexFunc_int, hide_eq]; kernel_rfl

theorem d_heap_Heap_Objects_eq (k : Nat) (x0 : Option Addr) (x1 : Int) (σ : AMem) : d_heap_Heap_Objects (k + 1) x0 x1 σ = b_heap_Heap_Objects k (d_heap_Heap_between k) (d_heap_Heap_made k) x0 x1 σ := by
  simp only [d_heap_Heap_Objects, d_heap_Heap_between, d_heap_Heap_made, hide_eq]; kernel_rfl

theorem d_heap_Heap_size_eq (k : Nat) (x0 : Option Addr) (x1 : Int) (σ : AMem) : d_heap_Heap_size (k + 1) x0 x1 σ = b_heap_Heap_size k (d_heap_Words k) (d_heap_shape k) x0 x1 σ := by
  simp only [d_heap_Heap_size, d_heap_Words, d_heap_shape, hide_eq]; kernel_rfl

theorem d_law06_blocks_eq (k : Nat) (x0_0 : Int) (x0_1 : Int) (x0_2 : Int) (x0_3 : Option Addr × Nat × Nat) (σ : AMem) : d_law06_blocks (k + 1) x0_0 x0_1 x0_2 x0_3 σ = b_law06_blocks k  x0_0 x0_1 x0_2 x0_3 σ := by
  simp only [d_law06_blocks, hide_eq]; kernel_rfl

theorem d_law06_mutators_eq (k : Nat) (x0_0 : Int) (x0_1 : Int) (x0_2 : Int) (x0_3 : Option Addr × Nat × Nat) (σ : AMem) : d_law06_mutators (k + 1) x0_0 x0_1 x0_2 x0_3 σ = b_law06_mutators k  x0_0 x0_1 x0_2 x0_3 σ := by
  simp only [d_law06_mutators, hide_eq]; kernel_rfl

theorem d_model_New_l0_eq (k n : Nat) (h0 : Nat) (i1 : Int) (x15 : Int) (σ : AMem) : d_model_New_l0 k (n + 1) h0 i1 x15 σ = b_model_New_l0 k n (d_model_New_l0 k) h0 i1 x15 σ := by
  simp only [d_model_New_l0, hide_eq]; kernel_rfl

theorem d_model_New_eq (k : Nat) (x0 : Int) (σ : AMem) : d_model_New (k + 1) x0 σ = b_model_New k (d_model_New_l0 k) x0 σ := by
  simp only [d_model_New, d_model_New_l0, hide_eq]; kernel_rfl

theorem d_alloc_New_eq (k : Nat) (x0 : Option Addr) (x1 : Int) (x2 : Int) (σ : AMem) : d_alloc_New (k + 1) x0 x1 x2 σ = b_alloc_New k (d_alloc_policies k) (d_heap_Heap_Blocks k) x0 x1 x2 σ := by
  simp only [d_alloc_New, d_alloc_policies, d_heap_Heap_Blocks, hide_eq]; kernel_rfl

theorem d_roots_Roots_all_c1_l1_eq (k n : Nat) (v0 : Value) (i1 : Int) (p2 : Option Addr) (c3 : Nat) (c4 : Nat) (i5 : Int) (x28 : Int) (σ : AMem) : d_roots_Roots_all_c1_l1 k (n + 1) v0 i1 p2 c3 c4 i5 x28 σ = b_roots_Roots_all_c1_l1 k n (d_callV_iiip_t k) (d_roots_Roots_all_c1_l1 k) v0 i1 p2 c3 c4 i5 x28 σ := by
  simp only [d_callV_iiip_t, d_roots_Roots_all_c1_l1, hide_eq]; kernel_rfl

theorem d_roots_Roots_all_c1_l0_eq (k n : Nat) (v0 : Value) (h1 : Nat) (i2 : Int) (x21 : Int) (σ : AMem) : d_roots_Roots_all_c1_l0 k (n + 1) v0 h1 i2 x21 σ = b_roots_Roots_all_c1_l0 k n (d_roots_Roots_all_c1_l0 k) (d_roots_Roots_all_c1_l1 k) v0 h1 i2 x21 σ := by
  simp only [d_roots_Roots_all_c1_l0, d_roots_Roots_all_c1_l1, hide_eq]; kernel_rfl

theorem d_roots_Roots_all_c1_eq (k : Nat) (x0 : Value) (c0 : Option Addr) (σ : AMem) : d_roots_Roots_all_c1 (k + 1) x0 c0 σ = b_roots_Roots_all_c1 k (d_roots_Roots_all_c1_l0 k) x0 c0 σ := by
  simp only [d_roots_Roots_all_c1, d_roots_Roots_all_c1_l0, hide_eq]; kernel_rfl

theorem d_roots_Roots_at_eq (k : Nat) (x0 : Option Addr) (x1_0 : Int) (x1_1 : Int) (x1_2 : Int) (σ : AMem) : d_roots_Roots_at (k + 1) x0 x1_0 x1_1 x1_2 σ = b_roots_Roots_at k (d_roots_Roots_at_c1 k) x0 x1_0 x1_1 x1_2 σ := by
  simp only [d_roots_Roots_at, d_roots_Roots_at_c1, hide_eq]; kernel_rfl

theorem d_side_Table_Swap_eq (k : Nat) (x0 : Option Addr) (x1 : Int) (x2 : Int) (x3 : Int) (σ : AMem) : d_side_Table_Swap (k + 1) x0 x1 x2 x3 σ = b_side_Table_Swap k (d_side_Table_check k) (d_side_Table_get k) (d_side_Table_put k) x0 x1 x2 x3 σ := by
  simp only [d_side_Table_Swap, d_side_Table_check, d_side_Table_get, d_side_Table_put, hide_eq]; kernel_rfl

theorem d___trace_line_int__newest_eq (k : Nat) (x0 : Option Addr) (σ : AMem) : d___trace_line_int__newest (k + 1) x0 σ = b___trace_line_int__newest k  x0 σ := by
  simp only [d___trace_line_int__newest, hide_eq]; kernel_rfl

theorem d_slices_IndexFunc_int_l0_eq (k n : Nat) (p0 : Option Addr) (c1 : Nat) (c2 : Nat) (v3 : Value) (i4 : Int) (x8 : Int) (σ : AMem) : d_slices_IndexFunc_int_l0 k (n + 1) p0 c1 c2 v3 i4 x8 σ = b_slices_IndexFunc_int_l0 k n (d_callV_i_t k) (d_slices_IndexFunc_int_l0 k) p0 c1 c2 v3 i4 x8 σ := by
  simp only [d_callV_i_t, d_slices_IndexFunc_int_l0, hide_eq]; kernel_rfl

theorem d_slices_IndexFunc_int_eq (k : Nat) (x0 : Option Addr × Nat × Nat) (x1 : Value) (σ : AMem) : d_slices_IndexFunc_int (k + 1) x0 x1 σ = b_slices_IndexFunc_int k (d_slices_IndexFunc_int_l0 k) x0 x1 σ := by
  simp only [d_slices_IndexFunc_int, d_slices_IndexFunc_int_l0, hide_eq]; kernel_rfl

theorem d_side_Table_there_eq (k : Nat) (x0 : Option Addr) (x1 : Int) (σ : AMem) : d_side_Table_there (k + 1) x0 x1 σ = b_side_Table_there k (d_side_Table_made k) x0 x1 σ := by
  simp only [d_side_Table_made, d_side_Table_there, hide_eq]; kernel_rfl

theorem d_side_Table_get_eq (k : Nat) (x0 : Option Addr) (x1 : Int) (σ : AMem) : d_side_Table_get (k + 1) x0 x1 σ = b_side_Table_get k (d_side_Table_most k) x0 x1 σ := by
  simp only [d_side_Table_get, d_side_Table_most, hide_eq]; kernel_rfl

theorem d_side_Table_Next_l0_eq (k n : Nat) (p0 : Option Addr) (i1 : Int) (x8 : Int) (σ : AMem) : d_side_Table_Next_l0 k (n + 1) p0 i1 x8 σ = b_side_Table_Next_l0 k n (d_side_Table_Next_l0 k) (d_side_Table_get k) p0 i1 x8 σ := by
  simp only [d_side_Table_Next_l0, d_side_Table_get, hide_eq]; kernel_rfl

theorem d_side_Table_Next_eq (k : Nat) (x0 : Option Addr) (x1 : Int) (x2 : Int) (σ : AMem) : d_side_Table_Next (k + 1) x0 x1 x2 σ = b_side_Table_Next k (d_side_Table_Next_l0 k) (d_side_Table_made k) x0 x1 x2 σ := by
  simp only [d_side_Table_Next, d_side_Table_Next_l0, d_side_Table_made, hide_eq]; kernel_rfl

theorem d_heap_Heap_Gaps_l0_eq (k n : Nat) (p0 : Option Addr) (h1 : Nat) (h2 : Nat) (p3 : Option Addr) (c4 : Nat) (c5 : Nat) (i6 : Int) (x21 : Int) (σ : AMem) : d_heap_Heap_Gaps_l0 k (n + 1) p0 h1 h2 p3 c4 c5 i6 x21 σ = b_heap_Heap_Gaps_l0 k n (d_heap_Heap_Gaps_c1 k) (d_heap_Heap_Gaps_l0 k) (d_heap_Heap_size k) p0 h1 h2 p3 c4 c5 i6 x21 σ := by
  simp only [d_heap_Heap_Gaps_c1, d_heap_Heap_Gaps_l0, d_heap_Heap_size, hide_eq]; kernel_rfl

theorem d_heap_Heap_Gaps_eq (k : Nat) (x0 : Option Addr) (x1 : Int) (σ : AMem) : d_heap_Heap_Gaps (k + 1) x0 x1 σ = b_heap_Heap_Gaps k (d_heap_Heap_Gaps_c1 k) (d_heap_Heap_Gaps_l0 k) (d_heap_Heap_Objects k) (d_heap_Heap_used k) x0 x1 σ := by
  simp only [d_heap_Heap_Gaps, d_heap_Heap_Gaps_c1, d_heap_Heap_Gaps_l0, d_heap_Heap_Objects, d_heap_Heap_used, hide_eq]; kernel_rfl

theorem d_side_Table_check_eq (k : Nat) (x0 : Option Addr) (x1 : Int) (x2 : Option Addr × Nat × Nat) (σ : AMem) : d_side_Table_check (k + 1) x0 x1 x2 σ = b_side_Table_check k (d_side_Table_made k) (d_side_Table_there k) (d_slices_ContainsFunc_int k) x0 x1 x2 σ := by
  simp only [d_side_Table_check, d_side_Table_made, d_side_Table_there, d_slices_ContainsFunc_int, hide_eq]; kernel_rfl

theorem d_side_Table_put_eq (k : Nat) (x0 : Option Addr) (x1 : Int) (x2 : Int) (σ : AMem) : d_side_Table_put (k + 1) x0 x1 x2 σ = b_side_Table_put k (d_side_Table_most k) x0 x1 x2 σ := by
  simp only [d_side_Table_most, d_side_Table_put, hide_eq]; kernel_rfl

theorem d_heap_Heap_ClaimLarge_eq (k : Nat) (x0 : Option Addr) (x1 : Int) (x2 : Int) (x3 : Int) (σ : AMem) : d_heap_Heap_ClaimLarge (k + 1) x0 x1 x2 x3 σ = b_heap_Heap_ClaimLarge k (d_heap_Heap_claim k) x0 x1 x2 x3 σ := by
  simp only [d_heap_Heap_ClaimLarge, d_heap_Heap_claim, hide_eq]; kernel_rfl

theorem d_heap_Heap_fits_l0_eq (k n : Nat) (p0 : Option Addr) (i1 : Int) (i2 : Int) (i3 : Int) (x10 : Int) (σ : AMem) : d_heap_Heap_fits_l0 k (n + 1) p0 i1 i2 i3 x10 σ = b_heap_Heap_fits_l0 k n (d_heap_Heap_Find k) (d_heap_Heap_fits_l0 k) p0 i1 i2 i3 x10 σ := by
  simp only [d_heap_Heap_Find, d_heap_Heap_fits_l0, hide_eq]; kernel_rfl

theorem d_heap_Heap_fits_eq (k : Nat) (x0 : Option Addr) (x1 : Int) (x2 : Int) (x3 : Int) (σ : AMem) : d_heap_Heap_fits (k + 1) x0 x1 x2 x3 σ = b_heap_Heap_fits k (d_heap_Heap_fits_l0 k) (d_heap_Heap_span k) x0 x1 x2 x3 σ := by
  simp only [d_heap_Heap_fits, d_heap_Heap_fits_l0, d_heap_Heap_span, hide_eq]; kernel_rfl

theorem d_heap_number_eq (k : Nat) (x0_0 : Int) (x0_1 : Int) (x0_2 : Int) (σ : AMem) : d_heap_number (k + 1) x0_0 x0_1 x0_2 σ = b_heap_number k  x0_0 x0_1 x0_2 σ := by
  simp only [d_heap_number, hide_eq]; kernel_rfl

theorem d_heap_Heap_span_l0_eq (k n : Nat) (p0 : Option Addr) (i1 : Int) (x5 : Int) (σ : AMem) : d_heap_Heap_span_l0 k (n + 1) p0 i1 x5 σ = b_heap_Heap_span_l0 k n (d_heap_Heap_span_l0 k) p0 i1 x5 σ := by
  simp only [d_heap_Heap_span_l0, hide_eq]; kernel_rfl

theorem d_heap_Heap_span_eq (k : Nat) (x0 : Option Addr) (x1 : Int) (σ : AMem) : d_heap_Heap_span (k + 1) x0 x1 σ = b_heap_Heap_span k (d_heap_Heap_span_l0 k) x0 x1 σ := by
  simp only [d_heap_Heap_span, d_heap_Heap_span_l0, hide_eq]; kernel_rfl

theorem d_roots_Roots_at_c1_eq (k : Nat) (x0 : Option Addr × Nat × Nat) (c0 : Option Addr) (σ : AMem) : d_roots_Roots_at_c1 (k + 1) x0 c0 σ = b_roots_Roots_at_c1 k  x0 c0 σ := by
  simp only [d_roots_Roots_at_c1, hide_eq]; kernel_rfl

theorem d_side_Table_most_eq (k : Nat) (x0 : Option Addr) (σ : AMem) : d_side_Table_most (k + 1) x0 σ = b_side_Table_most k  x0 σ := by
  simp only [d_side_Table_most, hide_eq]; kernel_rfl

theorem d_heap_Heap_used_eq (k : Nat) (x0 : Option Addr) (x1 : Int) (σ : AMem) : d_heap_Heap_used (k + 1) x0 x1 σ = b_heap_Heap_used k (d_heap_Heap_there k) x0 x1 σ := by
  simp only [d_heap_Heap_there, d_heap_Heap_used, hide_eq]; kernel_rfl

theorem d_heap_Heap_Gaps_c1_eq (k : Nat) (x0 : Int) (c0 : Option Addr) (c1 : Option Addr) (σ : AMem) : d_heap_Heap_Gaps_c1 (k + 1) x0 c0 c1 σ = b_heap_Heap_Gaps_c1 k  x0 c0 c1 σ := by
  simp only [d_heap_Heap_Gaps_c1, hide_eq]; kernel_rfl

theorem d_side_Table_check_c1_eq (k : Nat) (x0 : Int) (c0 : Option Addr) (σ : AMem) : d_side_Table_check_c1 (k + 1) x0 c0 σ = b_side_Table_check_c1 k (d_side_Table_value k) x0 c0 σ := by
  simp only [d_side_Table_check_c1, d_side_Table_value, hide_eq]; kernel_rfl

theorem d_side_Table_value_eq (k : Nat) (x0 : Option Addr) (x1 : Int) (σ : AMem) : d_side_Table_value (k + 1) x0 x1 σ = b_side_Table_value k (d_side_Table_most k) x0 x1 σ := by
  simp only [d_side_Table_most, d_side_Table_value, hide_eq]; kernel_rfl

theorem d_heap_Heap_claim_l0_eq (k n : Nat) (p0 : Option Addr) (i1 : Int) (h2 : Nat) (i3 : Int) (x54 : Int) (σ : AMem) : d_heap_Heap_claim_l0 k (n + 1) p0 i1 h2 i3 x54 σ = b_heap_Heap_claim_l0 k n (d_heap_Heap_claim_l0 k) p0 i1 h2 i3 x54 σ := by
  simp only [d_heap_Heap_claim_l0, hide_eq]; kernel_rfl

theorem d_heap_Heap_claim_eq (k : Nat) (x0 : Option Addr) (x1 : Int) (x2 : Int) (x3_0 : Int) (x3_1 : Int) (x4_0 : Int) (x4_1 : Int) (σ : AMem) : d_heap_Heap_claim (k + 1) x0 x1 x2 x3_0 x3_1 x4_0 x4_1 σ = b_heap_Heap_claim k (d_heap_Heap_claim_l0 k) (d_heap_Heap_made k) (d_heap_Heap_there k) (d_heap_space k) (d_slices_ContainsFunc_heap_block k) x0 x1 x2 x3_0 x3_1 x4_0 x4_1 σ := by
  simp only [d_heap_Heap_claim, d_heap_Heap_claim_l0, d_heap_Heap_made, d_heap_Heap_there, d_heap_space, d_slices_ContainsFunc_heap_block, hide_eq]; kernel_rfl

theorem d_heap_Heap_Find_eq (k : Nat) (x0 : Option Addr) (x1 : Int) (σ : AMem) : d_heap_Heap_Find (k + 1) x0 x1 σ = b_heap_Heap_Find k (d_heap_Heap_made k) (d_heap_Heap_size k) (d_side_Table_Last k) x0 x1 σ := by
  simp only [d_heap_Heap_Find, d_heap_Heap_made, d_heap_Heap_size, d_side_Table_Last, hide_eq]; kernel_rfl

theorem d_heap_Heap_there_eq (k : Nat) (x0 : Option Addr) (x1 : Int) (σ : AMem) : d_heap_Heap_there (k + 1) x0 x1 σ = b_heap_Heap_there k (d_heap_Heap_made k) x0 x1 σ := by
  simp only [d_heap_Heap_made, d_heap_Heap_there, hide_eq]; kernel_rfl

theorem d_heap_space_eq (k : Nat) (x0 : Int) (σ : AMem) : d_heap_space (k + 1) x0 σ = b_heap_space k  x0 σ := by
  simp only [d_heap_space, hide_eq]; kernel_rfl

theorem d_slices_ContainsFunc_heap_block_eq (k : Nat) (x0 : Option Addr × Nat × Nat) (x1 : Value) (σ : AMem) : d_slices_ContainsFunc_heap_block (k + 1) x0 x1 σ = b_slices_ContainsFunc_heap_block k (d_slices_IndexFunc_heap_block k) x0 x1 σ := by
  simp only [d_slices_ContainsFunc_heap_block, d_slices_IndexFunc_heap_block, hide_eq]; kernel_rfl

theorem d_heap_Heap_claim_c1_eq (k : Nat) (x0_0 : Int) (x0_1 : Int) (σ : AMem) : d_heap_Heap_claim_c1 (k + 1) x0_0 x0_1 σ = b_heap_Heap_claim_c1 k  x0_0 x0_1 σ := by
  simp only [d_heap_Heap_claim_c1, hide_eq]; kernel_rfl

theorem d_side_Table_Last_l0_eq (k n : Nat) (p0 : Option Addr) (i1 : Int) (x8 : Int) (σ : AMem) : d_side_Table_Last_l0 k (n + 1) p0 i1 x8 σ = b_side_Table_Last_l0 k n (d_side_Table_Last_l0 k) (d_side_Table_get k) p0 i1 x8 σ := by
  simp only [d_side_Table_Last_l0, d_side_Table_get, hide_eq]; kernel_rfl

theorem d_side_Table_Last_eq (k : Nat) (x0 : Option Addr) (x1 : Int) (x2 : Int) (σ : AMem) : d_side_Table_Last (k + 1) x0 x1 x2 σ = b_side_Table_Last k (d_side_Table_Last_l0 k) (d_side_Table_made k) x0 x1 x2 σ := by
  simp only [d_side_Table_Last, d_side_Table_Last_l0, d_side_Table_made, hide_eq]; kernel_rfl

theorem d_slices_IndexFunc_heap_block_l0_eq (k n : Nat) (p0 : Option Addr) (c1 : Nat) (c2 : Nat) (v3 : Value) (i4 : Int) (x8 : Int) (σ : AMem) : d_slices_IndexFunc_heap_block_l0 k (n + 1) p0 c1 c2 v3 i4 x8 σ = b_slices_IndexFunc_heap_block_l0 k n (d_callV_ii_t k) (d_slices_IndexFunc_heap_block_l0 k) p0 c1 c2 v3 i4 x8 σ := by
  simp only [d_callV_ii_t, d_slices_IndexFunc_heap_block_l0, hide_eq]; kernel_rfl

theorem d_slices_IndexFunc_heap_block_eq (k : Nat) (x0 : Option Addr × Nat × Nat) (x1 : Value) (σ : AMem) : d_slices_IndexFunc_heap_block (k + 1) x0 x1 σ = b_slices_IndexFunc_heap_block k (d_slices_IndexFunc_heap_block_l0 k) x0 x1 σ := by
  simp only [d_slices_IndexFunc_heap_block, d_slices_IndexFunc_heap_block_l0, hide_eq]; kernel_rfl

theorem d_alloc_first_place_eq (k : Nat) (x1 : Option Addr) (x2 : Int) (σ : AMem) : d_alloc_first_place (k + 1) x1 x2 σ = b_alloc_first_place k (d_alloc_Allocator_gaps k) (d_alloc_Allocator_start k) x1 x2 σ := by
  simp only [d_alloc_Allocator_gaps, d_alloc_Allocator_start, d_alloc_first_place, hide_eq]; kernel_rfl

theorem d_alloc_Allocator_start_eq (k : Nat) (x0 : Option Addr) (x1 : Option Addr × Nat × Nat) (σ : AMem) : d_alloc_Allocator_start (k + 1) x0 x1 σ = b_alloc_Allocator_start k (d_alloc_Allocator_begin k) x0 x1 σ := by
  simp only [d_alloc_Allocator_begin, d_alloc_Allocator_start, hide_eq]; kernel_rfl

theorem d_alloc_Allocator_gaps_l1_eq (k n : Nat) (i0 : Int) (i1 : Int) (p2 : Option Addr) (c3 : Nat) (c4 : Nat) (i5 : Int) (x7 : Option Addr × Nat × Nat) (x27 : Int) (σ : AMem) : d_alloc_Allocator_gaps_l1 k (n + 1) i0 i1 p2 c3 c4 i5 x7 x27 σ = b_alloc_Allocator_gaps_l1 k n (d_alloc_Allocator_gaps_l1 k) i0 i1 p2 c3 c4 i5 x7 x27 σ := by
  simp only [d_alloc_Allocator_gaps_l1, hide_eq]; kernel_rfl

theorem d_alloc_Allocator_gaps_l0_eq (k n : Nat) (p0 : Option Addr) (i1 : Int) (i2 : Int) (p3 : Option Addr) (c4 : Nat) (c5 : Nat) (i6 : Int) (x7 : Option Addr × Nat × Nat) (x16 : Int) (σ : AMem) : d_alloc_Allocator_gaps_l0 k (n + 1) p0 i1 i2 p3 c4 c5 i6 x7 x16 σ = b_alloc_Allocator_gaps_l0 k n (d_alloc_Allocator_gaps_l0 k) (d_alloc_Allocator_gaps_l1 k) (d_heap_Heap_Gaps k) p0 i1 i2 p3 c4 c5 i6 x7 x16 σ := by
  simp only [d_alloc_Allocator_gaps_l0, d_alloc_Allocator_gaps_l1, d_heap_Heap_Gaps, hide_eq]; kernel_rfl

theorem d_alloc_Allocator_gaps_eq (k : Nat) (x0 : Option Addr) (x1 : Int) (x2 : Int) (σ : AMem) : d_alloc_Allocator_gaps (k + 1) x0 x1 x2 σ = b_alloc_Allocator_gaps k (d_alloc_Allocator_blocks k) (d_alloc_Allocator_gaps_l0 k) x0 x1 x2 σ := by
  simp only [d_alloc_Allocator_blocks, d_alloc_Allocator_gaps, d_alloc_Allocator_gaps_l0, hide_eq]; kernel_rfl

theorem d_alloc_Allocator_begin_l0_eq (k n : Nat) (p0 : Option Addr) (h1 : Nat) (x4 : Int) (σ : AMem) : d_alloc_Allocator_begin_l0 k (n + 1) p0 h1 x4 σ = b_alloc_Allocator_begin_l0 k n (d_alloc_Allocator_begin_l0 k) (d_heap_Heap_Blocks k) (d_heap_Heap_Claim k) p0 h1 x4 σ := by
  simp only [d_alloc_Allocator_begin_l0, d_heap_Heap_Blocks, d_heap_Heap_Claim, hide_eq]; kernel_rfl

theorem d_alloc_Allocator_begin_eq (k : Nat) (x0 : Option Addr) (σ : AMem) : d_alloc_Allocator_begin (k + 1) x0 σ = b_alloc_Allocator_begin k (d_alloc_Allocator_begin_l0 k) x0 σ := by
  simp only [d_alloc_Allocator_begin, d_alloc_Allocator_begin_l0, hide_eq]; kernel_rfl

theorem d_alloc_Allocator_blocks_l0_eq (k n : Nat) (p0 : Option Addr) (i1 : Int) (x3 : Option Addr × Nat × Nat) (x10 : Int) (σ : AMem) : d_alloc_Allocator_blocks_l0 k (n + 1) p0 i1 x3 x10 σ = b_alloc_Allocator_blocks_l0 k n (d_alloc_Allocator_blocks_l0 k) (d_heap_Heap_Space k) (d_heap_Heap_State k) p0 i1 x3 x10 σ := by
  simp only [d_alloc_Allocator_blocks_l0, d_heap_Heap_Space, d_heap_Heap_State, hide_eq]; kernel_rfl

theorem d_alloc_Allocator_blocks_eq (k : Nat) (x0 : Option Addr) (σ : AMem) : d_alloc_Allocator_blocks (k + 1) x0 σ = b_alloc_Allocator_blocks k (d_alloc_Allocator_blocks_l0 k) (d_heap_Heap_Blocks k) x0 σ := by
  simp only [d_alloc_Allocator_blocks, d_alloc_Allocator_blocks_l0, d_heap_Heap_Blocks, hide_eq]; kernel_rfl

theorem d_heap_Heap_Claim_eq (k : Nat) (x0 : Option Addr) (x1 : Int) (x2 : Int) (σ : AMem) : d_heap_Heap_Claim (k + 1) x0 x1 x2 σ = b_heap_Heap_Claim k (d_heap_Heap_claim k) x0 x1 x2 σ := by
  simp only [d_heap_Heap_Claim, d_heap_Heap_claim, hide_eq]; kernel_rfl

theorem d_alloc_best_place_eq (k : Nat) (x1 : Option Addr) (x2 : Int) (σ : AMem) : d_alloc_best_place (k + 1) x1 x2 σ = b_alloc_best_place k (d_alloc_Allocator_gaps k) (d_alloc_Allocator_start k) (d_slices_SortStableFunc_api_Run k) x1 x2 σ := by
  simp only [d_alloc_Allocator_gaps, d_alloc_Allocator_start, d_alloc_best_place, d_slices_SortStableFunc_api_Run, hide_eq]; kernel_rfl

theorem d_slices_SortStableFunc_api_Run_eq (k : Nat) (x0 : Option Addr × Nat × Nat) (x1 : Value) (σ : AMem) : d_slices_SortStableFunc_api_Run (k + 1) x0 x1 σ = b_slices_SortStableFunc_api_Run k (d_slices_stableCmpFunc_api_Run k) x0 x1 σ := by
  simp only [d_slices_SortStableFunc_api_Run, d_slices_stableCmpFunc_api_Run, hide_eq]; kernel_rfl

theorem d_alloc_best_place_c1_eq (k : Nat) (x0_0 : Int) (x0_1 : Int) (x1_0 : Int) (x1_1 : Int) (σ : AMem) : d_alloc_best_place_c1 (k + 1) x0_0 x0_1 x1_0 x1_1 σ = b_alloc_best_place_c1 k  x0_0 x0_1 x1_0 x1_1 σ := by
  simp only [d_alloc_best_place_c1, hide_eq]; kernel_rfl

theorem d_slices_stableCmpFunc_api_Run_l0_eq (k n : Nat) (p0 : Option Addr) (c1 : Nat) (c2 : Nat) (i3 : Int) (v4 : Value) (x7 : Int) (x8 : Int) (σ : AMem) : d_slices_stableCmpFunc_api_Run_l0 k (n + 1) p0 c1 c2 i3 v4 x7 x8 σ = b_slices_stableCmpFunc_api_Run_l0 k n (d_slices_insertionSortCmpFunc_api_Run k) (d_slices_stableCmpFunc_api_Run_l0 k) p0 c1 c2 i3 v4 x7 x8 σ := by
  simp only [d_slices_insertionSortCmpFunc_api_Run, d_slices_stableCmpFunc_api_Run_l0, hide_eq]; kernel_rfl

theorem d_slices_stableCmpFunc_api_Run_l2_eq (k n : Nat) (p0 : Option Addr) (c1 : Nat) (c2 : Nat) (i3 : Int) (v4 : Value) (i5 : Int) (x7 : Int) (x8 : Int) (σ : AMem) : d_slices_stableCmpFunc_api_Run_l2 k (n + 1) p0 c1 c2 i3 v4 i5 x7 x8 σ = b_slices_stableCmpFunc_api_Run_l2 k n (d_slices_stableCmpFunc_api_Run_l2 k) (d_slices_symMergeCmpFunc_api_Run k) p0 c1 c2 i3 v4 i5 x7 x8 σ := by
  simp only [d_slices_stableCmpFunc_api_Run_l2, d_slices_symMergeCmpFunc_api_Run, hide_eq]; kernel_rfl

theorem d_slices_stableCmpFunc_api_Run_l1_eq (k n : Nat) (p0 : Option Addr) (c1 : Nat) (c2 : Nat) (i3 : Int) (v4 : Value) (x6 : Int) (σ : AMem) : d_slices_stableCmpFunc_api_Run_l1 k (n + 1) p0 c1 c2 i3 v4 x6 σ = b_slices_stableCmpFunc_api_Run_l1 k n (d_slices_stableCmpFunc_api_Run_l1 k) (d_slices_stableCmpFunc_api_Run_l2 k) (d_slices_symMergeCmpFunc_api_Run k) p0 c1 c2 i3 v4 x6 σ := by
  simp only [d_slices_stableCmpFunc_api_Run_l1, d_slices_stableCmpFunc_api_Run_l2, d_slices_symMergeCmpFunc_api_Run, hide_eq]; kernel_rfl

theorem d_slices_stableCmpFunc_api_Run_eq (k : Nat) (x0 : Option Addr × Nat × Nat) (x1 : Int) (x2 : Value) (σ : AMem) : d_slices_stableCmpFunc_api_Run (k + 1) x0 x1 x2 σ = b_slices_stableCmpFunc_api_Run k (d_slices_insertionSortCmpFunc_api_Run k) (d_slices_stableCmpFunc_api_Run_l0 k) (d_slices_stableCmpFunc_api_Run_l1 k) x0 x1 x2 σ := by
  simp only [d_slices_insertionSortCmpFunc_api_Run, d_slices_stableCmpFunc_api_Run, d_slices_stableCmpFunc_api_Run_l0, d_slices_stableCmpFunc_api_Run_l1, hide_eq]; kernel_rfl

theorem d_slices_insertionSortCmpFunc_api_Run_l1_eq (k n : Nat) (p0 : Option Addr) (c1 : Nat) (c2 : Nat) (i3 : Int) (v4 : Value) (x9 : Int) (σ : AMem) : d_slices_insertionSortCmpFunc_api_Run_l1 k (n + 1) p0 c1 c2 i3 v4 x9 σ = b_slices_insertionSortCmpFunc_api_Run_l1 k n (d_callV_iiii_i k) (d_slices_insertionSortCmpFunc_api_Run_l1 k) p0 c1 c2 i3 v4 x9 σ := by
  simp only [d_callV_iiii_i, d_slices_insertionSortCmpFunc_api_Run_l1, hide_eq]; kernel_rfl

theorem d_slices_insertionSortCmpFunc_api_Run_l0_eq (k n : Nat) (p0 : Option Addr) (c1 : Nat) (c2 : Nat) (i3 : Int) (i4 : Int) (v5 : Value) (x8 : Int) (σ : AMem) : d_slices_insertionSortCmpFunc_api_Run_l0 k (n + 1) p0 c1 c2 i3 i4 v5 x8 σ = b_slices_insertionSortCmpFunc_api_Run_l0 k n (d_slices_insertionSortCmpFunc_api_Run_l0 k) (d_slices_insertionSortCmpFunc_api_Run_l1 k) p0 c1 c2 i3 i4 v5 x8 σ := by
  simp only [d_slices_insertionSortCmpFunc_api_Run_l0, d_slices_insertionSortCmpFunc_api_Run_l1, hide_eq]; kernel_rfl

theorem d_slices_insertionSortCmpFunc_api_Run_eq (k : Nat) (x0 : Option Addr × Nat × Nat) (x1 : Int) (x2 : Int) (x3 : Value) (σ : AMem) : d_slices_insertionSortCmpFunc_api_Run (k + 1) x0 x1 x2 x3 σ = b_slices_insertionSortCmpFunc_api_Run k (d_slices_insertionSortCmpFunc_api_Run_l0 k) x0 x1 x2 x3 σ := by
  simp only [d_slices_insertionSortCmpFunc_api_Run, d_slices_insertionSortCmpFunc_api_Run_l0, hide_eq]; kernel_rfl

theorem d_slices_symMergeCmpFunc_api_Run_l0_eq (k n : Nat) (p0 : Option Addr) (c1 : Nat) (c2 : Nat) (i3 : Int) (v4 : Value) (x10 : Int) (x11 : Int) (σ : AMem) : d_slices_symMergeCmpFunc_api_Run_l0 k (n + 1) p0 c1 c2 i3 v4 x10 x11 σ = b_slices_symMergeCmpFunc_api_Run_l0 k n (d_callV_iiii_i k) (d_slices_symMergeCmpFunc_api_Run_l0 k) p0 c1 c2 i3 v4 x10 x11 σ := by
  simp only [d_callV_iiii_i, d_slices_symMergeCmpFunc_api_Run_l0, hide_eq]; kernel_rfl

theorem d_slices_symMergeCmpFunc_api_Run_l1_eq (k n : Nat) (p0 : Option Addr) (c1 : Nat) (c2 : Nat) (i3 : Int) (x13 : Int) (σ : AMem) : d_slices_symMergeCmpFunc_api_Run_l1 k (n + 1) p0 c1 c2 i3 x13 σ = b_slices_symMergeCmpFunc_api_Run_l1 k n (d_slices_symMergeCmpFunc_api_Run_l1 k) p0 c1 c2 i3 x13 σ := by
  simp only [d_slices_symMergeCmpFunc_api_Run_l1, hide_eq]; kernel_rfl

theorem d_slices_symMergeCmpFunc_api_Run_l2_eq (k n : Nat) (p0 : Option Addr) (c1 : Nat) (c2 : Nat) (i3 : Int) (v4 : Value) (x14 : Int) (x15 : Int) (σ : AMem) : d_slices_symMergeCmpFunc_api_Run_l2 k (n + 1) p0 c1 c2 i3 v4 x14 x15 σ = b_slices_symMergeCmpFunc_api_Run_l2 k n (d_callV_iiii_i k) (d_slices_symMergeCmpFunc_api_Run_l2 k) p0 c1 c2 i3 v4 x14 x15 σ := by
  simp only [d_callV_iiii_i, d_slices_symMergeCmpFunc_api_Run_l2, hide_eq]; kernel_rfl

theorem d_slices_symMergeCmpFunc_api_Run_l3_eq (k n : Nat) (p0 : Option Addr) (c1 : Nat) (c2 : Nat) (i3 : Int) (x17 : Int) (σ : AMem) : d_slices_symMergeCmpFunc_api_Run_l3 k (n + 1) p0 c1 c2 i3 x17 σ = b_slices_symMergeCmpFunc_api_Run_l3 k n (d_slices_symMergeCmpFunc_api_Run_l3 k) p0 c1 c2 i3 x17 σ := by
  simp only [d_slices_symMergeCmpFunc_api_Run_l3, hide_eq]; kernel_rfl

theorem d_slices_symMergeCmpFunc_api_Run_l4_eq (k n : Nat) (p0 : Option Addr) (c1 : Nat) (c2 : Nat) (v3 : Value) (i4 : Int) (x20 : Int) (x21 : Int) (σ : AMem) : d_slices_symMergeCmpFunc_api_Run_l4 k (n + 1) p0 c1 c2 v3 i4 x20 x21 σ = b_slices_symMergeCmpFunc_api_Run_l4 k n (d_callV_iiii_i k) (d_slices_symMergeCmpFunc_api_Run_l4 k) p0 c1 c2 v3 i4 x20 x21 σ := by
  simp only [d_callV_iiii_i, d_slices_symMergeCmpFunc_api_Run_l4, hide_eq]; kernel_rfl

theorem d_slices_symMergeCmpFunc_api_Run_eq (k : Nat) (x0 : Option Addr × Nat × Nat) (x1 : Int) (x2 : Int) (x3 : Int) (x4 : Value) (σ : AMem) : d_slices_symMergeCmpFunc_api_Run (k + 1) x0 x1 x2 x3 x4 σ = b_slices_symMergeCmpFunc_api_Run k (d_slices_rotateCmpFunc_api_Run k) (d_slices_symMergeCmpFunc_api_Run k) (d_slices_symMergeCmpFunc_api_Run_l0 k) (d_slices_symMergeCmpFunc_api_Run_l1 k) (d_slices_symMergeCmpFunc_api_Run_l2 k) (d_slices_symMergeCmpFunc_api_Run_l3 k) (d_slices_symMergeCmpFunc_api_Run_l4 k) x0 x1 x2 x3 x4 σ := by
  simp only [d_slices_rotateCmpFunc_api_Run, d_slices_symMergeCmpFunc_api_Run, d_slices_symMergeCmpFunc_api_Run_l0, d_slices_symMergeCmpFunc_api_Run_l1, d_slices_symMergeCmpFunc_api_Run_l2, d_slices_symMergeCmpFunc_api_Run_l3, d_slices_symMergeCmpFunc_api_Run_l4, hide_eq]; kernel_rfl

theorem d_slices_rotateCmpFunc_api_Run_l0_eq (k n : Nat) (p0 : Option Addr) (c1 : Nat) (c2 : Nat) (i3 : Int) (v4 : Value) (x10 : Int) (x11 : Int) (σ : AMem) : d_slices_rotateCmpFunc_api_Run_l0 k (n + 1) p0 c1 c2 i3 v4 x10 x11 σ = b_slices_rotateCmpFunc_api_Run_l0 k n (d_slices_rotateCmpFunc_api_Run_l0 k) (d_slices_swapRangeCmpFunc_api_Run k) p0 c1 c2 i3 v4 x10 x11 σ := by
  simp only [d_slices_rotateCmpFunc_api_Run_l0, d_slices_swapRangeCmpFunc_api_Run, hide_eq]; kernel_rfl

theorem d_slices_rotateCmpFunc_api_Run_eq (k : Nat) (x0 : Option Addr × Nat × Nat) (x1 : Int) (x2 : Int) (x3 : Int) (x4 : Value) (σ : AMem) : d_slices_rotateCmpFunc_api_Run (k + 1) x0 x1 x2 x3 x4 σ = b_slices_rotateCmpFunc_api_Run k (d_slices_rotateCmpFunc_api_Run_l0 k) (d_slices_swapRangeCmpFunc_api_Run k) x0 x1 x2 x3 x4 σ := by
  simp only [d_slices_rotateCmpFunc_api_Run, d_slices_rotateCmpFunc_api_Run_l0, d_slices_swapRangeCmpFunc_api_Run, hide_eq]; kernel_rfl

theorem d_slices_swapRangeCmpFunc_api_Run_l0_eq (k n : Nat) (p0 : Option Addr) (c1 : Nat) (c2 : Nat) (i3 : Int) (i4 : Int) (i5 : Int) (x10 : Int) (σ : AMem) : d_slices_swapRangeCmpFunc_api_Run_l0 k (n + 1) p0 c1 c2 i3 i4 i5 x10 σ = b_slices_swapRangeCmpFunc_api_Run_l0 k n (d_slices_swapRangeCmpFunc_api_Run_l0 k) p0 c1 c2 i3 i4 i5 x10 σ := by
  simp only [d_slices_swapRangeCmpFunc_api_Run_l0, hide_eq]; kernel_rfl

theorem d_slices_swapRangeCmpFunc_api_Run_eq (k : Nat) (x0 : Option Addr × Nat × Nat) (x1 : Int) (x2 : Int) (x3 : Int) (x4 : Value) (σ : AMem) : d_slices_swapRangeCmpFunc_api_Run (k + 1) x0 x1 x2 x3 x4 σ = b_slices_swapRangeCmpFunc_api_Run k (d_slices_swapRangeCmpFunc_api_Run_l0 k) x0 x1 x2 x3 x4 σ := by
  simp only [d_slices_swapRangeCmpFunc_api_Run, d_slices_swapRangeCmpFunc_api_Run_l0, hide_eq]; kernel_rfl

theorem d_alloc_next_place_eq (k : Nat) (x1 : Option Addr) (x2 : Int) (σ : AMem) : d_alloc_next_place (k + 1) x1 x2 σ = b_alloc_next_place k (d_alloc_Allocator_gaps k) (d_alloc_Allocator_start k) x1 x2 σ := by
  simp only [d_alloc_Allocator_gaps, d_alloc_Allocator_start, d_alloc_next_place, hide_eq]; kernel_rfl

theorem d_alloc_bump_place_eq (k : Nat) (x1 : Option Addr) (x2 : Int) (σ : AMem) : d_alloc_bump_place (k + 1) x1 x2 σ = b_alloc_bump_place k (d_alloc_Allocator_bumped k) x1 x2 σ := by
  simp only [d_alloc_Allocator_bumped, d_alloc_bump_place, hide_eq]; kernel_rfl

theorem d_alloc_Allocator_bumped_eq (k : Nat) (x0 : Option Addr) (x1 : Option Addr) (x2 : Int) (σ : AMem) : d_alloc_Allocator_bumped (k + 1) x0 x1 x2 σ = b_alloc_Allocator_bumped k (d_alloc_Allocator_begin k) (d_alloc_area_has k) (d_alloc_area_take k) x0 x1 x2 σ := by
  simp only [d_alloc_Allocator_begin, d_alloc_Allocator_bumped, d_alloc_area_has, d_alloc_area_take, hide_eq]; kernel_rfl

theorem d_alloc_area_has_eq (k : Nat) (x0 : Option Addr) (x1 : Int) (σ : AMem) : d_alloc_area_has (k + 1) x0 x1 σ = b_alloc_area_has k  x0 x1 σ := by
  simp only [d_alloc_area_has, hide_eq]; kernel_rfl

theorem d_alloc_area_take_eq (k : Nat) (x0 : Option Addr) (x1 : Int) (σ : AMem) : d_alloc_area_take (k + 1) x0 x1 σ = b_alloc_area_take k  x0 x1 σ := by
  simp only [d_alloc_area_take, hide_eq]; kernel_rfl

theorem d_alloc_lines_place_eq (k : Nat) (x1 : Option Addr) (x2 : Int) (σ : AMem) : d_alloc_lines_place (k + 1) x1 x2 σ = b_alloc_lines_place k (d_alloc_Allocator_bumped k) (d_alloc_Allocator_hole k) (d_alloc_area_has k) (d_alloc_area_take k) x1 x2 σ := by
  simp only [d_alloc_Allocator_bumped, d_alloc_Allocator_hole, d_alloc_area_has, d_alloc_area_take, d_alloc_lines_place, hide_eq]; kernel_rfl

theorem d_alloc_Allocator_hole_l2_eq (k n : Nat) (p0 : Option Addr) (c1 : Nat) (c2 : Nat) (x8 : Int) (σ : AMem) : d_alloc_Allocator_hole_l2 k (n + 1) p0 c1 c2 x8 σ = b_alloc_Allocator_hole_l2 k n (d_alloc_Allocator_hole_l2 k) p0 c1 c2 x8 σ := by
  simp only [d_alloc_Allocator_hole_l2, hide_eq]; kernel_rfl

theorem d_alloc_Allocator_hole_l1_eq (k n : Nat) (p0 : Option Addr) (h1 : Nat) (i2 : Int) (p3 : Option Addr) (c4 : Nat) (c5 : Nat) (x7 : Int) (σ : AMem) : d_alloc_Allocator_hole_l1 k (n + 1) p0 h1 i2 p3 c4 c5 x7 σ = b_alloc_Allocator_hole_l1 k n (d_alloc_Allocator_hole_l1 k) (d_alloc_Allocator_hole_l2 k) p0 h1 i2 p3 c4 c5 x7 σ := by
  simp only [d_alloc_Allocator_hole_l1, d_alloc_Allocator_hole_l2, hide_eq]; kernel_rfl

theorem d_alloc_Allocator_hole_l0_eq (k n : Nat) (p0 : Option Addr) (h1 : Nat) (p2 : Option Addr) (c3 : Nat) (c4 : Nat) (i5 : Int) (x13 : Int) (σ : AMem) : d_alloc_Allocator_hole_l0 k (n + 1) p0 h1 p2 c3 c4 i5 x13 σ = b_alloc_Allocator_hole_l0 k n (d_alloc_Allocator_hole_l0 k) (d_alloc_Allocator_hole_l1 k) (d_heap_Heap_Lines k) p0 h1 p2 c3 c4 i5 x13 σ := by
  simp only [d_alloc_Allocator_hole_l0, d_alloc_Allocator_hole_l1, d_heap_Heap_Lines, hide_eq]; kernel_rfl

theorem d_alloc_Allocator_hole_eq (k : Nat) (x0 : Option Addr) (σ : AMem) : d_alloc_Allocator_hole (k + 1) x0 σ = b_alloc_Allocator_hole k (d_alloc_Allocator_begin k) (d_alloc_Allocator_blocks k) (d_alloc_Allocator_hole_l0 k) x0 σ := by
  simp only [d_alloc_Allocator_begin, d_alloc_Allocator_blocks, d_alloc_Allocator_hole, d_alloc_Allocator_hole_l0, hide_eq]; kernel_rfl

theorem d_heap_Heap_Lines_l1_eq (k n : Nat) (h0 : Nat) (c1 : Nat) (i2 : Int) (x10 : Int) (σ : AMem) : d_heap_Heap_Lines_l1 k (n + 1) h0 c1 i2 x10 σ = b_heap_Heap_Lines_l1 k n (d_heap_Heap_Lines_l1 k) h0 c1 i2 x10 σ := by
  simp only [d_heap_Heap_Lines_l1, hide_eq]; kernel_rfl

theorem d_heap_Heap_Lines_l0_eq (k n : Nat) (p0 : Option Addr) (h1 : Nat) (c2 : Nat) (p3 : Option Addr) (c4 : Nat) (c5 : Nat) (i6 : Int) (x20 : Int) (σ : AMem) : d_heap_Heap_Lines_l0 k (n + 1) p0 h1 c2 p3 c4 c5 i6 x20 σ = b_heap_Heap_Lines_l0 k n (d_heap_Heap_Lines_l0 k) (d_heap_Heap_Lines_l1 k) (d_heap_Heap_size k) p0 h1 c2 p3 c4 c5 i6 x20 σ := by
  simp only [d_heap_Heap_Lines_l0, d_heap_Heap_Lines_l1, d_heap_Heap_size, hide_eq]; kernel_rfl

theorem d_heap_Heap_Lines_eq (k : Nat) (x0 : Option Addr) (x1 : Int) (σ : AMem) : d_heap_Heap_Lines (k + 1) x0 x1 σ = b_heap_Heap_Lines k (d_heap_Heap_Lines_l0 k) (d_heap_Heap_Objects k) (d_heap_Heap_used k) x0 x1 σ := by
  simp only [d_heap_Heap_Lines, d_heap_Heap_Lines_l0, d_heap_Heap_Objects, d_heap_Heap_used, hide_eq]; kernel_rfl

theorem callV_f_0_roots_Roots_all_c1 (k : Nat) (x0 : Value) (c0 : Option Addr) (σ : AMem) : d_callV_f_0 k (.func (.func 187) #[] #[.pointer c0]) [x0] σ = d_roots_Roots_all_c1 k x0 c0 σ := by
  simp only [d_callV_f_0, d_roots_Roots_all_c1, hide_eq]; kernel_rfl

theorem callV_pi_it_alloc_Allocator_large (k : Nat) (x0 : Option Addr) (x1 : Int) (σ : AMem) : d_callV_pi_it k (.func (.func 156) #[] #[]) [.pointer x0, .int .i64 x1] σ = d_alloc_Allocator_large k x0 x1 σ := by
  simp only [d_callV_pi_it, d_alloc_Allocator_large, hide_eq]; kernel_rfl

theorem callV_i_t_trace_all_c1 (k : Nat) (x0 : Int) (c0 : Option Addr) (c1 : Option Addr) (σ : AMem) : d_callV_i_t k (.func (.func 134) #[] #[.pointer c0, .pointer c1]) [.int .i64 x0] σ = d_trace_all_c1 k x0 c0 c1 σ := by
  simp only [d_callV_i_t, d_trace_all_c1, hide_eq]; kernel_rfl

theorem callV_i_t_side_Table_check_c1 (k : Nat) (x0 : Int) (c0 : Option Addr) (σ : AMem) : d_callV_i_t k (.func (.func 237) #[] #[.pointer c0]) [.int .i64 x0] σ = d_side_Table_check_c1 k x0 c0 σ := by
  simp only [d_callV_i_t, d_side_Table_check_c1, hide_eq]; kernel_rfl

theorem callV_ii_t_heap_Heap_claim_c1 (k : Nat) (x0_0 : Int) (x0_1 : Int) (σ : AMem) : d_callV_ii_t k (.func (.func 252) #[] #[]) [.agg #[.int .i64 x0_0, .int .i64 x0_1]] σ = d_heap_Heap_claim_c1 k x0_0 x0_1 σ := by
  simp only [d_callV_ii_t, d_heap_Heap_claim_c1, hide_eq]; kernel_rfl

theorem callV_iiii_i_alloc_best_place_c1 (k : Nat) (x0_0 : Int) (x0_1 : Int) (x1_0 : Int) (x1_1 : Int) (σ : AMem) : d_callV_iiii_i k (.func (.func 288) #[] #[]) [.agg #[.int .i64 x0_0, .int .i64 x0_1], .agg #[.int .i64 x1_0, .int .i64 x1_1]] σ = d_alloc_best_place_c1 k x0_0 x0_1 x1_0 x1_1 σ := by
  simp only [d_callV_iiii_i, d_alloc_best_place_c1, hide_eq]; kernel_rfl

theorem callV_iiip_t_roots_Roots_Places_r (k : Nat) (h : Nat) (qh0 : Nat) (z0_0 : Int) (z0_1 : Int) (z0_2 : Int) (z1 : Option Addr) (σ : AMem) (hσ : σ[h]? = some (.loop 54 .ready (rgs 0 17 [(3, .pointer (some ⟨qh0, 0, none⟩))]))) : d_callV_iiip_t (k + 1) (.func (.yield h) #[] #[]) [.agg #[.int .i64 z0_0, .int .i64 z0_1, .int .i64 z0_2], .pointer z1] σ = b_roots_Roots_Places_r k  h qh0 z0_0 z0_1 z0_2 z1 σ := by
  simp only [d_callV_iiip_t, hide_eq]
  exact (round_eq (F := Tryz.f54) (c := bodyC Tryz.f54) (x := (theRange (bodyC Tryz.f54)).getD default) hσ (by kernel_rfl) (by kernel_rfl) (by kernel_rfl) (by kernel_rfl) (by kernel_rfl) (by kernel_rfl)).trans (by kernel_rfl)

theorem callV_iiip_t_roots_Roots_Leads_r (k : Nat) (h : Nat) (qh0 : Nat) (z0_0 : Int) (z0_1 : Int) (z0_2 : Int) (z1 : Option Addr) (σ : AMem) (hσ : σ[h]? = some (.loop 60 .ready (rgs 0 26 [(3, .pointer (some ⟨qh0, 0, none⟩))]))) : d_callV_iiip_t (k + 1) (.func (.yield h) #[] #[]) [.agg #[.int .i64 z0_0, .int .i64 z0_1, .int .i64 z0_2], .pointer z1] σ = b_roots_Roots_Leads_r k (d_slices_Contains_int k) h qh0 z0_0 z0_1 z0_2 z1 σ := by
  simp only [d_callV_iiip_t, d_slices_Contains_int, hide_eq]
  exact (round_eq (F := Tryz.f60) (c := bodyC Tryz.f60) (x := (theRange (bodyC Tryz.f60)).getD default) hσ (by kernel_rfl) (by kernel_rfl) (by kernel_rfl) (by kernel_rfl) (by kernel_rfl) (by kernel_rfl)).trans (by kernel_rfl)

end

theorem eqA_ptrs (a : Addr) : eqA P pt_side_Table (.pointer (some a)) (.pointer none) = some false ∧ eqA P pt_side_Table (.pointer none) (.pointer none) = some true ∧ eqA P pt_heap_Heap (.pointer (some a)) (.pointer none) = some false ∧ eqA P pt_heap_Heap (.pointer none) (.pointer none) = some true ∧ eqA P pt_roots_Roots (.pointer (some a)) (.pointer none) = some false ∧ eqA P pt_roots_Roots (.pointer none) (.pointer none) = some true ∧ eqA P pt_alloc_Allocator (.pointer (some a)) (.pointer none) = some false ∧ eqA P pt_alloc_Allocator (.pointer none) (.pointer none) = some true ∧ eqA P pt_int (.pointer (some a)) (.pointer none) = some false ∧ eqA P pt_int (.pointer none) (.pointer none) = some true := by
  refine ⟨?_, ?_, ?_, ?_, ?_, ?_, ?_, ?_, ?_, ?_⟩ <;> kernel_rfl

abbrev fn_law07_TraceNone : FuncId := 3
abbrev fn_heap_New : FuncId := 7
abbrev fn_roots_New : FuncId := 8
abbrev fn_trace_Mark : FuncId := 9
abbrev fn_trace_Share : FuncId := 10
abbrev fn_trace_Kept : FuncId := 11
abbrev fn_trace_Shortest : FuncId := 12
abbrev fn_trace_Clear : FuncId := 13
abbrev fn_trace_Marked : FuncId := 14
abbrev fn_law07_alive : FuncId := 15
abbrev fn_side_New : FuncId := 16
abbrev fn_trace_given : FuncId := 52
abbrev fn_trace_table : FuncId := 53
abbrev fn_roots_Roots_Places : FuncId := 54
abbrev fn_roots_Roots_Get : FuncId := 55
abbrev fn_trace_marker_reach : FuncId := 56
abbrev fn_trace_marker_run : FuncId := 57
abbrev fn_trace_marker_round : FuncId := 58
abbrev fn_trace_crew_deal : FuncId := 59
abbrev fn_roots_Roots_Leads : FuncId := 60
abbrev fn_trace_due : FuncId := 61
abbrev fn_trace_crew_work : FuncId := 62
abbrev fn_trace_all : FuncId := 63
abbrev fn_heap_Heap_Has : FuncId := 64
abbrev fn_heap_Heap_All : FuncId := 65
abbrev fn_trace_strong : FuncId := 66
abbrev fn___trace_line_int__oldest : FuncId := 67
abbrev fn___trace_line_int__add : FuncId := 68
abbrev fn_trace_fits : FuncId := 69
abbrev fn_heap_Heap_Shape : FuncId := 70
abbrev fn_trace_softs : FuncId := 71
abbrev fn_heap_Heap_Ref : FuncId := 72
abbrev fn_trace_marked : FuncId := 73
abbrev fn_heap_Heap_SetRef : FuncId := 74
abbrev fn_law07_Chain : FuncId := 75
abbrev fn_slices_Contains_int : FuncId := 76
abbrev fn_alloc_Allocator_Alloc : FuncId := 86
abbrev fn_heap_Heap_Blocks : FuncId := 90
abbrev fn_side_Table_Width : FuncId := 92
abbrev fn_side_Table_Entries : FuncId := 93
abbrev fn_law06_NewWorld : FuncId := 99
abbrev fn_roots_Roots_Set : FuncId := 100
abbrev fn_heap_Heap_State : FuncId := 102
abbrev fn_roots_Roots_Mutators : FuncId := 124
abbrev fn_roots_Roots_made : FuncId := 125
abbrev fn_roots_Roots_all : FuncId := 126
abbrev fn_roots_Roots_place : FuncId := 127
abbrev fn_trace_mark : FuncId := 128
abbrev fn_trace_marker_drain : FuncId := 129
abbrev fn_trace_marker_scan : FuncId := 130
abbrev fn_trace_crew_longest : FuncId := 131
abbrev fn_trace_crew_turn : FuncId := 132
abbrev fn_slices_DeleteFunc_int : FuncId := 133
abbrev fn_trace_all_c1 : FuncId := 134
abbrev fn_heap_Heap_made : FuncId := 135
abbrev fn_side_Table_Get : FuncId := 136
abbrev fn_heap_Heap_between : FuncId := 137
abbrev fn_heap_Heap_object : FuncId := 138
abbrev fn_heap_shape : FuncId := 139
abbrev fn_heap_Heap_field : FuncId := 140
abbrev fn_slices_Index_int : FuncId := 141
abbrev fn_side_Table_Set : FuncId := 149
abbrev fn_alloc_Allocator_made : FuncId := 152
abbrev fn_heap_Valid : FuncId := 153
abbrev fn_heap_Words : FuncId := 154
abbrev fn_alloc_policies : FuncId := 155
abbrev fn_alloc_Allocator_large : FuncId := 156
abbrev fn_heap_Heap_Space : FuncId := 157
abbrev fn_heap_Heap_Place : FuncId := 158
abbrev fn_side_Table_made : FuncId := 170
abbrev fn_slices_ContainsFunc_int : FuncId := 173
abbrev fn_heap_Heap_Objects : FuncId := 174
abbrev fn_heap_Heap_size : FuncId := 177
abbrev fn_law06_blocks : FuncId := 178
abbrev fn_law06_mutators : FuncId := 179
abbrev fn_model_New : FuncId := 180
abbrev fn_alloc_New : FuncId := 181
abbrev fn_roots_Roots_all_c1 : FuncId := 187
abbrev fn_roots_Roots_at : FuncId := 188
abbrev fn_side_Table_Swap : FuncId := 189
abbrev fn___trace_line_int__newest : FuncId := 190
abbrev fn_slices_IndexFunc_int : FuncId := 191
abbrev fn_side_Table_there : FuncId := 192
abbrev fn_side_Table_get : FuncId := 193
abbrev fn_side_Table_Next : FuncId := 194
abbrev fn_heap_Heap_Gaps : FuncId := 203
abbrev fn_side_Table_check : FuncId := 206
abbrev fn_side_Table_put : FuncId := 207
abbrev fn_heap_Heap_ClaimLarge : FuncId := 211
abbrev fn_heap_Heap_fits : FuncId := 212
abbrev fn_heap_number : FuncId := 213
abbrev fn_heap_Heap_span : FuncId := 225
abbrev fn_roots_Roots_at_c1 : FuncId := 229
abbrev fn_side_Table_most : FuncId := 230
abbrev fn_heap_Heap_used : FuncId := 235
abbrev fn_heap_Heap_Gaps_c1 : FuncId := 236
abbrev fn_side_Table_check_c1 : FuncId := 237
abbrev fn_side_Table_value : FuncId := 238
abbrev fn_heap_Heap_claim : FuncId := 239
abbrev fn_heap_Heap_Find : FuncId := 240
abbrev fn_heap_Heap_there : FuncId := 244
abbrev fn_heap_space : FuncId := 250
abbrev fn_slices_ContainsFunc_heap_block : FuncId := 251
abbrev fn_heap_Heap_claim_c1 : FuncId := 252
abbrev fn_side_Table_Last : FuncId := 253
abbrev fn_slices_IndexFunc_heap_block : FuncId := 256
abbrev fn_alloc_first_place : FuncId := 280
abbrev fn_alloc_Allocator_start : FuncId := 281
abbrev fn_alloc_Allocator_gaps : FuncId := 282
abbrev fn_alloc_Allocator_begin : FuncId := 283
abbrev fn_alloc_Allocator_blocks : FuncId := 284
abbrev fn_heap_Heap_Claim : FuncId := 285
abbrev fn_alloc_best_place : FuncId := 286
abbrev fn_slices_SortStableFunc_api_Run : FuncId := 287
abbrev fn_alloc_best_place_c1 : FuncId := 288
abbrev fn_slices_stableCmpFunc_api_Run : FuncId := 289
abbrev fn_slices_insertionSortCmpFunc_api_Run : FuncId := 290
abbrev fn_slices_symMergeCmpFunc_api_Run : FuncId := 291
abbrev fn_slices_rotateCmpFunc_api_Run : FuncId := 292
abbrev fn_slices_swapRangeCmpFunc_api_Run : FuncId := 293
abbrev fn_alloc_next_place : FuncId := 294
abbrev fn_alloc_bump_place : FuncId := 295
abbrev fn_alloc_Allocator_bumped : FuncId := 296
abbrev fn_alloc_area_has : FuncId := 297
abbrev fn_alloc_area_take : FuncId := 298
abbrev fn_alloc_lines_place : FuncId := 299
abbrev fn_alloc_Allocator_hole : FuncId := 300
abbrev fn_heap_Heap_Lines : FuncId := 301
end Go.Proofs.YtilefhlamdiomaaGreat
