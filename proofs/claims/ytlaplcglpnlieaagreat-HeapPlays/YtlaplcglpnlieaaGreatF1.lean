/-
  PRINTED BY A PROGRAM OF THIS SESSION'S OWN (gen2.py): the unfolding equations.
-/
import Derived.Test.YtlaplcglpnlieaaGreatF0
set_option maxRecDepth 100000
set_option linter.unusedVariables false
set_option linter.unusedSimpArgs false
set_option linter.unusedSectionVars false
namespace Go.Proofs.YtlaplcglpnlieaaGreat
open Go Go.AX
section
variable [Quiet] [Kn]
theorem d_law02_HeapPlays_l0_eq (k n:Nat) (p0:Option Addr) (c1:Nat) (c2:Nat) (x5:Option Addr) (x7:Option Addr) (x9:Int) (σ:AMem):d_law02_HeapPlays_l0 k (n+1) p0 c1 c2 x5 x7 x9 σ=b_law02_HeapPlays_l0 k n (d_heap_Heap_Clone k) (d_law02_HeapPlays_l0 k) (d_law02_Play k) (d_ref02_Heap_Clone k) p0 c1 c2 x5 x7 x9 σ:=by
  simp only[d_heap_Heap_Clone,d_law02_HeapPlays_l0,d_law02_Play,d_ref02_Heap_Clone,hide_eq]; kernel_rfl
theorem d_law02_HeapPlays_eq (k:Nat) (x0:Int) (x1:Option Addr × Nat × Nat) (σ:AMem):d_law02_HeapPlays (k+1) x0 x1 σ=b_law02_HeapPlays k (d_heap_New k) (d_law02_Great k) (d_law02_HeapPlays_l0 k) (d_law02_Same k) (d_law02_alive k) (d_ref02_New k) x0 x1 σ:=by
  simp only[d_heap_New,d_law02_Great,d_law02_HeapPlays,d_law02_HeapPlays_l0,d_law02_Same,d_law02_alive,d_ref02_New,hide_eq]; kernel_rfl
theorem d_law02_Great_eq (k:Nat) (x0:Option Addr × Nat × Nat) (σ:AMem):d_law02_Great (k+1) x0 σ=b_law02_Great k  x0 σ:=by
  simp only[d_law02_Great,hide_eq]; kernel_rfl
theorem d_heap_New_eq (k:Nat) (x0:Int) (σ:AMem):d_heap_New (k+1) x0 σ=b_heap_New k (d_side_New k) x0 σ:=by
  simp only[d_heap_New,d_side_New,hide_eq]; kernel_rfl
theorem d_ref02_New_eq (k:Nat) (x0:Int) (σ:AMem):d_ref02_New (k+1) x0 σ=b_ref02_New k  x0 σ:=by
  simp only[d_ref02_New,hide_eq]; kernel_rfl
theorem d_heap_Heap_Clone_eq (k:Nat) (x0:Option Addr) (σ:AMem):d_heap_Heap_Clone (k+1) x0 σ=b_heap_Heap_Clone k (d_heap_Heap_made k) (d_maps_Clone_int k) (d_side_Table_Clone k) (d_slices_Clone_heap_block k) (d_slices_Clone_int k) x0 σ:=by
  simp only[d_heap_Heap_Clone,d_heap_Heap_made,d_maps_Clone_int,d_side_Table_Clone,d_slices_Clone_heap_block,d_slices_Clone_int,hide_eq]; kernel_rfl
theorem d_ref02_Heap_Clone_l0_eq (k n:Nat) (p0:Option Addr) (h1:Nat) (x4:Int) (σ:AMem):d_ref02_Heap_Clone_l0 k (n+1) p0 h1 x4 σ=b_ref02_Heap_Clone_l0 k n (d_ref02_Heap_Clone_l0 k) p0 h1 x4 σ:=by
  simp only[d_ref02_Heap_Clone_l0,hide_eq]; kernel_rfl
theorem d_ref02_Heap_Clone_eq (k:Nat) (x0:Option Addr) (σ:AMem):d_ref02_Heap_Clone (k+1) x0 σ=b_ref02_Heap_Clone k (d_ref02_Heap_Clone_l0 k) (d_ref02_Heap_Made k) x0 σ:=by
  simp only[d_ref02_Heap_Clone,d_ref02_Heap_Clone_l0,d_ref02_Heap_Made,hide_eq]; kernel_rfl
theorem d_law02_Play_eq (k:Nat) (x0:Option Addr) (x1:Option Addr) (x2_0:Int) (x2_1:Int) (x2_2:Int) (x2_3:Int) (x2_4:Int) (x2_5:Int) (x2_6:Int) (σ:AMem):d_law02_Play (k+1) x0 x1 x2_0 x2_1 x2_2 x2_3 x2_4 x2_5 x2_6 σ=b_law02_Play k (d_heap_Heap_Claim k) (d_heap_Heap_ClaimLarge k) (d_heap_Heap_Forget k) (d_heap_Heap_Kill k) (d_heap_Heap_Move k) (d_heap_Heap_Pin k) (d_heap_Heap_Place k) (d_heap_Heap_Poke k) (d_heap_Heap_Release k) (d_heap_Heap_Retag k) (d_heap_Heap_SetData k) (d_heap_Heap_SetRef k) (d_heap_Heap_Unpin k) (d_ref02_Heap_Claim k) (d_ref02_Heap_ClaimLarge k) (d_ref02_Heap_Forget k) (d_ref02_Heap_Kill k) (d_ref02_Heap_Move k) (d_ref02_Heap_Pin k) (d_ref02_Heap_Place k) (d_ref02_Heap_Poke k) (d_ref02_Heap_Release k) (d_ref02_Heap_Retag k) (d_ref02_Heap_SetData k) (d_ref02_Heap_SetRef k) (d_ref02_Heap_Unpin k) x0 x1 x2_0 x2_1 x2_2 x2_3 x2_4 x2_5 x2_6 σ:=by
  simp only[d_heap_Heap_Claim,d_heap_Heap_ClaimLarge,d_heap_Heap_Forget,d_heap_Heap_Kill,d_heap_Heap_Move,d_heap_Heap_Pin,d_heap_Heap_Place,d_heap_Heap_Poke,d_heap_Heap_Release,d_heap_Heap_Retag,d_heap_Heap_SetData,d_heap_Heap_SetRef,d_heap_Heap_Unpin,d_law02_Play,d_ref02_Heap_Claim,d_ref02_Heap_ClaimLarge,d_ref02_Heap_Forget,d_ref02_Heap_Kill,d_ref02_Heap_Move,d_ref02_Heap_Pin,d_ref02_Heap_Place,d_ref02_Heap_Poke,d_ref02_Heap_Release,d_ref02_Heap_Retag,d_ref02_Heap_SetData,d_ref02_Heap_SetRef,d_ref02_Heap_Unpin,hide_eq]; kernel_rfl
theorem d_law02_Same_l0_eq (k n:Nat) (p0:Option Addr) (p1:Option Addr) (x5:Int) (σ:AMem):d_law02_Same_l0 k (n+1) p0 p1 x5 σ=b_law02_Same_l0 k n (d_heap_Heap_Gaps k) (d_heap_Heap_Lines k) (d_heap_Heap_Objects k) (d_heap_Heap_Space k) (d_heap_Heap_State k) (d_law02_Same_l0 k) (d_law02_bools k) (d_law02_ints k) (d_ref01_SameRuns k) (d_ref02_Heap_Blocks k) (d_ref02_Heap_Gaps k) (d_ref02_Heap_Lines k) (d_ref02_Heap_Objects k) (d_ref02_Heap_Space k) (d_ref02_Heap_State k) p0 p1 x5 σ:=by
  simp only[d_heap_Heap_Gaps,d_heap_Heap_Lines,d_heap_Heap_Objects,d_heap_Heap_Space,d_heap_Heap_State,d_law02_Same_l0,d_law02_bools,d_law02_ints,d_ref01_SameRuns,d_ref02_Heap_Blocks,d_ref02_Heap_Gaps,d_ref02_Heap_Lines,d_ref02_Heap_Objects,d_ref02_Heap_Space,d_ref02_Heap_State,hide_eq]; kernel_rfl
theorem d_law02_Same_l1_eq (k n:Nat) (p0:Option Addr) (p1:Option Addr) (x6:Int) (σ:AMem):d_law02_Same_l1 k (n+1) p0 p1 x6 σ=b_law02_Same_l1 k n (d_law02_Looks k) (d_law02_Same_l1 k) (d_ref02_Heap_Blocks k) (d_ref02_Heap_State k) p0 p1 x6 σ:=by
  simp only[d_law02_Looks,d_law02_Same_l1,d_ref02_Heap_Blocks,d_ref02_Heap_State,hide_eq]; kernel_rfl
theorem d_law02_Same_l2_eq (k n:Nat) (p0:Option Addr) (p1:Option Addr) (x7:Int) (σ:AMem):d_law02_Same_l2 k (n+1) p0 p1 x7 σ=b_law02_Same_l2 k n (d_heap_Heap_At k) (d_law02_Same_l2 k) (d_ref02_Heap_At k) (d_ref02_Heap_Births k) p0 p1 x7 σ:=by
  simp only[d_heap_Heap_At,d_law02_Same_l2,d_ref02_Heap_At,d_ref02_Heap_Births,hide_eq]; kernel_rfl
theorem d_law02_Same_eq (k:Nat) (x0:Option Addr) (x1:Option Addr) (σ:AMem):d_law02_Same (k+1) x0 x1 σ=b_law02_Same k (d_heap_Heap_All k) (d_heap_Heap_Births k) (d_heap_Heap_Blocks k) (d_heap_Heap_Used k) (d_law02_Same_l0 k) (d_law02_Same_l1 k) (d_law02_Same_l2 k) (d_law02_ints k) (d_ref02_Heap_All k) (d_ref02_Heap_Births k) (d_ref02_Heap_Blocks k) (d_ref02_Heap_Used k) x0 x1 σ:=by
  simp only[d_heap_Heap_All,d_heap_Heap_Births,d_heap_Heap_Blocks,d_heap_Heap_Used,d_law02_Same,d_law02_Same_l0,d_law02_Same_l1,d_law02_Same_l2,d_law02_ints,d_ref02_Heap_All,d_ref02_Heap_Births,d_ref02_Heap_Blocks,d_ref02_Heap_Used,hide_eq]; kernel_rfl
theorem d_heap_Words_eq (k:Nat) (x0_0:Int) (x0_1:Int) (x0_2:Int) (σ:AMem):d_heap_Words (k+1) x0_0 x0_1 x0_2 σ=b_heap_Words k (d_heap_Valid k) x0_0 x0_1 x0_2 σ:=by
  simp only[d_heap_Valid,d_heap_Words,hide_eq]; kernel_rfl
theorem d_heap_Heap_Blocks_eq (k:Nat) (x0:Option Addr) (σ:AMem):d_heap_Heap_Blocks (k+1) x0 σ=b_heap_Heap_Blocks k (d_heap_Heap_made k) x0 σ:=by
  simp only[d_heap_Heap_Blocks,d_heap_Heap_made,hide_eq]; kernel_rfl
theorem d_heap_Heap_State_eq (k:Nat) (x0:Option Addr) (x1:Int) (σ:AMem):d_heap_Heap_State (k+1) x0 x1 σ=b_heap_Heap_State k (d_heap_Heap_Blocks k) x0 x1 σ:=by
  simp only[d_heap_Heap_Blocks,d_heap_Heap_State,hide_eq]; kernel_rfl
theorem d_heap_Valid_eq (k:Nat) (x0_0:Int) (x0_1:Int) (x0_2:Int) (σ:AMem):d_heap_Valid (k+1) x0_0 x0_1 x0_2 σ=b_heap_Valid k  x0_0 x0_1 x0_2 σ:=by
  simp only[d_heap_Valid,hide_eq]; kernel_rfl
theorem d_heap_Heap_Births_eq (k:Nat) (x0:Option Addr) (σ:AMem):d_heap_Heap_Births (k+1) x0 σ=b_heap_Heap_Births k (d_heap_Heap_made k) x0 σ:=by
  simp only[d_heap_Heap_Births,d_heap_Heap_made,hide_eq]; kernel_rfl
theorem d_heap_Heap_Ident_eq (k:Nat) (x0:Option Addr) (x1:Int) (σ:AMem):d_heap_Heap_Ident (k+1) x0 x1 σ=b_heap_Heap_Ident k (d_heap_Heap_object k) x0 x1 σ:=by
  simp only[d_heap_Heap_Ident,d_heap_Heap_object,hide_eq]; kernel_rfl
theorem d_heap_Heap_Shape_eq (k:Nat) (x0:Option Addr) (x1:Int) (σ:AMem):d_heap_Heap_Shape (k+1) x0 x1 σ=b_heap_Heap_Shape k (d_heap_Heap_object k) (d_heap_shape k) x0 x1 σ:=by
  simp only[d_heap_Heap_Shape,d_heap_Heap_object,d_heap_shape,hide_eq]; kernel_rfl
theorem d_heap_Heap_Space_eq (k:Nat) (x0:Option Addr) (x1:Int) (σ:AMem):d_heap_Heap_Space (k+1) x0 x1 σ=b_heap_Heap_Space k (d_heap_Heap_Blocks k) x0 x1 σ:=by
  simp only[d_heap_Heap_Blocks,d_heap_Heap_Space,hide_eq]; kernel_rfl
theorem d_heap_Heap_Lines_l1_eq (k n:Nat) (h0:Nat) (c1:Nat) (i2:Int) (x10:Int) (σ:AMem):d_heap_Heap_Lines_l1 k (n+1) h0 c1 i2 x10 σ=b_heap_Heap_Lines_l1 k n (d_heap_Heap_Lines_l1 k) h0 c1 i2 x10 σ:=by
  simp only[d_heap_Heap_Lines_l1,hide_eq]; kernel_rfl
theorem d_heap_Heap_Lines_l0_eq (k n:Nat) (p0:Option Addr) (h1:Nat) (c2:Nat) (p3:Option Addr) (c4:Nat) (c5:Nat) (i6:Int) (x20:Int) (σ:AMem):d_heap_Heap_Lines_l0 k (n+1) p0 h1 c2 p3 c4 c5 i6 x20 σ=b_heap_Heap_Lines_l0 k n (d_heap_Heap_Lines_l0 k) (d_heap_Heap_Lines_l1 k) (d_heap_Heap_size k) p0 h1 c2 p3 c4 c5 i6 x20 σ:=by
  simp only[d_heap_Heap_Lines_l0,d_heap_Heap_Lines_l1,d_heap_Heap_size,hide_eq]; kernel_rfl
theorem d_heap_Heap_Lines_eq (k:Nat) (x0:Option Addr) (x1:Int) (σ:AMem):d_heap_Heap_Lines (k+1) x0 x1 σ=b_heap_Heap_Lines k (d_heap_Heap_Lines_l0 k) (d_heap_Heap_Objects k) (d_heap_Heap_used k) x0 x1 σ:=by
  simp only[d_heap_Heap_Lines,d_heap_Heap_Lines_l0,d_heap_Heap_Objects,d_heap_Heap_used,hide_eq]; kernel_rfl
theorem d_heap_Heap_Claim_eq (k:Nat) (x0:Option Addr) (x1:Int) (x2:Int) (σ:AMem):d_heap_Heap_Claim (k+1) x0 x1 x2 σ=b_heap_Heap_Claim k (d_heap_Heap_claim k) x0 x1 x2 σ:=by
  simp only[d_heap_Heap_Claim,d_heap_Heap_claim,hide_eq]; kernel_rfl
theorem d_heap_Heap_Place_eq (k:Nat) (x0:Option Addr) (x1:Int) (x2_0:Int) (x2_1:Int) (x2_2:Int) (σ:AMem):d_heap_Heap_Place (k+1) x0 x1 x2_0 x2_1 x2_2 σ=b_heap_Heap_Place k (d_heap_Heap_fits k) (d_heap_Heap_made k) (d_heap_Valid k) (d_heap_Words k) (d_heap_number k) (d_side_Table_Set k) x0 x1 x2_0 x2_1 x2_2 σ:=by
  simp only[d_heap_Heap_Place,d_heap_Heap_fits,d_heap_Heap_made,d_heap_Valid,d_heap_Words,d_heap_number,d_side_Table_Set,hide_eq]; kernel_rfl
theorem d_heap_Heap_Gaps_l0_eq (k n:Nat) (p0:Option Addr) (h1:Nat) (h2:Nat) (p3:Option Addr) (c4:Nat) (c5:Nat) (i6:Int) (x21:Int) (σ:AMem):d_heap_Heap_Gaps_l0 k (n+1) p0 h1 h2 p3 c4 c5 i6 x21 σ=b_heap_Heap_Gaps_l0 k n (d_heap_Heap_Gaps_c1 k) (d_heap_Heap_Gaps_l0 k) (d_heap_Heap_size k) p0 h1 h2 p3 c4 c5 i6 x21 σ:=by
  simp only[d_heap_Heap_Gaps_c1,d_heap_Heap_Gaps_l0,d_heap_Heap_size,hide_eq]; kernel_rfl
theorem d_heap_Heap_Gaps_eq (k:Nat) (x0:Option Addr) (x1:Int) (σ:AMem):d_heap_Heap_Gaps (k+1) x0 x1 σ=b_heap_Heap_Gaps k (d_heap_Heap_Gaps_c1 k) (d_heap_Heap_Gaps_l0 k) (d_heap_Heap_Objects k) (d_heap_Heap_used k) x0 x1 σ:=by
  simp only[d_heap_Heap_Gaps,d_heap_Heap_Gaps_c1,d_heap_Heap_Gaps_l0,d_heap_Heap_Objects,d_heap_Heap_used,hide_eq]; kernel_rfl
theorem d_heap_Heap_Word_eq (k:Nat) (x0:Option Addr) (x1:Int) (σ:AMem):d_heap_Heap_Word (k+1) x0 x1 σ=b_heap_Heap_Word k (d_heap_Heap_made k) x0 x1 σ:=by
  simp only[d_heap_Heap_Word,d_heap_Heap_made,hide_eq]; kernel_rfl
theorem d_heap_Heap_Move_eq (k:Nat) (x0:Option Addr) (x1:Int) (x2:Int) (σ:AMem):d_heap_Heap_Move (k+1) x0 x1 x2 σ=b_heap_Heap_Move k (d_heap_Heap_fits k) (d_heap_Heap_object k) (d_heap_Heap_size k) (d_heap_Heap_wipe k) (d_side_Table_Get k) (d_side_Table_Set k) x0 x1 x2 σ:=by
  simp only[d_heap_Heap_Move,d_heap_Heap_fits,d_heap_Heap_object,d_heap_Heap_size,d_heap_Heap_wipe,d_side_Table_Get,d_side_Table_Set,hide_eq]; kernel_rfl
theorem d_heap_Heap_Forward_eq (k:Nat) (x0:Option Addr) (x1:Int) (σ:AMem):d_heap_Heap_Forward (k+1) x0 x1 σ=b_heap_Heap_Forward k (d_heap_Heap_made k) x0 x1 σ:=by
  simp only[d_heap_Heap_Forward,d_heap_Heap_made,hide_eq]; kernel_rfl
theorem d_heap_Heap_At_eq (k:Nat) (x0:Option Addr) (x1:Int) (σ:AMem):d_heap_Heap_At (k+1) x0 x1 σ=b_heap_Heap_At k (d_heap_Heap_made k) x0 x1 σ:=by
  simp only[d_heap_Heap_At,d_heap_Heap_made,hide_eq]; kernel_rfl
theorem d_heap_Heap_ClaimLarge_eq (k:Nat) (x0:Option Addr) (x1:Int) (x2:Int) (x3:Int) (σ:AMem):d_heap_Heap_ClaimLarge (k+1) x0 x1 x2 x3 σ=b_heap_Heap_ClaimLarge k (d_heap_Heap_claim k) x0 x1 x2 x3 σ:=by
  simp only[d_heap_Heap_ClaimLarge,d_heap_Heap_claim,hide_eq]; kernel_rfl
theorem d_heap_Heap_Kill_eq (k:Nat) (x0:Option Addr) (x1:Int) (σ:AMem):d_heap_Heap_Kill (k+1) x0 x1 σ=b_heap_Heap_Kill k (d_heap_Heap_object k) (d_heap_Heap_size k) (d_heap_Heap_wipe k) (d_side_Table_Set k) x0 x1 σ:=by
  simp only[d_heap_Heap_Kill,d_heap_Heap_object,d_heap_Heap_size,d_heap_Heap_wipe,d_side_Table_Set,hide_eq]; kernel_rfl
theorem d_heap_Heap_Release_l0_eq (k n:Nat) (p0:Option Addr) (i1:Int) (x6:Int) (σ:AMem):d_heap_Heap_Release_l0 k (n+1) p0 i1 x6 σ=b_heap_Heap_Release_l0 k n (d_heap_Heap_Release_l0 k) p0 i1 x6 σ:=by
  simp only[d_heap_Heap_Release_l0,hide_eq]; kernel_rfl
theorem d_heap_Heap_Release_eq (k:Nat) (x0:Option Addr) (x1:Int) (σ:AMem):d_heap_Heap_Release (k+1) x0 x1 σ=b_heap_Heap_Release k (d_heap_Heap_Objects k) (d_heap_Heap_Release_l0 k) (d_heap_Heap_held k) (d_heap_Heap_span k) x0 x1 σ:=by
  simp only[d_heap_Heap_Objects,d_heap_Heap_Release,d_heap_Heap_Release_l0,d_heap_Heap_held,d_heap_Heap_span,hide_eq]; kernel_rfl
theorem d_ref01_SameRuns_l0_eq (k n:Nat) (p0:Option Addr) (c1:Nat) (c2:Nat) (p3:Option Addr) (c4:Nat) (c5:Nat) (x5:Int) (σ:AMem):d_ref01_SameRuns_l0 k (n+1) p0 c1 c2 p3 c4 c5 x5 σ=b_ref01_SameRuns_l0 k n (d_ref01_SameRuns_l0 k) p0 c1 c2 p3 c4 c5 x5 σ:=by
  simp only[d_ref01_SameRuns_l0,hide_eq]; kernel_rfl
theorem d_ref01_SameRuns_eq (k:Nat) (x0:Option Addr × Nat × Nat) (x1:Option Addr × Nat × Nat) (σ:AMem):d_ref01_SameRuns (k+1) x0 x1 σ=b_ref01_SameRuns k (d_ref01_SameRuns_l0 k) x0 x1 σ:=by
  simp only[d_ref01_SameRuns,d_ref01_SameRuns_l0,hide_eq]; kernel_rfl
theorem d_side_New_eq (k:Nat) (x0:Int) (x1:Int) (σ:AMem):d_side_New (k+1) x0 x1 σ=b_side_New k (d_slices_Contains_int k) x0 x1 σ:=by
  simp only[d_side_New,d_slices_Contains_int,hide_eq]; kernel_rfl
theorem d_heap_Heap_made_eq (k:Nat) (x0:Option Addr) (σ:AMem):d_heap_Heap_made (k+1) x0 σ=b_heap_Heap_made k  x0 σ:=by
  simp only[d_heap_Heap_made,hide_eq]; kernel_rfl
theorem d_slices_Clone_heap_block_eq (k:Nat) (x0:Option Addr × Nat × Nat) (σ:AMem):d_slices_Clone_heap_block (k+1) x0 σ=b_slices_Clone_heap_block k  x0 σ:=by
  simp only[d_slices_Clone_heap_block,hide_eq]; kernel_rfl
theorem d_slices_Clone_int_eq (k:Nat) (x0:Option Addr × Nat × Nat) (σ:AMem):d_slices_Clone_int (k+1) x0 σ=b_slices_Clone_int k  x0 σ:=by
  simp only[d_slices_Clone_int,hide_eq]; kernel_rfl
theorem d_side_Table_Clone_eq (k:Nat) (x0:Option Addr) (σ:AMem):d_side_Table_Clone (k+1) x0 σ=b_side_Table_Clone k (d_side_Table_made k) (d_slices_Clone_uint64 k) x0 σ:=by
  simp only[d_side_Table_Clone,d_side_Table_made,d_slices_Clone_uint64,hide_eq]; kernel_rfl
theorem d_ref02_Heap_Made_eq (k:Nat) (x0:Option Addr) (σ:AMem):d_ref02_Heap_Made (k+1) x0 σ=b_ref02_Heap_Made k  x0 σ:=by
  simp only[d_ref02_Heap_Made,hide_eq]; kernel_rfl
theorem d_ref02_Heap_Claim_eq (k:Nat) (x0:Option Addr) (x1:Int) (x2:Int) (σ:AMem):d_ref02_Heap_Claim (k+1) x0 x1 x2 σ=b_ref02_Heap_Claim k (d_ref02_Heap_Made k) (d_ref02_Heap_block k) (d_ref02_space k) x0 x1 x2 σ:=by
  simp only[d_ref02_Heap_Claim,d_ref02_Heap_Made,d_ref02_Heap_block,d_ref02_space,hide_eq]; kernel_rfl
theorem d_ref02_Heap_ClaimLarge_l0_eq (k n:Nat) (p0:Option Addr) (i1:Int) (i2:Int) (x9:Int) (σ:AMem):d_ref02_Heap_ClaimLarge_l0 k (n+1) p0 i1 i2 x9 σ=b_ref02_Heap_ClaimLarge_l0 k n (d_ref02_Heap_ClaimLarge_l0 k) p0 i1 i2 x9 σ:=by
  simp only[d_ref02_Heap_ClaimLarge_l0,hide_eq]; kernel_rfl
theorem d_ref02_Heap_ClaimLarge_l1_eq (k n:Nat) (p0:Option Addr) (i1:Int) (i2:Int) (i3:Int) (x10:Int) (σ:AMem):d_ref02_Heap_ClaimLarge_l1 k (n+1) p0 i1 i2 i3 x10 σ=b_ref02_Heap_ClaimLarge_l1 k n (d_ref02_Heap_ClaimLarge_l1 k) p0 i1 i2 i3 x10 σ:=by
  simp only[d_ref02_Heap_ClaimLarge_l1,hide_eq]; kernel_rfl
theorem d_ref02_Heap_ClaimLarge_eq (k:Nat) (x0:Option Addr) (x1:Int) (x2:Int) (x3:Int) (σ:AMem):d_ref02_Heap_ClaimLarge (k+1) x0 x1 x2 x3 σ=b_ref02_Heap_ClaimLarge k (d_ref02_Heap_ClaimLarge_l0 k) (d_ref02_Heap_ClaimLarge_l1 k) (d_ref02_Heap_Made k) (d_ref02_Heap_block k) (d_ref02_space k) x0 x1 x2 x3 σ:=by
  simp only[d_ref02_Heap_ClaimLarge,d_ref02_Heap_ClaimLarge_l0,d_ref02_Heap_ClaimLarge_l1,d_ref02_Heap_Made,d_ref02_Heap_block,d_ref02_space,hide_eq]; kernel_rfl
theorem d_ref02_Heap_Release_l0_eq (k n:Nat) (p0:Option Addr) (i1:Int) (i2:Int) (x6:Int) (σ:AMem):d_ref02_Heap_Release_l0 k (n+1) p0 i1 i2 x6 σ=b_ref02_Heap_Release_l0 k n (d_ref02_Heap_Release_l0 k) p0 i1 i2 x6 σ:=by
  simp only[d_ref02_Heap_Release_l0,hide_eq]; kernel_rfl
theorem d_ref02_Heap_Release_eq (k:Nat) (x0:Option Addr) (x1:Int) (σ:AMem):d_ref02_Heap_Release (k+1) x0 x1 σ=b_ref02_Heap_Release k (d_ref02_Heap_Made k) (d_ref02_Heap_Objects k) (d_ref02_Heap_Release_l0 k) (d_ref02_Heap_Whole k) (d_ref02_Heap_block k) x0 x1 σ:=by
  simp only[d_ref02_Heap_Made,d_ref02_Heap_Objects,d_ref02_Heap_Release,d_ref02_Heap_Release_l0,d_ref02_Heap_Whole,d_ref02_Heap_block,hide_eq]; kernel_rfl
theorem d_heap_Heap_Retag_l0_eq (k n:Nat) (p0:Option Addr) (i1:Int) (i2:Int) (x8:Int) (σ:AMem):d_heap_Heap_Retag_l0 k (n+1) p0 i1 i2 x8 σ=b_heap_Heap_Retag_l0 k n (d_heap_Heap_Retag_l0 k) p0 i1 i2 x8 σ:=by
  simp only[d_heap_Heap_Retag_l0,hide_eq]; kernel_rfl
theorem d_heap_Heap_Retag_eq (k:Nat) (x0:Option Addr) (x1:Int) (x2:Int) (σ:AMem):d_heap_Heap_Retag (k+1) x0 x1 x2 σ=b_heap_Heap_Retag k (d_heap_Heap_Retag_l0 k) (d_heap_Heap_held k) (d_heap_Heap_span k) (d_heap_space k) x0 x1 x2 σ:=by
  simp only[d_heap_Heap_Retag,d_heap_Heap_Retag_l0,d_heap_Heap_held,d_heap_Heap_span,d_heap_space,hide_eq]; kernel_rfl
theorem d_ref02_Heap_Retag_l0_eq (k n:Nat) (p0:Option Addr) (i1:Int) (i2:Int) (i3:Int) (x8:Int) (σ:AMem):d_ref02_Heap_Retag_l0 k (n+1) p0 i1 i2 i3 x8 σ=b_ref02_Heap_Retag_l0 k n (d_ref02_Heap_Retag_l0 k) p0 i1 i2 i3 x8 σ:=by
  simp only[d_ref02_Heap_Retag_l0,hide_eq]; kernel_rfl
theorem d_ref02_Heap_Retag_eq (k:Nat) (x0:Option Addr) (x1:Int) (x2:Int) (σ:AMem):d_ref02_Heap_Retag (k+1) x0 x1 x2 σ=b_ref02_Heap_Retag k (d_ref02_Heap_Made k) (d_ref02_Heap_Retag_l0 k) (d_ref02_Heap_Whole k) (d_ref02_Heap_block k) (d_ref02_space k) x0 x1 x2 σ:=by
  simp only[d_ref02_Heap_Made,d_ref02_Heap_Retag,d_ref02_Heap_Retag_l0,d_ref02_Heap_Whole,d_ref02_Heap_block,d_ref02_space,hide_eq]; kernel_rfl
theorem d_ref02_Heap_Place_eq (k:Nat) (x0:Option Addr) (x1:Int) (x2_0:Int) (x2_1:Int) (x2_2:Int) (σ:AMem):d_ref02_Heap_Place (k+1) x0 x1 x2_0 x2_1 x2_2 σ=b_ref02_Heap_Place k (d_ref02_Heap_Made k) (d_ref02_Heap_fits k) (d_ref02_Heap_put k) (d_ref02_Valid k) x0 x1 x2_0 x2_1 x2_2 σ:=by
  simp only[d_ref02_Heap_Made,d_ref02_Heap_Place,d_ref02_Heap_fits,d_ref02_Heap_put,d_ref02_Valid,hide_eq]; kernel_rfl
theorem d_ref02_Heap_Kill_eq (k:Nat) (x0:Option Addr) (x1:Int) (σ:AMem):d_ref02_Heap_Kill (k+1) x0 x1 σ=b_ref02_Heap_Kill k (d_ref02_Heap_Index k) (d_ref02_Heap_cut k) (d_ref02_Heap_lacks k) x0 x1 σ:=by
  simp only[d_ref02_Heap_Index,d_ref02_Heap_Kill,d_ref02_Heap_cut,d_ref02_Heap_lacks,hide_eq]; kernel_rfl
theorem d_ref02_Heap_Move_l0_eq (k n:Nat) (p0:Option Addr) (i1:Int) (x11:Option Addr × Nat × Nat) (x12:Int) (σ:AMem):d_ref02_Heap_Move_l0 k (n+1) p0 i1 x11 x12 σ=b_ref02_Heap_Move_l0 k n (d_ref02_Heap_Move_l0 k) p0 i1 x11 x12 σ:=by
  simp only[d_ref02_Heap_Move_l0,hide_eq]; kernel_rfl
theorem d_ref02_Heap_Move_eq (k:Nat) (x0:Option Addr) (x1:Int) (x2:Int) (σ:AMem):d_ref02_Heap_Move (k+1) x0 x1 x2 σ=b_ref02_Heap_Move k (d_ref02_Heap_Index k) (d_ref02_Heap_Move_l0 k) (d_ref02_Heap_cut k) (d_ref02_Heap_fits k) (d_ref02_Heap_lacks k) (d_ref02_Heap_put k) x0 x1 x2 σ:=by
  simp only[d_ref02_Heap_Index,d_ref02_Heap_Move,d_ref02_Heap_Move_l0,d_ref02_Heap_cut,d_ref02_Heap_fits,d_ref02_Heap_lacks,d_ref02_Heap_put,hide_eq]; kernel_rfl
theorem d_heap_Heap_SetRef_eq (k:Nat) (x0:Option Addr) (x1:Int) (x2:Int) (x3:Int) (σ:AMem):d_heap_Heap_SetRef (k+1) x0 x1 x2 x3 σ=b_heap_Heap_SetRef k (d_heap_Heap_Has k) (d_heap_Heap_field k) x0 x1 x2 x3 σ:=by
  simp only[d_heap_Heap_Has,d_heap_Heap_SetRef,d_heap_Heap_field,hide_eq]; kernel_rfl
theorem d_ref02_Heap_SetRef_eq (k:Nat) (x0:Option Addr) (x1:Int) (x2:Int) (x3:Int) (σ:AMem):d_ref02_Heap_SetRef (k+1) x0 x1 x2 x3 σ=b_ref02_Heap_SetRef k (d_ref02_Heap_Has k) (d_ref02_Heap_Index k) (d_ref02_Heap_lacks k) x0 x1 x2 x3 σ:=by
  simp only[d_ref02_Heap_Has,d_ref02_Heap_Index,d_ref02_Heap_SetRef,d_ref02_Heap_lacks,hide_eq]; kernel_rfl
theorem d_heap_Heap_SetData_eq (k:Nat) (x0:Option Addr) (x1:Int) (x2:Int) (x3:Int) (σ:AMem):d_heap_Heap_SetData (k+1) x0 x1 x2 x3 σ=b_heap_Heap_SetData k (d_heap_Heap_field k) x0 x1 x2 x3 σ:=by
  simp only[d_heap_Heap_SetData,d_heap_Heap_field,hide_eq]; kernel_rfl
theorem d_ref02_Heap_SetData_eq (k:Nat) (x0:Option Addr) (x1:Int) (x2:Int) (x3:Int) (σ:AMem):d_ref02_Heap_SetData (k+1) x0 x1 x2 x3 σ=b_ref02_Heap_SetData k (d_ref02_Heap_Index k) (d_ref02_Heap_lacks k) x0 x1 x2 x3 σ:=by
  simp only[d_ref02_Heap_Index,d_ref02_Heap_SetData,d_ref02_Heap_lacks,hide_eq]; kernel_rfl
theorem d_heap_Heap_Poke_eq (k:Nat) (x0:Option Addr) (x1:Int) (x2:Int) (σ:AMem):d_heap_Heap_Poke (k+1) x0 x1 x2 σ=b_heap_Heap_Poke k (d_heap_Heap_Find k) (d_heap_Heap_Word k) (d_heap_shape k) x0 x1 x2 σ:=by
  simp only[d_heap_Heap_Find,d_heap_Heap_Poke,d_heap_Heap_Word,d_heap_shape,hide_eq]; kernel_rfl
theorem d_ref02_Heap_Poke_eq (k:Nat) (x0:Option Addr) (x1:Int) (x2:Int) (σ:AMem):d_ref02_Heap_Poke (k+1) x0 x1 x2 σ=b_ref02_Heap_Poke k (d_ref02_Heap_Find k) (d_ref02_Heap_Index k) (d_ref02_Heap_Made k) (d_ref02_Heap_word k) x0 x1 x2 σ:=by
  simp only[d_ref02_Heap_Find,d_ref02_Heap_Index,d_ref02_Heap_Made,d_ref02_Heap_Poke,d_ref02_Heap_word,hide_eq]; kernel_rfl
theorem d_heap_Heap_Pin_eq (k:Nat) (x0:Option Addr) (x1:Int) (σ:AMem):d_heap_Heap_Pin (k+1) x0 x1 σ=b_heap_Heap_Pin k (d_heap_Heap_pin k) x0 x1 σ:=by
  simp only[d_heap_Heap_Pin,d_heap_Heap_pin,hide_eq]; kernel_rfl
theorem d_ref02_Heap_Pin_eq (k:Nat) (x0:Option Addr) (x1:Int) (σ:AMem):d_ref02_Heap_Pin (k+1) x0 x1 σ=b_ref02_Heap_Pin k (d_ref02_Heap_pin k) x0 x1 σ:=by
  simp only[d_ref02_Heap_Pin,d_ref02_Heap_pin,hide_eq]; kernel_rfl
theorem d_heap_Heap_Unpin_eq (k:Nat) (x0:Option Addr) (x1:Int) (σ:AMem):d_heap_Heap_Unpin (k+1) x0 x1 σ=b_heap_Heap_Unpin k (d_heap_Heap_pin k) x0 x1 σ:=by
  simp only[d_heap_Heap_Unpin,d_heap_Heap_pin,hide_eq]; kernel_rfl
theorem d_ref02_Heap_Unpin_eq (k:Nat) (x0:Option Addr) (x1:Int) (σ:AMem):d_ref02_Heap_Unpin (k+1) x0 x1 σ=b_ref02_Heap_Unpin k (d_ref02_Heap_pin k) x0 x1 σ:=by
  simp only[d_ref02_Heap_Unpin,d_ref02_Heap_pin,hide_eq]; kernel_rfl
theorem d_heap_Heap_Forget_eq (k:Nat) (x0:Option Addr) (σ:AMem):d_heap_Heap_Forget (k+1) x0 σ=b_heap_Heap_Forget k (d_heap_Heap_made k) x0 σ:=by
  simp only[d_heap_Heap_Forget,d_heap_Heap_made,hide_eq]; kernel_rfl
theorem d_ref02_Heap_Forget_eq (k:Nat) (x0:Option Addr) (σ:AMem):d_ref02_Heap_Forget (k+1) x0 σ=b_ref02_Heap_Forget k (d_ref02_Heap_Made k) x0 σ:=by
  simp only[d_ref02_Heap_Forget,d_ref02_Heap_Made,hide_eq]; kernel_rfl
theorem d_ref02_Heap_Blocks_eq (k:Nat) (x0:Option Addr) (σ:AMem):d_ref02_Heap_Blocks (k+1) x0 σ=b_ref02_Heap_Blocks k (d_ref02_Heap_Made k) x0 σ:=by
  simp only[d_ref02_Heap_Blocks,d_ref02_Heap_Made,hide_eq]; kernel_rfl
theorem d_ref02_Heap_Births_eq (k:Nat) (x0:Option Addr) (σ:AMem):d_ref02_Heap_Births (k+1) x0 σ=b_ref02_Heap_Births k (d_ref02_Heap_Made k) x0 σ:=by
  simp only[d_ref02_Heap_Births,d_ref02_Heap_Made,hide_eq]; kernel_rfl
theorem d_heap_Heap_Used_l0_eq (k n:Nat) (p0:Option Addr) (p1:Option Addr) (c2:Nat) (c3:Nat) (i4:Int) (x3:Int) (x9:Int) (σ:AMem):d_heap_Heap_Used_l0 k (n+1) p0 p1 c2 c3 i4 x3 x9 σ=b_heap_Heap_Used_l0 k n (d_heap_Heap_Used_l0 k) (d_heap_Heap_size k) p0 p1 c2 c3 i4 x3 x9 σ:=by
  simp only[d_heap_Heap_Used_l0,d_heap_Heap_size,hide_eq]; kernel_rfl
theorem d_heap_Heap_Used_eq (k:Nat) (x0:Option Addr) (σ:AMem):d_heap_Heap_Used (k+1) x0 σ=b_heap_Heap_Used k (d_heap_Heap_All k) (d_heap_Heap_Used_l0 k) x0 σ:=by
  simp only[d_heap_Heap_All,d_heap_Heap_Used,d_heap_Heap_Used_l0,hide_eq]; kernel_rfl
theorem d_ref02_Heap_Used_l0_eq (k n:Nat) (p0:Option Addr) (x3:Int) (x4:Int) (σ:AMem):d_ref02_Heap_Used_l0 k (n+1) p0 x3 x4 σ=b_ref02_Heap_Used_l0 k n (d_ref02_Heap_Made k) (d_ref02_Heap_Used_l0 k) (d_ref02_Words k) p0 x3 x4 σ:=by
  simp only[d_ref02_Heap_Made,d_ref02_Heap_Used_l0,d_ref02_Words,hide_eq]; kernel_rfl
theorem d_ref02_Heap_Used_eq (k:Nat) (x0:Option Addr) (σ:AMem):d_ref02_Heap_Used (k+1) x0 σ=b_ref02_Heap_Used k (d_ref02_Heap_Used_l0 k) x0 σ:=by
  simp only[d_ref02_Heap_Used,d_ref02_Heap_Used_l0,hide_eq]; kernel_rfl
theorem d_law02_ints_l0_eq (k n:Nat) (p0:Option Addr) (c1:Nat) (c2:Nat) (p3:Option Addr) (c4:Nat) (c5:Nat) (x5:Int) (σ:AMem):d_law02_ints_l0 k (n+1) p0 c1 c2 p3 c4 c5 x5 σ=b_law02_ints_l0 k n (d_law02_ints_l0 k) p0 c1 c2 p3 c4 c5 x5 σ:=by
  simp only[d_law02_ints_l0,hide_eq]; kernel_rfl
theorem d_law02_ints_eq (k:Nat) (x0:Option Addr × Nat × Nat) (x1:Option Addr × Nat × Nat) (σ:AMem):d_law02_ints (k+1) x0 x1 σ=b_law02_ints k (d_law02_ints_l0 k) x0 x1 σ:=by
  simp only[d_law02_ints,d_law02_ints_l0,hide_eq]; kernel_rfl
theorem d_heap_Heap_All_eq (k:Nat) (x0:Option Addr) (σ:AMem):d_heap_Heap_All (k+1) x0 σ=b_heap_Heap_All k (d_heap_Heap_between k) (d_heap_Heap_made k) x0 σ:=by
  simp only[d_heap_Heap_All,d_heap_Heap_between,d_heap_Heap_made,hide_eq]; kernel_rfl
theorem d_ref02_Heap_All_l0_eq (k n:Nat) (p0:Option Addr) (x3:Option Addr × Nat × Nat) (x4:Int) (σ:AMem):d_ref02_Heap_All_l0 k (n+1) p0 x3 x4 σ=b_ref02_Heap_All_l0 k n (d_ref02_Heap_All_l0 k) (d_ref02_Heap_Made k) p0 x3 x4 σ:=by
  simp only[d_ref02_Heap_All_l0,d_ref02_Heap_Made,hide_eq]; kernel_rfl
theorem d_ref02_Heap_All_eq (k:Nat) (x0:Option Addr) (σ:AMem):d_ref02_Heap_All (k+1) x0 σ=b_ref02_Heap_All k (d_ref02_Heap_All_l0 k) x0 σ:=by
  simp only[d_ref02_Heap_All,d_ref02_Heap_All_l0,hide_eq]; kernel_rfl
theorem d_ref02_Heap_State_eq (k:Nat) (x0:Option Addr) (x1:Int) (σ:AMem):d_ref02_Heap_State (k+1) x0 x1 σ=b_ref02_Heap_State k (d_ref02_Heap_Made k) x0 x1 σ:=by
  simp only[d_ref02_Heap_Made,d_ref02_Heap_State,hide_eq]; kernel_rfl
theorem d_ref02_Heap_Space_eq (k:Nat) (x0:Option Addr) (x1:Int) (σ:AMem):d_ref02_Heap_Space (k+1) x0 x1 σ=b_ref02_Heap_Space k (d_ref02_Heap_Made k) x0 x1 σ:=by
  simp only[d_ref02_Heap_Made,d_ref02_Heap_Space,hide_eq]; kernel_rfl
theorem d_heap_Heap_Objects_eq (k:Nat) (x0:Option Addr) (x1:Int) (σ:AMem):d_heap_Heap_Objects (k+1) x0 x1 σ=b_heap_Heap_Objects k (d_heap_Heap_between k) (d_heap_Heap_made k) x0 x1 σ:=by
  simp only[d_heap_Heap_Objects,d_heap_Heap_between,d_heap_Heap_made,hide_eq]; kernel_rfl
theorem d_ref02_Heap_Objects_l0_eq (k n:Nat) (p0:Option Addr) (i1:Int) (x5:Option Addr × Nat × Nat) (x6:Int) (σ:AMem):d_ref02_Heap_Objects_l0 k (n+1) p0 i1 x5 x6 σ=b_ref02_Heap_Objects_l0 k n (d_ref02_Heap_Made k) (d_ref02_Heap_Objects_l0 k) p0 i1 x5 x6 σ:=by
  simp only[d_ref02_Heap_Made,d_ref02_Heap_Objects_l0,hide_eq]; kernel_rfl
theorem d_ref02_Heap_Objects_eq (k:Nat) (x0:Option Addr) (x1:Int) (σ:AMem):d_ref02_Heap_Objects (k+1) x0 x1 σ=b_ref02_Heap_Objects k (d_ref02_Heap_Objects_l0 k) x0 x1 σ:=by
  simp only[d_ref02_Heap_Objects,d_ref02_Heap_Objects_l0,hide_eq]; kernel_rfl
theorem d_ref02_Heap_Gaps_l0_eq (k n:Nat) (p0:Option Addr) (p1:Option Addr) (c2:Nat) (c3:Nat) (x5:Option Addr × Nat × Nat) (x6:Int) (x8:Int) (σ:AMem):d_ref02_Heap_Gaps_l0 k (n+1) p0 p1 c2 c3 x5 x6 x8 σ=b_ref02_Heap_Gaps_l0 k n (d_ref02_Heap_Gaps_l0 k) (d_ref02_Heap_Index k) (d_ref02_Words k) p0 p1 c2 c3 x5 x6 x8 σ:=by
  simp only[d_ref02_Heap_Gaps_l0,d_ref02_Heap_Index,d_ref02_Words,hide_eq]; kernel_rfl
theorem d_ref02_Heap_Gaps_eq (k:Nat) (x0:Option Addr) (x1:Int) (σ:AMem):d_ref02_Heap_Gaps (k+1) x0 x1 σ=b_ref02_Heap_Gaps k (d_ref02_Heap_Gaps_l0 k) (d_ref02_Heap_Objects k) (d_ref02_Heap_State k) x0 x1 σ:=by
  simp only[d_ref02_Heap_Gaps,d_ref02_Heap_Gaps_l0,d_ref02_Heap_Objects,d_ref02_Heap_State,hide_eq]; kernel_rfl
theorem d_law02_bools_l0_eq (k n:Nat) (p0:Option Addr) (c1:Nat) (c2:Nat) (p3:Option Addr) (c4:Nat) (c5:Nat) (x5:Int) (σ:AMem):d_law02_bools_l0 k (n+1) p0 c1 c2 p3 c4 c5 x5 σ=b_law02_bools_l0 k n (d_law02_bools_l0 k) p0 c1 c2 p3 c4 c5 x5 σ:=by
  simp only[d_law02_bools_l0,hide_eq]; kernel_rfl
theorem d_law02_bools_eq (k:Nat) (x0:Option Addr × Nat × Nat) (x1:Option Addr × Nat × Nat) (σ:AMem):d_law02_bools (k+1) x0 x1 σ=b_law02_bools k (d_law02_bools_l0 k) x0 x1 σ:=by
  simp only[d_law02_bools,d_law02_bools_l0,hide_eq]; kernel_rfl
theorem d_ref02_Heap_Lines_l1_eq (k n:Nat) (p0:Option Addr) (i1:Int) (i2:Int) (x7:Bool) (x8:Int) (σ:AMem):d_ref02_Heap_Lines_l1 k (n+1) p0 i1 i2 x7 x8 σ=b_ref02_Heap_Lines_l1 k n (d_ref02_Heap_Find k) (d_ref02_Heap_Lines_l1 k) p0 i1 i2 x7 x8 σ:=by
  simp only[d_ref02_Heap_Find,d_ref02_Heap_Lines_l1,hide_eq]; kernel_rfl
theorem d_ref02_Heap_Lines_l0_eq (k n:Nat) (p0:Option Addr) (i1:Int) (x5:Option Addr × Nat × Nat) (x6:Int) (σ:AMem):d_ref02_Heap_Lines_l0 k (n+1) p0 i1 x5 x6 σ=b_ref02_Heap_Lines_l0 k n (d_ref02_Heap_Lines_l0 k) (d_ref02_Heap_Lines_l1 k) p0 i1 x5 x6 σ:=by
  simp only[d_ref02_Heap_Lines_l0,d_ref02_Heap_Lines_l1,hide_eq]; kernel_rfl
theorem d_ref02_Heap_Lines_eq (k:Nat) (x0:Option Addr) (x1:Int) (σ:AMem):d_ref02_Heap_Lines (k+1) x0 x1 σ=b_ref02_Heap_Lines k (d_ref02_Heap_Lines_l0 k) (d_ref02_Heap_State k) x0 x1 σ:=by
  simp only[d_ref02_Heap_Lines,d_ref02_Heap_Lines_l0,d_ref02_Heap_State,hide_eq]; kernel_rfl
theorem d_law02_Looks_l0_eq (k n:Nat) (p0:Option Addr) (p1:Option Addr) (i2:Int) (h3:Nat) (x13:Int) (σ:AMem):d_law02_Looks_l0 k (n+1) p0 p1 i2 h3 x13 σ=b_law02_Looks_l0 k n (d_heap_Heap_Ref k) (d_law02_Looks_l0 k) (d_ref02_Heap_Ref k) p0 p1 i2 h3 x13 σ:=by
  simp only[d_heap_Heap_Ref,d_law02_Looks_l0,d_ref02_Heap_Ref,hide_eq]; kernel_rfl
theorem d_law02_Looks_l1_eq (k n:Nat) (p0:Option Addr) (p1:Option Addr) (i2:Int) (h3:Nat) (x14:Int) (σ:AMem):d_law02_Looks_l1 k (n+1) p0 p1 i2 h3 x14 σ=b_law02_Looks_l1 k n (d_heap_Heap_Data k) (d_law02_Looks_l1 k) (d_ref02_Heap_Data k) p0 p1 i2 h3 x14 σ:=by
  simp only[d_heap_Heap_Data,d_law02_Looks_l1,d_ref02_Heap_Data,hide_eq]; kernel_rfl
theorem d_law02_Looks_eq (k:Nat) (x0:Option Addr) (x1:Option Addr) (x2:Int) (σ:AMem):d_law02_Looks (k+1) x0 x1 x2 σ=b_law02_Looks k (d_heap_Heap_Find k) (d_heap_Heap_Forward k) (d_heap_Heap_Has k) (d_heap_Heap_Ident k) (d_heap_Heap_Pinned k) (d_heap_Heap_Shape k) (d_heap_Heap_Word k) (d_law02_Looks_l0 k) (d_law02_Looks_l1 k) (d_ref02_Heap_Find k) (d_ref02_Heap_Forward k) (d_ref02_Heap_Has k) (d_ref02_Heap_Ident k) (d_ref02_Heap_Pinned k) (d_ref02_Heap_Shape k) (d_ref02_Heap_Word k) x0 x1 x2 σ:=by
  simp only[d_heap_Heap_Find,d_heap_Heap_Forward,d_heap_Heap_Has,d_heap_Heap_Ident,d_heap_Heap_Pinned,d_heap_Heap_Shape,d_heap_Heap_Word,d_law02_Looks,d_law02_Looks_l0,d_law02_Looks_l1,d_ref02_Heap_Find,d_ref02_Heap_Forward,d_ref02_Heap_Has,d_ref02_Heap_Ident,d_ref02_Heap_Pinned,d_ref02_Heap_Shape,d_ref02_Heap_Word,hide_eq]; kernel_rfl
theorem d_ref02_Heap_At_l0_eq (k n:Nat) (p0:Option Addr) (i1:Int) (x6:Int) (σ:AMem):d_ref02_Heap_At_l0 k (n+1) p0 i1 x6 σ=b_ref02_Heap_At_l0 k n (d_ref02_Heap_At_l0 k) p0 i1 x6 σ:=by
  simp only[d_ref02_Heap_At_l0,hide_eq]; kernel_rfl
theorem d_ref02_Heap_At_eq (k:Nat) (x0:Option Addr) (x1:Int) (σ:AMem):d_ref02_Heap_At (k+1) x0 x1 σ=b_ref02_Heap_At k (d_ref02_Heap_At_l0 k) (d_ref02_Heap_Made k) x0 x1 σ:=by
  simp only[d_ref02_Heap_At,d_ref02_Heap_At_l0,d_ref02_Heap_Made,hide_eq]; kernel_rfl
theorem d_heap_Heap_object_eq (k:Nat) (x0:Option Addr) (x1:Int) (σ:AMem):d_heap_Heap_object (k+1) x0 x1 σ=b_heap_Heap_object k (d_heap_Heap_Has k) (d_heap_Heap_made k) x0 x1 σ:=by
  simp only[d_heap_Heap_Has,d_heap_Heap_made,d_heap_Heap_object,hide_eq]; kernel_rfl
theorem d_heap_shape_eq (k:Nat) (x0:Int) (σ:AMem):d_heap_shape (k+1) x0 σ=b_heap_shape k  x0 σ:=by
  simp only[d_heap_shape,hide_eq]; kernel_rfl
theorem d_heap_Heap_used_eq (k:Nat) (x0:Option Addr) (x1:Int) (σ:AMem):d_heap_Heap_used (k+1) x0 x1 σ=b_heap_Heap_used k (d_heap_Heap_there k) x0 x1 σ:=by
  simp only[d_heap_Heap_there,d_heap_Heap_used,hide_eq]; kernel_rfl
theorem d_heap_Heap_size_eq (k:Nat) (x0:Option Addr) (x1:Int) (σ:AMem):d_heap_Heap_size (k+1) x0 x1 σ=b_heap_Heap_size k (d_heap_Words k) (d_heap_shape k) x0 x1 σ:=by
  simp only[d_heap_Heap_size,d_heap_Words,d_heap_shape,hide_eq]; kernel_rfl
theorem d_heap_Heap_claim_l0_eq (k n:Nat) (p0:Option Addr) (i1:Int) (h2:Nat) (i3:Int) (x54:Int) (σ:AMem):d_heap_Heap_claim_l0 k (n+1) p0 i1 h2 i3 x54 σ=b_heap_Heap_claim_l0 k n (d_heap_Heap_claim_l0 k) p0 i1 h2 i3 x54 σ:=by
  simp only[d_heap_Heap_claim_l0,hide_eq]; kernel_rfl
theorem d_heap_Heap_claim_eq (k:Nat) (x0:Option Addr) (x1:Int) (x2:Int) (x3_0:Int) (x3_1:Int) (x4_0:Int) (x4_1:Int) (σ:AMem):d_heap_Heap_claim (k+1) x0 x1 x2 x3_0 x3_1 x4_0 x4_1 σ=b_heap_Heap_claim k (d_heap_Heap_claim_l0 k) (d_heap_Heap_made k) (d_heap_Heap_there k) (d_heap_space k) (d_slices_ContainsFunc_heap_block k) x0 x1 x2 x3_0 x3_1 x4_0 x4_1 σ:=by
  simp only[d_heap_Heap_claim,d_heap_Heap_claim_l0,d_heap_Heap_made,d_heap_Heap_there,d_heap_space,d_slices_ContainsFunc_heap_block,hide_eq]; kernel_rfl
theorem d_heap_Heap_fits_l0_eq (k n:Nat) (p0:Option Addr) (i1:Int) (i2:Int) (i3:Int) (x10:Int) (σ:AMem):d_heap_Heap_fits_l0 k (n+1) p0 i1 i2 i3 x10 σ=b_heap_Heap_fits_l0 k n (d_heap_Heap_Find k) (d_heap_Heap_fits_l0 k) p0 i1 i2 i3 x10 σ:=by
  simp only[d_heap_Heap_Find,d_heap_Heap_fits_l0,hide_eq]; kernel_rfl
theorem d_heap_Heap_fits_eq (k:Nat) (x0:Option Addr) (x1:Int) (x2:Int) (x3:Int) (σ:AMem):d_heap_Heap_fits (k+1) x0 x1 x2 x3 σ=b_heap_Heap_fits k (d_heap_Heap_fits_l0 k) (d_heap_Heap_span k) x0 x1 x2 x3 σ:=by
  simp only[d_heap_Heap_fits,d_heap_Heap_fits_l0,d_heap_Heap_span,hide_eq]; kernel_rfl
theorem d_heap_number_eq (k:Nat) (x0_0:Int) (x0_1:Int) (x0_2:Int) (σ:AMem):d_heap_number (k+1) x0_0 x0_1 x0_2 σ=b_heap_number k  x0_0 x0_1 x0_2 σ:=by
  simp only[d_heap_number,hide_eq]; kernel_rfl
theorem d_side_Table_Set_eq (k:Nat) (x0:Option Addr) (x1:Int) (x2:Int) (σ:AMem):d_side_Table_Set (k+1) x0 x1 x2 σ=b_side_Table_Set k (d_side_Table_check k) (d_side_Table_put k) x0 x1 x2 σ:=by
  simp only[d_side_Table_Set,d_side_Table_check,d_side_Table_put,hide_eq]; kernel_rfl
theorem d_heap_Heap_Gaps_c1_eq (k:Nat) (x0:Int) (c0:Option Addr) (c1:Option Addr) (σ:AMem):d_heap_Heap_Gaps_c1 (k+1) x0 c0 c1 σ=b_heap_Heap_Gaps_c1 k  x0 c0 c1 σ:=by
  simp only[d_heap_Heap_Gaps_c1,hide_eq]; kernel_rfl
theorem d_side_Table_Get_eq (k:Nat) (x0:Option Addr) (x1:Int) (σ:AMem):d_side_Table_Get (k+1) x0 x1 σ=b_side_Table_Get k (d_side_Table_get k) (d_side_Table_there k) x0 x1 σ:=by
  simp only[d_side_Table_Get,d_side_Table_get,d_side_Table_there,hide_eq]; kernel_rfl
theorem d_heap_Heap_wipe_eq (k:Nat) (x0:Option Addr) (x1:Int) (x2:Int) (σ:AMem):d_heap_Heap_wipe (k+1) x0 x1 x2 σ=b_heap_Heap_wipe k  x0 x1 x2 σ:=by
  simp only[d_heap_Heap_wipe,hide_eq]; kernel_rfl
theorem d_heap_Heap_held_eq (k:Nat) (x0:Option Addr) (x1:Int) (x2:Bool) (σ:AMem):d_heap_Heap_held (k+1) x0 x1 x2 σ=b_heap_Heap_held k (d_heap_Heap_made k) (d_heap_Heap_there k) x0 x1 x2 σ:=by
  simp only[d_heap_Heap_held,d_heap_Heap_made,d_heap_Heap_there,hide_eq]; kernel_rfl
theorem d_heap_Heap_span_l0_eq (k n:Nat) (p0:Option Addr) (i1:Int) (x5:Int) (σ:AMem):d_heap_Heap_span_l0 k (n+1) p0 i1 x5 σ=b_heap_Heap_span_l0 k n (d_heap_Heap_span_l0 k) p0 i1 x5 σ:=by
  simp only[d_heap_Heap_span_l0,hide_eq]; kernel_rfl
theorem d_heap_Heap_span_eq (k:Nat) (x0:Option Addr) (x1:Int) (σ:AMem):d_heap_Heap_span (k+1) x0 x1 σ=b_heap_Heap_span k (d_heap_Heap_span_l0 k) x0 x1 σ:=by
  simp only[d_heap_Heap_span,d_heap_Heap_span_l0,hide_eq]; kernel_rfl
theorem d_slices_Contains_int_eq (k:Nat) (x0:Option Addr × Nat × Nat) (x1:Int) (σ:AMem):d_slices_Contains_int (k+1) x0 x1 σ=b_slices_Contains_int k (d_slices_Index_int k) x0 x1 σ:=by
  simp only[d_slices_Contains_int,d_slices_Index_int,hide_eq]; kernel_rfl
theorem d_side_Table_made_eq (k:Nat) (x0:Option Addr) (σ:AMem):d_side_Table_made (k+1) x0 σ=b_side_Table_made k  x0 σ:=by
  simp only[d_side_Table_made,hide_eq]; kernel_rfl
theorem d_slices_Clone_uint64_eq (k:Nat) (x0:Option Addr × Nat × Nat) (σ:AMem):d_slices_Clone_uint64 (k+1) x0 σ=b_slices_Clone_uint64 k  x0 σ:=by
  simp only[d_slices_Clone_uint64,hide_eq]; kernel_rfl
theorem d_ref02_Heap_block_eq (k:Nat) (x0:Option Addr) (x1:Int) (σ:AMem):d_ref02_Heap_block (k+1) x0 x1 σ=b_ref02_Heap_block k  x0 x1 σ:=by
  simp only[d_ref02_Heap_block,hide_eq]; kernel_rfl
theorem d_ref02_space_eq (k:Nat) (x0:Int) (σ:AMem):d_ref02_space (k+1) x0 σ=b_ref02_space k  x0 σ:=by
  simp only[d_ref02_space,hide_eq]; kernel_rfl
theorem d_ref02_Heap_Whole_l0_eq (k n:Nat) (p0:Option Addr) (i1:Int) (x5:Int) (σ:AMem):d_ref02_Heap_Whole_l0 k (n+1) p0 i1 x5 σ=b_ref02_Heap_Whole_l0 k n (d_ref02_Heap_Whole_l0 k) p0 i1 x5 σ:=by
  simp only[d_ref02_Heap_Whole_l0,hide_eq]; kernel_rfl
theorem d_ref02_Heap_Whole_eq (k:Nat) (x0:Option Addr) (x1:Int) (σ:AMem):d_ref02_Heap_Whole (k+1) x0 x1 σ=b_ref02_Heap_Whole k (d_ref02_Heap_Whole_l0 k) x0 x1 σ:=by
  simp only[d_ref02_Heap_Whole,d_ref02_Heap_Whole_l0,hide_eq]; kernel_rfl
theorem d_heap_space_eq (k:Nat) (x0:Int) (σ:AMem):d_heap_space (k+1) x0 σ=b_heap_space k  x0 σ:=by
  simp only[d_heap_space,hide_eq]; kernel_rfl
theorem d_ref02_Valid_eq (k:Nat) (x0_0:Int) (x0_1:Int) (x0_2:Int) (σ:AMem):d_ref02_Valid (k+1) x0_0 x0_1 x0_2 σ=b_ref02_Valid k  x0_0 x0_1 x0_2 σ:=by
  simp only[d_ref02_Valid,hide_eq]; kernel_rfl
theorem d_ref02_Heap_fits_l0_eq (k n:Nat) (p0:Option Addr) (i1:Int) (i2:Int) (h3:Nat) (x10:Int) (σ:AMem):d_ref02_Heap_fits_l0 k (n+1) p0 i1 i2 h3 x10 σ=b_ref02_Heap_fits_l0 k n (d_ref02_Heap_fits_l0 k) (d_ref02_Words k) p0 i1 i2 h3 x10 σ:=by
  simp only[d_ref02_Heap_fits_l0,d_ref02_Words,hide_eq]; kernel_rfl
theorem d_ref02_Heap_fits_eq (k:Nat) (x0:Option Addr) (x1:Int) (x2_0:Int) (x2_1:Int) (x2_2:Int) (x3:Int) (σ:AMem):d_ref02_Heap_fits (k+1) x0 x1 x2_0 x2_1 x2_2 x3 σ=b_ref02_Heap_fits k (d_ref02_Heap_Whole k) (d_ref02_Heap_fits_l0 k) (d_ref02_Large k) (d_ref02_Need k) (d_ref02_Words k) x0 x1 x2_0 x2_1 x2_2 x3 σ:=by
  simp only[d_ref02_Heap_Whole,d_ref02_Heap_fits,d_ref02_Heap_fits_l0,d_ref02_Large,d_ref02_Need,d_ref02_Words,hide_eq]; kernel_rfl
theorem d_ref02_Heap_put_l0_eq (k n:Nat) (p0:Option Addr) (h1:Nat) (x4:Int) (σ:AMem):d_ref02_Heap_put_l0 k (n+1) p0 h1 x4 σ=b_ref02_Heap_put_l0 k n (d_ref02_Heap_put_l0 k) p0 h1 x4 σ:=by
  simp only[d_ref02_Heap_put_l0,hide_eq]; kernel_rfl
theorem d_ref02_Heap_put_eq (k:Nat) (x0:Option Addr) (x1_0:Int) (x1_1:Int) (x1_2:Int) (x1_3:Int) (x1_4:Int) (x1_5:Option Addr × Nat × Nat) (x1_6:Option Addr × Nat × Nat) (x1_7:Bool) (σ:AMem):d_ref02_Heap_put (k+1) x0 x1_0 x1_1 x1_2 x1_3 x1_4 x1_5 x1_6 x1_7 σ=b_ref02_Heap_put k (d_ref02_Heap_put_l0 k) x0 x1_0 x1_1 x1_2 x1_3 x1_4 x1_5 x1_6 x1_7 σ:=by
  simp only[d_ref02_Heap_put,d_ref02_Heap_put_l0,hide_eq]; kernel_rfl
theorem d_ref02_Heap_lacks_eq (k:Nat) (x0:Option Addr) (x1:Int) (σ:AMem):d_ref02_Heap_lacks (k+1) x0 x1 σ=b_ref02_Heap_lacks k (d_ref02_Heap_Index k) (d_ref02_Heap_Made k) x0 x1 σ:=by
  simp only[d_ref02_Heap_Index,d_ref02_Heap_Made,d_ref02_Heap_lacks,hide_eq]; kernel_rfl
theorem d_ref02_Heap_cut_eq (k:Nat) (x0:Option Addr) (x1:Int) (σ:AMem):d_ref02_Heap_cut (k+1) x0 x1 σ=b_ref02_Heap_cut k  x0 x1 σ:=by
  simp only[d_ref02_Heap_cut,hide_eq]; kernel_rfl
theorem d_ref02_Heap_Index_l0_eq (k n:Nat) (p0:Option Addr) (i1:Int) (x5:Int) (σ:AMem):d_ref02_Heap_Index_l0 k (n+1) p0 i1 x5 σ=b_ref02_Heap_Index_l0 k n (d_ref02_Heap_Index_l0 k) p0 i1 x5 σ:=by
  simp only[d_ref02_Heap_Index_l0,hide_eq]; kernel_rfl
theorem d_ref02_Heap_Index_eq (k:Nat) (x0:Option Addr) (x1:Int) (σ:AMem):d_ref02_Heap_Index (k+1) x0 x1 σ=b_ref02_Heap_Index k (d_ref02_Heap_Index_l0 k) (d_ref02_Heap_Made k) x0 x1 σ:=by
  simp only[d_ref02_Heap_Index,d_ref02_Heap_Index_l0,d_ref02_Heap_Made,hide_eq]; kernel_rfl
theorem d_heap_Heap_field_eq (k:Nat) (x0:Option Addr) (x1:Int) (x2:Int) (x3:Bool) (σ:AMem):d_heap_Heap_field (k+1) x0 x1 x2 x3 σ=b_heap_Heap_field k (d_heap_Heap_object k) (d_heap_shape k) x0 x1 x2 x3 σ:=by
  simp only[d_heap_Heap_field,d_heap_Heap_object,d_heap_shape,hide_eq]; kernel_rfl
theorem d_heap_Heap_Has_eq (k:Nat) (x0:Option Addr) (x1:Int) (σ:AMem):d_heap_Heap_Has (k+1) x0 x1 σ=b_heap_Heap_Has k (d_heap_Heap_made k) (d_side_Table_Get k) x0 x1 σ:=by
  simp only[d_heap_Heap_Has,d_heap_Heap_made,d_side_Table_Get,hide_eq]; kernel_rfl
theorem d_ref02_Heap_Has_eq (k:Nat) (x0:Option Addr) (x1:Int) (σ:AMem):d_ref02_Heap_Has (k+1) x0 x1 σ=b_ref02_Heap_Has k (d_ref02_Heap_Index k) x0 x1 σ:=by
  simp only[d_ref02_Heap_Has,d_ref02_Heap_Index,hide_eq]; kernel_rfl
theorem d_heap_Heap_Find_eq (k:Nat) (x0:Option Addr) (x1:Int) (σ:AMem):d_heap_Heap_Find (k+1) x0 x1 σ=b_heap_Heap_Find k (d_heap_Heap_made k) (d_heap_Heap_size k) (d_side_Table_Last k) x0 x1 σ:=by
  simp only[d_heap_Heap_Find,d_heap_Heap_made,d_heap_Heap_size,d_side_Table_Last,hide_eq]; kernel_rfl
theorem d_ref02_Heap_word_eq (k:Nat) (x0:Option Addr) (x1:Int) (σ:AMem):d_ref02_Heap_word (k+1) x0 x1 σ=b_ref02_Heap_word k  x0 x1 σ:=by
  simp only[d_ref02_Heap_word,hide_eq]; kernel_rfl
theorem d_ref02_Heap_Find_l0_eq (k n:Nat) (p0:Option Addr) (i1:Int) (x6:Int) (σ:AMem):d_ref02_Heap_Find_l0 k (n+1) p0 i1 x6 σ=b_ref02_Heap_Find_l0 k n (d_ref02_Heap_Find_l0 k) (d_ref02_Words k) p0 i1 x6 σ:=by
  simp only[d_ref02_Heap_Find_l0,d_ref02_Words,hide_eq]; kernel_rfl
theorem d_ref02_Heap_Find_eq (k:Nat) (x0:Option Addr) (x1:Int) (σ:AMem):d_ref02_Heap_Find (k+1) x0 x1 σ=b_ref02_Heap_Find k (d_ref02_Heap_Find_l0 k) (d_ref02_Heap_Made k) x0 x1 σ:=by
  simp only[d_ref02_Heap_Find,d_ref02_Heap_Find_l0,d_ref02_Heap_Made,hide_eq]; kernel_rfl
theorem d_heap_Heap_pin_eq (k:Nat) (x0:Option Addr) (x1:Int) (x2:Int) (σ:AMem):d_heap_Heap_pin (k+1) x0 x1 x2 σ=b_heap_Heap_pin k (d_heap_Heap_object k) (d_side_Table_Set k) x0 x1 x2 σ:=by
  simp only[d_heap_Heap_object,d_heap_Heap_pin,d_side_Table_Set,hide_eq]; kernel_rfl
theorem d_ref02_Heap_pin_eq (k:Nat) (x0:Option Addr) (x1:Int) (x2:Bool) (σ:AMem):d_ref02_Heap_pin (k+1) x0 x1 x2 σ=b_ref02_Heap_pin k (d_ref02_Heap_Index k) (d_ref02_Heap_lacks k) x0 x1 x2 σ:=by
  simp only[d_ref02_Heap_Index,d_ref02_Heap_lacks,d_ref02_Heap_pin,hide_eq]; kernel_rfl
theorem d_ref02_Words_eq (k:Nat) (x0_0:Int) (x0_1:Int) (x0_2:Int) (σ:AMem):d_ref02_Words (k+1) x0_0 x0_1 x0_2 σ=b_ref02_Words k (d_ref02_Valid k) x0_0 x0_1 x0_2 σ:=by
  simp only[d_ref02_Valid,d_ref02_Words,hide_eq]; kernel_rfl
theorem d_heap_Heap_between_l0_eq (k n:Nat) (p0:Option Addr) (i1:Int) (x7:Option Addr × Nat × Nat) (x8:Int) (x9:Int) (σ:AMem):d_heap_Heap_between_l0 k (n+1) p0 i1 x7 x8 x9 σ=b_heap_Heap_between_l0 k n (d_heap_Heap_between_l0 k) (d_side_Table_Next k) p0 i1 x7 x8 x9 σ:=by
  simp only[d_heap_Heap_between_l0,d_side_Table_Next,hide_eq]; kernel_rfl
theorem d_heap_Heap_between_eq (k:Nat) (x0:Option Addr) (x1:Int) (x2:Int) (σ:AMem):d_heap_Heap_between (k+1) x0 x1 x2 σ=b_heap_Heap_between k (d_heap_Heap_between_l0 k) (d_side_Table_Next k) x0 x1 x2 σ:=by
  simp only[d_heap_Heap_between,d_heap_Heap_between_l0,d_side_Table_Next,hide_eq]; kernel_rfl
theorem d_ref02_Heap_Word_eq (k:Nat) (x0:Option Addr) (x1:Int) (σ:AMem):d_ref02_Heap_Word (k+1) x0 x1 σ=b_ref02_Heap_Word k (d_ref02_Heap_Find k) (d_ref02_Heap_Index k) (d_ref02_Heap_Made k) (d_ref02_Heap_word k) x0 x1 σ:=by
  simp only[d_ref02_Heap_Find,d_ref02_Heap_Index,d_ref02_Heap_Made,d_ref02_Heap_Word,d_ref02_Heap_word,hide_eq]; kernel_rfl
theorem d_heap_Heap_Pinned_eq (k:Nat) (x0:Option Addr) (x1:Int) (σ:AMem):d_heap_Heap_Pinned (k+1) x0 x1 σ=b_heap_Heap_Pinned k (d_heap_Heap_Has k) (d_side_Table_Get k) x0 x1 σ:=by
  simp only[d_heap_Heap_Has,d_heap_Heap_Pinned,d_side_Table_Get,hide_eq]; kernel_rfl
theorem d_ref02_Heap_Pinned_eq (k:Nat) (x0:Option Addr) (x1:Int) (σ:AMem):d_ref02_Heap_Pinned (k+1) x0 x1 σ=b_ref02_Heap_Pinned k (d_ref02_Heap_Index k) x0 x1 σ:=by
  simp only[d_ref02_Heap_Index,d_ref02_Heap_Pinned,hide_eq]; kernel_rfl
theorem d_ref02_Heap_Forward_l0_eq (k n:Nat) (p0:Option Addr) (i1:Int) (x6:Int) (σ:AMem):d_ref02_Heap_Forward_l0 k (n+1) p0 i1 x6 σ=b_ref02_Heap_Forward_l0 k n (d_ref02_Heap_Forward_l0 k) p0 i1 x6 σ:=by
  simp only[d_ref02_Heap_Forward_l0,hide_eq]; kernel_rfl
theorem d_ref02_Heap_Forward_eq (k:Nat) (x0:Option Addr) (x1:Int) (σ:AMem):d_ref02_Heap_Forward (k+1) x0 x1 σ=b_ref02_Heap_Forward k (d_ref02_Heap_Forward_l0 k) (d_ref02_Heap_Made k) x0 x1 σ:=by
  simp only[d_ref02_Heap_Forward,d_ref02_Heap_Forward_l0,d_ref02_Heap_Made,hide_eq]; kernel_rfl
theorem d_ref02_Heap_Ident_eq (k:Nat) (x0:Option Addr) (x1:Int) (σ:AMem):d_ref02_Heap_Ident (k+1) x0 x1 σ=b_ref02_Heap_Ident k (d_ref02_Heap_Index k) (d_ref02_Heap_lacks k) x0 x1 σ:=by
  simp only[d_ref02_Heap_Ident,d_ref02_Heap_Index,d_ref02_Heap_lacks,hide_eq]; kernel_rfl
theorem d_ref02_Heap_Shape_eq (k:Nat) (x0:Option Addr) (x1:Int) (σ:AMem):d_ref02_Heap_Shape (k+1) x0 x1 σ=b_ref02_Heap_Shape k (d_ref02_Heap_Index k) (d_ref02_Heap_lacks k) x0 x1 σ:=by
  simp only[d_ref02_Heap_Index,d_ref02_Heap_Shape,d_ref02_Heap_lacks,hide_eq]; kernel_rfl
theorem d_heap_Heap_Ref_eq (k:Nat) (x0:Option Addr) (x1:Int) (x2:Int) (σ:AMem):d_heap_Heap_Ref (k+1) x0 x1 x2 σ=b_heap_Heap_Ref k (d_heap_Heap_field k) x0 x1 x2 σ:=by
  simp only[d_heap_Heap_Ref,d_heap_Heap_field,hide_eq]; kernel_rfl
theorem d_ref02_Heap_Ref_eq (k:Nat) (x0:Option Addr) (x1:Int) (x2:Int) (σ:AMem):d_ref02_Heap_Ref (k+1) x0 x1 x2 σ=b_ref02_Heap_Ref k (d_ref02_Heap_Index k) (d_ref02_Heap_lacks k) x0 x1 x2 σ:=by
  simp only[d_ref02_Heap_Index,d_ref02_Heap_Ref,d_ref02_Heap_lacks,hide_eq]; kernel_rfl
theorem d_heap_Heap_Data_eq (k:Nat) (x0:Option Addr) (x1:Int) (x2:Int) (σ:AMem):d_heap_Heap_Data (k+1) x0 x1 x2 σ=b_heap_Heap_Data k (d_heap_Heap_field k) x0 x1 x2 σ:=by
  simp only[d_heap_Heap_Data,d_heap_Heap_field,hide_eq]; kernel_rfl
theorem d_ref02_Heap_Data_eq (k:Nat) (x0:Option Addr) (x1:Int) (x2:Int) (σ:AMem):d_ref02_Heap_Data (k+1) x0 x1 x2 σ=b_ref02_Heap_Data k (d_ref02_Heap_Index k) (d_ref02_Heap_lacks k) x0 x1 x2 σ:=by
  simp only[d_ref02_Heap_Data,d_ref02_Heap_Index,d_ref02_Heap_lacks,hide_eq]; kernel_rfl
theorem d_heap_Heap_there_eq (k:Nat) (x0:Option Addr) (x1:Int) (σ:AMem):d_heap_Heap_there (k+1) x0 x1 σ=b_heap_Heap_there k (d_heap_Heap_made k) x0 x1 σ:=by
  simp only[d_heap_Heap_made,d_heap_Heap_there,hide_eq]; kernel_rfl
theorem d_ref02_Large_eq (k:Nat) (x0_0:Int) (x0_1:Int) (x0_2:Int) (σ:AMem):d_ref02_Large (k+1) x0_0 x0_1 x0_2 σ=b_ref02_Large k (d_ref02_Words k) x0_0 x0_1 x0_2 σ:=by
  simp only[d_ref02_Large,d_ref02_Words,hide_eq]; kernel_rfl
theorem d_ref02_Need_eq (k:Nat) (x0_0:Int) (x0_1:Int) (x0_2:Int) (σ:AMem):d_ref02_Need (k+1) x0_0 x0_1 x0_2 σ=b_ref02_Need k (d_ref02_Words k) x0_0 x0_1 x0_2 σ:=by
  simp only[d_ref02_Need,d_ref02_Words,hide_eq]; kernel_rfl
theorem d_slices_ContainsFunc_heap_block_eq (k:Nat) (x0:Option Addr × Nat × Nat) (x1:Value) (σ:AMem):d_slices_ContainsFunc_heap_block (k+1) x0 x1 σ=b_slices_ContainsFunc_heap_block k (d_slices_IndexFunc_heap_block k) x0 x1 σ:=by
  simp only[d_slices_ContainsFunc_heap_block,d_slices_IndexFunc_heap_block,hide_eq]; kernel_rfl
theorem d_heap_Heap_claim_c1_eq (k:Nat) (x0_0:Int) (x0_1:Int) (σ:AMem):d_heap_Heap_claim_c1 (k+1) x0_0 x0_1 σ=b_heap_Heap_claim_c1 k  x0_0 x0_1 σ:=by
  simp only[d_heap_Heap_claim_c1,hide_eq]; kernel_rfl
theorem d_side_Table_check_eq (k:Nat) (x0:Option Addr) (x1:Int) (x2:Option Addr × Nat × Nat) (σ:AMem):d_side_Table_check (k+1) x0 x1 x2 σ=b_side_Table_check k (d_side_Table_made k) (d_side_Table_there k) (d_slices_ContainsFunc_int k) x0 x1 x2 σ:=by
  simp only[d_side_Table_check,d_side_Table_made,d_side_Table_there,d_slices_ContainsFunc_int,hide_eq]; kernel_rfl
theorem d_side_Table_put_eq (k:Nat) (x0:Option Addr) (x1:Int) (x2:Int) (σ:AMem):d_side_Table_put (k+1) x0 x1 x2 σ=b_side_Table_put k (d_side_Table_most k) x0 x1 x2 σ:=by
  simp only[d_side_Table_most,d_side_Table_put,hide_eq]; kernel_rfl
theorem d_side_Table_there_eq (k:Nat) (x0:Option Addr) (x1:Int) (σ:AMem):d_side_Table_there (k+1) x0 x1 σ=b_side_Table_there k (d_side_Table_made k) x0 x1 σ:=by
  simp only[d_side_Table_made,d_side_Table_there,hide_eq]; kernel_rfl
theorem d_side_Table_get_eq (k:Nat) (x0:Option Addr) (x1:Int) (σ:AMem):d_side_Table_get (k+1) x0 x1 σ=b_side_Table_get k (d_side_Table_most k) x0 x1 σ:=by
  simp only[d_side_Table_get,d_side_Table_most,hide_eq]; kernel_rfl
theorem d_slices_Index_int_l0_eq (k n:Nat) (p0:Option Addr) (c1:Nat) (c2:Nat) (i3:Int) (i4:Int) (x8:Int) (σ:AMem):d_slices_Index_int_l0 k (n+1) p0 c1 c2 i3 i4 x8 σ=b_slices_Index_int_l0 k n (d_slices_Index_int_l0 k) p0 c1 c2 i3 i4 x8 σ:=by
  simp only[d_slices_Index_int_l0,hide_eq]; kernel_rfl
theorem d_slices_Index_int_eq (k:Nat) (x0:Option Addr × Nat × Nat) (x1:Int) (σ:AMem):d_slices_Index_int (k+1) x0 x1 σ=b_slices_Index_int k (d_slices_Index_int_l0 k) x0 x1 σ:=by
  simp only[d_slices_Index_int,d_slices_Index_int_l0,hide_eq]; kernel_rfl
theorem d_side_Table_Last_l0_eq (k n:Nat) (p0:Option Addr) (i1:Int) (x8:Int) (σ:AMem):d_side_Table_Last_l0 k (n+1) p0 i1 x8 σ=b_side_Table_Last_l0 k n (d_side_Table_Last_l0 k) (d_side_Table_get k) p0 i1 x8 σ:=by
  simp only[d_side_Table_Last_l0,d_side_Table_get,hide_eq]; kernel_rfl
theorem d_side_Table_Last_eq (k:Nat) (x0:Option Addr) (x1:Int) (x2:Int) (σ:AMem):d_side_Table_Last (k+1) x0 x1 x2 σ=b_side_Table_Last k (d_side_Table_Last_l0 k) (d_side_Table_made k) x0 x1 x2 σ:=by
  simp only[d_side_Table_Last,d_side_Table_Last_l0,d_side_Table_made,hide_eq]; kernel_rfl
theorem d_side_Table_Next_l0_eq (k n:Nat) (p0:Option Addr) (i1:Int) (x8:Int) (σ:AMem):d_side_Table_Next_l0 k (n+1) p0 i1 x8 σ=b_side_Table_Next_l0 k n (d_side_Table_Next_l0 k) (d_side_Table_get k) p0 i1 x8 σ:=by
  simp only[d_side_Table_Next_l0,d_side_Table_get,hide_eq]; kernel_rfl
theorem d_side_Table_Next_eq (k:Nat) (x0:Option Addr) (x1:Int) (x2:Int) (σ:AMem):d_side_Table_Next (k+1) x0 x1 x2 σ=b_side_Table_Next k (d_side_Table_Next_l0 k) (d_side_Table_made k) x0 x1 x2 σ:=by
  simp only[d_side_Table_Next,d_side_Table_Next_l0,d_side_Table_made,hide_eq]; kernel_rfl
theorem d_slices_IndexFunc_heap_block_l0_eq (k n:Nat) (p0:Option Addr) (c1:Nat) (c2:Nat) (v3:Value) (i4:Int) (x8:Int) (σ:AMem):d_slices_IndexFunc_heap_block_l0 k (n+1) p0 c1 c2 v3 i4 x8 σ=b_slices_IndexFunc_heap_block_l0 k n (d_callV_ii_t k) (d_slices_IndexFunc_heap_block_l0 k) p0 c1 c2 v3 i4 x8 σ:=by
  simp only[d_callV_ii_t,d_slices_IndexFunc_heap_block_l0,hide_eq]; kernel_rfl
theorem d_slices_IndexFunc_heap_block_eq (k:Nat) (x0:Option Addr × Nat × Nat) (x1:Value) (σ:AMem):d_slices_IndexFunc_heap_block (k+1) x0 x1 σ=b_slices_IndexFunc_heap_block k (d_slices_IndexFunc_heap_block_l0 k) x0 x1 σ:=by
  simp only[d_slices_IndexFunc_heap_block,d_slices_IndexFunc_heap_block_l0,hide_eq]; kernel_rfl
theorem d_slices_ContainsFunc_int_eq (k:Nat) (x0:Option Addr × Nat × Nat) (x1:Value) (σ:AMem):d_slices_ContainsFunc_int (k+1) x0 x1 σ=b_slices_ContainsFunc_int k (d_slices_IndexFunc_int k) x0 x1 σ:=by
  simp only[d_slices_ContainsFunc_int,d_slices_IndexFunc_int,hide_eq]; kernel_rfl
theorem d_side_Table_check_c1_eq (k:Nat) (x0:Int) (c0:Option Addr) (σ:AMem):d_side_Table_check_c1 (k+1) x0 c0 σ=b_side_Table_check_c1 k (d_side_Table_value k) x0 c0 σ:=by
  simp only[d_side_Table_check_c1,d_side_Table_value,hide_eq]; kernel_rfl
theorem d_side_Table_value_eq (k:Nat) (x0:Option Addr) (x1:Int) (σ:AMem):d_side_Table_value (k+1) x0 x1 σ=b_side_Table_value k (d_side_Table_most k) x0 x1 σ:=by
  simp only[d_side_Table_most,d_side_Table_value,hide_eq]; kernel_rfl
theorem d_side_Table_most_eq (k:Nat) (x0:Option Addr) (σ:AMem):d_side_Table_most (k+1) x0 σ=b_side_Table_most k  x0 σ:=by
  simp only[d_side_Table_most,hide_eq]; kernel_rfl
theorem d_slices_IndexFunc_int_l0_eq (k n:Nat) (p0:Option Addr) (c1:Nat) (c2:Nat) (v3:Value) (i4:Int) (x8:Int) (σ:AMem):d_slices_IndexFunc_int_l0 k (n+1) p0 c1 c2 v3 i4 x8 σ=b_slices_IndexFunc_int_l0 k n (d_callV_i_t k) (d_slices_IndexFunc_int_l0 k) p0 c1 c2 v3 i4 x8 σ:=by
  simp only[d_callV_i_t,d_slices_IndexFunc_int_l0,hide_eq]; kernel_rfl
theorem d_slices_IndexFunc_int_eq (k:Nat) (x0:Option Addr × Nat × Nat) (x1:Value) (σ:AMem):d_slices_IndexFunc_int (k+1) x0 x1 σ=b_slices_IndexFunc_int k (d_slices_IndexFunc_int_l0 k) x0 x1 σ:=by
  simp only[d_slices_IndexFunc_int,d_slices_IndexFunc_int_l0,hide_eq]; kernel_rfl
theorem d_maps_Clone_int_eq (k:Nat) (x0:Option Nat) (σ:AMem):d_maps_Clone_int (k+1) x0 σ=cloneA [.map x0] σ:=by
  simp only[d_maps_Clone_int,hide_eq]; kernel_rfl
theorem law02_HeapPlays_is (k:Nat) (x0:Int) (x1:Option Addr × Nat × Nat) (σ:AMem):fn P (XK Kn.b) H k 3 [.int .i64 x0,.slice x1.1 x1.2.1 x1.2.2] σ=d_law02_HeapPlays k x0 x1 σ:=by
  simp only[d_law02_HeapPlays,hide_eq]
theorem callV_ii_t_heap_Heap_claim_c1 (k:Nat) (x0_0:Int) (x0_1:Int) (σ:AMem):d_callV_ii_t k (.func (.func 166) #[] #[]) [.agg #[.int .i64 x0_0,.int .i64 x0_1]] σ=d_heap_Heap_claim_c1 k x0_0 x0_1 σ:=by
  simp only[d_callV_ii_t,d_heap_Heap_claim_c1,hide_eq]; kernel_rfl
theorem callV_i_t_side_Table_check_c1 (k:Nat) (x0:Int) (c0:Option Addr) (σ:AMem):d_callV_i_t k (.func (.func 179) #[] #[.pointer c0]) [.int .i64 x0] σ=d_side_Table_check_c1 k x0 c0 σ:=by
  simp only[d_callV_i_t,d_side_Table_check_c1,hide_eq]; kernel_rfl
end
theorem d_law02_alive_eq [Quiet] (k:Nat) (σ:AMem):@d_law02_alive _ ⟨true⟩ (k+1) σ=some (.bool true,σ):=by
  simp only[d_law02_alive,hide_eq]; kernel_rfl
theorem eqA_ptrs (a:Addr):eqA P pt_heap_Heap (.pointer (some a)) (.pointer none)=some false∧eqA P pt_heap_Heap (.pointer none) (.pointer none)=some true∧eqA P pt_dustcartref02_Heap (.pointer (some a)) (.pointer none)=some false∧eqA P pt_dustcartref02_Heap (.pointer none) (.pointer none)=some true∧eqA P pt_side_Table (.pointer (some a)) (.pointer none)=some false∧eqA P pt_side_Table (.pointer none) (.pointer none)=some true:=by
  refine ⟨?_, ?_, ?_, ?_, ?_, ?_⟩ <;> kernel_rfl
abbrev fn_law02_HeapPlays:FuncId:=3
abbrev fn_law02_Great:FuncId:=10
abbrev fn_law02_alive:FuncId:=11
abbrev fn_heap_New:FuncId:=12
abbrev fn_ref02_New:FuncId:=13
abbrev fn_heap_Heap_Clone:FuncId:=14
abbrev fn_ref02_Heap_Clone:FuncId:=15
abbrev fn_law02_Play:FuncId:=16
abbrev fn_law02_Same:FuncId:=17
abbrev fn_heap_Words:FuncId:=19
abbrev fn_heap_Heap_Blocks:FuncId:=23
abbrev fn_heap_Heap_State:FuncId:=24
abbrev fn_heap_Valid:FuncId:=25
abbrev fn_heap_Heap_Births:FuncId:=29
abbrev fn_heap_Heap_Ident:FuncId:=31
abbrev fn_heap_Heap_Shape:FuncId:=32
abbrev fn_heap_Heap_Space:FuncId:=33
abbrev fn_heap_Heap_Lines:FuncId:=34
abbrev fn_heap_Heap_Claim:FuncId:=43
abbrev fn_heap_Heap_Place:FuncId:=44
abbrev fn_heap_Heap_Gaps:FuncId:=45
abbrev fn_heap_Heap_Word:FuncId:=46
abbrev fn_heap_Heap_Move:FuncId:=47
abbrev fn_heap_Heap_Forward:FuncId:=48
abbrev fn_heap_Heap_At:FuncId:=49
abbrev fn_heap_Heap_ClaimLarge:FuncId:=50
abbrev fn_heap_Heap_Kill:FuncId:=51
abbrev fn_heap_Heap_Release:FuncId:=52
abbrev fn_ref01_SameRuns:FuncId:=53
abbrev fn_side_New:FuncId:=54
abbrev fn_heap_Heap_made:FuncId:=55
abbrev fn_slices_Clone_heap_block:FuncId:=56
abbrev fn_slices_Clone_int:FuncId:=57
abbrev fn_side_Table_Clone:FuncId:=58
abbrev fn_maps_Clone_int:FuncId:=59
abbrev fn_ref02_Heap_Made:FuncId:=60
abbrev fn_ref02_Heap_Claim:FuncId:=61
abbrev fn_ref02_Heap_ClaimLarge:FuncId:=62
abbrev fn_ref02_Heap_Release:FuncId:=63
abbrev fn_heap_Heap_Retag:FuncId:=64
abbrev fn_ref02_Heap_Retag:FuncId:=65
abbrev fn_ref02_Heap_Place:FuncId:=66
abbrev fn_ref02_Heap_Kill:FuncId:=67
abbrev fn_ref02_Heap_Move:FuncId:=68
abbrev fn_heap_Heap_SetRef:FuncId:=69
abbrev fn_ref02_Heap_SetRef:FuncId:=70
abbrev fn_heap_Heap_SetData:FuncId:=71
abbrev fn_ref02_Heap_SetData:FuncId:=72
abbrev fn_heap_Heap_Poke:FuncId:=73
abbrev fn_ref02_Heap_Poke:FuncId:=74
abbrev fn_heap_Heap_Pin:FuncId:=75
abbrev fn_ref02_Heap_Pin:FuncId:=76
abbrev fn_heap_Heap_Unpin:FuncId:=77
abbrev fn_ref02_Heap_Unpin:FuncId:=78
abbrev fn_heap_Heap_Forget:FuncId:=79
abbrev fn_ref02_Heap_Forget:FuncId:=80
abbrev fn_ref02_Heap_Blocks:FuncId:=81
abbrev fn_ref02_Heap_Births:FuncId:=82
abbrev fn_heap_Heap_Used:FuncId:=83
abbrev fn_ref02_Heap_Used:FuncId:=84
abbrev fn_law02_ints:FuncId:=85
abbrev fn_heap_Heap_All:FuncId:=86
abbrev fn_ref02_Heap_All:FuncId:=87
abbrev fn_ref02_Heap_State:FuncId:=88
abbrev fn_ref02_Heap_Space:FuncId:=89
abbrev fn_heap_Heap_Objects:FuncId:=90
abbrev fn_ref02_Heap_Objects:FuncId:=91
abbrev fn_ref02_Heap_Gaps:FuncId:=92
abbrev fn_law02_bools:FuncId:=93
abbrev fn_ref02_Heap_Lines:FuncId:=94
abbrev fn_law02_Looks:FuncId:=95
abbrev fn_ref02_Heap_At:FuncId:=96
abbrev fn_heap_Heap_object:FuncId:=100
abbrev fn_heap_shape:FuncId:=101
abbrev fn_heap_Heap_used:FuncId:=102
abbrev fn_heap_Heap_size:FuncId:=103
abbrev fn_heap_Heap_claim:FuncId:=114
abbrev fn_heap_Heap_fits:FuncId:=115
abbrev fn_heap_number:FuncId:=116
abbrev fn_side_Table_Set:FuncId:=117
abbrev fn_heap_Heap_Gaps_c1:FuncId:=118
abbrev fn_side_Table_Get:FuncId:=119
abbrev fn_heap_Heap_wipe:FuncId:=120
abbrev fn_heap_Heap_held:FuncId:=121
abbrev fn_heap_Heap_span:FuncId:=122
abbrev fn_slices_Contains_int:FuncId:=123
abbrev fn_side_Table_made:FuncId:=124
abbrev fn_slices_Clone_uint64:FuncId:=125
abbrev fn_ref02_Heap_block:FuncId:=127
abbrev fn_ref02_space:FuncId:=128
abbrev fn_ref02_Heap_Whole:FuncId:=129
abbrev fn_heap_space:FuncId:=130
abbrev fn_ref02_Valid:FuncId:=131
abbrev fn_ref02_Heap_fits:FuncId:=132
abbrev fn_ref02_Heap_put:FuncId:=133
abbrev fn_ref02_Heap_lacks:FuncId:=134
abbrev fn_ref02_Heap_cut:FuncId:=135
abbrev fn_ref02_Heap_Index:FuncId:=136
abbrev fn_heap_Heap_field:FuncId:=137
abbrev fn_heap_Heap_Has:FuncId:=138
abbrev fn_ref02_Heap_Has:FuncId:=139
abbrev fn_heap_Heap_Find:FuncId:=140
abbrev fn_ref02_Heap_word:FuncId:=141
abbrev fn_ref02_Heap_Find:FuncId:=142
abbrev fn_heap_Heap_pin:FuncId:=143
abbrev fn_ref02_Heap_pin:FuncId:=144
abbrev fn_ref02_Words:FuncId:=145
abbrev fn_heap_Heap_between:FuncId:=146
abbrev fn_ref02_Heap_Word:FuncId:=147
abbrev fn_heap_Heap_Pinned:FuncId:=148
abbrev fn_ref02_Heap_Pinned:FuncId:=149
abbrev fn_ref02_Heap_Forward:FuncId:=150
abbrev fn_ref02_Heap_Ident:FuncId:=151
abbrev fn_ref02_Heap_Shape:FuncId:=152
abbrev fn_heap_Heap_Ref:FuncId:=153
abbrev fn_ref02_Heap_Ref:FuncId:=154
abbrev fn_heap_Heap_Data:FuncId:=155
abbrev fn_ref02_Heap_Data:FuncId:=156
abbrev fn_heap_Heap_there:FuncId:=157
abbrev fn_ref02_Large:FuncId:=158
abbrev fn_ref02_Need:FuncId:=159
abbrev fn_slices_ContainsFunc_heap_block:FuncId:=165
abbrev fn_heap_Heap_claim_c1:FuncId:=166
abbrev fn_side_Table_check:FuncId:=167
abbrev fn_side_Table_put:FuncId:=168
abbrev fn_side_Table_there:FuncId:=169
abbrev fn_side_Table_get:FuncId:=170
abbrev fn_slices_Index_int:FuncId:=171
abbrev fn_side_Table_Last:FuncId:=172
abbrev fn_side_Table_Next:FuncId:=173
abbrev fn_slices_IndexFunc_heap_block:FuncId:=177
abbrev fn_slices_ContainsFunc_int:FuncId:=178
abbrev fn_side_Table_check_c1:FuncId:=179
abbrev fn_side_Table_value:FuncId:=180
abbrev fn_side_Table_most:FuncId:=181
abbrev fn_slices_IndexFunc_int:FuncId:=182
section
local instance kn0:Kn:=⟨false⟩
variable [Quiet]
theorem d_law02_alive_run_eq (k:Nat)  (σ:AMem):d_law02_alive (k+1)  σ=b_law02_alive k (d_heap_Heap_At k) (d_heap_Heap_Claim k) (d_heap_Heap_ClaimLarge k) (d_heap_Heap_Forward k) (d_heap_Heap_Gaps k) (d_heap_Heap_Kill k) (d_heap_Heap_Move k) (d_heap_Heap_Place k) (d_heap_Heap_Release k) (d_heap_Heap_Word k) (d_heap_New k) (d_ref01_SameRuns k)  σ:=by
  simp only[d_heap_Heap_At,d_heap_Heap_Claim,d_heap_Heap_ClaimLarge,d_heap_Heap_Forward,d_heap_Heap_Gaps,d_heap_Heap_Kill,d_heap_Heap_Move,d_heap_Heap_Place,d_heap_Heap_Release,d_heap_Heap_Word,d_heap_New,d_law02_alive,d_ref01_SameRuns,hide_eq]; kernel_rfl
end
end Go.Proofs.YtlaplcglpnlieaaGreat
