/-
  PRINTED BY A PROGRAM OF THIS SESSION'S OWN (gen2.py): the Go functions as Lean functions over the abstract memory.
-/
import Derived.Test.YtilefhlamdiomaaGreatAXC
set_option maxRecDepth 100000
set_option linter.unusedVariables false
set_option linter.unusedSimpArgs false
set_option linter.unusedSectionVars false
namespace Go.Proofs.YtilefhlamdiomaaGreat
open Go Go.AX

abbrev ty_int64 : TypeId := 2
abbrev ty_int : TypeId := 3
abbrev ty_bool : TypeId := 4
abbrev ty_uint8 : TypeId := 5
abbrev ty_internal_abi_BoundsErrorCode : TypeId := 6
abbrev ty_runtime_boundsError : TypeId := 8
abbrev ty_str : TypeId := 9
abbrev ty_runtime_errorString : TypeId := 10
abbrev ty_runtime_plainError : TypeId := 11
abbrev ty_uintptr : TypeId := 12
abbrev ty_runtime_errorAddressString : TypeId := 14
abbrev pt_runtime_TypeAssertionError : TypeId := 15
abbrev pt_runtime_PanicNilError : TypeId := 16
abbrev pt_internal_abi_Type : TypeId := 17
abbrev ty_internal_runtime_maps_unhashableTypeError : TypeId := 19
abbrev ty_int32 : TypeId := 21
abbrev sl_heap_block : TypeId := 22
abbrev sl_int : TypeId := 23
abbrev pt_side_Table : TypeId := 24
abbrev mp_int_int : TypeId := 25
abbrev ty_heap_Heap : TypeId := 27
abbrev el_heap_Heap_blocks : TypeId := 221
abbrev el_heap_Heap_words : TypeId := 3
abbrev ty_roots_Roots : TypeId := 29
abbrev el_roots_Roots_slots : TypeId := 3
abbrev el_roots_Roots_globals : TypeId := 3
abbrev el_roots_Roots_queue : TypeId := 3
abbrev sl_uint64 : TypeId := 30
abbrev ty_side_Table : TypeId := 32
abbrev el_side_Table_words : TypeId := 212
abbrev pt_heap_Heap : TypeId := 33
abbrev ty_api_Errno : TypeId := 34
abbrev pt_roots_Roots : TypeId := 37
abbrev sl_pt_heap_Heap : TypeId := 40
abbrev sl_pt_roots_Roots : TypeId := 41
abbrev ty_api_Traced : TypeId := 43
abbrev ty_api_Shape : TypeId := 57
abbrev ty_dustcartlaw08_Act : TypeId := 59
abbrev pt_sweep_Sweeper : TypeId := 60
abbrev ty_sweep_Sweeper : TypeId := 62
abbrev el_sweep_Sweeper_left : TypeId := 3
abbrev pt_dustcartref08_Sweeper : TypeId := 63
abbrev pt_alloc_Allocator : TypeId := 67
abbrev ar2_pt_alloc_Allocator : TypeId := 68
abbrev pt_model_Model : TypeId := 69
abbrev ty_dustcartlaw06_World : TypeId := 71
abbrev pt_dustcartref02_Heap : TypeId := 72
abbrev pt_dustcartref03_Roots : TypeId := 73
abbrev pt_dustcartref05_Allocator : TypeId := 74
abbrev ar2_pt_dustcartref05_Allocator : TypeId := 75
abbrev pt_dustcartref04_Model : TypeId := 76
abbrev ty_dustcartlaw06_Paper : TypeId := 78
abbrev ty_api_Report : TypeId := 84
abbrev pt_incr_Collector : TypeId := 88
abbrev pt_tri_Core : TypeId := 91
abbrev ty_incr_Collector : TypeId := 93
abbrev sl_pt_incr_Collector : TypeId := 94
abbrev pt_snap_Collector : TypeId := 104
abbrev ty_snap_Collector : TypeId := 107
abbrev sl_pt_snap_Collector : TypeId := 108
abbrev pt_trace_marker : TypeId := 112
abbrev ty_trace_line_int_ : TypeId := 115
abbrev el_trace_line_int__list : TypeId := 3
abbrev ty_trace_marker : TypeId := 117
abbrev sl_api_Place : TypeId := 118
abbrev ty_api_Place : TypeId := 121
abbrev pt_trace_crew : TypeId := 124
abbrev sl_trace_worker : TypeId := 125
abbrev ty_trace_crew : TypeId := 127
abbrev el_trace_crew_workers : TypeId := 131
abbrev ty_trace_worker : TypeId := 131
abbrev mp_int_sl_int : TypeId := 132
abbrev sl_sl_int : TypeId := 141
abbrev sl_dustcartlaw06_Step : TypeId := 150
abbrev ty_dustcartlaw06_Setup : TypeId := 152
abbrev el_dustcartlaw06_Setup_Steps : TypeId := 285
abbrev ty_iter_Seq2_api_Place___int_ : TypeId := 164
abbrev pt_int : TypeId := 166
abbrev pt_trace_worker : TypeId := 169
abbrev pt_trace_line_int_ : TypeId := 174
abbrev pt_dustcartref01_Table : TypeId := 178
abbrev sl_bool : TypeId := 179
abbrev ty_dustcartref08_Sweeper : TypeId := 181
abbrev el_dustcartref08_Sweeper_Some : TypeId := 4
abbrev sl_api_Run : TypeId := 183
abbrev ty_api_Run : TypeId := 186
abbrev sl_dustcartref02_Block : TypeId := 187
abbrev sl_dustcartref02_Object : TypeId := 188
abbrev sl_api_Move : TypeId := 189
abbrev ty_dustcartref02_Heap : TypeId := 191
abbrev el_dustcartref02_Heap_Blocked : TypeId := 234
abbrev el_dustcartref02_Heap_Objs : TypeId := 193
abbrev el_dustcartref02_Heap_Forwards : TypeId := 287
abbrev ty_dustcartref02_Object : TypeId := 193
abbrev el_dustcartref02_Object_Refs : TypeId := 3
abbrev el_dustcartref02_Object_Data : TypeId := 3
abbrev ty_alloc_policy : TypeId := 198
abbrev sl_alloc_policy : TypeId := 199
abbrev ty_alloc_area : TypeId := 202
abbrev ty_alloc_Allocator : TypeId := 204
abbrev ty_dustcartref05_Allocator : TypeId := 209
abbrev ty_uint64 : TypeId := 212
abbrev ty_heap_block : TypeId := 221
abbrev ty_tri_Core : TypeId := 223
abbrev el_tri_Core_list : TypeId := 3
abbrev el_tri_Core_left : TypeId := 3
abbrev ar3_int : TypeId := 225
abbrev ty_dustcartref02_Block : TypeId := 234
abbrev ty_dustcartref01_Table : TypeId := 237
abbrev el_dustcartref01_Table_L : TypeId := 3
abbrev ty_alloc_first : TypeId := 239
abbrev ty_alloc_best : TypeId := 240
abbrev ty_alloc_next : TypeId := 241
abbrev ty_alloc_bump : TypeId := 242
abbrev ty_alloc_lines : TypeId := 243
abbrev sl_model_object : TypeId := 247
abbrev ty_model_Model : TypeId := 249
abbrev el_model_Model_slots : TypeId := 23
abbrev el_model_Model_globals : TypeId := 3
abbrev el_model_Model_queue : TypeId := 3
abbrev el_model_Model_objects : TypeId := 301
abbrev pt_uint64 : TypeId := 252
abbrev ty_runtime_TypeAssertionError : TypeId := 264
abbrev ar0_pt_runtime_PanicNilError : TypeId := 265
abbrev ty_runtime_PanicNilError : TypeId := 267
abbrev ty_uint32 : TypeId := 268
abbrev ty_internal_abi_TFlag : TypeId := 269
abbrev ty_internal_abi_Kind : TypeId := 270
abbrev pt_uint8 : TypeId := 272
abbrev ty_internal_abi_NameOff : TypeId := 273
abbrev ty_internal_abi_TypeOff : TypeId := 274
abbrev ty_internal_abi_Type : TypeId := 276
abbrev ty_dustcartref03_Roots : TypeId := 278
abbrev el_dustcartref03_Roots_Slots : TypeId := 23
abbrev el_dustcartref03_Roots_Globals : TypeId := 3
abbrev el_dustcartref03_Roots_Waiting : TypeId := 3
abbrev sl_dustcartref04_Object : TypeId := 279
abbrev ty_dustcartref04_Model : TypeId := 281
abbrev el_dustcartref04_Model_Slots : TypeId := 23
abbrev el_dustcartref04_Model_Globals : TypeId := 3
abbrev el_dustcartref04_Model_Waiting : TypeId := 3
abbrev el_dustcartref04_Model_Objs : TypeId := 304
abbrev ty_api_Act : TypeId := 283
abbrev ty_dustcartlaw06_Step : TypeId := 285
abbrev ty_api_Move : TypeId := 287
abbrev ty_uint : TypeId := 297
abbrev pt_alloc_area : TypeId := 299
abbrev ty_model_object : TypeId := 301
abbrev el_model_object_refs : TypeId := 3
abbrev el_model_object_data : TypeId := 3
abbrev ty_dustcartref04_Object : TypeId := 304
abbrev el_dustcartref04_Object_Refs : TypeId := 3
abbrev el_dustcartref04_Object_Data : TypeId := 3
/-- The examples are known, or not. -/
def XK (b : Bool) : Ext := fun f => X f
class Kn where
  b : Bool
/-- Registers, but for those that hold nothing. -/
def rgs (i : Nat) : Nat → List (Nat × Value) → Regs
  | 0, _ => []
  | n + 1, [] => none :: rgs (i + 1) n []
  | n + 1, (j, v) :: l => bif Nat.beq i j then some v :: rgs (i + 1) n l else none :: rgs (i + 1) n ((j, v) :: l)

def H : FuncId → Hints
  | 3 => [(18, ⟨[0, 1, 2, 3, 16, 17, 18], [(.exit 0, []), (.ret, [(8, .bool)])]⟩)]
  | 9 => [(10, ⟨[1, 11, 45, 46, 47], [(.exit 0, [])]⟩), (22, ⟨[11], [(.exit 2, [])]⟩)]
  | 10 => [(10, ⟨[0, 10, 11], [(.exit 0, [])]⟩), (20, ⟨[12, 52, 53, 54], [(.exit 2, [(12, .slice)])]⟩)]
  | 13 => [(10, ⟨[0, 1, 6, 24, 25, 26], [(.exit 0, [(6, .int .i64)])]⟩), (26, ⟨[0, 8, 14, 52, 53], [(.exit 2, [(14, .bool)])]⟩), (41, ⟨[], [(.normal, [(6, .int .i64)])]⟩)]
  | 54 => [(12, ⟨[3], [(.normal, [])]⟩)]
  | 57 => [(2, ⟨[0], [(.exit 0, [])]⟩), (10, ⟨[0, 30, 31, 32], [(.exit 2, [])]⟩)]
  | 58 => [(8, ⟨[0, 3, 23, 24, 25], [(.exit 0, [(3, .bool)])]⟩)]
  | 59 => [(6, ⟨[0, 5, 8, 9, 10], [(.exit 0, [(5, .int .i64)])]⟩), (13, ⟨[], [(.normal, [(5, .int .i64)])]⟩)]
  | 60 => [(12, ⟨[3], [(.normal, [])]⟩), (15, ⟨[], [(.normal, [])]⟩)]
  | 61 => [(6, ⟨[0, 1, 5, 16, 17, 18], [(.exit 0, [(5, .slice)])]⟩), (17, ⟨[], [(.normal, [(5, .slice)])]⟩)]
  | 62 => [(0, ⟨[0], [(.exit 0, [])]⟩), (2, ⟨[0, 7, 8], [(.exit 0, []), (.exit 2, [])]⟩)]
  | 66 => [(8, ⟨[0, 1, 5, 7, 8], [(.exit 0, [(7, .slice)])]⟩)]
  | 75 => [(6, ⟨[0, 3, 4], [(.exit 0, [])]⟩), (15, ⟨[], [(.normal, [])]⟩), (20, ⟨[0, 3, 7, 8], [(.exit 2, [])]⟩), (26, ⟨[0, 3, 7, 8, 9], [(.exit 4, [])]⟩)]
  | 86 => [(17, ⟨[], [(.normal, [(7, .func)])]⟩), (31, ⟨[], [(.normal, [(11, .int .i64)])]⟩)]
  | 99 => [(12, ⟨[1, 3, 4], [(.exit 0, [])]⟩)]
  | 129 => [(0, ⟨[0], [(.exit 0, [])]⟩), (5, ⟨[], [(.normal, [])]⟩)]
  | 130 => [(4, ⟨[0, 20, 21, 22], [(.exit 0, [])]⟩)]
  | 131 => [(6, ⟨[0, 3, 15, 16], [(.exit 0, [(3, .ptr)])]⟩), (15, ⟨[], [(.normal, [(3, .ptr)])]⟩)]
  | 132 => [(7, ⟨[], [(.normal, [])]⟩), (14, ⟨[0, 1, 53, 54, 55], [(.exit 0, [])]⟩), (21, ⟨[], [(.normal, [])]⟩)]
  | 133 => [(10, ⟨[0, 1, 5, 6], [(.exit 0, [(5, .int .i64)])]⟩), (19, ⟨[], [(.normal, [(5, .int .i64)])]⟩)]
  | 137 => [(6, ⟨[0, 2, 7, 8, 9], [(.exit 0, [(7, .slice)])]⟩)]
  | 140 => [(15, ⟨[], [(.normal, [(12, .int .i64), (13, .int .i64)])]⟩)]
  | 141 => [(4, ⟨[0, 1, 7, 8], [(.exit 0, []), (.ret, [(4, .int .i64)])]⟩)]
  | 156 => [(6, ⟨[0, 6, 7], [(.exit 0, []), (.ret, [(4, .int .i64), (5, .bool)])]⟩)]
  | 180 => [(10, ⟨[4, 14, 15], [(.exit 0, [])]⟩)]
  | 187 => [(2, ⟨[0, 19, 20, 21], [(.exit 0, []), (.ret, [])]⟩), (8, ⟨[0, 3, 4, 27, 28], [(.exit 2, []), (.ret, [])]⟩), (17, ⟨[], [(.normal, [])]⟩)]
  | 191 => [(4, ⟨[0, 1, 7, 8], [(.exit 0, []), (.ret, [(4, .int .i64)])]⟩)]
  | 194 => [(8, ⟨[0, 2, 8], [(.exit 0, []), (.ret, [(6, .int .i64), (7, .int .i64)])]⟩)]
  | 203 => [(14, ⟨[0, 6, 7, 19, 20, 21], [(.exit 0, [])]⟩)]
  | 212 => [(11, ⟨[], [(.normal, []), (.ret, [(8, .int .i64)])]⟩), (20, ⟨[0, 1, 2, 3, 10], [(.exit 0, []), (.ret, [(8, .int .i64)])]⟩)]
  | 225 => [(4, ⟨[0, 1, 5], [(.exit 0, [(5, .int .i64)])]⟩)]
  | 236 => [(3, ⟨[], [(.normal, [])]⟩)]
  | 239 => [(16, ⟨[0, 1, 9, 53, 54], [(.exit 1, [])]⟩)]
  | 253 => [(8, ⟨[0, 2, 8], [(.exit 0, []), (.ret, [(6, .int .i64), (7, .int .i64)])]⟩)]
  | 256 => [(4, ⟨[0, 1, 7, 8], [(.exit 0, []), (.ret, [(4, .int .i64)])]⟩)]
  | 282 => [(6, ⟨[0, 1, 2, 7, 14, 15, 16], [(.exit 0, [(7, .slice)])]⟩), (12, ⟨[1, 2, 7, 25, 26, 27], [(.exit 2, [(7, .slice)])]⟩), (21, ⟨[], [(.normal, [])]⟩), (25, ⟨[], [(.normal, [(7, .slice)])]⟩)]
  | 283 => [(4, ⟨[0, 2, 4], [(.exit 0, []), (.ret, [(3, .bool)])]⟩)]
  | 284 => [(6, ⟨[0, 3, 9, 10], [(.exit 0, [(3, .slice)])]⟩), (13, ⟨[], [(.normal, [(3, .slice)])]⟩)]
  | 289 => [(4, ⟨[0, 1, 2, 6, 7, 8], [(.exit 0, [(7, .int .i64)])]⟩), (14, ⟨[0, 1, 2, 6], [(.exit 2, [])]⟩), (18, ⟨[0, 1, 2, 6, 7, 8], [(.exit 4, [(7, .int .i64)])]⟩), (31, ⟨[], [(.normal, [])]⟩)]
  | 290 => [(2, ⟨[0, 1, 2, 3, 8], [(.exit 0, [])]⟩), (8, ⟨[0, 1, 3, 9], [(.exit 2, [])]⟩)]
  | 291 => [(6, ⟨[0, 1, 4, 10, 11], [(.exit 0, [(10, .int .i64)])]⟩), (13, ⟨[], [(.normal, [(10, .int .i64), (11, .int .i64)])]⟩), (18, ⟨[0, 10, 13], [(.exit 2, [])]⟩), (30, ⟨[0, 2, 4, 14, 15], [(.exit 4, [(14, .int .i64)])]⟩), (37, ⟨[], [(.normal, [(14, .int .i64), (15, .int .i64)])]⟩), (42, ⟨[0, 14, 17], [(.exit 6, [])]⟩), (57, ⟨[], [(.normal, [(20, .int .i64), (21, .int .i64)])]⟩), (66, ⟨[0, 4, 20, 21, 22], [(.exit 8, [(20, .int .i64)])]⟩), (73, ⟨[], [(.normal, [(20, .int .i64), (21, .int .i64)])]⟩), (81, ⟨[], [(.normal, [])]⟩), (85, ⟨[], [(.normal, [])]⟩), (89, ⟨[], [(.normal, [])]⟩)]
  | 292 => [(4, ⟨[0, 2, 4, 10, 11], [(.exit 0, [(10, .int .i64)])]⟩), (9, ⟨[], [(.normal, [(10, .int .i64), (11, .int .i64)])]⟩)]
  | 293 => [(2, ⟨[0, 1, 2, 3, 10], [(.exit 0, [])]⟩)]
  | 294 => [(9, ⟨[], [(.normal, [])]⟩)]
  | 296 => [(5, ⟨[], [(.normal, []), (.ret, [(6, .int .i64), (7, .bool)])]⟩)]
  | 300 => [(4, ⟨[0, 2, 11, 12, 13], [(.exit 0, []), (.ret, [(3, .bool)])]⟩), (12, ⟨[0, 2, 5, 6, 7], [(.exit 2, []), (.ret, [(3, .bool)])]⟩), (18, ⟨[6, 8], [(.exit 4, [(8, .int .i64)])]⟩)]
  | 301 => [(10, ⟨[0, 5, 18, 19, 20], [(.exit 0, [])]⟩), (18, ⟨[5, 9, 10], [(.exit 2, [])]⟩)]
  | _ => []

section
variable [Quiet] [Kn]

noncomputable def lp (k f i : Nat) (c : Code) (n : Nat) (rs : Regs) (σ : AMem) : Option LOut :=
  loopF (fun regs σ K => exec P (fn P (XK Kn.b) H k) f (H f) k (cB c) LOut regs σ K) (((H f).lookup i).getD default) n rs σ

def u_f {ρ : Type} (l : List Value) (K : Value → Option ρ) : Option ρ := l.head?.bind fun y0 => K y0
theorem u_f_eq {ρ : Type} (y0 : Value) (K : Value → Option ρ) : u_f [y0] K = K y0 := by simp [u_f, toI, toB, toStr, toP, toS, toM]

def u_i {ρ : Type} (l : List Value) (K : Int → Option ρ) : Option ρ := l.head?.bind fun v => (toI .i64 v).bind fun y0 => K y0
theorem u_i_eq {ρ : Type} (y0 : Int) (K : Int → Option ρ) : u_i [.int .i64 y0] K = K y0 := by simp [u_i, toI, toB, toStr, toP, toS, toM]

def u_ii {ρ : Type} (l : List Value) (K : Int → Int → Option ρ) : Option ρ := l.head?.bind fun v => (toI .i64 v).bind fun y0 => l.tail.head?.bind fun v => (toI .i64 v).bind fun y1 => K y0 y1
theorem u_ii_eq {ρ : Type} (y0 : Int) (y1 : Int) (K : Int → Int → Option ρ) : u_ii [.int .i64 y0, .int .i64 y1] K = K y0 y1 := by simp [u_ii, toI, toB, toStr, toP, toS, toM]

def u_iii {ρ : Type} (l : List Value) (K : Int → Int → Int → Option ρ) : Option ρ := l.head?.bind fun v => (toI .i64 v).bind fun y0 => l.tail.head?.bind fun v => (toI .i64 v).bind fun y1 => l.tail.tail.head?.bind fun v => (toI .i64 v).bind fun y2 => K y0 y1 y2
theorem u_iii_eq {ρ : Type} (y0 : Int) (y1 : Int) (y2 : Int) (K : Int → Int → Int → Option ρ) : u_iii [.int .i64 y0, .int .i64 y1, .int .i64 y2] K = K y0 y1 y2 := by simp [u_iii, toI, toB, toStr, toP, toS, toM]

def u_iiiii {ρ : Type} (l : List Value) (K : Int → Int → Int → Int → Int → Option ρ) : Option ρ := l.head?.bind fun v => (toI .i64 v).bind fun y0 => l.tail.head?.bind fun v => (toI .i64 v).bind fun y1 => l.tail.tail.head?.bind fun v => (toI .i64 v).bind fun y2 => l.tail.tail.tail.head?.bind fun v => (toI .i64 v).bind fun y3 => l.tail.tail.tail.tail.head?.bind fun v => (toI .i64 v).bind fun y4 => K y0 y1 y2 y3 y4
theorem u_iiiii_eq {ρ : Type} (y0 : Int) (y1 : Int) (y2 : Int) (y3 : Int) (y4 : Int) (K : Int → Int → Int → Int → Int → Option ρ) : u_iiiii [.int .i64 y0, .int .i64 y1, .int .i64 y2, .int .i64 y3, .int .i64 y4] K = K y0 y1 y2 y3 y4 := by simp [u_iiiii, toI, toB, toStr, toP, toS, toM]

def u_it {ρ : Type} (l : List Value) (K : Int → Bool → Option ρ) : Option ρ := l.head?.bind fun v => (toI .i64 v).bind fun y0 => l.tail.head?.bind fun v => (toB v).bind fun y1 => K y0 y1
theorem u_it_eq {ρ : Type} (y0 : Int) (y1 : Bool) (K : Int → Bool → Option ρ) : u_it [.int .i64 y0, .bool y1] K = K y0 y1 := by simp [u_it, toI, toB, toStr, toP, toS, toM]

def u_l {ρ : Type} (l : List Value) (K : Option Addr × Nat × Nat → Option ρ) : Option ρ := l.head?.bind fun v => (toS v).bind fun y0 => K y0
theorem u_l_eq {ρ : Type} (y0 : Option Addr × Nat × Nat) (K : Option Addr × Nat × Nat → Option ρ) : u_l [.slice y0.1 y0.2.1 y0.2.2] K = K y0 := by simp [u_l, toI, toB, toStr, toP, toS, toM]

def u_p {ρ : Type} (l : List Value) (K : Option Addr → Option ρ) : Option ρ := l.head?.bind fun v => (toP v).bind fun y0 => K y0
theorem u_p_eq {ρ : Type} (y0 : Option Addr) (K : Option Addr → Option ρ) : u_p [.pointer y0] K = K y0 := by simp [u_p, toI, toB, toStr, toP, toS, toM]

def u_ppppp {ρ : Type} (l : List Value) (K : Option Addr → Option Addr → Option Addr → Option Addr → Option Addr → Option ρ) : Option ρ := l.head?.bind fun v => (toP v).bind fun y0 => l.tail.head?.bind fun v => (toP v).bind fun y1 => l.tail.tail.head?.bind fun v => (toP v).bind fun y2 => l.tail.tail.tail.head?.bind fun v => (toP v).bind fun y3 => l.tail.tail.tail.tail.head?.bind fun v => (toP v).bind fun y4 => K y0 y1 y2 y3 y4
theorem u_ppppp_eq {ρ : Type} (y0 : Option Addr) (y1 : Option Addr) (y2 : Option Addr) (y3 : Option Addr) (y4 : Option Addr) (K : Option Addr → Option Addr → Option Addr → Option Addr → Option Addr → Option ρ) : u_ppppp [.pointer y0, .pointer y1, .pointer y2, .pointer y3, .pointer y4] K = K y0 y1 y2 y3 y4 := by simp [u_ppppp, toI, toB, toStr, toP, toS, toM]

def u_t {ρ : Type} (l : List Value) (K : Bool → Option ρ) : Option ρ := l.head?.bind fun v => (toB v).bind fun y0 => K y0
theorem u_t_eq {ρ : Type} (y0 : Bool) (K : Bool → Option ρ) : u_t [.bool y0] K = K y0 := by simp [u_t, toI, toB, toStr, toP, toS, toM]

def a_ii {ρ : Type} (v : Value) (K : Int → Int → Option ρ) : Option ρ := (toA v).bind fun l => if l.length = 2 then u_ii l K else none
theorem a_ii_eq {ρ : Type} (y0 : Int) (y1 : Int) (K : Int → Int → Option ρ) : a_ii (.agg #[.int .i64 y0, .int .i64 y1]) K = K y0 y1 := by simp [a_ii, u_ii, toA, toI, toB, toStr, toP, toS, toM]

def a_iii {ρ : Type} (v : Value) (K : Int → Int → Int → Option ρ) : Option ρ := (toA v).bind fun l => if l.length = 3 then u_iii l K else none
theorem a_iii_eq {ρ : Type} (y0 : Int) (y1 : Int) (y2 : Int) (K : Int → Int → Int → Option ρ) : a_iii (.agg #[.int .i64 y0, .int .i64 y1, .int .i64 y2]) K = K y0 y1 y2 := by simp [a_iii, u_iii, toA, toI, toB, toStr, toP, toS, toM]

def a_iiiii {ρ : Type} (v : Value) (K : Int → Int → Int → Int → Int → Option ρ) : Option ρ := (toA v).bind fun l => if l.length = 5 then u_iiiii l K else none
theorem a_iiiii_eq {ρ : Type} (y0 : Int) (y1 : Int) (y2 : Int) (y3 : Int) (y4 : Int) (K : Int → Int → Int → Int → Int → Option ρ) : a_iiiii (.agg #[.int .i64 y0, .int .i64 y1, .int .i64 y2, .int .i64 y3, .int .i64 y4]) K = K y0 y1 y2 y3 y4 := by simp [a_iiiii, u_iiiii, toA, toI, toB, toStr, toP, toS, toM]

def a_ppppp {ρ : Type} (v : Value) (K : Option Addr → Option Addr → Option Addr → Option Addr → Option Addr → Option ρ) : Option ρ := (toA v).bind fun l => if l.length = 5 then u_ppppp l K else none
theorem a_ppppp_eq {ρ : Type} (y0 : Option Addr) (y1 : Option Addr) (y2 : Option Addr) (y3 : Option Addr) (y4 : Option Addr) (K : Option Addr → Option Addr → Option Addr → Option Addr → Option Addr → Option ρ) : a_ppppp (.agg #[.pointer y0, .pointer y1, .pointer y2, .pointer y3, .pointer y4]) K = K y0 y1 y2 y3 y4 := by simp [a_ppppp, u_ppppp, toA, toI, toB, toStr, toP, toS, toM]

def r_0 {ρ : Type} (v : Value) (K : Option ρ) : Option ρ := (toT v).bind fun l => if l.length = 0 then K else none
theorem r_0_eq {ρ : Type}  (K : Option ρ) : r_0 (.tuple #[]) K = K := by simp [r_0, toT, toI, toB, toStr, toP, toS, toM]

def r_ii {ρ : Type} (v : Value) (K : Int → Int → Option ρ) : Option ρ := (toT v).bind fun l => if l.length = 2 then l.head?.bind fun v => (toI .i64 v).bind fun y0 => l.tail.head?.bind fun v => (toI .i64 v).bind fun y1 => K y0 y1 else none
theorem r_ii_eq {ρ : Type} (y0 : Int) (y1 : Int) (K : Int → Int → Option ρ) : r_ii (.tuple #[.int .i64 y0, .int .i64 y1]) K = K y0 y1 := by simp [r_ii, toT, toI, toB, toStr, toP, toS, toM]

def r_it {ρ : Type} (v : Value) (K : Int → Bool → Option ρ) : Option ρ := (toT v).bind fun l => if l.length = 2 then l.head?.bind fun v => (toI .i64 v).bind fun y0 => l.tail.head?.bind fun v => (toB v).bind fun y1 => K y0 y1 else none
theorem r_it_eq {ρ : Type} (y0 : Int) (y1 : Bool) (K : Int → Bool → Option ρ) : r_it (.tuple #[.int .i64 y0, .bool y1]) K = K y0 y1 := by simp [r_it, toT, toI, toB, toStr, toP, toS, toM]

def r_li {ρ : Type} (v : Value) (K : Option Addr × Nat × Nat → Int → Option ρ) : Option ρ := (toT v).bind fun l => if l.length = 2 then l.head?.bind fun v => (toS v).bind fun y0 => l.tail.head?.bind fun v => (toI .i64 v).bind fun y1 => K y0 y1 else none
theorem r_li_eq {ρ : Type} (y0 : Option Addr × Nat × Nat) (y1 : Int) (K : Option Addr × Nat × Nat → Int → Option ρ) : r_li (.tuple #[.slice y0.1 y0.2.1 y0.2.2, .int .i64 y1]) K = K y0 y1 := by simp [r_li, toT, toI, toB, toStr, toP, toS, toM]

def r_pi {ρ : Type} (v : Value) (K : Option Addr → Int → Option ρ) : Option ρ := (toT v).bind fun l => if l.length = 2 then l.head?.bind fun v => (toP v).bind fun y0 => l.tail.head?.bind fun v => (toI .i64 v).bind fun y1 => K y0 y1 else none
theorem r_pi_eq {ρ : Type} (y0 : Option Addr) (y1 : Int) (K : Option Addr → Int → Option ρ) : r_pi (.tuple #[.pointer y0, .int .i64 y1]) K = K y0 y1 := by simp [r_pi, toT, toI, toB, toStr, toP, toS, toM]

def r_plii {ρ : Type} (v : Value) (K : Option Addr → Option Addr × Nat × Nat → Int → Int → Option ρ) : Option ρ := (toT v).bind fun l => if l.length = 4 then l.head?.bind fun v => (toP v).bind fun y0 => l.tail.head?.bind fun v => (toS v).bind fun y1 => l.tail.tail.head?.bind fun v => (toI .i64 v).bind fun y2 => l.tail.tail.tail.head?.bind fun v => (toI .i64 v).bind fun y3 => K y0 y1 y2 y3 else none
theorem r_plii_eq {ρ : Type} (y0 : Option Addr) (y1 : Option Addr × Nat × Nat) (y2 : Int) (y3 : Int) (K : Option Addr → Option Addr × Nat × Nat → Int → Int → Option ρ) : r_plii (.tuple #[.pointer y0, .slice y1.1 y1.2.1 y1.2.2, .int .i64 y2, .int .i64 y3]) K = K y0 y1 y2 y3 := by simp [r_plii, toT, toI, toB, toStr, toP, toS, toM]

def r_ti {ρ : Type} (v : Value) (K : Bool → Int → Option ρ) : Option ρ := (toT v).bind fun l => if l.length = 2 then l.head?.bind fun v => (toB v).bind fun y0 => l.tail.head?.bind fun v => (toI .i64 v).bind fun y1 => K y0 y1 else none
theorem r_ti_eq {ρ : Type} (y0 : Bool) (y1 : Int) (K : Bool → Int → Option ρ) : r_ti (.tuple #[.bool y0, .int .i64 y1]) K = K y0 y1 := by simp [r_ti, toT, toI, toB, toStr, toP, toS, toM]

end
/-- A thing that is not looked into. -/
noncomputable def hide {α : Type} (x : α) : α := Classical.choose (⟨x, rfl⟩ : ∃ y, y = x)
theorem hide_eq {α : Type} (x : α) : hide x = x := Classical.choose_spec (⟨x, rfl⟩ : ∃ y, y = x)
abbrev RV1 := Option (Value × AMem)
abbrev TV := Value → List Value → AMem → RV1
section
variable [Quiet] [Kn]

abbrev L_iiiinni := Nat → Int → Int → Int → Int → Nat → Nat → Int → AMem → Option LOut
abbrev L_iipnnili := Nat → Int → Int → Option Addr → Nat → Nat → Int → (Option Addr × Nat × Nat) → Int → AMem → Option LOut
abbrev L_n := Nat → Nat → AMem → Option LOut
abbrev L_nii := Nat → Nat → Int → Int → AMem → Option LOut
abbrev L_nni := Nat → Nat → Nat → Int → AMem → Option LOut
abbrev L_nnii := Nat → Nat → Nat → Int → Int → AMem → Option LOut
abbrev L_p := Nat → Option Addr → AMem → Option LOut
abbrev L_pii := Nat → Option Addr → Int → Int → AMem → Option LOut
abbrev L_piibi := Nat → Option Addr → Int → Int → Bool → Int → AMem → Option LOut
abbrev L_piiii := Nat → Option Addr → Int → Int → Int → Int → AMem → Option LOut
abbrev L_piipnnili := Nat → Option Addr → Int → Int → Option Addr → Nat → Nat → Int → (Option Addr × Nat × Nat) → Int → AMem → Option LOut
abbrev L_pili := Nat → Option Addr → Int → (Option Addr × Nat × Nat) → Int → AMem → Option LOut
abbrev L_pilii := Nat → Option Addr → Int → (Option Addr × Nat × Nat) → Int → Int → AMem → Option LOut
abbrev L_pinii := Nat → Option Addr → Int → Nat → Int → Int → AMem → Option LOut
abbrev L_pinli := Nat → Option Addr → Int → Nat → (Option Addr × Nat × Nat) → Int → AMem → Option LOut
abbrev L_pipi := Nat → Option Addr → Int → Option Addr → Int → AMem → Option LOut
abbrev L_pnb := Nat → Option Addr → Nat → Bool → AMem → Option LOut
abbrev L_pni := Nat → Option Addr → Nat → Int → AMem → Option LOut
abbrev L_pnipnni := Nat → Option Addr → Nat → Int → Option Addr → Nat → Nat → Int → AMem → Option LOut
abbrev L_pnni := Nat → Option Addr → Nat → Nat → Int → AMem → Option LOut
abbrev L_pnnii := Nat → Option Addr → Nat → Nat → Int → Int → AMem → Option LOut
abbrev L_pnniii := Nat → Option Addr → Nat → Nat → Int → Int → Int → AMem → Option LOut
abbrev L_pnniiii := Nat → Option Addr → Nat → Nat → Int → Int → Int → Int → AMem → Option LOut
abbrev L_pnniivi := Nat → Option Addr → Nat → Nat → Int → Int → Value → Int → AMem → Option LOut
abbrev L_pnnili := Nat → Option Addr → Nat → Nat → Int → (Option Addr × Nat × Nat) → Int → AMem → Option LOut
abbrev L_pnnivi := Nat → Option Addr → Nat → Nat → Int → Value → Int → AMem → Option LOut
abbrev L_pnnivii := Nat → Option Addr → Nat → Nat → Int → Value → Int → Int → AMem → Option LOut
abbrev L_pnniviii := Nat → Option Addr → Nat → Nat → Int → Value → Int → Int → Int → AMem → Option LOut
abbrev L_pnnni := Nat → Option Addr → Nat → Nat → Nat → Int → AMem → Option LOut
abbrev L_pnnnpnni := Nat → Option Addr → Nat → Nat → Nat → Option Addr → Nat → Nat → Int → AMem → Option LOut
abbrev L_pnnnpnnii := Nat → Option Addr → Nat → Nat → Nat → Option Addr → Nat → Nat → Int → Int → AMem → Option LOut
abbrev L_pnnpnnii := Nat → Option Addr → Nat → Nat → Option Addr → Nat → Nat → Int → Int → AMem → Option LOut
abbrev L_pnnvii := Nat → Option Addr → Nat → Nat → Value → Int → Int → AMem → Option LOut
abbrev L_pnnviii := Nat → Option Addr → Nat → Nat → Value → Int → Int → Int → AMem → Option LOut
abbrev L_pnpnnii := Nat → Option Addr → Nat → Option Addr → Nat → Nat → Int → Int → AMem → Option LOut
abbrev L_ppnnibi := Nat → Option Addr → Option Addr → Nat → Nat → Int → Bool → Int → AMem → Option LOut
abbrev L_ppnnii := Nat → Option Addr → Option Addr → Nat → Nat → Int → Int → AMem → Option LOut
abbrev L_ppnniii := Nat → Option Addr → Option Addr → Nat → Nat → Int → Int → Int → AMem → Option LOut
abbrev L_pppnnii := Nat → Option Addr → Option Addr → Option Addr → Nat → Nat → Int → Int → AMem → Option LOut
abbrev L_pppnniii := Nat → Option Addr → Option Addr → Option Addr → Nat → Nat → Int → Int → Int → AMem → Option LOut
abbrev L_pppnnili := Nat → Option Addr → Option Addr → Option Addr → Nat → Nat → Int → (Option Addr × Nat × Nat) → Int → AMem → Option LOut
abbrev L_vipnnii := Nat → Value → Int → Option Addr → Nat → Nat → Int → Int → AMem → Option LOut
abbrev L_vnii := Nat → Value → Nat → Int → Int → AMem → Option LOut
abbrev T_ := AMem → RV1
abbrev T_i := Int → AMem → RV1
abbrev T_ii := Int → Int → AMem → RV1
abbrev T_iii := Int → Int → Int → AMem → RV1
abbrev T_iiii := Int → Int → Int → Int → AMem → RV1
abbrev T_iiil := Int → Int → Int → (Option Addr × Nat × Nat) → AMem → RV1
abbrev T_ip := Int → Option Addr → AMem → RV1
abbrev T_ipp := Int → Option Addr → Option Addr → AMem → RV1
abbrev T_l := (Option Addr × Nat × Nat) → AMem → RV1
abbrev T_li := (Option Addr × Nat × Nat) → Int → AMem → RV1
abbrev T_liiiv := (Option Addr × Nat × Nat) → Int → Int → Int → Value → AMem → RV1
abbrev T_liiv := (Option Addr × Nat × Nat) → Int → Int → Value → AMem → RV1
abbrev T_liv := (Option Addr × Nat × Nat) → Int → Value → AMem → RV1
abbrev T_lp := (Option Addr × Nat × Nat) → Option Addr → AMem → RV1
abbrev T_lv := (Option Addr × Nat × Nat) → Value → AMem → RV1
abbrev T_p := Option Addr → AMem → RV1
abbrev T_pi := Option Addr → Int → AMem → RV1
abbrev T_pii := Option Addr → Int → Int → AMem → RV1
abbrev T_piib := Option Addr → Int → Int → Bool → AMem → RV1
abbrev T_piii := Option Addr → Int → Int → Int → AMem → RV1
abbrev T_piiii := Option Addr → Int → Int → Int → Int → AMem → RV1
abbrev T_piiiiii := Option Addr → Int → Int → Int → Int → Int → Int → AMem → RV1
abbrev T_pil := Option Addr → Int → (Option Addr × Nat × Nat) → AMem → RV1
abbrev T_pl := Option Addr → (Option Addr × Nat × Nat) → AMem → RV1
abbrev T_pp := Option Addr → Option Addr → AMem → RV1
abbrev T_ppi := Option Addr → Option Addr → Int → AMem → RV1
abbrev T_ppii := Option Addr → Option Addr → Int → Int → AMem → RV1
abbrev T_vp := Value → Option Addr → AMem → RV1

noncomputable def d_law07_TraceNone : Nat → T_iiii := hide fun k x0 x1 x2 x3 σ => fn P (XK Kn.b) H k 3 [.int .i64 x0, .int .i64 x1, .int .i64 x2, .int .i64 x3] σ
noncomputable def d_law07_TraceNone_l0 : Nat → L_iiiinni := hide fun k n i0 i1 i2 i3 h4 h5 x18 σ => lp k 3 18 (cB (cR (cL (cR (cR (cR (cR (cR (cR (cR (cR (bodyC Tryz.f3)))))))))))) n (rgs 0 190 [(0, .int .i64 i0), (1, .int .i64 i1), (2, .int .i64 i2), (3, .int .i64 i3), (16, .slice (some ⟨h4, 0, none⟩) 4 4), (17, .slice (some ⟨h5, 0, none⟩) 4 4), (18, .int .i64 x18)]) σ
noncomputable def d_heap_New : Nat → T_i := hide fun k x0 σ => fn P (XK Kn.b) H k 7 [.int .i64 x0] σ
noncomputable def d_roots_New : Nat → T_i := hide fun k x0 σ => fn P (XK Kn.b) H k 8 [.int .i64 x0] σ
noncomputable def d_trace_Mark : Nat → T_ppii := hide fun k x0 x1 x2 x3 σ => fn P (XK Kn.b) H k 9 [.pointer x0, .pointer x1, .int .i64 x2, .int .i64 x3] σ
noncomputable def d_trace_Mark_l0 : Nat → L_pnpnnii := hide fun k n p0 h1 p2 c3 c4 i5 x47 σ => lp k 9 10 (cB (cR (cL (cR (cR (cR (bodyC Tryz.f9))))))) n (rgs 0 75 [(1, .pointer p0), (11, .pointer (some ⟨h1, 0, none⟩)), (45, .slice p2 c3 c4), (46, .int .i64 i5), (47, .int .i64 x47)]) σ
noncomputable def d_trace_Mark_l1 : Nat → L_n := hide fun k n h0 σ => lp k 9 22 (cB (cL (cR (cR (cR (cR (cR (bodyC Tryz.f9)))))))) n (rgs 0 75 [(11, .pointer (some ⟨h0, 0, none⟩))]) σ
noncomputable def d_trace_Share : Nat → T_ppi := hide fun k x0 x1 x2 σ => fn P (XK Kn.b) H k 10 [.pointer x0, .pointer x1, .int .i64 x2] σ
noncomputable def d_trace_Share_l0 : Nat → L_pnb := hide fun k n p0 h1 x11 σ => lp k 10 10 (cB (cR (cL (cR (cR (cR (bodyC Tryz.f10))))))) n (rgs 0 73 [(0, .pointer p0), (10, .pointer (some ⟨h1, 0, none⟩)), (11, .bool x11)]) σ
noncomputable def d_trace_Share_l1 : Nat → L_pnnili := hide fun k n p0 c1 c2 i3 x12 x54 σ => lp k 10 20 (cB (cR (cL (cR (cR (cR (cR (cR (bodyC Tryz.f10))))))))) n (rgs 0 73 [(12, .slice x12.1 x12.2.1 x12.2.2), (52, .slice p0 c1 c2), (53, .int .i64 i3), (54, .int .i64 x54)]) σ
noncomputable def d_trace_Kept : Nat → T_pp := hide fun k x0 x1 σ => fn P (XK Kn.b) H k 11 [.pointer x0, .pointer x1] σ
noncomputable def d_trace_Shortest : Nat → T_ppi := hide fun k x0 x1 x2 σ => fn P (XK Kn.b) H k 12 [.pointer x0, .pointer x1, .int .i64 x2] σ
noncomputable def d_trace_Clear : Nat → T_pp := hide fun k x0 x1 σ => fn P (XK Kn.b) H k 13 [.pointer x0, .pointer x1] σ
noncomputable def d_trace_Clear_l1 : Nat → L_piibi := hide fun k n p0 i1 i2 x14 x53 σ => lp k 13 26 (cB (cR (cL (cR (cR (cR (cR (cR (cB (cL (cR (cR (cB (cB (cR (cL (cR (cR (cR (bodyC Tryz.f13)))))))))))))))))))) n (rgs 0 78 [(0, .pointer p0), (8, .int .i64 i1), (14, .bool x14), (52, .int .i64 i2), (53, .int .i64 x53)]) σ
noncomputable def d_trace_Clear_l0 : Nat → L_pppnniii := hide fun k n p0 p1 p2 c3 c4 i5 x6 x26 σ => lp k 13 10 (cB (cR (cL (cR (cR (cR (bodyC Tryz.f13))))))) n (rgs 0 78 [(0, .pointer p0), (1, .pointer p1), (6, .int .i64 x6), (24, .slice p2 c3 c4), (25, .int .i64 i5), (26, .int .i64 x26)]) σ
noncomputable def d_trace_Marked : Nat → T_ppi := hide fun k x0 x1 x2 σ => fn P (XK Kn.b) H k 14 [.pointer x0, .pointer x1, .int .i64 x2] σ
noncomputable def d_law07_alive : Nat → T_ := hide fun k  σ => fn P (XK Kn.b) H k 15 [] σ
noncomputable def d_side_New : Nat → T_ii := hide fun k x0 x1 σ => fn P (XK Kn.b) H k 16 [.int .i64 x0, .int .i64 x1] σ
noncomputable def d_trace_given : Nat → T_pp := hide fun k x0 x1 σ => fn P (XK Kn.b) H k 52 [.pointer x0, .pointer x1] σ
noncomputable def d_trace_table : Nat → T_p := hide fun k x0 σ => fn P (XK Kn.b) H k 53 [.pointer x0] σ
noncomputable def d_roots_Roots_Places : Nat → T_p := hide fun k x0 σ => fn P (XK Kn.b) H k 54 [.pointer x0] σ
noncomputable def d_roots_Roots_Get : Nat → T_piii := hide fun k x0 x1_0 x1_1 x1_2 σ => fn P (XK Kn.b) H k 55 [.pointer x0, .agg #[.int .i64 x1_0, .int .i64 x1_1, .int .i64 x1_2]] σ
noncomputable def d_trace_marker_reach : Nat → T_pi := hide fun k x0 x1 σ => fn P (XK Kn.b) H k 56 [.pointer x0, .int .i64 x1] σ
noncomputable def d_trace_marker_run : Nat → T_p := hide fun k x0 σ => fn P (XK Kn.b) H k 57 [.pointer x0] σ
noncomputable def d_trace_marker_run_l1 : Nat → L_ppnnii := hide fun k n p0 p1 c2 c3 i4 x32 σ => lp k 57 10 (cB (cR (cR (cR (cB (cR (cB (cB (cR (bodyC Tryz.f57)))))))))) n (rgs 0 42 [(0, .pointer p0), (30, .slice p1 c2 c3), (31, .int .i64 i4), (32, .int .i64 x32)]) σ
noncomputable def d_trace_marker_run_l0 : Nat → L_p := hide fun k n p0 σ => lp k 57 2 (cB (cR (bodyC Tryz.f57))) n (rgs 0 42 [(0, .pointer p0)]) σ
noncomputable def d_trace_marker_round : Nat → T_p := hide fun k x0 σ => fn P (XK Kn.b) H k 58 [.pointer x0] σ
noncomputable def d_trace_marker_round_l0 : Nat → L_ppnnibi := hide fun k n p0 p1 c2 c3 i4 x3 x25 σ => lp k 58 8 (cB (cR (cL (cR (cR (cR (bodyC Tryz.f58))))))) n (rgs 0 37 [(0, .pointer p0), (3, .bool x3), (23, .slice p1 c2 c3), (24, .int .i64 i4), (25, .int .i64 x25)]) σ
noncomputable def d_trace_crew_deal : Nat → T_pl := hide fun k x0 x1 σ => fn P (XK Kn.b) H k 59 [.pointer x0, .slice x1.1 x1.2.1 x1.2.2] σ
noncomputable def d_trace_crew_deal_l0 : Nat → L_ppnniii := hide fun k n p0 p1 c2 c3 i4 x5 x10 σ => lp k 59 6 (cB (cR (cL (cR (cR (bodyC Tryz.f59)))))) n (rgs 0 44 [(0, .pointer p0), (5, .int .i64 x5), (8, .slice p1 c2 c3), (9, .int .i64 i4), (10, .int .i64 x10)]) σ
noncomputable def d_roots_Roots_Leads : Nat → T_p := hide fun k x0 σ => fn P (XK Kn.b) H k 60 [.pointer x0] σ
noncomputable def d_trace_due : Nat → T_pp := hide fun k x0 x1 σ => fn P (XK Kn.b) H k 61 [.pointer x0, .pointer x1] σ
noncomputable def d_trace_due_l0 : Nat → L_pppnnili := hide fun k n p0 p1 p2 c3 c4 i5 x5 x18 σ => lp k 61 6 (cB (cR (cL (cR (cR (bodyC Tryz.f61)))))) n (rgs 0 55 [(0, .pointer p0), (1, .pointer p1), (5, .slice x5.1 x5.2.1 x5.2.2), (16, .slice p2 c3 c4), (17, .int .i64 i5), (18, .int .i64 x18)]) σ
noncomputable def d_trace_crew_work : Nat → T_p := hide fun k x0 σ => fn P (XK Kn.b) H k 62 [.pointer x0] σ
noncomputable def d_trace_crew_work_l1 : Nat → L_pii := hide fun k n p0 i1 x8 σ => lp k 62 2 (cB (cR (cB (cB (cB (cR (cB (bodyC Tryz.f62)))))))) n (rgs 0 28 [(0, .pointer p0), (7, .int .i64 i1), (8, .int .i64 x8)]) σ
noncomputable def d_trace_crew_work_l0 : Nat → L_p := hide fun k n p0 σ => lp k 62 0 (cB (cR (cB (bodyC Tryz.f62)))) n (rgs 0 28 [(0, .pointer p0)]) σ
noncomputable def d_trace_all : Nat → T_pp := hide fun k x0 x1 σ => fn P (XK Kn.b) H k 63 [.pointer x0, .pointer x1] σ
noncomputable def d_heap_Heap_Has : Nat → T_pi := hide fun k x0 x1 σ => fn P (XK Kn.b) H k 64 [.pointer x0, .int .i64 x1] σ
noncomputable def d_heap_Heap_All : Nat → T_p := hide fun k x0 σ => fn P (XK Kn.b) H k 65 [.pointer x0] σ
noncomputable def d_trace_strong : Nat → T_pi := hide fun k x0 x1 σ => fn P (XK Kn.b) H k 66 [.pointer x0, .int .i64 x1] σ
noncomputable def d_trace_strong_l0 : Nat → L_pinli := hide fun k n p0 i1 h2 x7 x8 σ => lp k 66 8 (cB (cR (cL (cR (cR (cR (bodyC Tryz.f66))))))) n (rgs 0 37 [(0, .pointer p0), (1, .int .i64 i1), (5, .pointer (some ⟨h2, 0, none⟩)), (7, .slice x7.1 x7.2.1 x7.2.2), (8, .int .i64 x8)]) σ
noncomputable def d___trace_line_int__oldest : Nat → T_p := hide fun k x0 σ => fn P (XK Kn.b) H k 67 [.pointer x0] σ
noncomputable def d___trace_line_int__add : Nat → T_pi := hide fun k x0 x1 σ => fn P (XK Kn.b) H k 68 [.pointer x0, .int .i64 x1] σ
noncomputable def d_trace_fits : Nat → T_pp := hide fun k x0 x1 σ => fn P (XK Kn.b) H k 69 [.pointer x0, .pointer x1] σ
noncomputable def d_heap_Heap_Shape : Nat → T_pi := hide fun k x0 x1 σ => fn P (XK Kn.b) H k 70 [.pointer x0, .int .i64 x1] σ
noncomputable def d_trace_softs : Nat → T_iii := hide fun k x0_0 x0_1 x0_2 σ => fn P (XK Kn.b) H k 71 [.agg #[.int .i64 x0_0, .int .i64 x0_1, .int .i64 x0_2]] σ
noncomputable def d_heap_Heap_Ref : Nat → T_pii := hide fun k x0 x1 x2 σ => fn P (XK Kn.b) H k 72 [.pointer x0, .int .i64 x1, .int .i64 x2] σ
noncomputable def d_trace_marked : Nat → T_ppi := hide fun k x0 x1 x2 σ => fn P (XK Kn.b) H k 73 [.pointer x0, .pointer x1, .int .i64 x2] σ
noncomputable def d_heap_Heap_SetRef : Nat → T_piii := hide fun k x0 x1 x2 x3 σ => fn P (XK Kn.b) H k 74 [.pointer x0, .int .i64 x1, .int .i64 x2, .int .i64 x3] σ
noncomputable def d_law07_Chain : Nat → T_l := hide fun k x0 σ => fn P (XK Kn.b) H k 75 [.slice x0.1 x0.2.1 x0.2.2] σ
noncomputable def d_law07_Chain_l0 : Nat → L_pnnni := hide fun k n p0 c1 c2 h3 x4 σ => lp k 75 6 (cB (cR (cL (cR (cR (bodyC Tryz.f75)))))) n (rgs 0 75 [(0, .slice p0 c1 c2), (3, .pointer (some ⟨h3, 0, none⟩)), (4, .int .i64 x4)]) σ
noncomputable def d_law07_Chain_l2 : Nat → L_pnnnpnnii := hide fun k n p0 c1 c2 h3 p4 c5 c6 i7 x9 σ => lp k 75 26 (cB (cR (cB (cL (cR (cB (cB (cR (cL (cR (cR (cR (cR (bodyC Tryz.f75)))))))))))))) n (rgs 0 75 [(0, .slice p0 c1 c2), (3, .pointer (some ⟨h3, 0, none⟩)), (7, .slice p4 c5 c6), (8, .int .i64 i7), (9, .int .i64 x9)]) σ
noncomputable def d_law07_Chain_l1 : Nat → L_pnnnpnni := hide fun k n p0 c1 c2 h3 p4 c5 c6 x8 σ => lp k 75 20 (cB (cR (cL (cR (cR (cR (cR (bodyC Tryz.f75)))))))) n (rgs 0 75 [(0, .slice p0 c1 c2), (3, .pointer (some ⟨h3, 0, none⟩)), (7, .slice p4 c5 c6), (8, .int .i64 x8)]) σ
noncomputable def d_slices_Contains_int : Nat → T_li := hide fun k x0 x1 σ => fn P (XK Kn.b) H k 76 [.slice x0.1 x0.2.1 x0.2.2, .int .i64 x1] σ
noncomputable def d_alloc_Allocator_Alloc : Nat → T_piii := hide fun k x0 x1_0 x1_1 x1_2 σ => fn P (XK Kn.b) H k 86 [.pointer x0, .agg #[.int .i64 x1_0, .int .i64 x1_1, .int .i64 x1_2]] σ
noncomputable def d_heap_Heap_Blocks : Nat → T_p := hide fun k x0 σ => fn P (XK Kn.b) H k 90 [.pointer x0] σ
noncomputable def d_side_Table_Width : Nat → T_p := hide fun k x0 σ => fn P (XK Kn.b) H k 92 [.pointer x0] σ
noncomputable def d_side_Table_Entries : Nat → T_p := hide fun k x0 σ => fn P (XK Kn.b) H k 93 [.pointer x0] σ
noncomputable def d_law06_NewWorld : Nat → T_iiil := hide fun k x0_0 x0_1 x0_2 x0_3 σ => fn P (XK Kn.b) H k 99 [.agg #[.int .u8 x0_0, .int .u8 x0_1, .int .u8 x0_2, .slice x0_3.1 x0_3.2.1 x0_3.2.2]] σ
noncomputable def d_law06_NewWorld_l0 : Nat → L_nni := hide fun k n h0 h1 x4 σ => lp k 99 12 (cB (cR (cL (cR (cR (cR (cR (cR (bodyC Tryz.f99))))))))) n (rgs 0 45 [(1, .pointer (some ⟨h0, 0, none⟩)), (3, .pointer (some ⟨h1, 0, none⟩)), (4, .int .i64 x4)]) σ
noncomputable def d_roots_Roots_Set : Nat → T_piiii := hide fun k x0 x1_0 x1_1 x1_2 x2 σ => fn P (XK Kn.b) H k 100 [.pointer x0, .agg #[.int .i64 x1_0, .int .i64 x1_1, .int .i64 x1_2], .int .i64 x2] σ
noncomputable def d_heap_Heap_State : Nat → T_pi := hide fun k x0 x1 σ => fn P (XK Kn.b) H k 102 [.pointer x0, .int .i64 x1] σ
noncomputable def d_roots_Roots_Mutators : Nat → T_p := hide fun k x0 σ => fn P (XK Kn.b) H k 124 [.pointer x0] σ
noncomputable def d_roots_Roots_made : Nat → T_p := hide fun k x0 σ => fn P (XK Kn.b) H k 125 [.pointer x0] σ
noncomputable def d_roots_Roots_all : Nat → T_p := hide fun k x0 σ => fn P (XK Kn.b) H k 126 [.pointer x0] σ
noncomputable def d_roots_Roots_place : Nat → T_piii := hide fun k x0 x1_0 x1_1 x1_2 σ => fn P (XK Kn.b) H k 127 [.pointer x0, .agg #[.int .i64 x1_0, .int .i64 x1_1, .int .i64 x1_2]] σ
noncomputable def d_trace_mark : Nat → T_ppi := hide fun k x0 x1 x2 σ => fn P (XK Kn.b) H k 128 [.pointer x0, .pointer x1, .int .i64 x2] σ
noncomputable def d_trace_marker_drain : Nat → T_p := hide fun k x0 σ => fn P (XK Kn.b) H k 129 [.pointer x0] σ
noncomputable def d_trace_marker_drain_l0 : Nat → L_p := hide fun k n p0 σ => lp k 129 0 (cB (bodyC Tryz.f129)) n (rgs 0 26 [(0, .pointer p0)]) σ
noncomputable def d_trace_marker_scan : Nat → T_pi := hide fun k x0 x1 σ => fn P (XK Kn.b) H k 130 [.pointer x0, .int .i64 x1] σ
noncomputable def d_trace_marker_scan_l0 : Nat → L_ppnnii := hide fun k n p0 p1 c2 c3 i4 x22 σ => lp k 130 4 (cB (cR (cR (bodyC Tryz.f130)))) n (rgs 0 30 [(0, .pointer p0), (20, .slice p1 c2 c3), (21, .int .i64 i4), (22, .int .i64 x22)]) σ
noncomputable def d_trace_crew_longest : Nat → T_p := hide fun k x0 σ => fn P (XK Kn.b) H k 131 [.pointer x0] σ
noncomputable def d_trace_crew_longest_l0 : Nat → L_pipi := hide fun k n p0 i1 x3 x16 σ => lp k 131 6 (cB (cR (cL (cR (cR (bodyC Tryz.f131)))))) n (rgs 0 41 [(0, .pointer p0), (3, .pointer x3), (15, .int .i64 i1), (16, .int .i64 x16)]) σ
noncomputable def d_trace_crew_turn : Nat → T_pp := hide fun k x0 x1 σ => fn P (XK Kn.b) H k 132 [.pointer x0, .pointer x1] σ
noncomputable def d_trace_crew_turn_l0 : Nat → L_pppnnii := hide fun k n p0 p1 p2 c3 c4 i5 x55 σ => lp k 132 14 (cB (cR (cR (cR (bodyC Tryz.f132))))) n (rgs 0 75 [(0, .pointer p0), (1, .pointer p1), (53, .slice p2 c3 c4), (54, .int .i64 i5), (55, .int .i64 x55)]) σ
noncomputable def d_slices_DeleteFunc_int : Nat → T_lv := hide fun k x0 x1 σ => fn P (XK Kn.b) H k 133 [.slice x0.1 x0.2.1 x0.2.2, x1] σ
noncomputable def d_slices_DeleteFunc_int_l0 : Nat → L_pnnvii := hide fun k n p0 c1 c2 v3 x5 x6 σ => lp k 133 10 (cB (cR (cL (cR (cR (cR (bodyC Tryz.f133))))))) n (rgs 0 42 [(0, .slice p0 c1 c2), (1, v3), (5, .int .i64 x5), (6, .int .i64 x6)]) σ
noncomputable def d_trace_all_c1 : Nat → T_ipp := hide fun k x0 c0 c1 σ => fn P (XK Kn.b) H k 134 [.int .i64 x0, .pointer c0, .pointer c1] σ
noncomputable def d_heap_Heap_made : Nat → T_p := hide fun k x0 σ => fn P (XK Kn.b) H k 135 [.pointer x0] σ
noncomputable def d_side_Table_Get : Nat → T_pi := hide fun k x0 x1 σ => fn P (XK Kn.b) H k 136 [.pointer x0, .int .i64 x1] σ
noncomputable def d_heap_Heap_between : Nat → T_pii := hide fun k x0 x1 x2 σ => fn P (XK Kn.b) H k 137 [.pointer x0, .int .i64 x1, .int .i64 x2] σ
noncomputable def d_heap_Heap_between_l0 : Nat → L_pilii := hide fun k n p0 i1 x7 x8 x9 σ => lp k 137 6 (cB (cR (cL (cR (cR (bodyC Tryz.f137)))))) n (rgs 0 44 [(0, .pointer p0), (2, .int .i64 i1), (7, .slice x7.1 x7.2.1 x7.2.2), (8, .int .i64 x8), (9, .int .i64 x9)]) σ
noncomputable def d_heap_Heap_object : Nat → T_pi := hide fun k x0 x1 σ => fn P (XK Kn.b) H k 138 [.pointer x0, .int .i64 x1] σ
noncomputable def d_heap_shape : Nat → T_i := hide fun k x0 σ => fn P (XK Kn.b) H k 139 [.int .i64 x0] σ
noncomputable def d_heap_Heap_field : Nat → T_piib := hide fun k x0 x1 x2 x3 σ => fn P (XK Kn.b) H k 140 [.pointer x0, .int .i64 x1, .int .i64 x2, .bool x3] σ
noncomputable def d_slices_Index_int : Nat → T_li := hide fun k x0 x1 σ => fn P (XK Kn.b) H k 141 [.slice x0.1 x0.2.1 x0.2.2, .int .i64 x1] σ
noncomputable def d_slices_Index_int_l0 : Nat → L_pnniii := hide fun k n p0 c1 c2 i3 i4 x8 σ => lp k 141 4 (cB (cR (cL (cR (bodyC Tryz.f141))))) n (rgs 0 19 [(0, .slice p0 c1 c2), (1, .int .i64 i3), (7, .int .i64 i4), (8, .int .i64 x8)]) σ
noncomputable def d_side_Table_Set : Nat → T_pii := hide fun k x0 x1 x2 σ => fn P (XK Kn.b) H k 149 [.pointer x0, .int .i64 x1, .int .i64 x2] σ
noncomputable def d_alloc_Allocator_made : Nat → T_p := hide fun k x0 σ => fn P (XK Kn.b) H k 152 [.pointer x0] σ
noncomputable def d_heap_Valid : Nat → T_iii := hide fun k x0_0 x0_1 x0_2 σ => fn P (XK Kn.b) H k 153 [.agg #[.int .i64 x0_0, .int .i64 x0_1, .int .i64 x0_2]] σ
noncomputable def d_heap_Words : Nat → T_iii := hide fun k x0_0 x0_1 x0_2 σ => fn P (XK Kn.b) H k 154 [.agg #[.int .i64 x0_0, .int .i64 x0_1, .int .i64 x0_2]] σ
noncomputable def d_alloc_policies : Nat → T_ := hide fun k  σ => fn P (XK Kn.b) H k 155 [] σ
noncomputable def d_alloc_Allocator_large : Nat → T_pi := hide fun k x0 x1 σ => fn P (XK Kn.b) H k 156 [.pointer x0, .int .i64 x1] σ
noncomputable def d_alloc_Allocator_large_l0 : Nat → L_pii := hide fun k n p0 i1 x7 σ => lp k 156 6 (cB (cR (cL (cR (cR (bodyC Tryz.f156)))))) n (rgs 0 37 [(0, .pointer p0), (6, .int .i64 i1), (7, .int .i64 x7)]) σ
noncomputable def d_heap_Heap_Space : Nat → T_pi := hide fun k x0 x1 σ => fn P (XK Kn.b) H k 157 [.pointer x0, .int .i64 x1] σ
noncomputable def d_heap_Heap_Place : Nat → T_piiii := hide fun k x0 x1 x2_0 x2_1 x2_2 σ => fn P (XK Kn.b) H k 158 [.pointer x0, .int .i64 x1, .agg #[.int .i64 x2_0, .int .i64 x2_1, .int .i64 x2_2]] σ
noncomputable def d_side_Table_made : Nat → T_p := hide fun k x0 σ => fn P (XK Kn.b) H k 170 [.pointer x0] σ
noncomputable def d_slices_ContainsFunc_int : Nat → T_lv := hide fun k x0 x1 σ => fn P (XK Kn.b) H k 173 [.slice x0.1 x0.2.1 x0.2.2, x1] σ
noncomputable def d_heap_Heap_Objects : Nat → T_pi := hide fun k x0 x1 σ => fn P (XK Kn.b) H k 174 [.pointer x0, .int .i64 x1] σ
noncomputable def d_heap_Heap_size : Nat → T_pi := hide fun k x0 x1 σ => fn P (XK Kn.b) H k 177 [.pointer x0, .int .i64 x1] σ
noncomputable def d_law06_blocks : Nat → T_iiil := hide fun k x0_0 x0_1 x0_2 x0_3 σ => fn P (XK Kn.b) H k 178 [.agg #[.int .u8 x0_0, .int .u8 x0_1, .int .u8 x0_2, .slice x0_3.1 x0_3.2.1 x0_3.2.2]] σ
noncomputable def d_law06_mutators : Nat → T_iiil := hide fun k x0_0 x0_1 x0_2 x0_3 σ => fn P (XK Kn.b) H k 179 [.agg #[.int .u8 x0_0, .int .u8 x0_1, .int .u8 x0_2, .slice x0_3.1 x0_3.2.1 x0_3.2.2]] σ
noncomputable def d_model_New : Nat → T_i := hide fun k x0 σ => fn P (XK Kn.b) H k 180 [.int .i64 x0] σ
noncomputable def d_model_New_l0 : Nat → L_nii := hide fun k n h0 i1 x15 σ => lp k 180 10 (cB (cR (cL (cR (cR (cR (bodyC Tryz.f180))))))) n (rgs 0 29 [(4, .pointer (some ⟨h0, 0, none⟩)), (14, .int .i64 i1), (15, .int .i64 x15)]) σ
noncomputable def d_alloc_New : Nat → T_pii := hide fun k x0 x1 x2 σ => fn P (XK Kn.b) H k 181 [.pointer x0, .int .i64 x1, .int .i64 x2] σ
noncomputable def d_roots_Roots_all_c1 : Nat → T_vp := hide fun k x0 c0 σ => fn P (XK Kn.b) H k 187 [x0, .pointer c0] σ
noncomputable def d_roots_Roots_all_c1_l1 : Nat → L_vipnnii := hide fun k n v0 i1 p2 c3 c4 i5 x28 σ => lp k 187 8 (cB (cR (cR (cB (cL (cR (cR (cB (cB (cR (bodyC Tryz.f187))))))))))) n (rgs 0 58 [(0, v0), (3, .int .i64 i1), (4, .slice p2 c3 c4), (27, .int .i64 i5), (28, .int .i64 x28)]) σ
noncomputable def d_roots_Roots_all_c1_l0 : Nat → L_vnii := hide fun k n v0 h1 i2 x21 σ => lp k 187 2 (cB (cR (bodyC Tryz.f187))) n (rgs 0 58 [(0, v0), (19, .slice (some ⟨h1, 0, none⟩) 3 3), (20, .int .i64 i2), (21, .int .i64 x21)]) σ
noncomputable def d_roots_Roots_at : Nat → T_piii := hide fun k x0 x1_0 x1_1 x1_2 σ => fn P (XK Kn.b) H k 188 [.pointer x0, .agg #[.int .i64 x1_0, .int .i64 x1_1, .int .i64 x1_2]] σ
noncomputable def d_side_Table_Swap : Nat → T_piii := hide fun k x0 x1 x2 x3 σ => fn P (XK Kn.b) H k 189 [.pointer x0, .int .i64 x1, .int .i64 x2, .int .i64 x3] σ
noncomputable def d___trace_line_int__newest : Nat → T_p := hide fun k x0 σ => fn P (XK Kn.b) H k 190 [.pointer x0] σ
noncomputable def d_slices_IndexFunc_int : Nat → T_lv := hide fun k x0 x1 σ => fn P (XK Kn.b) H k 191 [.slice x0.1 x0.2.1 x0.2.2, x1] σ
noncomputable def d_slices_IndexFunc_int_l0 : Nat → L_pnnvii := hide fun k n p0 c1 c2 v3 i4 x8 σ => lp k 191 4 (cB (cR (cL (cR (bodyC Tryz.f191))))) n (rgs 0 19 [(0, .slice p0 c1 c2), (1, v3), (7, .int .i64 i4), (8, .int .i64 x8)]) σ
noncomputable def d_side_Table_there : Nat → T_pi := hide fun k x0 x1 σ => fn P (XK Kn.b) H k 192 [.pointer x0, .int .i64 x1] σ
noncomputable def d_side_Table_get : Nat → T_pi := hide fun k x0 x1 σ => fn P (XK Kn.b) H k 193 [.pointer x0, .int .i64 x1] σ
noncomputable def d_side_Table_Next : Nat → T_pii := hide fun k x0 x1 x2 σ => fn P (XK Kn.b) H k 194 [.pointer x0, .int .i64 x1, .int .i64 x2] σ
noncomputable def d_side_Table_Next_l0 : Nat → L_pii := hide fun k n p0 i1 x8 σ => lp k 194 8 (cB (cR (cL (cR (cR (bodyC Tryz.f194)))))) n (rgs 0 28 [(0, .pointer p0), (2, .int .i64 i1), (8, .int .i64 x8)]) σ
noncomputable def d_heap_Heap_Gaps : Nat → T_pi := hide fun k x0 x1 σ => fn P (XK Kn.b) H k 203 [.pointer x0, .int .i64 x1] σ
noncomputable def d_heap_Heap_Gaps_l0 : Nat → L_pnnpnnii := hide fun k n p0 h1 h2 p3 c4 c5 i6 x21 σ => lp k 203 14 (cB (cR (cL (cR (cR (cR (cR (cR (bodyC Tryz.f203))))))))) n (rgs 0 40 [(0, .pointer p0), (6, .pointer (some ⟨h1, 0, none⟩)), (7, .func (.func 236) #[] #[.pointer (some ⟨h1, 0, none⟩), .pointer (some ⟨h2, 0, none⟩)]), (19, .slice p3 c4 c5), (20, .int .i64 i6), (21, .int .i64 x21)]) σ
noncomputable def d_side_Table_check : Nat → T_pil := hide fun k x0 x1 x2 σ => fn P (XK Kn.b) H k 206 [.pointer x0, .int .i64 x1, .slice x2.1 x2.2.1 x2.2.2] σ
noncomputable def d_side_Table_put : Nat → T_pii := hide fun k x0 x1 x2 σ => fn P (XK Kn.b) H k 207 [.pointer x0, .int .i64 x1, .int .i64 x2] σ
noncomputable def d_heap_Heap_ClaimLarge : Nat → T_piii := hide fun k x0 x1 x2 x3 σ => fn P (XK Kn.b) H k 211 [.pointer x0, .int .i64 x1, .int .i64 x2, .int .i64 x3] σ
noncomputable def d_heap_Heap_fits : Nat → T_piii := hide fun k x0 x1 x2 x3 σ => fn P (XK Kn.b) H k 212 [.pointer x0, .int .i64 x1, .int .i64 x2, .int .i64 x3] σ
noncomputable def d_heap_Heap_fits_l0 : Nat → L_piiii := hide fun k n p0 i1 i2 i3 x10 σ => lp k 212 20 (cB (cR (cL (cR (cR (cR (cR (bodyC Tryz.f212)))))))) n (rgs 0 96 [(0, .pointer p0), (1, .int .i64 i1), (2, .int .i64 i2), (3, .int .i64 i3), (10, .int .i64 x10)]) σ
noncomputable def d_heap_number : Nat → T_iii := hide fun k x0_0 x0_1 x0_2 σ => fn P (XK Kn.b) H k 213 [.agg #[.int .i64 x0_0, .int .i64 x0_1, .int .i64 x0_2]] σ
noncomputable def d_heap_Heap_span : Nat → T_pi := hide fun k x0 x1 σ => fn P (XK Kn.b) H k 225 [.pointer x0, .int .i64 x1] σ
noncomputable def d_heap_Heap_span_l0 : Nat → L_pii := hide fun k n p0 i1 x5 σ => lp k 225 4 (cB (cL (cR (cR (bodyC Tryz.f225))))) n (rgs 0 42 [(0, .pointer p0), (1, .int .i64 i1), (5, .int .i64 x5)]) σ
noncomputable def d_roots_Roots_at_c1 : Nat → T_lp := hide fun k x0 c0 σ => fn P (XK Kn.b) H k 229 [.slice x0.1 x0.2.1 x0.2.2, .pointer c0] σ
noncomputable def d_side_Table_most : Nat → T_p := hide fun k x0 σ => fn P (XK Kn.b) H k 230 [.pointer x0] σ
noncomputable def d_heap_Heap_used : Nat → T_pi := hide fun k x0 x1 σ => fn P (XK Kn.b) H k 235 [.pointer x0, .int .i64 x1] σ
noncomputable def d_heap_Heap_Gaps_c1 : Nat → T_ipp := hide fun k x0 c0 c1 σ => fn P (XK Kn.b) H k 236 [.int .i64 x0, .pointer c0, .pointer c1] σ
noncomputable def d_side_Table_check_c1 : Nat → T_ip := hide fun k x0 c0 σ => fn P (XK Kn.b) H k 237 [.int .i64 x0, .pointer c0] σ
noncomputable def d_side_Table_value : Nat → T_pi := hide fun k x0 x1 σ => fn P (XK Kn.b) H k 238 [.pointer x0, .int .i64 x1] σ
noncomputable def d_heap_Heap_claim : Nat → T_piiiiii := hide fun k x0 x1 x2 x3_0 x3_1 x4_0 x4_1 σ => fn P (XK Kn.b) H k 239 [.pointer x0, .int .i64 x1, .int .i64 x2, .agg #[.int .i64 x3_0, .int .i64 x3_1], .agg #[.int .i64 x4_0, .int .i64 x4_1]] σ
noncomputable def d_heap_Heap_claim_l0 : Nat → L_pinii := hide fun k n p0 i1 h2 i3 x54 σ => lp k 239 16 (cB (cR (cL (cR (cR (bodyC Tryz.f239)))))) n (rgs 0 74 [(0, .pointer p0), (1, .int .i64 i1), (9, .pointer (some ⟨h2, 0, none⟩)), (53, .int .i64 i3), (54, .int .i64 x54)]) σ
noncomputable def d_heap_Heap_Find : Nat → T_pi := hide fun k x0 x1 σ => fn P (XK Kn.b) H k 240 [.pointer x0, .int .i64 x1] σ
noncomputable def d_heap_Heap_there : Nat → T_pi := hide fun k x0 x1 σ => fn P (XK Kn.b) H k 244 [.pointer x0, .int .i64 x1] σ
noncomputable def d_heap_space : Nat → T_i := hide fun k x0 σ => fn P (XK Kn.b) H k 250 [.int .i64 x0] σ
noncomputable def d_slices_ContainsFunc_heap_block : Nat → T_lv := hide fun k x0 x1 σ => fn P (XK Kn.b) H k 251 [.slice x0.1 x0.2.1 x0.2.2, x1] σ
noncomputable def d_heap_Heap_claim_c1 : Nat → T_ii := hide fun k x0_0 x0_1 σ => fn P (XK Kn.b) H k 252 [.agg #[.int .i64 x0_0, .int .i64 x0_1]] σ
noncomputable def d_side_Table_Last : Nat → T_pii := hide fun k x0 x1 x2 σ => fn P (XK Kn.b) H k 253 [.pointer x0, .int .i64 x1, .int .i64 x2] σ
noncomputable def d_side_Table_Last_l0 : Nat → L_pii := hide fun k n p0 i1 x8 σ => lp k 253 8 (cB (cR (cL (cR (cR (bodyC Tryz.f253)))))) n (rgs 0 30 [(0, .pointer p0), (2, .int .i64 i1), (8, .int .i64 x8)]) σ
noncomputable def d_slices_IndexFunc_heap_block : Nat → T_lv := hide fun k x0 x1 σ => fn P (XK Kn.b) H k 256 [.slice x0.1 x0.2.1 x0.2.2, x1] σ
noncomputable def d_slices_IndexFunc_heap_block_l0 : Nat → L_pnnvii := hide fun k n p0 c1 c2 v3 i4 x8 σ => lp k 256 4 (cB (cR (cL (cR (bodyC Tryz.f256))))) n (rgs 0 19 [(0, .slice p0 c1 c2), (1, v3), (7, .int .i64 i4), (8, .int .i64 x8)]) σ
noncomputable def d_alloc_first_place : Nat → T_pi := hide fun k x1 x2 σ => fn P (XK Kn.b) H k 280 [.agg #[], .pointer x1, .int .i64 x2] σ
noncomputable def d_alloc_Allocator_start : Nat → T_pl := hide fun k x0 x1 σ => fn P (XK Kn.b) H k 281 [.pointer x0, .slice x1.1 x1.2.1 x1.2.2] σ
noncomputable def d_alloc_Allocator_gaps : Nat → T_pii := hide fun k x0 x1 x2 σ => fn P (XK Kn.b) H k 282 [.pointer x0, .int .i64 x1, .int .i64 x2] σ
noncomputable def d_alloc_Allocator_gaps_l1 : Nat → L_iipnnili := hide fun k n i0 i1 p2 c3 c4 i5 x7 x27 σ => lp k 282 12 (cB (cR (cR (cB (cL (cR (cR (cB (cB (cR (cL (cR (cR (bodyC Tryz.f282)))))))))))))) n (rgs 0 55 [(1, .int .i64 i0), (2, .int .i64 i1), (7, .slice x7.1 x7.2.1 x7.2.2), (25, .slice p2 c3 c4), (26, .int .i64 i5), (27, .int .i64 x27)]) σ
noncomputable def d_alloc_Allocator_gaps_l0 : Nat → L_piipnnili := hide fun k n p0 i1 i2 p3 c4 c5 i6 x7 x16 σ => lp k 282 6 (cB (cR (cL (cR (cR (bodyC Tryz.f282)))))) n (rgs 0 55 [(0, .pointer p0), (1, .int .i64 i1), (2, .int .i64 i2), (7, .slice x7.1 x7.2.1 x7.2.2), (14, .slice p3 c4 c5), (15, .int .i64 i6), (16, .int .i64 x16)]) σ
noncomputable def d_alloc_Allocator_begin : Nat → T_p := hide fun k x0 σ => fn P (XK Kn.b) H k 283 [.pointer x0] σ
noncomputable def d_alloc_Allocator_begin_l0 : Nat → L_pni := hide fun k n p0 h1 x4 σ => lp k 283 4 (cB (cR (cL (cR (bodyC Tryz.f283))))) n (rgs 0 32 [(0, .pointer p0), (2, .pointer (some ⟨h1, 0, none⟩)), (4, .int .i64 x4)]) σ
noncomputable def d_alloc_Allocator_blocks : Nat → T_p := hide fun k x0 σ => fn P (XK Kn.b) H k 284 [.pointer x0] σ
noncomputable def d_alloc_Allocator_blocks_l0 : Nat → L_pili := hide fun k n p0 i1 x3 x10 σ => lp k 284 6 (cB (cR (cL (cR (cR (bodyC Tryz.f284)))))) n (rgs 0 39 [(0, .pointer p0), (3, .slice x3.1 x3.2.1 x3.2.2), (9, .int .i64 i1), (10, .int .i64 x10)]) σ
noncomputable def d_heap_Heap_Claim : Nat → T_pii := hide fun k x0 x1 x2 σ => fn P (XK Kn.b) H k 285 [.pointer x0, .int .i64 x1, .int .i64 x2] σ
noncomputable def d_alloc_best_place : Nat → T_pi := hide fun k x1 x2 σ => fn P (XK Kn.b) H k 286 [.agg #[], .pointer x1, .int .i64 x2] σ
noncomputable def d_slices_SortStableFunc_api_Run : Nat → T_lv := hide fun k x0 x1 σ => fn P (XK Kn.b) H k 287 [.slice x0.1 x0.2.1 x0.2.2, x1] σ
noncomputable def d_alloc_best_place_c1 : Nat → T_iiii := hide fun k x0_0 x0_1 x1_0 x1_1 σ => fn P (XK Kn.b) H k 288 [.agg #[.int .i64 x0_0, .int .i64 x0_1], .agg #[.int .i64 x1_0, .int .i64 x1_1]] σ
noncomputable def d_slices_stableCmpFunc_api_Run : Nat → T_liv := hide fun k x0 x1 x2 σ => fn P (XK Kn.b) H k 289 [.slice x0.1 x0.2.1 x0.2.2, .int .i64 x1, x2] σ
noncomputable def d_slices_stableCmpFunc_api_Run_l0 : Nat → L_pnnivii := hide fun k n p0 c1 c2 i3 v4 x7 x8 σ => lp k 289 4 (cB (cL (cR (cR (bodyC Tryz.f289))))) n (rgs 0 63 [(0, .slice p0 c1 c2), (1, .int .i64 i3), (2, v4), (6, .int .i64 (20 : Int)), (7, .int .i64 x7), (8, .int .i64 x8)]) σ
noncomputable def d_slices_stableCmpFunc_api_Run_l2 : Nat → L_pnniviii := hide fun k n p0 c1 c2 i3 v4 i5 x7 x8 σ => lp k 289 18 (cB (cL (cR (cB (cR (cB (cB (cR (cR (cR (cR (bodyC Tryz.f289)))))))))))) n (rgs 0 63 [(0, .slice p0 c1 c2), (1, .int .i64 i3), (2, v4), (6, .int .i64 i5), (7, .int .i64 x7), (8, .int .i64 x8)]) σ
noncomputable def d_slices_stableCmpFunc_api_Run_l1 : Nat → L_pnnivi := hide fun k n p0 c1 c2 i3 v4 x6 σ => lp k 289 14 (cB (cR (cR (cR (cR (bodyC Tryz.f289)))))) n (rgs 0 63 [(0, .slice p0 c1 c2), (1, .int .i64 i3), (2, v4), (6, .int .i64 x6)]) σ
noncomputable def d_slices_insertionSortCmpFunc_api_Run : Nat → T_liiv := hide fun k x0 x1 x2 x3 σ => fn P (XK Kn.b) H k 290 [.slice x0.1 x0.2.1 x0.2.2, .int .i64 x1, .int .i64 x2, x3] σ
noncomputable def d_slices_insertionSortCmpFunc_api_Run_l1 : Nat → L_pnnivi := hide fun k n p0 c1 c2 i3 v4 x9 σ => lp k 290 8 (cB (cR (cB (cL (cR (cB (cB (cR (bodyC Tryz.f290))))))))) n (rgs 0 53 [(0, .slice p0 c1 c2), (1, .int .i64 i3), (3, v4), (9, .int .i64 x9)]) σ
noncomputable def d_slices_insertionSortCmpFunc_api_Run_l0 : Nat → L_pnniivi := hide fun k n p0 c1 c2 i3 i4 v5 x8 σ => lp k 290 2 (cB (cR (bodyC Tryz.f290))) n (rgs 0 53 [(0, .slice p0 c1 c2), (1, .int .i64 i3), (2, .int .i64 i4), (3, v5), (8, .int .i64 x8)]) σ
noncomputable def d_slices_symMergeCmpFunc_api_Run : Nat → T_liiiv := hide fun k x0 x1 x2 x3 x4 σ => fn P (XK Kn.b) H k 291 [.slice x0.1 x0.2.1 x0.2.2, .int .i64 x1, .int .i64 x2, .int .i64 x3, x4] σ
noncomputable def d_slices_symMergeCmpFunc_api_Run_l0 : Nat → L_pnnivii := hide fun k n p0 c1 c2 i3 v4 x10 x11 σ => lp k 291 6 (cB (cL (cR (cR (cT (cR (cL (bodyC Tryz.f291)))))))) n (rgs 0 220 [(0, .slice p0 c1 c2), (1, .int .i64 i3), (4, v4), (10, .int .i64 x10), (11, .int .i64 x11)]) σ
noncomputable def d_slices_symMergeCmpFunc_api_Run_l1 : Nat → L_pnnii := hide fun k n p0 c1 c2 i3 x13 σ => lp k 291 18 (cB (cR (cL (cR (cR (cR (cT (cR (cL (bodyC Tryz.f291)))))))))) n (rgs 0 220 [(0, .slice p0 c1 c2), (10, .int .i64 i3), (13, .int .i64 x13)]) σ
noncomputable def d_slices_symMergeCmpFunc_api_Run_l2 : Nat → L_pnnivii := hide fun k n p0 c1 c2 i3 v4 x14 x15 σ => lp k 291 30 (cB (cL (cR (cR (cT (cR (cL (cR (bodyC Tryz.f291))))))))) n (rgs 0 220 [(0, .slice p0 c1 c2), (2, .int .i64 i3), (4, v4), (14, .int .i64 x14), (15, .int .i64 x15)]) σ
noncomputable def d_slices_symMergeCmpFunc_api_Run_l3 : Nat → L_pnnii := hide fun k n p0 c1 c2 i3 x17 σ => lp k 291 42 (cB (cR (cL (cR (cR (cR (cT (cR (cL (cR (bodyC Tryz.f291))))))))))) n (rgs 0 220 [(0, .slice p0 c1 c2), (14, .int .i64 i3), (17, .int .i64 x17)]) σ
noncomputable def d_slices_symMergeCmpFunc_api_Run_l4 : Nat → L_pnnviii := hide fun k n p0 c1 c2 v3 i4 x20 x21 σ => lp k 291 66 (cB (cL (cR (cR (cR (cR (cR (cR (cR (bodyC Tryz.f291)))))))))) n (rgs 0 220 [(0, .slice p0 c1 c2), (4, v3), (20, .int .i64 x20), (21, .int .i64 x21), (22, .int .i64 i4)]) σ
noncomputable def d_slices_rotateCmpFunc_api_Run : Nat → T_liiiv := hide fun k x0 x1 x2 x3 x4 σ => fn P (XK Kn.b) H k 292 [.slice x0.1 x0.2.1 x0.2.2, .int .i64 x1, .int .i64 x2, .int .i64 x3, x4] σ
noncomputable def d_slices_rotateCmpFunc_api_Run_l0 : Nat → L_pnnivii := hide fun k n p0 c1 c2 i3 v4 x10 x11 σ => lp k 292 4 (cB (cL (cR (cR (bodyC Tryz.f292))))) n (rgs 0 58 [(0, .slice p0 c1 c2), (2, .int .i64 i3), (4, v4), (10, .int .i64 x10), (11, .int .i64 x11)]) σ
noncomputable def d_slices_swapRangeCmpFunc_api_Run : Nat → T_liiiv := hide fun k x0 x1 x2 x3 x4 σ => fn P (XK Kn.b) H k 293 [.slice x0.1 x0.2.1 x0.2.2, .int .i64 x1, .int .i64 x2, .int .i64 x3, x4] σ
noncomputable def d_slices_swapRangeCmpFunc_api_Run_l0 : Nat → L_pnniiii := hide fun k n p0 c1 c2 i3 i4 i5 x10 σ => lp k 293 2 (cB (cR (bodyC Tryz.f293))) n (rgs 0 38 [(0, .slice p0 c1 c2), (1, .int .i64 i3), (2, .int .i64 i4), (3, .int .i64 i5), (10, .int .i64 x10)]) σ
noncomputable def d_alloc_next_place : Nat → T_pi := hide fun k x1 x2 σ => fn P (XK Kn.b) H k 294 [.agg #[], .pointer x1, .int .i64 x2] σ
noncomputable def d_alloc_bump_place : Nat → T_pi := hide fun k x1 x2 σ => fn P (XK Kn.b) H k 295 [.agg #[], .pointer x1, .int .i64 x2] σ
noncomputable def d_alloc_Allocator_bumped : Nat → T_ppi := hide fun k x0 x1 x2 σ => fn P (XK Kn.b) H k 296 [.pointer x0, .pointer x1, .int .i64 x2] σ
noncomputable def d_alloc_area_has : Nat → T_pi := hide fun k x0 x1 σ => fn P (XK Kn.b) H k 297 [.pointer x0, .int .i64 x1] σ
noncomputable def d_alloc_area_take : Nat → T_pi := hide fun k x0 x1 σ => fn P (XK Kn.b) H k 298 [.pointer x0, .int .i64 x1] σ
noncomputable def d_alloc_lines_place : Nat → T_pi := hide fun k x1 x2 σ => fn P (XK Kn.b) H k 299 [.agg #[], .pointer x1, .int .i64 x2] σ
noncomputable def d_alloc_Allocator_hole : Nat → T_p := hide fun k x0 σ => fn P (XK Kn.b) H k 300 [.pointer x0] σ
noncomputable def d_alloc_Allocator_hole_l2 : Nat → L_pnni := hide fun k n p0 c1 c2 x8 σ => lp k 300 18 (cB (cL (cR (cB (cL (cR (cB (cB (cR (cR (cR (cB (cL (cR (cR (cB (cB (cR (cL (cR (bodyC Tryz.f300))))))))))))))))))))) n (rgs 0 75 [(6, .slice p0 c1 c2), (8, .int .i64 x8)]) σ
noncomputable def d_alloc_Allocator_hole_l1 : Nat → L_pnipnni := hide fun k n p0 h1 i2 p3 c4 c5 x7 σ => lp k 300 12 (cB (cR (cR (cR (cB (cL (cR (cR (cB (cB (cR (cL (cR (bodyC Tryz.f300)))))))))))))) n (rgs 0 75 [(0, .pointer p0), (2, .pointer (some ⟨h1, 0, none⟩)), (5, .int .i64 i2), (6, .slice p3 c4 c5), (7, .int .i64 x7)]) σ
noncomputable def d_alloc_Allocator_hole_l0 : Nat → L_pnpnnii := hide fun k n p0 h1 p2 c3 c4 i5 x13 σ => lp k 300 4 (cB (cR (cL (cR (bodyC Tryz.f300))))) n (rgs 0 75 [(0, .pointer p0), (2, .pointer (some ⟨h1, 0, none⟩)), (11, .slice p2 c3 c4), (12, .int .i64 i5), (13, .int .i64 x13)]) σ
noncomputable def d_heap_Heap_Lines : Nat → T_pi := hide fun k x0 x1 σ => fn P (XK Kn.b) H k 301 [.pointer x0, .int .i64 x1] σ
noncomputable def d_heap_Heap_Lines_l1 : Nat → L_nnii := hide fun k n h0 c1 i2 x10 σ => lp k 301 18 (cB (cR (cR (cR (cB (cL (cR (cR (cB (cB (cR (cL (cR (cR (cR (bodyC Tryz.f301)))))))))))))))) n (rgs 0 46 [(5, .slice (some ⟨h0, 0, none⟩) c1 c1), (9, .int .i64 i2), (10, .int .i64 x10)]) σ
noncomputable def d_heap_Heap_Lines_l0 : Nat → L_pnnpnnii := hide fun k n p0 h1 c2 p3 c4 c5 i6 x20 σ => lp k 301 10 (cB (cR (cL (cR (cR (cR (bodyC Tryz.f301))))))) n (rgs 0 46 [(0, .pointer p0), (5, .slice (some ⟨h1, 0, none⟩) c2 c2), (18, .slice p3 c4 c5), (19, .int .i64 i6), (20, .int .i64 x20)]) σ
noncomputable def d_callV_f_0 : Nat → TV := hide fun k f args σ => callVal P (fn P (XK Kn.b) H k) f args σ
noncomputable def d_callV_iiip_t : Nat → TV := hide fun k f args σ => callVal P (fn P (XK Kn.b) H k) f args σ
noncomputable def d_callV_pi_it : Nat → TV := hide fun k f args σ => callVal P (fn P (XK Kn.b) H k) f args σ
noncomputable def d_callV_i_t : Nat → TV := hide fun k f args σ => callVal P (fn P (XK Kn.b) H k) f args σ
noncomputable def d_callV_ii_t : Nat → TV := hide fun k f args σ => callVal P (fn P (XK Kn.b) H k) f args σ
noncomputable def d_callV_iiii_i : Nat → TV := hide fun k f args σ => callVal P (fn P (XK Kn.b) H k) f args σ

end
section
variable [Quiet]

noncomputable def b_law07_TraceNone_l0 (k n : Nat) (law07_TraceNone_l0 : L_iiiinni) (trace_Kept : T_pp) (trace_Mark : T_ppii) (trace_Share : T_ppi) (trace_Shortest : T_ppi) (i0 : Int) (i1 : Int) (i2 : Int) (i3 : Int) (h4 : Nat) (h5 : Nat) (x18 : Int) (σ : AMem) : Option LOut :=
  bif decide (x18 < (4 : Int)) then (if 0 ≤ x18 ∧ x18 < (4 : Nat) then (ldP σ h4 (0 + x18.toNat * 1)).bind fun p17 => if 0 ≤ x18 ∧ x18 < (4 : Nat) then (ldP σ h5 (0 + x18.toNat * 1)).bind fun p18 => (trace_Mark p17 p18 i0 i1 σ).bind fun r19 => quietly σ r19.2 ((toT r19.1).bind fun q20 => if q20.length = 3 then q20.head?.bind fun v21 => (toP v21).bind fun p22 => q20.tail.head?.bind fun v23 => a_iiiii v23 fun n24 n25 n26 n27 n28 => q20.tail.tail.head?.bind fun v29 => (toI .i64 v29).bind fun n30 => allocK r19.2 (.cells [.int .i64 (0 : Int), .int .i64 (0 : Int), .int .i64 (0 : Int), .int .i64 (0 : Int), .int .i64 (0 : Int)] ty_api_Traced true) fun h31 s32 => (stN s32 h31 0 [.int .i64 n24, .int .i64 n25, .int .i64 n26, .int .i64 n27, .int .i64 n28]).bind fun s33 => if 0 ≤ x18 ∧ x18 < (4 : Nat) then (ldP s33 h4 (0 + x18.toNat * 1)).bind fun p34 => if 0 ≤ x18 ∧ x18 < (4 : Nat) then (ldP s33 h5 (0 + x18.toNat * 1)).bind fun p35 => (trace_Share p34 p35 i2 s33).bind fun r36 => r_plii r36.1 fun p37 l38 n39 n40 => if 0 ≤ x18 ∧ x18 < (4 : Nat) then (ldP r36.2 h4 (0 + x18.toNat * 1)).bind fun p41 => if 0 ≤ x18 ∧ x18 < (4 : Nat) then (ldP r36.2 h5 (0 + x18.toNat * 1)).bind fun p42 => (trace_Kept p41 p42 r36.2).bind fun r43 => r_li r43.1 fun l44 n45 => if 0 ≤ x18 ∧ x18 < (4 : Nat) then (ldP r43.2 h4 (0 + x18.toNat * 1)).bind fun p46 => if 0 ≤ x18 ∧ x18 < (4 : Nat) then (ldP r43.2 h5 (0 + x18.toNat * 1)).bind fun p47 => (trace_Shortest p46 p47 i3 r43.2).bind fun r48 => r_li r48.1 fun l49 n50 => (eqA P pt_side_Table (.pointer p22) (.pointer none)).bind fun e51 => (bif !e51 then some (true, r48.2) else (ldI .i64 r48.2 h31 0).bind fun n52 => (ldI .i64 r48.2 h31 (0 + 1)).bind fun n53 => (ldI .i64 r48.2 h31 (0 + 1 + 1)).bind fun n54 => (ldI .i64 r48.2 h31 (0 + 1 + 1 + 1)).bind fun n55 => (ldI .i64 r48.2 h31 (0 + 1 + 1 + 1 + 1)).bind fun n56 => (eqA P ty_api_Traced (.agg #[.int .i64 n52, .int .i64 n53, .int .i64 n54, .int .i64 n55, .int .i64 n56]) (.agg #[.int .i64 (0 : Int), .int .i64 (0 : Int), .int .i64 (0 : Int), .int .i64 (0 : Int), .int .i64 (0 : Int)])).bind fun e57 => some (!e57, r48.2)).bind fun r58 => (bif r58.1 then some (true, r58.2) else some (n30 != (1 : Int), r58.2)).bind fun r59 => (bif r59.1 then some (true, r59.2) else (eqA P pt_side_Table (.pointer p37) (.pointer none)).bind fun e60 => some (!e60, r59.2)).bind fun r61 => (bif r61.1 then some (true, r61.2) else some (((l38.2.1 : Nat) : Int) != (0 : Int), r61.2)).bind fun r62 => (bif r62.1 then some (true, r62.2) else some (n39 != (0 : Int), r62.2)).bind fun r63 => (bif r63.1 then some (true, r63.2) else some (n40 != (1 : Int), r63.2)).bind fun r64 => (bif r64.1 then some (true, r64.2) else some (((l44.2.1 : Nat) : Int) != (0 : Int), r64.2)).bind fun r65 => (bif r65.1 then some (true, r65.2) else some (n45 != (1 : Int), r65.2)).bind fun r66 => (bif r66.1 then some (true, r66.2) else some (((l49.2.1 : Nat) : Int) != (0 : Int), r66.2)).bind fun r67 => (bif r67.1 then some (true, r67.2) else some (n50 != (1 : Int), r67.2)).bind fun r68 => bif r68.1 then (some (.ret, [.bool false], r68.2)) else (law07_TraceNone_l0 n i0 i1 i2 i3 h4 h5 (w64 (x18 + (1 : Int))) r68.2) else none else none else none else none else none else none else none) else none else none) else (some (.exit 0, [], σ))

noncomputable def b_law07_TraceNone (k : Nat) (heap_New : T_i) (law07_TraceNone_l0 : L_iiiinni) (law07_alive : T_) (roots_New : T_i) (trace_Clear : T_pp) (trace_Marked : T_ppi) (x0 : Int) (x1 : Int) (x2 : Int) (x3 : Int) (σ : AMem) : RV1 :=
  allocK σ (.cells [.slice none 0 0, .slice none 0 0, .pointer none, .pointer none, .map none, .map none, .int .i64 (0 : Int)] ty_heap_Heap true) fun h1 s2 => allocK s2 (.cells [.int .i64 (0 : Int), .slice none 0 0, .slice none 0 0, .slice none 0 0] ty_roots_Roots true) fun h3 s4 => allocK s4 (.cells [.int .i64 (0 : Int), .int .i64 (0 : Int), .slice none 0 0] ty_side_Table true) fun h5 s6 => (heap_New (2 : Int) s6).bind fun r7 => r_pi r7.1 fun p8 n9 => (roots_New (1 : Int) r7.2).bind fun r10 => r_pi r10.1 fun p11 n12 => allocK r10.2 (.cells [.pointer none, .pointer (some ⟨h1, 0, none⟩), .pointer p8, .pointer p8] pt_heap_Heap true) fun h13 s14 => allocK s14 (.cells [.pointer p11, .pointer p11, .pointer none, .pointer (some ⟨h3, 0, none⟩)] pt_roots_Roots true) fun h15 s16 => (law07_TraceNone_l0 k x0 x1 x2 x3 h13 h15 (0 : Int) s16).bind fun r69 => if r69.1 = .exit 0 then ((trace_Clear none none r69.2.2).bind fun r70 => r_ii r70.1 fun n71 n72 => (trace_Clear p8 (some ⟨h5, 0, none⟩) r70.2).bind fun r73 => r_ii r73.1 fun n74 n75 => (bif n71 == (0 : Int) then some (n72 == (1 : Int), r73.2) else some (false, r73.2)).bind fun r76 => (bif r76.1 then some (n74 == (0 : Int), r76.2) else some (false, r76.2)).bind fun r77 => (bif r77.1 then some (n75 == (1 : Int), r77.2) else some (false, r77.2)).bind fun r78 => (bif r78.1 then (trace_Marked none none x3 r78.2).bind fun r79 => (toB r79.1).bind fun b80 => some (!b80, r79.2) else some (false, r78.2)).bind fun r81 => (bif r81.1 then (trace_Marked p8 (some ⟨h5, 0, none⟩) x3 r81.2).bind fun r82 => (toB r82.1).bind fun b83 => some (!b83, r82.2) else some (false, r81.2)).bind fun r84 => (bif r84.1 then (law07_alive r84.2).bind fun r85 => (toB r85.1).bind fun b86 => some (b86, r85.2) else some (false, r84.2)).bind fun r87 => some (.bool r87.1, r87.2)) else if r69.1 = .ret then (u_t r69.2.1 fun b88 => some (.bool b88, r69.2.2)) else none

noncomputable def b_heap_New (k : Nat) (side_New : T_ii) (x0 : Int) (σ : AMem) : RV1 :=
  (bif decide (x0 < (2 : Int)) then some (true, σ) else some (decide (x0 > (64 : Int)), σ)).bind fun r1 => bif r1.1 then (some (.tuple #[.pointer none, .int .i64 (1 : Int)], r1.2)) else (if 0 ≤ x0 ∧ x0 ≤ x0 ∧ x0 * (16 : Nat) ≤ 2 ^ 40 ∧ x0 ≤ 2 ^ 40 then allocK r1.2 (.cells (rep x0.toNat [.int .i64 (0 : Int), .int .i64 (0 : Int)]) ty_heap_block true) fun h2 s3 => if 0 ≤ (w64 (x0 * (64 : Int))) ∧ (w64 (x0 * (64 : Int))) ≤ (w64 (x0 * (64 : Int))) ∧ (w64 (x0 * (64 : Int))) * (8 : Nat) ≤ 2 ^ 40 ∧ (w64 (x0 * (64 : Int))) ≤ 2 ^ 40 then allocK s3 (.cells (rep (w64 (x0 * (64 : Int))).toNat [.int .i64 (0 : Int)]) ty_int true) fun h4 s5 => allocK s5 (.map []) fun h6 s7 => allocK s7 (.map []) fun h8 s9 => allocK s9 (.cells [.slice (some ⟨h2, 0, none⟩) x0.toNat x0.toNat, .slice (some ⟨h4, 0, none⟩) ((w64 (x0 * (64 : Int))).toNat) ((w64 (x0 * (64 : Int))).toNat), .pointer none, .pointer none, .map (some h6), .map (some h8), .int .i64 (0 : Int)] ty_heap_Heap true) fun h10 s11 => (ldS s11 h10 (0 + 1)).bind fun l12 => if (2 : Int) = 0 then none else (side_New (w64 (((l12.2.1 : Nat) : Int).tdiv (2 : Int))) (1 : Int) s11).bind fun r13 => r_pi r13.1 fun p14 n15 => (st1 r13.2 h10 (0 + 2) (.pointer p14)).bind fun s16 => (ldS s16 h10 (0 + 1)).bind fun l17 => if (2 : Int) = 0 then none else (side_New (w64 (((l17.2.1 : Nat) : Int).tdiv (2 : Int))) (1 : Int) s16).bind fun r18 => r_pi r18.1 fun p19 n20 => (st1 r18.2 h10 (0 + 3) (.pointer p19)).bind fun s21 => some (.tuple #[.pointer (some ⟨h10, 0, none⟩), .int .i64 (0 : Int)], s21) else none else none)

noncomputable def b_roots_New (k : Nat)  (x0 : Int) (σ : AMem) : RV1 :=
  (bif decide (x0 < (1 : Int)) then some (true, σ) else some (decide (x0 > (4 : Int)), σ)).bind fun r1 => bif r1.1 then (some (.tuple #[.pointer none, .int .i64 (1 : Int)], r1.2)) else (if 0 ≤ (w64 (x0 * (16 : Int))) ∧ (w64 (x0 * (16 : Int))) ≤ (w64 (x0 * (16 : Int))) ∧ (w64 (x0 * (16 : Int))) * (8 : Nat) ≤ 2 ^ 40 ∧ (w64 (x0 * (16 : Int))) ≤ 2 ^ 40 then allocK r1.2 (.cells (rep (w64 (x0 * (16 : Int))).toNat [.int .i64 (0 : Int)]) ty_int true) fun h2 s3 => if 0 ≤ (16 : Int) ∧ (16 : Int) ≤ (16 : Int) ∧ (16 : Int) * (8 : Nat) ≤ 2 ^ 40 ∧ (16 : Int) ≤ 2 ^ 40 then allocK s3 (.cells (rep (16 : Int).toNat [.int .i64 (0 : Int)]) ty_int true) fun h4 s5 => allocK s5 (.cells [.int .i64 x0, .slice (some ⟨h2, 0, none⟩) ((w64 (x0 * (16 : Int))).toNat) ((w64 (x0 * (16 : Int))).toNat), .slice (some ⟨h4, 0, none⟩) ((16 : Int).toNat) ((16 : Int).toNat), .slice none 0 0] ty_roots_Roots true) fun h6 s7 => some (.tuple #[.pointer (some ⟨h6, 0, none⟩), .int .i64 (0 : Int)], s7) else none else none)

noncomputable def b_trace_Mark_l0 (k n : Nat) (roots_Roots_Get : T_piii) (trace_Mark_l0 : L_pnpnnii) (trace_marker_reach : T_pi) (p0 : Option Addr) (h1 : Nat) (p2 : Option Addr) (c3 : Nat) (c4 : Nat) (i5 : Int) (x47 : Int) (σ : AMem) : Option LOut :=
  bif decide (x47 < i5) then (if 0 ≤ x47 ∧ x47 < (c3 : Nat) then p2.bind fun a20 => (ldI .i64 σ a20.block (a20.off + x47.toNat * 3)).bind fun n21 => (ldI .i64 σ a20.block (a20.off + x47.toNat * 3 + 1)).bind fun n22 => (ldI .i64 σ a20.block (a20.off + x47.toNat * 3 + 1 + 1)).bind fun n23 => allocK σ (.cells [.int .i64 (0 : Int), .int .i64 (0 : Int), .int .i64 (0 : Int)] ty_api_Place true) fun h24 s25 => (stN s25 h24 0 [.int .i64 n21, .int .i64 n22, .int .i64 n23]).bind fun s26 => (ldI .i64 s26 h24 0).bind fun n27 => (ldI .i64 s26 h24 (0 + 1)).bind fun n28 => (ldI .i64 s26 h24 (0 + 1 + 1)).bind fun n29 => (roots_Roots_Get p0 n27 n28 n29 s26).bind fun r30 => r_ii r30.1 fun n31 n32 => (trace_marker_reach (some ⟨h1, 0, none⟩) n31 r30.2).bind fun r33 => (toB r33.1).bind fun b34 => trace_Mark_l0 n p0 h1 p2 c3 c4 i5 (w64 (x47 + (1 : Int))) r33.2 else none) else (some (.exit 0, [], σ))

noncomputable def b_trace_Mark_l1 (k n : Nat) (trace_Mark_l1 : L_n) (trace_marker_round : T_p) (trace_marker_run : T_p) (h0 : Nat) (σ : AMem) : Option LOut :=
  (trace_marker_round (some ⟨h0, 0, none⟩) σ).bind fun r37 => (toB r37.1).bind fun b38 => bif b38 then ((trace_marker_run (some ⟨h0, 0, none⟩) r37.2).bind fun r39 => r_0 r39.1 (trace_Mark_l1 n h0  r39.2)) else (some (.exit 2, [], r37.2))

noncomputable def b_trace_Mark (k : Nat) (roots_Roots_Places : T_p) (trace_Mark_l0 : L_pnpnnii) (trace_Mark_l1 : L_n) (trace_given : T_pp) (trace_marker_run : T_p) (trace_table : T_p) (x0 : Option Addr) (x1 : Option Addr) (x2 : Int) (x3 : Int) (σ : AMem) : RV1 :=
  allocK σ (.cells [.int .i64 (0 : Int), .int .i64 (0 : Int), .int .i64 (0 : Int), .int .i64 (0 : Int), .int .i64 (0 : Int)] ty_api_Traced true) fun h1 s2 => (trace_given x0 x1 s2).bind fun r3 => (toB r3.1).bind fun b4 => (bif !b4 then some (true, r3.2) else some (decide (x2 < (0 : Int)), r3.2)).bind fun r5 => (bif r5.1 then some (true, r5.2) else some (decide (x2 > (1 : Int)), r5.2)).bind fun r6 => (bif r6.1 then some (true, r6.2) else some (decide (x3 < (1 : Int)), r6.2)).bind fun r7 => (bif r7.1 then some (true, r7.2) else some (decide (x3 > (4096 : Int)), r7.2)).bind fun r8 => bif r8.1 then ((stN r8.2 h1 0 [.int .i64 (0 : Int), .int .i64 (0 : Int), .int .i64 (0 : Int), .int .i64 (0 : Int), .int .i64 (0 : Int)]).bind fun s9 => ((((ldN s9 h1 0 5).bind fun v10 => some (.agg v10.toArray)).bind fun v11 => some [v11, .int .i64 (1 : Int)]).bind fun vs12 => some (.pointer none :: vs12)).bind fun vs13 => some (resOf vs13, s9)) else ((trace_table x0 r8.2).bind fun r14 => (toP r14.1).bind fun p15 => allocK r14.2 (.cells [.pointer x0, .pointer p15, .slice none 0 0, .int .i64 x2, .int .i64 x3, .bool false, .int .i64 (0 : Int), .int .i64 (0 : Int), .int .i64 (0 : Int), .int .i64 (0 : Int), .int .i64 (0 : Int)] ty_trace_marker true) fun h16 s17 => (roots_Roots_Places x1 s17).bind fun r18 => (toS r18.1).bind fun l19 => (trace_Mark_l0 k x1 h16 l19.1 l19.2.1 l19.2.2 ((l19.2.1 : Nat) : Int) (0 : Int) r18.2).bind fun r35 => if r35.1 = .exit 0 then ((trace_marker_run (some ⟨h16, 0, none⟩) r35.2.2).bind fun r36 => r_0 r36.1 ((trace_Mark_l1 k h16  r36.2).bind fun r40 => if r40.1 = .exit 2 then ((ldP r40.2.2 h16 (0 + 1)).bind fun p41 => (ldI .i64 r40.2.2 h16 (0 + 6)).bind fun n42 => (ldI .i64 r40.2.2 h16 (0 + 6 + 1)).bind fun n43 => (ldI .i64 r40.2.2 h16 (0 + 6 + 1 + 1)).bind fun n44 => (ldI .i64 r40.2.2 h16 (0 + 6 + 1 + 1 + 1)).bind fun n45 => (ldI .i64 r40.2.2 h16 (0 + 6 + 1 + 1 + 1 + 1)).bind fun n46 => (stN r40.2.2 h1 0 [.int .i64 n42, .int .i64 n43, .int .i64 n44, .int .i64 n45, .int .i64 n46]).bind fun s47 => ((((ldN s47 h1 0 5).bind fun v48 => some (.agg v48.toArray)).bind fun v49 => some [v49, .int .i64 (0 : Int)]).bind fun vs50 => some (.pointer p41 :: vs50)).bind fun vs51 => some (resOf vs51, s47)) else none)) else none)

noncomputable def b_trace_Share_l0 (k n : Nat) (trace_Share_l0 : L_pnb) (trace_crew_deal : T_pl) (trace_crew_work : T_p) (trace_due : T_pp) (p0 : Option Addr) (h1 : Nat) (x11 : Bool) (σ : AMem) : Option LOut :=
  bif x11 then ((trace_crew_work (some ⟨h1, 0, none⟩) σ).bind fun r15 => r_0 r15.1 ((ldP r15.2 h1 (0 + 1)).bind fun p16 => (trace_due p0 p16 r15.2).bind fun r17 => (toS r17.1).bind fun l18 => (trace_crew_deal (some ⟨h1, 0, none⟩) (l18.1, l18.2.1, l18.2.2) r17.2).bind fun r19 => (toB r19.1).bind fun b20 => trace_Share_l0 n p0 h1 b20 r19.2)) else (some (.exit 0, [], σ))

noncomputable def b_trace_Share_l1 (k n : Nat) (trace_Share_l1 : L_pnnili) (p0 : Option Addr) (c1 : Nat) (c2 : Nat) (i3 : Int) (x12 : Option Addr × Nat × Nat) (x54 : Int) (σ : AMem) : Option LOut :=
  bif decide (x54 < i3) then (if 0 ≤ x54 ∧ x54 < (c1 : Nat) then p0.bind fun a23 => (ldS σ a23.block (a23.off + x54.toNat * 2)).bind fun l24 => (ldI .i64 σ a23.block (a23.off + x54.toNat * 2 + 1)).bind fun n25 => allocK σ (.cells [.slice none 0 0, .int .i64 (0 : Int)] ty_trace_worker true) fun h26 s27 => (stN s27 h26 0 [.slice l24.1 l24.2.1 l24.2.2, .int .i64 n25]).bind fun s28 => (ldI .i64 s28 h26 (0 + 1)).bind fun n29 => allocK s28 (.cells [.int .i64 n29] ty_int true) fun h30 s31 => (appendD P ty_int (x12.1, x12.2.1, x12.2.2) (some ⟨h30, 0, none⟩, 1, 1) s31).bind fun r32 => trace_Share_l1 n p0 c1 c2 i3 (r32.1.1, r32.1.2.1, r32.1.2.2) (w64 (x54 + (1 : Int))) r32.2 else none) else (some (.exit 2, [.slice x12.1 x12.2.1 x12.2.2], σ))

noncomputable def b_trace_Share (k : Nat) (roots_Roots_Leads : T_p) (trace_Share_l0 : L_pnb) (trace_Share_l1 : L_pnnili) (trace_crew_deal : T_pl) (trace_given : T_pp) (trace_table : T_p) (x0 : Option Addr) (x1 : Option Addr) (x2 : Int) (σ : AMem) : RV1 :=
  (trace_given x0 x1 σ).bind fun r1 => (toB r1.1).bind fun b2 => (bif !b2 then some (true, r1.2) else some (decide (x2 < (1 : Int)), r1.2)).bind fun r3 => (bif r3.1 then some (true, r3.2) else some (decide (x2 > (8 : Int)), r3.2)).bind fun r4 => bif r4.1 then (some (.tuple #[.pointer none, .slice none 0 0, .int .i64 (0 : Int), .int .i64 (1 : Int)], r4.2)) else ((trace_table x0 r4.2).bind fun r5 => (toP r5.1).bind fun p6 => if 0 ≤ x2 ∧ x2 ≤ x2 ∧ x2 * (32 : Nat) ≤ 2 ^ 40 ∧ x2 ≤ 2 ^ 40 then allocK r5.2 (.cells (rep x2.toNat [.slice none 0 0, .int .i64 (0 : Int)]) ty_trace_worker true) fun h7 s8 => allocK s8 (.cells [.pointer x0, .pointer p6, .slice (some ⟨h7, 0, none⟩) x2.toNat x2.toNat, .int .i64 (0 : Int)] ty_trace_crew true) fun h9 s10 => (roots_Roots_Leads x1 s10).bind fun r11 => (toS r11.1).bind fun l12 => (trace_crew_deal (some ⟨h9, 0, none⟩) (l12.1, l12.2.1, l12.2.2) r11.2).bind fun r13 => (toB r13.1).bind fun b14 => (trace_Share_l0 k x0 h9 b14 r13.2).bind fun r21 => if r21.1 = .exit 0 then ((ldS r21.2.2 h9 (0 + 2)).bind fun l22 => (trace_Share_l1 k l22.1 l22.2.1 l22.2.2 ((l22.2.1 : Nat) : Int) (none, 0, 0) (0 : Int) r21.2.2).bind fun r33 => if r33.1 = .exit 2 then (u_l r33.2.1 fun l34 => (ldP r33.2.2 h9 (0 + 1)).bind fun p35 => (ldI .i64 r33.2.2 h9 (0 + 3)).bind fun n36 => some (.tuple #[.pointer p35, .slice l34.1 l34.2.1 l34.2.2, .int .i64 n36, .int .i64 (0 : Int)], r33.2.2)) else none) else none else none)

noncomputable def b_trace_Kept (k : Nat) (trace_Mark : T_ppii) (trace_all : T_pp) (x0 : Option Addr) (x1 : Option Addr) (σ : AMem) : RV1 :=
  (trace_Mark x0 x1 (0 : Int) (4096 : Int) σ).bind fun r1 => (toT r1.1).bind fun q2 => if q2.length = 3 then q2.head?.bind fun v3 => (toP v3).bind fun p4 => q2.tail.head?.bind fun v5 => a_iiiii v5 fun n6 n7 n8 n9 n10 => q2.tail.tail.head?.bind fun v11 => (toI .i64 v11).bind fun n12 => allocK r1.2 (.cells [.int .i64 (0 : Int), .int .i64 (0 : Int), .int .i64 (0 : Int), .int .i64 (0 : Int), .int .i64 (0 : Int)] ty_api_Traced true) fun h13 s14 => (stN s14 h13 0 [.int .i64 n6, .int .i64 n7, .int .i64 n8, .int .i64 n9, .int .i64 n10]).bind fun s15 => bif n12 != (0 : Int) then (some (.tuple #[.slice none 0 0, .int .i64 n12], s15)) else ((trace_all x0 p4 s15).bind fun r16 => (toS r16.1).bind fun l17 => some (.tuple #[.slice l17.1 l17.2.1 l17.2.2, .int .i64 (0 : Int)], r16.2)) else none

noncomputable def b_trace_Shortest (k : Nat) (heap_Heap_Has : T_pi) (trace_given : T_pp) (x0 : Option Addr) (x1 : Option Addr) (x2 : Int) (σ : AMem) : RV1 :=
  (trace_given x0 x1 σ).bind fun r1 => (toB r1.1).bind fun b2 => bif !b2 then (some (.tuple #[.slice none 0 0, .int .i64 (1 : Int)], r1.2)) else ((heap_Heap_Has x0 x2 r1.2).bind fun r3 => (toB r3.1).bind fun b4 => bif !b4 then (some (.tuple #[.slice none 0 0, .int .i64 (4 : Int)], r3.2)) else (allocK r3.2 (.map []) fun h5 s6 => none))

noncomputable def b_trace_Clear_l1 (k n : Nat) (heap_Heap_Ref : T_pii) (heap_Heap_SetRef : T_piii) (trace_Clear_l1 : L_piibi) (p0 : Option Addr) (i1 : Int) (i2 : Int) (x14 : Bool) (x53 : Int) (σ : AMem) : Option LOut :=
  bif decide (x53 < i2) then ((heap_Heap_Ref p0 i1 x53 σ).bind fun r29 => r_ii r29.1 fun n30 n31 => (bif x14 then some (true, r29.2) else some (n30 != (0 : Int), r29.2)).bind fun r32 => (heap_Heap_SetRef p0 i1 x53 (0 : Int) r32.2).bind fun r33 => (toI .i64 r33.1).bind fun n34 => trace_Clear_l1 n p0 i1 i2 r32.1 (w64 (x53 + (1 : Int))) r33.2) else (some (.exit 2, [.bool x14], σ))

noncomputable def b_trace_Clear_l0 (k n : Nat) (heap_Heap_Ref : T_pii) (heap_Heap_Shape : T_pi) (trace_Clear_l0 : L_pppnniii) (trace_Clear_l1 : L_piibi) (trace_marked : T_ppi) (trace_softs : T_iii) (p0 : Option Addr) (p1 : Option Addr) (p2 : Option Addr) (c3 : Nat) (c4 : Nat) (i5 : Int) (x6 : Int) (x26 : Int) (σ : AMem) : Option LOut :=
  bif decide (x26 < i5) then (if 0 ≤ x26 ∧ x26 < (c3 : Nat) then p2.bind fun a5 => (ldI .i64 σ a5.block (a5.off + x26.toNat * 1)).bind fun n6 => (heap_Heap_Shape p0 n6 σ).bind fun r7 => (toT r7.1).bind fun q8 => if q8.length = 2 then q8.head?.bind fun v9 => a_iii v9 fun n10 n11 n12 => q8.tail.head?.bind fun v13 => (toI .i64 v13).bind fun n14 => allocK r7.2 (.cells [.int .i64 (0 : Int), .int .i64 (0 : Int), .int .i64 (0 : Int)] ty_api_Shape true) fun h15 s16 => (stN s16 h15 0 [.int .i64 n10, .int .i64 n11, .int .i64 n12]).bind fun s17 => (ldI .i64 s17 h15 0).bind fun n18 => (ldI .i64 s17 h15 (0 + 1)).bind fun n19 => (ldI .i64 s17 h15 (0 + 1 + 1)).bind fun n20 => (trace_softs n18 n19 n20 s17).bind fun r21 => (toI .i64 r21.1).bind fun n22 => (heap_Heap_Ref p0 n6 (0 : Int) r21.2).bind fun r23 => r_ii r23.1 fun n24 n25 => (bif n22 == (0 : Int) then some (true, r23.2) else (trace_marked p0 p1 n24 r23.2).bind fun r26 => (toB r26.1).bind fun b27 => some (b27, r26.2)).bind fun r28 => bif r28.1 then (trace_Clear_l0 n p0 p1 p2 c3 c4 i5 x6 (w64 (x26 + (1 : Int))) r28.2) else ((trace_Clear_l1 k p0 n6 n22 false (0 : Int) r28.2).bind fun r35 => if r35.1 = .exit 2 then (u_t r35.2.1 fun b36 => (bif b36 then (some (.normal, [.int .i64 (w64 (x6 + (1 : Int)))], r35.2.2)) else (some (.normal, [.int .i64 x6], r35.2.2)) : Option LOut).bind fun r37 => if r37.1 = .normal then (u_i r37.2.1 fun n38 => trace_Clear_l0 n p0 p1 p2 c3 c4 i5 n38 (w64 (x26 + (1 : Int))) r37.2.2) else none) else none) else none else none) else (some (.exit 0, [.int .i64 x6], σ))

noncomputable def b_trace_Clear (k : Nat) (trace_Clear_l0 : L_pppnniii) (trace_all : T_pp) (trace_fits : T_pp) (x0 : Option Addr) (x1 : Option Addr) (σ : AMem) : RV1 :=
  (trace_fits x0 x1 σ).bind fun r1 => (toB r1.1).bind fun b2 => bif !b2 then (some (.tuple #[.int .i64 (0 : Int), .int .i64 (1 : Int)], r1.2)) else ((trace_all x0 x1 r1.2).bind fun r3 => (toS r3.1).bind fun l4 => (trace_Clear_l0 k x0 x1 l4.1 l4.2.1 l4.2.2 ((l4.2.1 : Nat) : Int) (0 : Int) (0 : Int) r3.2).bind fun r39 => if r39.1 = .exit 0 then (u_i r39.2.1 fun n40 => some (.tuple #[.int .i64 n40, .int .i64 (0 : Int)], r39.2.2)) else none)

noncomputable def b_trace_Marked (k : Nat) (trace_fits : T_pp) (trace_marked : T_ppi) (x0 : Option Addr) (x1 : Option Addr) (x2 : Int) (σ : AMem) : RV1 :=
  (trace_fits x0 x1 σ).bind fun r1 => (toB r1.1).bind fun b2 => (bif b2 then (trace_marked x0 x1 x2 r1.2).bind fun r3 => (toB r3.1).bind fun b4 => some (b4, r3.2) else some (false, r1.2)).bind fun r5 => some (.bool r5.1, r5.2)

noncomputable def b_law07_alive (k : Nat) (law07_Chain : T_l) (trace_Mark : T_ppii)  (σ : AMem) : RV1 :=
  allocK σ (.cells [.int .i64 (1 : Int)] ty_int true) fun h1 s2 => allocK s2 (.cells [.int .i64 (2 : Int)] ty_int true) fun h3 s4 => allocK s4 (.cells [] ty_int true) fun h5 s6 => allocK s6 (.cells [.slice (some ⟨h1, 0, none⟩) 1 1, .slice (some ⟨h3, 0, none⟩) 1 1, .slice (some ⟨h5, 0, some 0⟩) 0 0] sl_int true) fun h7 s8 => (law07_Chain (some ⟨h7, 0, none⟩, 3, 3) s8).bind fun r9 => a_ppppp r9.1 fun p10 p11 p12 p13 p14 => allocK r9.2 (.cells [.pointer none, .pointer none, .pointer none, .pointer none, .pointer none] ty_dustcartlaw06_World true) fun h15 s16 => (stN s16 h15 0 [.pointer p10, .pointer p11, .pointer p12, .pointer p13, .pointer p14]).bind fun s17 => (ldP s17 h15 (0 + 0)).bind fun p18 => (ldP s17 h15 (0 + 1)).bind fun p19 => (trace_Mark p18 p19 (0 : Int) (1 : Int) s17).bind fun r20 => (toT r20.1).bind fun q21 => if q21.length = 3 then q21.head?.bind fun v22 => (toP v22).bind fun p23 => q21.tail.head?.bind fun v24 => a_iiiii v24 fun n25 n26 n27 n28 n29 => q21.tail.tail.head?.bind fun v30 => (toI .i64 v30).bind fun n31 => allocK r20.2 (.cells [.int .i64 (0 : Int), .int .i64 (0 : Int), .int .i64 (0 : Int), .int .i64 (0 : Int), .int .i64 (0 : Int)] ty_api_Traced true) fun h32 s33 => (stN s33 h32 0 [.int .i64 n25, .int .i64 n26, .int .i64 n27, .int .i64 n28, .int .i64 n29]).bind fun s34 => allocK s34 (.cells [.int .i64 (1 : Int), .int .i64 (2 : Int), .int .i64 (3 : Int)] ty_int true) fun h35 s36 => allocK s36 (.cells [] ty_int true) fun h37 s38 => allocK s38 (.cells [] ty_int true) fun h39 s40 => allocK s40 (.cells [] ty_int true) fun h41 s42 => allocK s42 (.cells [.slice (some ⟨h35, 0, none⟩) 3 3, .slice (some ⟨h37, 0, some 0⟩) 0 0, .slice (some ⟨h39, 0, some 0⟩) 0 0, .slice (some ⟨h41, 0, some 0⟩) 0 0] sl_int true) fun h43 s44 => (law07_Chain (some ⟨h43, 0, none⟩, 4, 4) s44).bind fun r45 => a_ppppp r45.1 fun p46 p47 p48 p49 p50 => allocK r45.2 (.cells [.pointer none, .pointer none, .pointer none, .pointer none, .pointer none] ty_dustcartlaw06_World true) fun h51 s52 => (stN s52 h51 0 [.pointer p46, .pointer p47, .pointer p48, .pointer p49, .pointer p50]).bind fun s53 => (ldP s53 h51 (0 + 0)).bind fun p54 => (ldP s53 h51 (0 + 1)).bind fun p55 => (trace_Mark p54 p55 (0 : Int) (1 : Int) s53).bind fun r56 => (toT r56.1).bind fun q57 => if q57.length = 3 then q57.head?.bind fun v58 => (toP v58).bind fun p59 => q57.tail.head?.bind fun v60 => a_iiiii v60 fun n61 n62 n63 n64 n65 => q57.tail.tail.head?.bind fun v66 => (toI .i64 v66).bind fun n67 => allocK r56.2 (.cells [.int .i64 (0 : Int), .int .i64 (0 : Int), .int .i64 (0 : Int), .int .i64 (0 : Int), .int .i64 (0 : Int)] ty_api_Traced true) fun h68 s69 => (stN s69 h68 0 [.int .i64 n61, .int .i64 n62, .int .i64 n63, .int .i64 n64, .int .i64 n65]).bind fun s70 => (bif n31 == (0 : Int) then (ldI .i64 s70 h32 (0 + 1)).bind fun n71 => some (n71 == (0 : Int), s70) else some (false, s70)).bind fun r72 => (bif r72.1 then (ldI .i64 r72.2 h32 (0 + 0)).bind fun n73 => some (n73 == (3 : Int), r72.2) else some (false, r72.2)).bind fun r74 => (bif r74.1 then (ldI .i64 r74.2 h32 (0 + 4)).bind fun n75 => some (n75 == (1 : Int), r74.2) else some (false, r74.2)).bind fun r76 => (bif r76.1 then some (n67 == (0 : Int), r76.2) else some (false, r76.2)).bind fun r77 => (bif r77.1 then (ldI .i64 r77.2 h68 (0 + 1)).bind fun n78 => some (n78 == (2 : Int), r77.2) else some (false, r77.2)).bind fun r79 => (bif r79.1 then (ldI .i64 r79.2 h68 (0 + 2)).bind fun n80 => some (n80 == (1 : Int), r79.2) else some (false, r79.2)).bind fun r81 => (bif r81.1 then (ldI .i64 r81.2 h68 (0 + 0)).bind fun n82 => some (n82 == (6 : Int), r81.2) else some (false, r81.2)).bind fun r83 => some (.bool r83.1, r83.2) else none else none

noncomputable def b_side_New (k : Nat) (slices_Contains_int : T_li) (x0 : Int) (x1 : Int) (σ : AMem) : RV1 :=
  (bif decide (x0 < (1 : Int)) then some (true, σ) else some (decide (x0 > (4096 : Int)), σ)).bind fun r1 => (bif r1.1 then some (true, r1.2) else allocK r1.2 (.cells [.int .i64 (1 : Int), .int .i64 (2 : Int), .int .i64 (4 : Int), .int .i64 (8 : Int)] ty_int true) fun h2 s3 => (slices_Contains_int (some ⟨h2, 0, none⟩, 4, 4) x1 s3).bind fun r4 => (toB r4.1).bind fun b5 => some (!b5, r4.2)).bind fun r6 => bif r6.1 then (some (.tuple #[.pointer none, .int .i64 (1 : Int)], r6.2)) else (if (64 : Int) = 0 then none else if 0 ≤ (w64 ((w64 ((w64 ((w64 (x0 * x1)) + (64 : Int))) - (1 : Int))).tdiv (64 : Int))) ∧ (w64 ((w64 ((w64 ((w64 (x0 * x1)) + (64 : Int))) - (1 : Int))).tdiv (64 : Int))) ≤ (w64 ((w64 ((w64 ((w64 (x0 * x1)) + (64 : Int))) - (1 : Int))).tdiv (64 : Int))) ∧ (w64 ((w64 ((w64 ((w64 (x0 * x1)) + (64 : Int))) - (1 : Int))).tdiv (64 : Int))) * (8 : Nat) ≤ 2 ^ 40 ∧ (w64 ((w64 ((w64 ((w64 (x0 * x1)) + (64 : Int))) - (1 : Int))).tdiv (64 : Int))) ≤ 2 ^ 40 then allocK r6.2 (.cells (rep (w64 ((w64 ((w64 ((w64 (x0 * x1)) + (64 : Int))) - (1 : Int))).tdiv (64 : Int))).toNat [.int .u64 (0 : Int)]) ty_uint64 true) fun h7 s8 => allocK s8 (.cells [.int .i64 x0, .int .i64 x1, .slice (some ⟨h7, 0, none⟩) ((w64 ((w64 ((w64 ((w64 (x0 * x1)) + (64 : Int))) - (1 : Int))).tdiv (64 : Int))).toNat) ((w64 ((w64 ((w64 ((w64 (x0 * x1)) + (64 : Int))) - (1 : Int))).tdiv (64 : Int))).toNat)] ty_side_Table true) fun h9 s10 => some (.tuple #[.pointer (some ⟨h9, 0, none⟩), .int .i64 (0 : Int)], s10) else none)

noncomputable def b_trace_given (k : Nat) (heap_Heap_Blocks : T_p) (roots_Roots_Mutators : T_p) (x0 : Option Addr) (x1 : Option Addr) (σ : AMem) : RV1 :=
  (heap_Heap_Blocks x0 σ).bind fun r1 => (toI .i64 r1.1).bind fun n2 => (bif decide (n2 > (0 : Int)) then (roots_Roots_Mutators x1 r1.2).bind fun r3 => (toI .i64 r3.1).bind fun n4 => some (decide (n4 > (0 : Int)), r3.2) else some (false, r1.2)).bind fun r5 => some (.bool r5.1, r5.2)

noncomputable def b_trace_table (k : Nat) (heap_Heap_Blocks : T_p) (side_New : T_ii) (x0 : Option Addr) (σ : AMem) : RV1 :=
  (heap_Heap_Blocks x0 σ).bind fun r1 => (toI .i64 r1.1).bind fun n2 => if (2 : Int) = 0 then none else (side_New (w64 ((w64 (n2 * (64 : Int))).tdiv (2 : Int))) (1 : Int) r1.2).bind fun r3 => r_pi r3.1 fun p4 n5 => some (.pointer p4, r3.2)

noncomputable def b_roots_Roots_Places (k : Nat) (callV_f_0 : TV) (roots_Roots_all : T_p) (roots_Roots_made : T_p) (x0 : Option Addr) (σ : AMem) : RV1 :=
  (roots_Roots_made x0 σ).bind fun r1 => (toB r1.1).bind fun b2 => bif !b2 then (some (.slice none 0 0, r1.2)) else (allocK r1.2 (.cells [.slice none 0 0] sl_api_Place true) fun h3 s4 => (roots_Roots_all x0 s4).bind fun r5 => bif isFn r5.1 then (allocK r5.2 (.loop 54 .ready (rgs 0 17 [(3, .pointer (some ⟨h3, 0, none⟩))])) fun h6 s7 => (callV_f_0 r5.1 [.func (.yield h6) #[] #[]] s7).bind fun r8 => endLoopA h6 r8.2 fun x9 s10 => if x9 = .normal then ((ldS s10 h3 0).bind fun l11 => some (.slice l11.1 l11.2.1 l11.2.2, s10)) else none) else none)

noncomputable def b_roots_Roots_Get (k : Nat) (roots_Roots_place : T_piii) (x0 : Option Addr) (x1_0 : Int) (x1_1 : Int) (x1_2 : Int) (σ : AMem) : RV1 :=
  allocK σ (.cells [.int .i64 x1_0, .int .i64 x1_1, .int .i64 x1_2] ty_api_Place true) fun h1 s2 => (ldI .i64 s2 h1 0).bind fun n3 => (ldI .i64 s2 h1 (0 + 1)).bind fun n4 => (ldI .i64 s2 h1 (0 + 1 + 1)).bind fun n5 => (roots_Roots_place x0 n3 n4 n5 s2).bind fun r6 => r_pi r6.1 fun p7 n8 => bif n8 != (0 : Int) then (some (.tuple #[.int .i64 (0 : Int), .int .i64 n8], r6.2)) else (p7.bind fun a9 => (ldI .i64 r6.2 a9.block a9.off).bind fun n10 => some (.tuple #[.int .i64 n10, .int .i64 (0 : Int)], r6.2))

noncomputable def b_trace_marker_reach (k : Nat) (__trace_line_int__add : T_pi) (trace_mark : T_ppi) (x0 : Option Addr) (x1 : Int) (σ : AMem) : RV1 :=
  x0.bind fun a1 => (ldP σ a1.block (a1.off + 0)).bind fun p2 => x0.bind fun a3 => (ldP σ a3.block (a3.off + 1)).bind fun p4 => (trace_mark p2 p4 x1 σ).bind fun r5 => (toB r5.1).bind fun b6 => bif !b6 then (some (.bool false, r5.2)) else (x0.bind fun a7 => (ldS r5.2 a7.block (a7.off + 2 + 0)).bind fun l8 => x0.bind fun a9 => (ldI .i64 r5.2 a9.block (a9.off + 4)).bind fun n10 => bif ((l8.2.1 : Nat) : Int) == n10 then (x0.bind fun a11 => (st1 r5.2 a11.block (a11.off + 5) (.bool true)).bind fun s12 => x0.bind fun a13 => (ldI .i64 s12 a13.block (a13.off + 6 + 1)).bind fun n14 => x0.bind fun a15 => (st1 s12 a15.block (a15.off + 6 + 1) (.int .i64 (w64 (n14 + (1 : Int))))).bind fun s16 => some (.bool true, s16)) else (x0.bind fun a17 => (__trace_line_int__add (some ⟨a17.block, a17.off + 2, none⟩) x1 r5.2).bind fun r18 => r_0 r18.1 (x0.bind fun a19 => (ldI .i64 r18.2 a19.block (a19.off + 6 + 4)).bind fun n20 => x0.bind fun a21 => (ldS r18.2 a21.block (a21.off + 2 + 0)).bind fun l22 => x0.bind fun a23 => (st1 r18.2 a23.block (a23.off + 6 + 4) (.int .i64 (if ((l22.2.1 : Nat) : Int) > n20 then ((l22.2.1 : Nat) : Int) else n20))).bind fun s24 => some (.bool true, s24))))

noncomputable def b_trace_marker_run_l1 (k n : Nat) (trace_marker_drain : T_p) (trace_marker_run_l1 : L_ppnnii) (trace_marker_scan : T_pi) (p0 : Option Addr) (p1 : Option Addr) (c2 : Nat) (c3 : Nat) (i4 : Int) (x32 : Int) (σ : AMem) : Option LOut :=
  bif decide (x32 < i4) then (if 0 ≤ x32 ∧ x32 < (c2 : Nat) then p1.bind fun a16 => (ldI .i64 σ a16.block (a16.off + x32.toNat * 1)).bind fun n17 => (trace_marker_scan p0 n17 σ).bind fun r18 => r_0 r18.1 ((trace_marker_drain p0 r18.2).bind fun r19 => r_0 r19.1 (trace_marker_run_l1 n p0 p1 c2 c3 i4 (w64 (x32 + (1 : Int))) r19.2)) else none) else (some (.exit 2, [], σ))

noncomputable def b_trace_marker_run_l0 (k n : Nat) (trace_all : T_pp) (trace_marker_run_l0 : L_p) (trace_marker_run_l1 : L_ppnnii) (p0 : Option Addr) (σ : AMem) : Option LOut :=
  p0.bind fun a2 => (ldB σ a2.block (a2.off + 5)).bind fun b3 => bif b3 then (p0.bind fun a4 => (st1 σ a4.block (a4.off + 5) (.bool false)).bind fun s5 => p0.bind fun a6 => (ldI .i64 s5 a6.block (a6.off + 6 + 2)).bind fun n7 => p0.bind fun a8 => (st1 s5 a8.block (a8.off + 6 + 2) (.int .i64 (w64 (n7 + (1 : Int))))).bind fun s9 => p0.bind fun a10 => (ldP s9 a10.block (a10.off + 0)).bind fun p11 => p0.bind fun a12 => (ldP s9 a12.block (a12.off + 1)).bind fun p13 => (trace_all p11 p13 s9).bind fun r14 => (toS r14.1).bind fun l15 => (trace_marker_run_l1 k p0 l15.1 l15.2.1 l15.2.2 ((l15.2.1 : Nat) : Int) (0 : Int) r14.2).bind fun r20 => if r20.1 = .exit 2 then (trace_marker_run_l0 n p0  r20.2.2) else none) else (some (.exit 0, [], σ))

noncomputable def b_trace_marker_run (k : Nat) (trace_marker_drain : T_p) (trace_marker_run_l0 : L_p) (x0 : Option Addr) (σ : AMem) : RV1 :=
  (trace_marker_drain x0 σ).bind fun r1 => r_0 r1.1 ((trace_marker_run_l0 k x0  r1.2).bind fun r21 => if r21.1 = .exit 0 then (some (.tuple #[], r21.2.2)) else none)

noncomputable def b_trace_marker_round_l0 (k n : Nat) (trace_marker_reach : T_pi) (trace_marker_round_l0 : L_ppnnibi) (p0 : Option Addr) (p1 : Option Addr) (c2 : Nat) (c3 : Nat) (i4 : Int) (x3 : Bool) (x25 : Int) (σ : AMem) : Option LOut :=
  bif decide (x25 < i4) then (if 0 ≤ x25 ∧ x25 < (c2 : Nat) then p1.bind fun a11 => (ldI .i64 σ a11.block (a11.off + x25.toNat * 1)).bind fun n12 => (trace_marker_reach p0 n12 σ).bind fun r13 => (toB r13.1).bind fun b14 => (bif b14 then some (true, r13.2) else some (x3, r13.2)).bind fun r15 => trace_marker_round_l0 n p0 p1 c2 c3 i4 r15.1 (w64 (x25 + (1 : Int))) r15.2 else none) else (some (.exit 0, [.bool x3], σ))

noncomputable def b_trace_marker_round (k : Nat) (trace_due : T_pp) (trace_marker_round_l0 : L_ppnnibi) (x0 : Option Addr) (σ : AMem) : RV1 :=
  x0.bind fun a1 => (ldI .i64 σ a1.block (a1.off + 6 + 3)).bind fun n2 => x0.bind fun a3 => (st1 σ a3.block (a3.off + 6 + 3) (.int .i64 (w64 (n2 + (1 : Int))))).bind fun s4 => x0.bind fun a5 => (ldP s4 a5.block (a5.off + 0)).bind fun p6 => x0.bind fun a7 => (ldP s4 a7.block (a7.off + 1)).bind fun p8 => (trace_due p6 p8 s4).bind fun r9 => (toS r9.1).bind fun l10 => (trace_marker_round_l0 k x0 l10.1 l10.2.1 l10.2.2 ((l10.2.1 : Nat) : Int) false (0 : Int) r9.2).bind fun r16 => if r16.1 = .exit 0 then (u_t r16.2.1 fun b17 => some (.bool b17, r16.2.2)) else none

noncomputable def b_trace_crew_deal_l0 (k n : Nat) (__trace_line_int__add : T_pi) (trace_crew_deal_l0 : L_ppnniii) (trace_mark : T_ppi) (p0 : Option Addr) (p1 : Option Addr) (c2 : Nat) (c3 : Nat) (i4 : Int) (x5 : Int) (x10 : Int) (σ : AMem) : Option LOut :=
  bif decide (x10 < i4) then (if 0 ≤ x10 ∧ x10 < (c2 : Nat) then p1.bind fun a1 => (ldI .i64 σ a1.block (a1.off + x10.toNat * 1)).bind fun n2 => p0.bind fun a3 => (ldP σ a3.block (a3.off + 0)).bind fun p4 => p0.bind fun a5 => (ldP σ a5.block (a5.off + 1)).bind fun p6 => (trace_mark p4 p6 n2 σ).bind fun r7 => (toB r7.1).bind fun b8 => (bif b8 then (p0.bind fun a9 => (ldS r7.2 a9.block (a9.off + 2)).bind fun l10 => p0.bind fun a11 => (ldS r7.2 a11.block (a11.off + 2)).bind fun l12 => if ((l12.2.1 : Nat) : Int) = 0 then none else if 0 ≤ (x5.tmod ((l12.2.1 : Nat) : Int)) ∧ (x5.tmod ((l12.2.1 : Nat) : Int)) < (l10.2.1 : Nat) then l10.1.bind fun a13 => (__trace_line_int__add (some ⟨a13.block, a13.off + (x5.tmod ((l12.2.1 : Nat) : Int)).toNat * 2 + 0, none⟩) n2 r7.2).bind fun r14 => r_0 r14.1 (some (.normal, [.int .i64 (w64 (x5 + (1 : Int)))], r14.2)) else none) else (some (.normal, [.int .i64 x5], r7.2)) : Option LOut).bind fun r15 => if r15.1 = .normal then (u_i r15.2.1 fun n16 => trace_crew_deal_l0 n p0 p1 c2 c3 i4 n16 (w64 (x10 + (1 : Int))) r15.2.2) else none else none) else (some (.exit 0, [.int .i64 x5], σ))

noncomputable def b_trace_crew_deal (k : Nat) (trace_crew_deal_l0 : L_ppnniii) (x0 : Option Addr) (x1 : Option Addr × Nat × Nat) (σ : AMem) : RV1 :=
  (trace_crew_deal_l0 k x0 x1.1 x1.2.1 x1.2.2 ((x1.2.1 : Nat) : Int) (0 : Int) (0 : Int) σ).bind fun r17 => if r17.1 = .exit 0 then (u_i r17.2.1 fun n18 => some (.bool (decide (n18 > (0 : Int))), r17.2.2)) else none

noncomputable def b_roots_Roots_Leads (k : Nat) (callV_f_0 : TV) (roots_Roots_all : T_p) (roots_Roots_made : T_p) (x0 : Option Addr) (σ : AMem) : RV1 :=
  (roots_Roots_made x0 σ).bind fun r1 => (toB r1.1).bind fun b2 => bif !b2 then (some (.slice none 0 0, r1.2)) else (allocK r1.2 (.cells [.slice none 0 0] sl_int true) fun h3 s4 => (roots_Roots_all x0 s4).bind fun r5 => bif isFn r5.1 then (allocK r5.2 (.loop 60 .ready (rgs 0 26 [(3, .pointer (some ⟨h3, 0, none⟩))])) fun h6 s7 => (callV_f_0 r5.1 [.func (.yield h6) #[] #[]] s7).bind fun r8 => endLoopA h6 r8.2 fun x9 s10 => if x9 = .normal then ((ldS s10 h3 0).bind fun l11 => some (.slice l11.1 l11.2.1 l11.2.2, s10)) else none) else none)

noncomputable def b_trace_due_l0 (k n : Nat) (heap_Heap_Ref : T_pii) (heap_Heap_Shape : T_pi) (trace_due_l0 : L_pppnnili) (trace_marked : T_ppi) (p0 : Option Addr) (p1 : Option Addr) (p2 : Option Addr) (c3 : Nat) (c4 : Nat) (i5 : Int) (x5 : Option Addr × Nat × Nat) (x18 : Int) (σ : AMem) : Option LOut :=
  bif decide (x18 < i5) then (if 0 ≤ x18 ∧ x18 < (c3 : Nat) then p2.bind fun a3 => (ldI .i64 σ a3.block (a3.off + x18.toNat * 1)).bind fun n4 => (heap_Heap_Shape p0 n4 σ).bind fun r5 => (toT r5.1).bind fun q6 => if q6.length = 2 then q6.head?.bind fun v7 => a_iii v7 fun n8 n9 n10 => q6.tail.head?.bind fun v11 => (toI .i64 v11).bind fun n12 => allocK r5.2 (.cells [.int .i64 (0 : Int), .int .i64 (0 : Int), .int .i64 (0 : Int)] ty_api_Shape true) fun h13 s14 => (stN s14 h13 0 [.int .i64 n8, .int .i64 n9, .int .i64 n10]).bind fun s15 => (heap_Heap_Ref p0 n4 (0 : Int) s15).bind fun r16 => r_ii r16.1 fun n17 n18 => (ldI .i64 r16.2 h13 (0 + 2)).bind fun n19 => (bif n19 == (2 : Int) then (trace_marked p0 p1 n17 r16.2).bind fun r20 => (toB r20.1).bind fun b21 => some (b21, r20.2) else some (false, r16.2)).bind fun r22 => (bif r22.1 then ((heap_Heap_Ref p0 n4 (1 : Int) r22.2).bind fun r23 => r_ii r23.1 fun n24 n25 => allocK r23.2 (.cells [.int .i64 n24] ty_int true) fun h26 s27 => (appendD P ty_int (x5.1, x5.2.1, x5.2.2) (some ⟨h26, 0, none⟩, 1, 1) s27).bind fun r28 => some (.normal, [.slice r28.1.1 r28.1.2.1 r28.1.2.2], r28.2)) else (some (.normal, [.slice x5.1 x5.2.1 x5.2.2], r22.2)) : Option LOut).bind fun r29 => if r29.1 = .normal then (u_l r29.2.1 fun l30 => trace_due_l0 n p0 p1 p2 c3 c4 i5 (l30.1, l30.2.1, l30.2.2) (w64 (x18 + (1 : Int))) r29.2.2) else none else none else none) else (some (.exit 0, [.slice x5.1 x5.2.1 x5.2.2], σ))

noncomputable def b_trace_due (k : Nat) (trace_all : T_pp) (trace_due_l0 : L_pppnnili) (x0 : Option Addr) (x1 : Option Addr) (σ : AMem) : RV1 :=
  (trace_all x0 x1 σ).bind fun r1 => (toS r1.1).bind fun l2 => (trace_due_l0 k x0 x1 l2.1 l2.2.1 l2.2.2 ((l2.2.1 : Nat) : Int) (none, 0, 0) (0 : Int) r1.2).bind fun r31 => if r31.1 = .exit 0 then (u_l r31.2.1 fun l32 => some (.slice l32.1 l32.2.1 l32.2.2, r31.2.2)) else none

noncomputable def b_trace_crew_work_l1 (k n : Nat) (trace_crew_longest : T_p) (trace_crew_turn : T_pp) (trace_crew_work_l1 : L_pii) (p0 : Option Addr) (i1 : Int) (x8 : Int) (σ : AMem) : Option LOut :=
  bif decide (x8 < i1) then ((trace_crew_longest p0 σ).bind fun r3 => (toP r3.1).bind fun p4 => p4.bind fun a5 => (ldS r3.2 a5.block (a5.off + 0 + 0)).bind fun l6 => bif ((l6.2.1 : Nat) : Int) == (0 : Int) then (some (.exit 0, [], r3.2)) else (p0.bind fun a7 => (ldS r3.2 a7.block (a7.off + 2)).bind fun l8 => if 0 ≤ x8 ∧ x8 < (l8.2.1 : Nat) then l8.1.bind fun a9 => (trace_crew_turn p0 (some ⟨a9.block, a9.off + x8.toNat * 2, none⟩) r3.2).bind fun r10 => r_0 r10.1 (trace_crew_work_l1 n p0 i1 (w64 (x8 + (1 : Int))) r10.2) else none)) else (some (.exit 2, [], σ))

noncomputable def b_trace_crew_work_l0 (k n : Nat) (trace_crew_work_l0 : L_p) (trace_crew_work_l1 : L_pii) (p0 : Option Addr) (σ : AMem) : Option LOut :=
  p0.bind fun a1 => (ldS σ a1.block (a1.off + 2)).bind fun l2 => (trace_crew_work_l1 k p0 ((l2.2.1 : Nat) : Int) (0 : Int) σ).bind fun r11 => if r11.1 = .exit 0 then (some (.exit 0, [], r11.2.2)) else if r11.1 = .exit 2 then (trace_crew_work_l0 n p0  r11.2.2) else none

noncomputable def b_trace_crew_work (k : Nat) (trace_crew_work_l0 : L_p) (x0 : Option Addr) (σ : AMem) : RV1 :=
  (trace_crew_work_l0 k x0  σ).bind fun r12 => if r12.1 = .exit 0 then (some (.tuple #[], r12.2.2)) else none

noncomputable def b_trace_all (k : Nat) (heap_Heap_All : T_p) (slices_DeleteFunc_int : T_lv) (x0 : Option Addr) (x1 : Option Addr) (σ : AMem) : RV1 :=
  allocK σ (.cells [.pointer x0] pt_heap_Heap true) fun h1 s2 => allocK s2 (.cells [.pointer x1] pt_side_Table true) fun h3 s4 => (ldP s4 h1 0).bind fun p5 => (heap_Heap_All p5 s4).bind fun r6 => (toS r6.1).bind fun l7 => (slices_DeleteFunc_int (l7.1, l7.2.1, l7.2.2) (.func (.func 134) #[] #[.pointer (some ⟨h1, 0, none⟩), .pointer (some ⟨h3, 0, none⟩)]) r6.2).bind fun r8 => (toS r8.1).bind fun l9 => some (.slice l9.1 l9.2.1 l9.2.2, r8.2)

noncomputable def b_heap_Heap_Has (k : Nat) (heap_Heap_made : T_p) (side_Table_Get : T_pi) (x0 : Option Addr) (x1 : Int) (σ : AMem) : RV1 :=
  (heap_Heap_made x0 σ).bind fun r1 => (toB r1.1).bind fun b2 => (bif b2 then some (decide (x1 ≥ (0 : Int)), r1.2) else some (false, r1.2)).bind fun r3 => (bif r3.1 then if (2 : Int) = 0 then none else some ((x1.tmod (2 : Int)) == (0 : Int), r3.2) else some (false, r3.2)).bind fun r4 => (bif r4.1 then x0.bind fun a5 => (ldP r4.2 a5.block (a5.off + 2)).bind fun p6 => if (2 : Int) = 0 then none else (side_Table_Get p6 (w64 (x1.tdiv (2 : Int))) r4.2).bind fun r7 => (toI .i64 r7.1).bind fun n8 => some (n8 == (1 : Int), r7.2) else some (false, r4.2)).bind fun r9 => some (.bool r9.1, r9.2)

noncomputable def b_heap_Heap_All (k : Nat) (heap_Heap_between : T_pii) (heap_Heap_made : T_p) (x0 : Option Addr) (σ : AMem) : RV1 :=
  (heap_Heap_made x0 σ).bind fun r1 => (toB r1.1).bind fun b2 => bif !b2 then (some (.slice none 0 0, r1.2)) else (x0.bind fun a3 => (ldS r1.2 a3.block (a3.off + 1)).bind fun l4 => (heap_Heap_between x0 (0 : Int) ((l4.2.1 : Nat) : Int) r1.2).bind fun r5 => (toS r5.1).bind fun l6 => some (.slice l6.1 l6.2.1 l6.2.2, r5.2))

noncomputable def b_trace_strong_l0 (k n : Nat) (heap_Heap_Ref : T_pii) (trace_strong_l0 : L_pinli) (p0 : Option Addr) (i1 : Int) (h2 : Nat) (x7 : Option Addr × Nat × Nat) (x8 : Int) (σ : AMem) : Option LOut :=
  (ldI .i64 σ h2 (0 + 0)).bind fun n17 => bif decide (x8 < n17) then ((heap_Heap_Ref p0 i1 x8 σ).bind fun r18 => r_ii r18.1 fun n19 n20 => allocK r18.2 (.cells [.int .i64 n19] ty_int true) fun h21 s22 => (appendD P ty_int (x7.1, x7.2.1, x7.2.2) (some ⟨h21, 0, none⟩, 1, 1) s22).bind fun r23 => trace_strong_l0 n p0 i1 h2 (r23.1.1, r23.1.2.1, r23.1.2.2) (w64 (x8 + (1 : Int))) r23.2) else (some (.exit 0, [.slice x7.1 x7.2.1 x7.2.2], σ))

noncomputable def b_trace_strong (k : Nat) (heap_Heap_Shape : T_pi) (trace_softs : T_iii) (trace_strong_l0 : L_pinli) (x0 : Option Addr) (x1 : Int) (σ : AMem) : RV1 :=
  (heap_Heap_Shape x0 x1 σ).bind fun r1 => (toT r1.1).bind fun q2 => if q2.length = 2 then q2.head?.bind fun v3 => a_iii v3 fun n4 n5 n6 => q2.tail.head?.bind fun v7 => (toI .i64 v7).bind fun n8 => allocK r1.2 (.cells [.int .i64 (0 : Int), .int .i64 (0 : Int), .int .i64 (0 : Int)] ty_api_Shape true) fun h9 s10 => (stN s10 h9 0 [.int .i64 n4, .int .i64 n5, .int .i64 n6]).bind fun s11 => (ldI .i64 s11 h9 0).bind fun n12 => (ldI .i64 s11 h9 (0 + 1)).bind fun n13 => (ldI .i64 s11 h9 (0 + 1 + 1)).bind fun n14 => (trace_softs n12 n13 n14 s11).bind fun r15 => (toI .i64 r15.1).bind fun n16 => (trace_strong_l0 k x0 x1 h9 (none, 0, 0) n16 r15.2).bind fun r24 => if r24.1 = .exit 0 then (u_l r24.2.1 fun l25 => some (.slice l25.1 l25.2.1 l25.2.2, r24.2.2)) else none else none

noncomputable def b___trace_line_int__oldest (k : Nat)  (x0 : Option Addr) (σ : AMem) : RV1 :=
  x0.bind fun a1 => (ldS σ a1.block (a1.off + 0)).bind fun l2 => if 0 ≤ (0 : Int) ∧ (0 : Int) < (l2.2.1 : Nat) then l2.1.bind fun a3 => (ldI .i64 σ a3.block (a3.off + (0 : Int).toNat * 1)).bind fun n4 => x0.bind fun a5 => (ldS σ a5.block (a5.off + 0)).bind fun l6 => (sliceD ty_int 1 (l6.1, l6.2.1, l6.2.2) (some (.int .i64 (1 : Int))) none none σ).bind fun l7 => x0.bind fun a8 => (st1 σ a8.block (a8.off + 0) (.slice l7.1 l7.2.1 l7.2.2)).bind fun s9 => some (.int .i64 n4, s9) else none

noncomputable def b___trace_line_int__add (k : Nat)  (x0 : Option Addr) (x1 : Int) (σ : AMem) : RV1 :=
  x0.bind fun a1 => (ldS σ a1.block (a1.off + 0)).bind fun l2 => allocK σ (.cells [.int .i64 x1] ty_int true) fun h3 s4 => (appendD P ty_int (l2.1, l2.2.1, l2.2.2) (some ⟨h3, 0, none⟩, 1, 1) s4).bind fun r5 => x0.bind fun a6 => (st1 r5.2 a6.block (a6.off + 0) (.slice r5.1.1 r5.1.2.1 r5.1.2.2)).bind fun s7 => some (.tuple #[], s7)

noncomputable def b_trace_fits (k : Nat) (heap_Heap_Blocks : T_p) (side_Table_Entries : T_p) (side_Table_Width : T_p) (x0 : Option Addr) (x1 : Option Addr) (σ : AMem) : RV1 :=
  (heap_Heap_Blocks x0 σ).bind fun r1 => (toI .i64 r1.1).bind fun n2 => (bif decide (n2 > (0 : Int)) then (side_Table_Width x1 r1.2).bind fun r3 => (toI .i64 r3.1).bind fun n4 => some (n4 == (1 : Int), r3.2) else some (false, r1.2)).bind fun r5 => (bif r5.1 then (side_Table_Entries x1 r5.2).bind fun r6 => (toI .i64 r6.1).bind fun n7 => (heap_Heap_Blocks x0 r6.2).bind fun r8 => (toI .i64 r8.1).bind fun n9 => if (2 : Int) = 0 then none else some (n7 == (w64 ((w64 (n9 * (64 : Int))).tdiv (2 : Int))), r8.2) else some (false, r5.2)).bind fun r10 => some (.bool r10.1, r10.2)

noncomputable def b_heap_Heap_Shape (k : Nat) (heap_Heap_object : T_pi) (heap_shape : T_i) (x0 : Option Addr) (x1 : Int) (σ : AMem) : RV1 :=
  allocK σ (.cells [.int .i64 (0 : Int), .int .i64 (0 : Int), .int .i64 (0 : Int)] ty_api_Shape true) fun h1 s2 => (heap_Heap_object x0 x1 s2).bind fun r3 => (toI .i64 r3.1).bind fun n4 => bif n4 != (0 : Int) then ((stN r3.2 h1 0 [.int .i64 (0 : Int), .int .i64 (0 : Int), .int .i64 (0 : Int)]).bind fun s5 => (((ldN s5 h1 0 3).bind fun v6 => some (.agg v6.toArray)).bind fun v7 => some [v7, .int .i64 n4]).bind fun vs8 => some (resOf vs8, s5)) else (x0.bind fun a9 => (ldS r3.2 a9.block (a9.off + 1)).bind fun l10 => if 0 ≤ (w64 (x1 + (1 : Int))) ∧ (w64 (x1 + (1 : Int))) < (l10.2.1 : Nat) then l10.1.bind fun a11 => (ldI .i64 r3.2 a11.block (a11.off + (w64 (x1 + (1 : Int))).toNat * 1)).bind fun n12 => (heap_shape n12 r3.2).bind fun r13 => a_iii r13.1 fun n14 n15 n16 => (stN r13.2 h1 0 [.int .i64 n14, .int .i64 n15, .int .i64 n16]).bind fun s17 => (((ldN s17 h1 0 3).bind fun v18 => some (.agg v18.toArray)).bind fun v19 => some [v19, .int .i64 (0 : Int)]).bind fun vs20 => some (resOf vs20, s17) else none)

noncomputable def b_trace_softs (k : Nat)  (x0_0 : Int) (x0_1 : Int) (x0_2 : Int) (σ : AMem) : RV1 :=
  allocK σ (.cells [.int .i64 x0_0, .int .i64 x0_1, .int .i64 x0_2] ty_api_Shape true) fun h1 s2 => (ldI .i64 s2 h1 (0 + 2)).bind fun n3 => bif n3 == (1 : Int) then (some (.int .i64 (1 : Int), s2)) else (bif n3 == (2 : Int) then (some (.int .i64 (2 : Int), s2)) else (some (.int .i64 (0 : Int), s2)))

noncomputable def b_heap_Heap_Ref (k : Nat) (heap_Heap_field : T_piib) (x0 : Option Addr) (x1 : Int) (x2 : Int) (σ : AMem) : RV1 :=
  (heap_Heap_field x0 x1 x2 false σ).bind fun r1 => r_ii r1.1 fun n2 n3 => bif n3 != (0 : Int) then (some (.tuple #[.int .i64 (0 : Int), .int .i64 n3], r1.2)) else (x0.bind fun a4 => (ldS r1.2 a4.block (a4.off + 1)).bind fun l5 => if 0 ≤ n2 ∧ n2 < (l5.2.1 : Nat) then l5.1.bind fun a6 => (ldI .i64 r1.2 a6.block (a6.off + n2.toNat * 1)).bind fun n7 => some (.tuple #[.int .i64 n7, .int .i64 (0 : Int)], r1.2) else none)

noncomputable def b_trace_marked (k : Nat) (heap_Heap_Has : T_pi) (side_Table_Get : T_pi) (x0 : Option Addr) (x1 : Option Addr) (x2 : Int) (σ : AMem) : RV1 :=
  (heap_Heap_Has x0 x2 σ).bind fun r1 => (toB r1.1).bind fun b2 => (bif b2 then if (2 : Int) = 0 then none else (side_Table_Get x1 (w64 (x2.tdiv (2 : Int))) r1.2).bind fun r3 => (toI .i64 r3.1).bind fun n4 => some (n4 == (1 : Int), r3.2) else some (false, r1.2)).bind fun r5 => some (.bool r5.1, r5.2)

noncomputable def b_heap_Heap_SetRef (k : Nat) (heap_Heap_Has : T_pi) (heap_Heap_field : T_piib) (x0 : Option Addr) (x1 : Int) (x2 : Int) (x3 : Int) (σ : AMem) : RV1 :=
  (heap_Heap_field x0 x1 x2 false σ).bind fun r1 => r_ii r1.1 fun n2 n3 => bif n3 != (0 : Int) then (some (.int .i64 n3, r1.2)) else ((bif x3 != (0 : Int) then (heap_Heap_Has x0 x3 r1.2).bind fun r4 => (toB r4.1).bind fun b5 => some (!b5, r4.2) else some (false, r1.2)).bind fun r6 => bif r6.1 then (some (.int .i64 (1 : Int), r6.2)) else (x0.bind fun a7 => (ldS r6.2 a7.block (a7.off + 1)).bind fun l8 => if 0 ≤ n2 ∧ n2 < (l8.2.1 : Nat) then l8.1.bind fun a9 => (st1 r6.2 a9.block (a9.off + n2.toNat * 1) (.int .i64 x3)).bind fun s10 => some (.int .i64 (0 : Int), s10) else none))

noncomputable def b_law07_Chain_l0 (k n : Nat) (alloc_Allocator_Alloc : T_piii) (law07_Chain_l0 : L_pnnni) (roots_Roots_Set : T_piiii) (p0 : Option Addr) (c1 : Nat) (c2 : Nat) (h3 : Nat) (x4 : Int) (σ : AMem) : Option LOut :=
  bif decide (x4 < ((c1 : Nat) : Int)) then (if 0 ≤ (0 : Int) ∧ (0 : Int) < (2 : Nat) then (ldP σ h3 (0 + 2 + (0 : Int).toNat * 1)).bind fun p12 => if 0 ≤ x4 ∧ x4 < (c1 : Nat) then p0.bind fun a13 => (ldS σ a13.block (a13.off + x4.toNat * 1)).bind fun l14 => (alloc_Allocator_Alloc p12 ((l14.2.1 : Nat) : Int) (0 : Int) (0 : Int) σ).bind fun r15 => r_ii r15.1 fun n16 n17 => (bif x4 == (0 : Int) then ((ldP r15.2 h3 (0 + 1)).bind fun p18 => (roots_Roots_Set p18 (0 : Int) (0 : Int) (0 : Int) n16 r15.2).bind fun r19 => (toI .i64 r19.1).bind fun n20 => some (.normal, [], r19.2)) else (some (.normal, [], r15.2)) : Option LOut).bind fun r21 => if r21.1 = .normal then (law07_Chain_l0 n p0 c1 c2 h3 (w64 (x4 + (1 : Int))) r21.2.2) else none else none else none) else (some (.exit 0, [], σ))

noncomputable def b_law07_Chain_l2 (k n : Nat) (heap_Heap_SetRef : T_piii) (law07_Chain_l2 : L_pnnnpnnii) (p0 : Option Addr) (c1 : Nat) (c2 : Nat) (h3 : Nat) (p4 : Option Addr) (c5 : Nat) (c6 : Nat) (i7 : Int) (x9 : Int) (σ : AMem) : Option LOut :=
  if 0 ≤ i7 ∧ i7 < (c1 : Nat) then p0.bind fun a26 => (ldS σ a26.block (a26.off + i7.toNat * 1)).bind fun l27 => bif decide (x9 < ((l27.2.1 : Nat) : Int)) then ((ldP σ h3 (0 + 0)).bind fun p28 => if 0 ≤ i7 ∧ i7 < (c5 : Nat) then p4.bind fun a29 => (ldI .i64 σ a29.block (a29.off + i7.toNat * 1)).bind fun n30 => if 0 ≤ i7 ∧ i7 < (c1 : Nat) then p0.bind fun a31 => (ldS σ a31.block (a31.off + i7.toNat * 1)).bind fun l32 => if 0 ≤ x9 ∧ x9 < (l32.2.1 : Nat) then l32.1.bind fun a33 => (ldI .i64 σ a33.block (a33.off + x9.toNat * 1)).bind fun n34 => if 0 ≤ n34 ∧ n34 < (c5 : Nat) then p4.bind fun a35 => (ldI .i64 σ a35.block (a35.off + n34.toNat * 1)).bind fun n36 => (heap_Heap_SetRef p28 n30 x9 n36 σ).bind fun r37 => (toI .i64 r37.1).bind fun n38 => law07_Chain_l2 n p0 c1 c2 h3 p4 c5 c6 i7 (w64 (x9 + (1 : Int))) r37.2 else none else none else none else none) else (some (.exit 4, [], σ)) else none

noncomputable def b_law07_Chain_l1 (k n : Nat) (law07_Chain_l1 : L_pnnnpnni) (law07_Chain_l2 : L_pnnnpnnii) (p0 : Option Addr) (c1 : Nat) (c2 : Nat) (h3 : Nat) (p4 : Option Addr) (c5 : Nat) (c6 : Nat) (x8 : Int) (σ : AMem) : Option LOut :=
  bif decide (x8 < ((c1 : Nat) : Int)) then ((law07_Chain_l2 k p0 c1 c2 h3 p4 c5 c6 x8 (0 : Int) σ).bind fun r39 => if r39.1 = .exit 4 then (law07_Chain_l1 n p0 c1 c2 h3 p4 c5 c6 (w64 (x8 + (1 : Int))) r39.2.2) else none) else (some (.exit 2, [], σ))

noncomputable def b_law07_Chain (k : Nat) (heap_Heap_All : T_p) (law06_NewWorld : T_iiil) (law07_Chain_l0 : L_pnnni) (law07_Chain_l1 : L_pnnnpnni) (x0 : Option Addr × Nat × Nat) (σ : AMem) : RV1 :=
  allocK σ (.cells [.pointer none, .pointer none, .pointer none, .pointer none, .pointer none] ty_dustcartlaw06_World true) fun h1 s2 => (law06_NewWorld (2 : Int) (0 : Int) (0 : Int) (none, 0, 0) s2).bind fun r3 => a_ppppp r3.1 fun p4 p5 p6 p7 p8 => allocK r3.2 (.cells [.pointer none, .pointer none, .pointer none, .pointer none, .pointer none] ty_dustcartlaw06_World true) fun h9 s10 => (stN s10 h9 0 [.pointer p4, .pointer p5, .pointer p6, .pointer p7, .pointer p8]).bind fun s11 => (law07_Chain_l0 k x0.1 x0.2.1 x0.2.2 h9 (0 : Int) s11).bind fun r22 => if r22.1 = .exit 0 then ((ldP r22.2.2 h9 (0 + 0)).bind fun p23 => (heap_Heap_All p23 r22.2.2).bind fun r24 => (toS r24.1).bind fun l25 => (law07_Chain_l1 k x0.1 x0.2.1 x0.2.2 h9 l25.1 l25.2.1 l25.2.2 (0 : Int) r24.2).bind fun r40 => if r40.1 = .exit 2 then ((ldP r40.2.2 h9 0).bind fun p41 => (ldP r40.2.2 h9 (0 + 1)).bind fun p42 => (ldP r40.2.2 h9 (0 + 1 + 1)).bind fun p43 => (ldP r40.2.2 h9 (0 + 1 + 1 + 1)).bind fun p44 => (ldP r40.2.2 h9 (0 + 1 + 1 + 1 + 1)).bind fun p45 => (stN r40.2.2 h1 0 [.pointer p41, .pointer p42, .pointer p43, .pointer p44, .pointer p45]).bind fun s46 => (((ldN s46 h1 0 5).bind fun v47 => some (.agg v47.toArray)).bind fun v48 => some [v48]).bind fun vs49 => some (resOf vs49, s46)) else none) else none

noncomputable def b_slices_Contains_int (k : Nat) (slices_Index_int : T_li) (x0 : Option Addr × Nat × Nat) (x1 : Int) (σ : AMem) : RV1 :=
  (slices_Index_int (x0.1, x0.2.1, x0.2.2) x1 σ).bind fun r1 => (toI .i64 r1.1).bind fun n2 => some (.bool (decide (n2 ≥ (0 : Int))), r1.2)

noncomputable def b_alloc_Allocator_Alloc (k : Nat) (alloc_Allocator_made : T_p) (alloc_policies : T_) (callV_pi_it : TV) (heap_Heap_Place : T_piiii) (heap_Heap_Space : T_pi) (heap_Valid : T_iii) (heap_Words : T_iii) (x0 : Option Addr) (x1_0 : Int) (x1_1 : Int) (x1_2 : Int) (σ : AMem) : RV1 :=
  allocK σ (.cells [.int .i64 x1_0, .int .i64 x1_1, .int .i64 x1_2] ty_api_Shape true) fun h1 s2 => (alloc_Allocator_made x0 s2).bind fun r3 => (toB r3.1).bind fun b4 => bif !b4 then (some (.tuple #[.int .i64 (0 : Int), .int .i64 (5 : Int)], r3.2)) else ((ldI .i64 r3.2 h1 0).bind fun n5 => (ldI .i64 r3.2 h1 (0 + 1)).bind fun n6 => (ldI .i64 r3.2 h1 (0 + 1 + 1)).bind fun n7 => (heap_Valid n5 n6 n7 r3.2).bind fun r8 => (toB r8.1).bind fun b9 => bif !b9 then (some (.tuple #[.int .i64 (0 : Int), .int .i64 (2 : Int)], r8.2)) else ((ldI .i64 r8.2 h1 0).bind fun n10 => (ldI .i64 r8.2 h1 (0 + 1)).bind fun n11 => (ldI .i64 r8.2 h1 (0 + 1 + 1)).bind fun n12 => (heap_Words n10 n11 n12 r8.2).bind fun r13 => (toI .i64 r13.1).bind fun n14 => (alloc_policies r13.2).bind fun r15 => (toS r15.1).bind fun l16 => x0.bind fun a17 => (ldI .i64 r15.2 a17.block (a17.off + 2)).bind fun n18 => if 0 ≤ n18 ∧ n18 < (l16.2.1 : Nat) then l16.1.bind fun a19 => (ld1 r15.2 a19.block (a19.off + n18.toNat * 1)).bind fun v20 => nilV v20 fun v21 => (bif decide (n14 > (32 : Int)) then (some (.normal, [.func (.func 156) #[] #[]], r15.2)) else (some (.normal, [(.func (.method "dustcart/alloc.place") #[v21] #[])], r15.2)) : Option LOut).bind fun r22 => if r22.1 = .normal then (u_f r22.2.1 fun f23 => x0.bind fun a24 => (ldP r22.2.2 a24.block a24.off).bind fun p25 => (ldI .i64 r22.2.2 a24.block (a24.off + 1)).bind fun n26 => (ldI .i64 r22.2.2 a24.block (a24.off + 1 + 1)).bind fun n27 => (ldI .i64 r22.2.2 a24.block (a24.off + 1 + 1 + 1)).bind fun n28 => (ldI .i64 r22.2.2 a24.block (a24.off + 1 + 1 + 1 + 1)).bind fun n29 => (ldI .i64 r22.2.2 a24.block (a24.off + 1 + 1 + 1 + 1 + 1)).bind fun n30 => (ldI .i64 r22.2.2 a24.block (a24.off + 1 + 1 + 1 + 1 + 1 + 1)).bind fun n31 => allocK r22.2.2 (.cells [.pointer none, .int .i64 (0 : Int), .int .i64 (0 : Int), .int .i64 (0 : Int), .int .i64 (0 : Int), .int .i64 (0 : Int), .int .i64 (0 : Int)] ty_alloc_Allocator true) fun h32 s33 => (stN s33 h32 0 [.pointer p25, .int .i64 n26, .int .i64 n27, .int .i64 n28, .int .i64 n29, .int .i64 n30, .int .i64 n31]).bind fun s34 => (callV_pi_it f23 [.pointer x0, .int .i64 n14] s34).bind fun r35 => r_it r35.1 fun n36 b37 => bif !b37 then (some (.tuple #[.int .i64 (0 : Int), .int .i64 (6 : Int)], r35.2)) else (x0.bind fun a38 => (ldP r35.2 a38.block (a38.off + 0)).bind fun p39 => if (64 : Int) = 0 then none else (heap_Heap_Space p39 (w64 (n36.tdiv (64 : Int))) r35.2).bind fun r40 => (toI .i64 r40.1).bind fun n41 => x0.bind fun a42 => (ldI .i64 r40.2 a42.block (a42.off + 1)).bind fun n43 => (bif n41 == n43 then (x0.bind fun a44 => (ldP r40.2 a44.block (a44.off + 0)).bind fun p45 => (ldI .i64 r40.2 h1 0).bind fun n46 => (ldI .i64 r40.2 h1 (0 + 1)).bind fun n47 => (ldI .i64 r40.2 h1 (0 + 1 + 1)).bind fun n48 => (heap_Heap_Place p45 n36 n46 n47 n48 r40.2).bind fun r49 => r_ii r49.1 fun n50 n51 => some (.normal, [.int .i64 n51], r49.2)) else (some (.normal, [.int .i64 (5 : Int)], r40.2)) : Option LOut).bind fun r52 => if r52.1 = .normal then (u_i r52.2.1 fun n53 => bif n53 != (0 : Int) then ((ldP r52.2.2 h32 0).bind fun p54 => (ldI .i64 r52.2.2 h32 (0 + 1)).bind fun n55 => (ldI .i64 r52.2.2 h32 (0 + 1 + 1)).bind fun n56 => (ldI .i64 r52.2.2 h32 (0 + 1 + 1 + 1)).bind fun n57 => (ldI .i64 r52.2.2 h32 (0 + 1 + 1 + 1 + 1)).bind fun n58 => (ldI .i64 r52.2.2 h32 (0 + 1 + 1 + 1 + 1 + 1)).bind fun n59 => (ldI .i64 r52.2.2 h32 (0 + 1 + 1 + 1 + 1 + 1 + 1)).bind fun n60 => x0.bind fun a61 => (stN r52.2.2 a61.block a61.off [.pointer p54, .int .i64 n55, .int .i64 n56, .int .i64 n57, .int .i64 n58, .int .i64 n59, .int .i64 n60]).bind fun s62 => some (.tuple #[.int .i64 (0 : Int), .int .i64 (6 : Int)], s62)) else (some (.tuple #[.int .i64 n36, .int .i64 (0 : Int)], r52.2.2))) else none)) else none else none))

noncomputable def b_heap_Heap_Blocks (k : Nat) (heap_Heap_made : T_p) (x0 : Option Addr) (σ : AMem) : RV1 :=
  (heap_Heap_made x0 σ).bind fun r1 => (toB r1.1).bind fun b2 => bif !b2 then (some (.int .i64 (0 : Int), r1.2)) else (x0.bind fun a3 => (ldS r1.2 a3.block (a3.off + 0)).bind fun l4 => some (.int .i64 ((l4.2.1 : Nat) : Int), r1.2))

noncomputable def b_side_Table_Width (k : Nat) (side_Table_made : T_p) (x0 : Option Addr) (σ : AMem) : RV1 :=
  (side_Table_made x0 σ).bind fun r1 => (toB r1.1).bind fun b2 => bif !b2 then (some (.int .i64 (0 : Int), r1.2)) else (x0.bind fun a3 => (ldI .i64 r1.2 a3.block (a3.off + 1)).bind fun n4 => some (.int .i64 n4, r1.2))

noncomputable def b_side_Table_Entries (k : Nat) (side_Table_made : T_p) (x0 : Option Addr) (σ : AMem) : RV1 :=
  (side_Table_made x0 σ).bind fun r1 => (toB r1.1).bind fun b2 => bif !b2 then (some (.int .i64 (0 : Int), r1.2)) else (x0.bind fun a3 => (ldI .i64 r1.2 a3.block (a3.off + 0)).bind fun n4 => some (.int .i64 n4, r1.2))

noncomputable def b_law06_NewWorld_l0 (k n : Nat) (alloc_New : T_pii) (law06_NewWorld_l0 : L_nni) (h0 : Nat) (h1 : Nat) (x4 : Int) (σ : AMem) : Option LOut :=
  bif decide (x4 < (2 : Int)) then ((ldP σ h1 (0 + 0)).bind fun p37 => (ldI .u8 σ h0 (0 + 2)).bind fun n38 => if (5 : Int) = 0 then none else (alloc_New p37 x4 ((w64 (n38)).tmod (5 : Int)) σ).bind fun r39 => r_pi r39.1 fun p40 n41 => if 0 ≤ x4 ∧ x4 < (2 : Nat) then (st1 r39.2 h1 (0 + 2 + x4.toNat * 1) (.pointer p40)).bind fun s42 => law06_NewWorld_l0 n h0 h1 (w64 (x4 + (1 : Int))) s42 else none) else (some (.exit 0, [], σ))

noncomputable def b_law06_NewWorld (k : Nat) (heap_New : T_i) (law06_NewWorld_l0 : L_nni) (law06_blocks : T_iiil) (law06_mutators : T_iiil) (model_New : T_i) (roots_New : T_i) (x0_0 : Int) (x0_1 : Int) (x0_2 : Int) (x0_3 : Option Addr × Nat × Nat) (σ : AMem) : RV1 :=
  allocK σ (.cells [.int .u8 x0_0, .int .u8 x0_1, .int .u8 x0_2, .slice x0_3.1 x0_3.2.1 x0_3.2.2] ty_dustcartlaw06_Setup true) fun h1 s2 => allocK s2 (.cells [.pointer none, .pointer none, .pointer none, .pointer none, .pointer none] ty_dustcartlaw06_World true) fun h3 s4 => allocK s4 (.cells [.pointer none, .pointer none, .pointer none, .pointer none, .pointer none] ty_dustcartlaw06_World true) fun h5 s6 => (ldI .u8 s6 h1 0).bind fun n7 => (ldI .u8 s6 h1 (0 + 1)).bind fun n8 => (ldI .u8 s6 h1 (0 + 1 + 1)).bind fun n9 => (ldS s6 h1 (0 + 1 + 1 + 1)).bind fun l10 => (law06_blocks n7 n8 n9 (l10.1, l10.2.1, l10.2.2) s6).bind fun r11 => (toI .i64 r11.1).bind fun n12 => (heap_New n12 r11.2).bind fun r13 => r_pi r13.1 fun p14 n15 => (st1 r13.2 h5 (0 + 0) (.pointer p14)).bind fun s16 => (ldI .u8 s16 h1 0).bind fun n17 => (ldI .u8 s16 h1 (0 + 1)).bind fun n18 => (ldI .u8 s16 h1 (0 + 1 + 1)).bind fun n19 => (ldS s16 h1 (0 + 1 + 1 + 1)).bind fun l20 => (law06_mutators n17 n18 n19 (l20.1, l20.2.1, l20.2.2) s16).bind fun r21 => (toI .i64 r21.1).bind fun n22 => (roots_New n22 r21.2).bind fun r23 => r_pi r23.1 fun p24 n25 => (st1 r23.2 h5 (0 + 1) (.pointer p24)).bind fun s26 => (ldI .u8 s26 h1 0).bind fun n27 => (ldI .u8 s26 h1 (0 + 1)).bind fun n28 => (ldI .u8 s26 h1 (0 + 1 + 1)).bind fun n29 => (ldS s26 h1 (0 + 1 + 1 + 1)).bind fun l30 => (law06_mutators n27 n28 n29 (l30.1, l30.2.1, l30.2.2) s26).bind fun r31 => (toI .i64 r31.1).bind fun n32 => (model_New n32 r31.2).bind fun r33 => r_pi r33.1 fun p34 n35 => (st1 r33.2 h5 (0 + 4) (.pointer p34)).bind fun s36 => (law06_NewWorld_l0 k h1 h5 (0 : Int) s36).bind fun r43 => if r43.1 = .exit 0 then ((ldP r43.2.2 h5 0).bind fun p44 => (ldP r43.2.2 h5 (0 + 1)).bind fun p45 => (ldP r43.2.2 h5 (0 + 1 + 1)).bind fun p46 => (ldP r43.2.2 h5 (0 + 1 + 1 + 1)).bind fun p47 => (ldP r43.2.2 h5 (0 + 1 + 1 + 1 + 1)).bind fun p48 => (stN r43.2.2 h3 0 [.pointer p44, .pointer p45, .pointer p46, .pointer p47, .pointer p48]).bind fun s49 => (((ldN s49 h3 0 5).bind fun v50 => some (.agg v50.toArray)).bind fun v51 => some [v51]).bind fun vs52 => some (resOf vs52, s49)) else none

noncomputable def b_roots_Roots_Set (k : Nat) (roots_Roots_place : T_piii) (x0 : Option Addr) (x1_0 : Int) (x1_1 : Int) (x1_2 : Int) (x2 : Int) (σ : AMem) : RV1 :=
  allocK σ (.cells [.int .i64 x1_0, .int .i64 x1_1, .int .i64 x1_2] ty_api_Place true) fun h1 s2 => (ldI .i64 s2 h1 0).bind fun n3 => (ldI .i64 s2 h1 (0 + 1)).bind fun n4 => (ldI .i64 s2 h1 (0 + 1 + 1)).bind fun n5 => (roots_Roots_place x0 n3 n4 n5 s2).bind fun r6 => r_pi r6.1 fun p7 n8 => bif n8 != (0 : Int) then (some (.int .i64 n8, r6.2)) else ((bif decide (x2 < (0 : Int)) then some (true, r6.2) else (bif x2 == (0 : Int) then (ldI .i64 r6.2 h1 (0 + 0)).bind fun n9 => some (n9 == (2 : Int), r6.2) else some (false, r6.2)).bind fun r10 => some (r10.1, r10.2)).bind fun r11 => bif r11.1 then (some (.int .i64 (1 : Int), r11.2)) else (p7.bind fun a12 => (st1 r11.2 a12.block a12.off (.int .i64 x2)).bind fun s13 => some (.int .i64 (0 : Int), s13)))

noncomputable def b_heap_Heap_State (k : Nat) (heap_Heap_Blocks : T_p) (x0 : Option Addr) (x1 : Int) (σ : AMem) : RV1 :=
  (bif decide (x1 < (0 : Int)) then some (true, σ) else (heap_Heap_Blocks x0 σ).bind fun r1 => (toI .i64 r1.1).bind fun n2 => some (decide (x1 ≥ n2), r1.2)).bind fun r3 => bif r3.1 then (some (.int .i64 (-1 : Int), r3.2)) else (x0.bind fun a4 => (ldS r3.2 a4.block (a4.off + 0)).bind fun l5 => if 0 ≤ x1 ∧ x1 < (l5.2.1 : Nat) then l5.1.bind fun a6 => (ldI .i64 r3.2 a6.block (a6.off + x1.toNat * 2 + 0)).bind fun n7 => some (.int .i64 n7, r3.2) else none)

noncomputable def b_roots_Roots_Mutators (k : Nat) (roots_Roots_made : T_p) (x0 : Option Addr) (σ : AMem) : RV1 :=
  (roots_Roots_made x0 σ).bind fun r1 => (toB r1.1).bind fun b2 => bif !b2 then (some (.int .i64 (0 : Int), r1.2)) else (x0.bind fun a3 => (ldI .i64 r1.2 a3.block (a3.off + 0)).bind fun n4 => some (.int .i64 n4, r1.2))

noncomputable def b_roots_Roots_made (k : Nat)  (x0 : Option Addr) (σ : AMem) : RV1 :=
  (eqA P pt_roots_Roots (.pointer x0) (.pointer none)).bind fun e1 => (bif !e1 then x0.bind fun a2 => (ldI .i64 σ a2.block (a2.off + 0)).bind fun n3 => some (decide (n3 > (0 : Int)), σ) else some (false, σ)).bind fun r4 => some (.bool r4.1, r4.2)

noncomputable def b_roots_Roots_all (k : Nat)  (x0 : Option Addr) (σ : AMem) : RV1 :=
  allocK σ (.cells [.pointer x0] pt_roots_Roots true) fun h1 s2 => some (.func (.func 187) #[] #[.pointer (some ⟨h1, 0, none⟩)], s2)

noncomputable def b_roots_Roots_place (k : Nat) (roots_Roots_at : T_piii) (roots_Roots_made : T_p) (x0 : Option Addr) (x1_0 : Int) (x1_1 : Int) (x1_2 : Int) (σ : AMem) : RV1 :=
  allocK σ (.cells [.int .i64 x1_0, .int .i64 x1_1, .int .i64 x1_2] ty_api_Place true) fun h1 s2 => (roots_Roots_made x0 s2).bind fun r3 => (toB r3.1).bind fun b4 => bif !b4 then (some (.tuple #[.pointer none, .int .i64 (5 : Int)], r3.2)) else ((ldI .i64 r3.2 h1 0).bind fun n5 => (ldI .i64 r3.2 h1 (0 + 1)).bind fun n6 => (ldI .i64 r3.2 h1 (0 + 1 + 1)).bind fun n7 => (roots_Roots_at x0 n5 n6 n7 r3.2).bind fun r8 => (toP r8.1).bind fun p9 => (eqA P pt_int (.pointer p9) (.pointer none)).bind fun e10 => bif e10 then (some (.tuple #[.pointer none, .int .i64 (1 : Int)], r8.2)) else (some (.tuple #[.pointer p9, .int .i64 (0 : Int)], r8.2)))

noncomputable def b_trace_mark (k : Nat) (heap_Heap_Has : T_pi) (side_Table_Swap : T_piii) (x0 : Option Addr) (x1 : Option Addr) (x2 : Int) (σ : AMem) : RV1 :=
  (heap_Heap_Has x0 x2 σ).bind fun r1 => (toB r1.1).bind fun b2 => bif !b2 then (some (.bool false, r1.2)) else (if (2 : Int) = 0 then none else (side_Table_Swap x1 (w64 (x2.tdiv (2 : Int))) (0 : Int) (1 : Int) r1.2).bind fun r3 => r_ti r3.1 fun b4 n5 => some (.bool b4, r3.2))

noncomputable def b_trace_marker_drain_l0 (k n : Nat) (__trace_line_int__newest : T_p) (__trace_line_int__oldest : T_p) (trace_marker_drain_l0 : L_p) (trace_marker_scan : T_pi) (p0 : Option Addr) (σ : AMem) : Option LOut :=
  p0.bind fun a1 => (ldS σ a1.block (a1.off + 2 + 0)).bind fun l2 => bif decide (((l2.2.1 : Nat) : Int) > (0 : Int)) then (p0.bind fun a3 => (ldI .i64 σ a3.block (a3.off + 3)).bind fun n4 => (bif n4 == (0 : Int) then (p0.bind fun a5 => (__trace_line_int__newest (some ⟨a5.block, a5.off + 2, none⟩) σ).bind fun r6 => (toI .i64 r6.1).bind fun n7 => (trace_marker_scan p0 n7 r6.2).bind fun r8 => r_0 r8.1 (some (.normal, [], r8.2))) else (p0.bind fun a9 => (__trace_line_int__oldest (some ⟨a9.block, a9.off + 2, none⟩) σ).bind fun r10 => (toI .i64 r10.1).bind fun n11 => (trace_marker_scan p0 n11 r10.2).bind fun r12 => r_0 r12.1 (some (.normal, [], r12.2))) : Option LOut).bind fun r13 => if r13.1 = .normal then (trace_marker_drain_l0 n p0  r13.2.2) else none) else (some (.exit 0, [], σ))

noncomputable def b_trace_marker_drain (k : Nat) (trace_marker_drain_l0 : L_p) (x0 : Option Addr) (σ : AMem) : RV1 :=
  (trace_marker_drain_l0 k x0  σ).bind fun r14 => if r14.1 = .exit 0 then (some (.tuple #[], r14.2.2)) else none

noncomputable def b_trace_marker_scan_l0 (k n : Nat) (trace_marker_reach : T_pi) (trace_marker_scan_l0 : L_ppnnii) (p0 : Option Addr) (p1 : Option Addr) (c2 : Nat) (c3 : Nat) (i4 : Int) (x22 : Int) (σ : AMem) : Option LOut :=
  bif decide (x22 < i4) then (if 0 ≤ x22 ∧ x22 < (c2 : Nat) then p1.bind fun a9 => (ldI .i64 σ a9.block (a9.off + x22.toNat * 1)).bind fun n10 => (trace_marker_reach p0 n10 σ).bind fun r11 => (toB r11.1).bind fun b12 => trace_marker_scan_l0 n p0 p1 c2 c3 i4 (w64 (x22 + (1 : Int))) r11.2 else none) else (some (.exit 0, [], σ))

noncomputable def b_trace_marker_scan (k : Nat) (trace_marker_scan_l0 : L_ppnnii) (trace_strong : T_pi) (x0 : Option Addr) (x1 : Int) (σ : AMem) : RV1 :=
  x0.bind fun a1 => (ldI .i64 σ a1.block (a1.off + 6 + 0)).bind fun n2 => x0.bind fun a3 => (st1 σ a3.block (a3.off + 6 + 0) (.int .i64 (w64 (n2 + (1 : Int))))).bind fun s4 => x0.bind fun a5 => (ldP s4 a5.block (a5.off + 0)).bind fun p6 => (trace_strong p6 x1 s4).bind fun r7 => (toS r7.1).bind fun l8 => (trace_marker_scan_l0 k x0 l8.1 l8.2.1 l8.2.2 ((l8.2.1 : Nat) : Int) (0 : Int) r7.2).bind fun r13 => if r13.1 = .exit 0 then (some (.tuple #[], r13.2.2)) else none

noncomputable def b_trace_crew_longest_l0 (k n : Nat) (trace_crew_longest_l0 : L_pipi) (p0 : Option Addr) (i1 : Int) (x3 : Option Addr) (x16 : Int) (σ : AMem) : Option LOut :=
  bif decide (x16 < i1) then (p0.bind fun a6 => (ldS σ a6.block (a6.off + 2)).bind fun l7 => if 0 ≤ x16 ∧ x16 < (l7.2.1 : Nat) then l7.1.bind fun a8 => (ldS σ a8.block (a8.off + x16.toNat * 2 + 0 + 0)).bind fun l9 => x3.bind fun a10 => (ldS σ a10.block (a10.off + 0 + 0)).bind fun l11 => (bif decide (((l9.2.1 : Nat) : Int) > ((l11.2.1 : Nat) : Int)) then (some (.normal, [.pointer (some ⟨a8.block, a8.off + x16.toNat * 2, none⟩)], σ)) else (some (.normal, [.pointer x3], σ)) : Option LOut).bind fun r12 => if r12.1 = .normal then (u_p r12.2.1 fun p13 => trace_crew_longest_l0 n p0 i1 p13 (w64 (x16 + (1 : Int))) r12.2.2) else none else none) else (some (.exit 0, [.pointer x3], σ))

noncomputable def b_trace_crew_longest (k : Nat) (trace_crew_longest_l0 : L_pipi) (x0 : Option Addr) (σ : AMem) : RV1 :=
  x0.bind fun a1 => (ldS σ a1.block (a1.off + 2)).bind fun l2 => if 0 ≤ (0 : Int) ∧ (0 : Int) < (l2.2.1 : Nat) then l2.1.bind fun a3 => x0.bind fun a4 => (ldS σ a4.block (a4.off + 2)).bind fun l5 => (trace_crew_longest_l0 k x0 ((l5.2.1 : Nat) : Int) (some ⟨a3.block, a3.off + (0 : Int).toNat * 2, none⟩) (0 : Int) σ).bind fun r14 => if r14.1 = .exit 0 then (u_p r14.2.1 fun p15 => some (.pointer p15, r14.2.2)) else none else none

noncomputable def b_trace_crew_turn_l0 (k n : Nat) (__trace_line_int__add : T_pi) (trace_crew_turn_l0 : L_pppnnii) (trace_mark : T_ppi) (p0 : Option Addr) (p1 : Option Addr) (p2 : Option Addr) (c3 : Nat) (c4 : Nat) (i5 : Int) (x55 : Int) (σ : AMem) : Option LOut :=
  bif decide (x55 < i5) then (if 0 ≤ x55 ∧ x55 < (c3 : Nat) then p2.bind fun a28 => (ldI .i64 σ a28.block (a28.off + x55.toNat * 1)).bind fun n29 => p0.bind fun a30 => (ldP σ a30.block (a30.off + 0)).bind fun p31 => p0.bind fun a32 => (ldP σ a32.block (a32.off + 1)).bind fun p33 => (trace_mark p31 p33 n29 σ).bind fun r34 => (toB r34.1).bind fun b35 => (bif b35 then (p1.bind fun a36 => (__trace_line_int__add (some ⟨a36.block, a36.off + 0, none⟩) n29 r34.2).bind fun r37 => r_0 r37.1 (some (.normal, [], r37.2))) else (some (.normal, [], r34.2)) : Option LOut).bind fun r38 => if r38.1 = .normal then (trace_crew_turn_l0 n p0 p1 p2 c3 c4 i5 (w64 (x55 + (1 : Int))) r38.2.2) else none else none) else (some (.exit 0, [], σ))

noncomputable def b_trace_crew_turn (k : Nat) (__trace_line_int__add : T_pi) (__trace_line_int__newest : T_p) (__trace_line_int__oldest : T_p) (trace_crew_longest : T_p) (trace_crew_turn_l0 : L_pppnnii) (trace_strong : T_pi) (x0 : Option Addr) (x1 : Option Addr) (σ : AMem) : RV1 :=
  x1.bind fun a1 => (ldS σ a1.block (a1.off + 0 + 0)).bind fun l2 => bif ((l2.2.1 : Nat) : Int) == (0 : Int) then ((trace_crew_longest x0 σ).bind fun r3 => (toP r3.1).bind fun p4 => p4.bind fun a5 => (ldS r3.2 a5.block (a5.off + 0 + 0)).bind fun l6 => (bif decide (((l6.2.1 : Nat) : Int) ≥ (2 : Int)) then (x1.bind fun a7 => p4.bind fun a8 => (__trace_line_int__oldest (some ⟨a8.block, a8.off + 0, none⟩) r3.2).bind fun r9 => (toI .i64 r9.1).bind fun n10 => (__trace_line_int__add (some ⟨a7.block, a7.off + 0, none⟩) n10 r9.2).bind fun r11 => r_0 r11.1 (x0.bind fun a12 => (ldI .i64 r11.2 a12.block (a12.off + 3)).bind fun n13 => x0.bind fun a14 => (st1 r11.2 a14.block (a14.off + 3) (.int .i64 (w64 (n13 + (1 : Int))))).bind fun s15 => some (.normal, [], s15))) else (some (.normal, [], r3.2)) : Option LOut).bind fun r16 => if r16.1 = .normal then (some (.tuple #[], r16.2.2)) else none) else (x1.bind fun a17 => (ldI .i64 σ a17.block (a17.off + 1)).bind fun n18 => x1.bind fun a19 => (st1 σ a19.block (a19.off + 1) (.int .i64 (w64 (n18 + (1 : Int))))).bind fun s20 => x0.bind fun a21 => (ldP s20 a21.block (a21.off + 0)).bind fun p22 => x1.bind fun a23 => (__trace_line_int__newest (some ⟨a23.block, a23.off + 0, none⟩) s20).bind fun r24 => quietly s20 r24.2 ((toI .i64 r24.1).bind fun n25 => (trace_strong p22 n25 r24.2).bind fun r26 => (toS r26.1).bind fun l27 => (trace_crew_turn_l0 k x0 x1 l27.1 l27.2.1 l27.2.2 ((l27.2.1 : Nat) : Int) (0 : Int) r26.2).bind fun r39 => if r39.1 = .exit 0 then (some (.tuple #[], r39.2.2)) else none))

noncomputable def b_slices_DeleteFunc_int_l0 (k n : Nat) (callV_i_t : TV) (slices_DeleteFunc_int_l0 : L_pnnvii) (p0 : Option Addr) (c1 : Nat) (c2 : Nat) (v3 : Value) (x5 : Int) (x6 : Int) (σ : AMem) : Option LOut :=
  bif decide (x6 < ((c1 : Nat) : Int)) then (if 0 ≤ x6 ∧ x6 < (c1 : Nat) then p0.bind fun a3 => (ldI .i64 σ a3.block (a3.off + x6.toNat * 1)).bind fun n4 => (callV_i_t v3 [.int .i64 n4] σ).bind fun r5 => (toB r5.1).bind fun b6 => (bif !b6 then (if 0 ≤ x5 ∧ x5 < (c1 : Nat) then p0.bind fun a7 => (st1 r5.2 a7.block (a7.off + x5.toNat * 1) (.int .i64 n4)).bind fun s8 => some (.normal, [.int .i64 (w64 (x5 + (1 : Int)))], s8) else none) else (some (.normal, [.int .i64 x5], r5.2)) : Option LOut).bind fun r9 => if r9.1 = .normal then (u_i r9.2.1 fun n10 => slices_DeleteFunc_int_l0 n p0 c1 c2 v3 n10 (w64 (x6 + (1 : Int))) r9.2.2) else none else none) else (some (.exit 0, [.int .i64 x5], σ))

noncomputable def b_slices_DeleteFunc_int (k : Nat) (slices_DeleteFunc_int_l0 : L_pnnvii) (slices_IndexFunc_int : T_lv) (x0 : Option Addr × Nat × Nat) (x1 : Value) (σ : AMem) : RV1 :=
  (slices_IndexFunc_int (x0.1, x0.2.1, x0.2.2) (x1) σ).bind fun r1 => (toI .i64 r1.1).bind fun n2 => bif n2 == (-1 : Int) then (some (.slice x0.1 x0.2.1 x0.2.2, r1.2)) else ((slices_DeleteFunc_int_l0 k x0.1 x0.2.1 x0.2.2 x1 n2 (w64 (n2 + (1 : Int))) r1.2).bind fun r11 => if r11.1 = .exit 0 then (u_i r11.2.1 fun n12 => (sliceD ty_int 1 (x0.1, x0.2.1, x0.2.2) (some (.int .i64 n12)) none none r11.2.2).bind fun l13 => (if l13.2.1 = 0 then some r11.2.2 else l13.1.bind fun a15 => stN r11.2.2 a15.block a15.off (rep l13.2.1 [.int .i64 (0 : Int)])).bind fun s14 => (sliceD ty_int 1 (x0.1, x0.2.1, x0.2.2) none (some (.int .i64 n12)) none s14).bind fun l16 => some (.slice l16.1 l16.2.1 l16.2.2, s14)) else none)

noncomputable def b_trace_all_c1 (k : Nat) (trace_marked : T_ppi) (x0 : Int) (c0 : Option Addr) (c1 : Option Addr) (σ : AMem) : RV1 :=
  c0.bind fun a1 => (ldP σ a1.block a1.off).bind fun p2 => c1.bind fun a3 => (ldP σ a3.block a3.off).bind fun p4 => (trace_marked p2 p4 x0 σ).bind fun r5 => (toB r5.1).bind fun b6 => some (.bool (!b6), r5.2)

noncomputable def b_heap_Heap_made (k : Nat)  (x0 : Option Addr) (σ : AMem) : RV1 :=
  (eqA P pt_heap_Heap (.pointer x0) (.pointer none)).bind fun e1 => (bif !e1 then x0.bind fun a2 => (ldS σ a2.block (a2.off + 0)).bind fun l3 => some (decide (((l3.2.1 : Nat) : Int) > (0 : Int)), σ) else some (false, σ)).bind fun r4 => some (.bool r4.1, r4.2)

noncomputable def b_side_Table_Get (k : Nat) (side_Table_get : T_pi) (side_Table_there : T_pi) (x0 : Option Addr) (x1 : Int) (σ : AMem) : RV1 :=
  (side_Table_there x0 x1 σ).bind fun r1 => (toB r1.1).bind fun b2 => bif !b2 then (some (.int .i64 (-1 : Int), r1.2)) else ((side_Table_get x0 x1 r1.2).bind fun r3 => (toI .i64 r3.1).bind fun n4 => some (.int .i64 n4, r3.2))

noncomputable def b_heap_Heap_between_l0 (k n : Nat) (heap_Heap_between_l0 : L_pilii) (side_Table_Next : T_pii) (p0 : Option Addr) (i1 : Int) (x7 : Option Addr × Nat × Nat) (x8 : Int) (x9 : Int) (σ : AMem) : Option LOut :=
  (bif x9 == (0 : Int) then some (decide ((w64 ((2 : Int) * x8)) < i1), σ) else some (false, σ)).bind fun r6 => bif r6.1 then (allocK r6.2 (.cells [.int .i64 (w64 ((2 : Int) * x8))] ty_int true) fun h7 s8 => (appendD P ty_int (x7.1, x7.2.1, x7.2.2) (some ⟨h7, 0, none⟩, 1, 1) s8).bind fun r9 => p0.bind fun a10 => (ldP r9.2 a10.block (a10.off + 2)).bind fun p11 => (side_Table_Next p11 (w64 (x8 + (1 : Int))) (1 : Int) r9.2).bind fun r12 => r_ii r12.1 fun n13 n14 => heap_Heap_between_l0 n p0 i1 (r9.1.1, r9.1.2.1, r9.1.2.2) n13 n14 r12.2) else (some (.exit 0, [.slice x7.1 x7.2.1 x7.2.2], r6.2))

noncomputable def b_heap_Heap_between (k : Nat) (heap_Heap_between_l0 : L_pilii) (side_Table_Next : T_pii) (x0 : Option Addr) (x1 : Int) (x2 : Int) (σ : AMem) : RV1 :=
  x0.bind fun a1 => (ldP σ a1.block (a1.off + 2)).bind fun p2 => if (2 : Int) = 0 then none else (side_Table_Next p2 (w64 (x1.tdiv (2 : Int))) (1 : Int) σ).bind fun r3 => r_ii r3.1 fun n4 n5 => (heap_Heap_between_l0 k x0 x2 (none, 0, 0) n4 n5 r3.2).bind fun r15 => if r15.1 = .exit 0 then (u_l r15.2.1 fun l16 => some (.slice l16.1 l16.2.1 l16.2.2, r15.2.2)) else none

noncomputable def b_heap_Heap_object (k : Nat) (heap_Heap_Has : T_pi) (heap_Heap_made : T_p) (x0 : Option Addr) (x1 : Int) (σ : AMem) : RV1 :=
  (heap_Heap_made x0 σ).bind fun r1 => (toB r1.1).bind fun b2 => bif !b2 then (some (.int .i64 (5 : Int), r1.2)) else ((heap_Heap_Has x0 x1 r1.2).bind fun r3 => (toB r3.1).bind fun b4 => bif !b4 then (some (.int .i64 (4 : Int), r3.2)) else (some (.int .i64 (0 : Int), r3.2)))

noncomputable def b_heap_shape (k : Nat)  (x0 : Int) (σ : AMem) : RV1 :=
  allocK σ (.cells [.int .i64 (0 : Int), .int .i64 (0 : Int), .int .i64 (0 : Int)] ty_api_Shape true) fun h1 s2 => if (16 : Int) = 0 then none else if (4096 : Int) = 0 then none else if (16 : Int) = 0 then none else if (4096 : Int) = 0 then none else (stN s2 h1 0 [.int .i64 (x0.tmod (16 : Int)), .int .i64 (w64 ((x0.tmod (4096 : Int)).tdiv (16 : Int))), .int .i64 (w64 (x0.tdiv (4096 : Int)))]).bind fun s3 => (((ldN s3 h1 0 3).bind fun v4 => some (.agg v4.toArray)).bind fun v5 => some [v5]).bind fun vs6 => some (resOf vs6, s3)

noncomputable def b_heap_Heap_field (k : Nat) (heap_Heap_object : T_pi) (heap_shape : T_i) (x0 : Option Addr) (x1 : Int) (x2 : Int) (x3 : Bool) (σ : AMem) : RV1 :=
  (heap_Heap_object x0 x1 σ).bind fun r1 => (toI .i64 r1.1).bind fun n2 => bif n2 != (0 : Int) then (some (.tuple #[.int .i64 (0 : Int), .int .i64 n2], r1.2)) else (x0.bind fun a3 => (ldS r1.2 a3.block (a3.off + 1)).bind fun l4 => if 0 ≤ (w64 (x1 + (1 : Int))) ∧ (w64 (x1 + (1 : Int))) < (l4.2.1 : Nat) then l4.1.bind fun a5 => (ldI .i64 r1.2 a5.block (a5.off + (w64 (x1 + (1 : Int))).toNat * 1)).bind fun n6 => (heap_shape n6 r1.2).bind fun r7 => a_iii r7.1 fun n8 n9 n10 => allocK r7.2 (.cells [.int .i64 (0 : Int), .int .i64 (0 : Int), .int .i64 (0 : Int)] ty_api_Shape true) fun h11 s12 => (stN s12 h11 0 [.int .i64 n8, .int .i64 n9, .int .i64 n10]).bind fun s13 => (ldI .i64 s13 h11 (0 + 0)).bind fun n14 => (bif x3 then ((ldI .i64 s13 h11 (0 + 0)).bind fun n15 => (ldI .i64 s13 h11 (0 + 1)).bind fun n16 => some (.normal, [.int .i64 (w64 ((w64 (x1 + (2 : Int))) + n15)), .int .i64 n16], s13)) else (some (.normal, [.int .i64 (w64 (x1 + (2 : Int))), .int .i64 n14], s13)) : Option LOut).bind fun r17 => if r17.1 = .normal then (u_ii r17.2.1 fun n18 n19 => (bif decide (x2 < (0 : Int)) then some (true, r17.2.2) else some (decide (x2 ≥ n19), r17.2.2)).bind fun r20 => bif r20.1 then (some (.tuple #[.int .i64 (0 : Int), .int .i64 (1 : Int)], r20.2)) else (some (.tuple #[.int .i64 (w64 (n18 + x2)), .int .i64 (0 : Int)], r20.2))) else none else none)

noncomputable def b_slices_Index_int_l0 (k n : Nat) (slices_Index_int_l0 : L_pnniii) (p0 : Option Addr) (c1 : Nat) (c2 : Nat) (i3 : Int) (i4 : Int) (x8 : Int) (σ : AMem) : Option LOut :=
  bif decide (x8 < i4) then (if 0 ≤ x8 ∧ x8 < (c1 : Nat) then p0.bind fun a1 => (ldI .i64 σ a1.block (a1.off + x8.toNat * 1)).bind fun n2 => bif i3 == n2 then (some (.ret, [.int .i64 x8], σ)) else (slices_Index_int_l0 n p0 c1 c2 i3 i4 (w64 (x8 + (1 : Int))) σ) else none) else (some (.exit 0, [], σ))

noncomputable def b_slices_Index_int (k : Nat) (slices_Index_int_l0 : L_pnniii) (x0 : Option Addr × Nat × Nat) (x1 : Int) (σ : AMem) : RV1 :=
  (slices_Index_int_l0 k x0.1 x0.2.1 x0.2.2 x1 ((x0.2.1 : Nat) : Int) (0 : Int) σ).bind fun r3 => if r3.1 = .exit 0 then (some (.int .i64 (-1 : Int), r3.2.2)) else if r3.1 = .ret then (u_i r3.2.1 fun n4 => some (.int .i64 n4, r3.2.2)) else none

noncomputable def b_side_Table_Set (k : Nat) (side_Table_check : T_pil) (side_Table_put : T_pii) (x0 : Option Addr) (x1 : Int) (x2 : Int) (σ : AMem) : RV1 :=
  allocK σ (.cells [.int .i64 x2] ty_int true) fun h1 s2 => (side_Table_check x0 x1 (some ⟨h1, 0, none⟩, 1, 1) s2).bind fun r3 => (toI .i64 r3.1).bind fun n4 => bif n4 != (0 : Int) then (some (.int .i64 n4, r3.2)) else ((side_Table_put x0 x1 x2 r3.2).bind fun r5 => r_0 r5.1 (some (.int .i64 (0 : Int), r5.2)))

noncomputable def b_alloc_Allocator_made (k : Nat)  (x0 : Option Addr) (σ : AMem) : RV1 :=
  (eqA P pt_alloc_Allocator (.pointer x0) (.pointer none)).bind fun e1 => (bif !e1 then x0.bind fun a2 => (ldP σ a2.block (a2.off + 0)).bind fun p3 => (eqA P pt_heap_Heap (.pointer p3) (.pointer none)).bind fun e4 => some (!e4, σ) else some (false, σ)).bind fun r5 => some (.bool r5.1, r5.2)

noncomputable def b_heap_Valid (k : Nat)  (x0_0 : Int) (x0_1 : Int) (x0_2 : Int) (σ : AMem) : RV1 :=
  allocK σ (.cells [.int .i64 x0_0, .int .i64 x0_1, .int .i64 x0_2] ty_api_Shape true) fun h1 s2 => (ldI .i64 s2 h1 (0 + 0)).bind fun n3 => (bif decide (n3 ≥ (0 : Int)) then (ldI .i64 s2 h1 (0 + 0)).bind fun n4 => some (decide (n4 ≤ (15 : Int)), s2) else some (false, s2)).bind fun r5 => (bif r5.1 then (ldI .i64 r5.2 h1 (0 + 1)).bind fun n6 => some (decide (n6 ≥ (0 : Int)), r5.2) else some (false, r5.2)).bind fun r7 => (bif r7.1 then (ldI .i64 r7.2 h1 (0 + 1)).bind fun n8 => some (decide (n8 ≤ (200 : Int)), r7.2) else some (false, r7.2)).bind fun r9 => (bif r9.1 then (ldI .i64 r9.2 h1 (0 + 2)).bind fun n10 => some (decide (n10 ≥ (0 : Int)), r9.2) else some (false, r9.2)).bind fun r11 => (bif r11.1 then (ldI .i64 r11.2 h1 (0 + 2)).bind fun n12 => some (decide (n12 ≤ (3 : Int)), r11.2) else some (false, r11.2)).bind fun r13 => (bif r13.1 then (ldI .i64 r13.2 h1 (0 + 2)).bind fun n14 => (bif n14 != (1 : Int) then some (true, r13.2) else (ldI .i64 r13.2 h1 (0 + 0)).bind fun n15 => some (decide (n15 ≥ (1 : Int)), r13.2)).bind fun r16 => some (r16.1, r16.2) else some (false, r13.2)).bind fun r17 => (bif r17.1 then (ldI .i64 r17.2 h1 (0 + 2)).bind fun n18 => (bif n18 != (2 : Int) then some (true, r17.2) else (ldI .i64 r17.2 h1 (0 + 0)).bind fun n19 => some (decide (n19 ≥ (2 : Int)), r17.2)).bind fun r20 => some (r20.1, r20.2) else some (false, r17.2)).bind fun r21 => some (.bool r21.1, r21.2)

noncomputable def b_heap_Words (k : Nat) (heap_Valid : T_iii) (x0_0 : Int) (x0_1 : Int) (x0_2 : Int) (σ : AMem) : RV1 :=
  allocK σ (.cells [.int .i64 x0_0, .int .i64 x0_1, .int .i64 x0_2] ty_api_Shape true) fun h1 s2 => (ldI .i64 s2 h1 0).bind fun n3 => (ldI .i64 s2 h1 (0 + 1)).bind fun n4 => (ldI .i64 s2 h1 (0 + 1 + 1)).bind fun n5 => (heap_Valid n3 n4 n5 s2).bind fun r6 => (toB r6.1).bind fun b7 => bif !b7 then (some (.int .i64 (0 : Int), r6.2)) else ((ldI .i64 r6.2 h1 (0 + 0)).bind fun n8 => (ldI .i64 r6.2 h1 (0 + 1)).bind fun n9 => if (2 : Int) = 0 then none else some (.int .i64 (w64 ((w64 ((w64 ((w64 ((w64 ((2 : Int) + n8)) + n9)) + (1 : Int))).tdiv (2 : Int))) * (2 : Int))), r6.2))

noncomputable def b_alloc_policies (k : Nat)   (σ : AMem) : RV1 :=
  allocK σ (.cells [.iface 239 (.agg #[]), .iface 240 (.agg #[]), .iface 241 (.agg #[]), .iface 242 (.agg #[]), .iface 243 (.agg #[])] ty_alloc_policy true) fun h1 s2 => some (.slice (some ⟨h1, 0, none⟩) 5 5, s2)

noncomputable def b_alloc_Allocator_large_l0 (k n : Nat) (alloc_Allocator_large_l0 : L_pii) (heap_Heap_Blocks : T_p) (heap_Heap_ClaimLarge : T_piii) (p0 : Option Addr) (i1 : Int) (x7 : Int) (σ : AMem) : Option LOut :=
  p0.bind fun a1 => (ldP σ a1.block (a1.off + 0)).bind fun p2 => (heap_Heap_Blocks p2 σ).bind fun r3 => (toI .i64 r3.1).bind fun n4 => bif decide ((w64 (x7 + i1)) ≤ n4) then (p0.bind fun a5 => (ldP r3.2 a5.block (a5.off + 0)).bind fun p6 => p0.bind fun a7 => (ldI .i64 r3.2 a7.block (a7.off + 1)).bind fun n8 => (heap_Heap_ClaimLarge p6 x7 i1 n8 r3.2).bind fun r9 => (toI .i64 r9.1).bind fun n10 => bif n10 == (0 : Int) then (some (.ret, [.int .i64 (w64 (x7 * (64 : Int))), .bool true], r9.2)) else (alloc_Allocator_large_l0 n p0 i1 (w64 (x7 + (1 : Int))) r9.2)) else (some (.exit 0, [], r3.2))

noncomputable def b_alloc_Allocator_large (k : Nat) (alloc_Allocator_large_l0 : L_pii) (x0 : Option Addr) (x1 : Int) (σ : AMem) : RV1 :=
  if (64 : Int) = 0 then none else (alloc_Allocator_large_l0 k x0 (w64 ((w64 ((w64 (x1 + (64 : Int))) - (1 : Int))).tdiv (64 : Int))) (1 : Int) σ).bind fun r11 => if r11.1 = .exit 0 then (some (.tuple #[.int .i64 (0 : Int), .bool false], r11.2.2)) else if r11.1 = .ret then (u_it r11.2.1 fun n12 b13 => some (.tuple #[.int .i64 n12, .bool b13], r11.2.2)) else none

noncomputable def b_heap_Heap_Space (k : Nat) (heap_Heap_Blocks : T_p) (x0 : Option Addr) (x1 : Int) (σ : AMem) : RV1 :=
  (bif decide (x1 < (0 : Int)) then some (true, σ) else (heap_Heap_Blocks x0 σ).bind fun r1 => (toI .i64 r1.1).bind fun n2 => some (decide (x1 ≥ n2), r1.2)).bind fun r3 => bif r3.1 then (some (.int .i64 (-1 : Int), r3.2)) else (x0.bind fun a4 => (ldS r3.2 a4.block (a4.off + 0)).bind fun l5 => if 0 ≤ x1 ∧ x1 < (l5.2.1 : Nat) then l5.1.bind fun a6 => (ldI .i64 r3.2 a6.block (a6.off + x1.toNat * 2 + 1)).bind fun n7 => some (.int .i64 n7, r3.2) else none)

noncomputable def b_heap_Heap_Place (k : Nat) (heap_Heap_fits : T_piii) (heap_Heap_made : T_p) (heap_Valid : T_iii) (heap_Words : T_iii) (heap_number : T_iii) (side_Table_Set : T_pii) (x0 : Option Addr) (x1 : Int) (x2_0 : Int) (x2_1 : Int) (x2_2 : Int) (σ : AMem) : RV1 :=
  allocK σ (.cells [.int .i64 x2_0, .int .i64 x2_1, .int .i64 x2_2] ty_api_Shape true) fun h1 s2 => (heap_Heap_made x0 s2).bind fun r3 => (toB r3.1).bind fun b4 => bif !b4 then (some (.tuple #[.int .i64 (0 : Int), .int .i64 (5 : Int)], r3.2)) else ((ldI .i64 r3.2 h1 0).bind fun n5 => (ldI .i64 r3.2 h1 (0 + 1)).bind fun n6 => (ldI .i64 r3.2 h1 (0 + 1 + 1)).bind fun n7 => (heap_Valid n5 n6 n7 r3.2).bind fun r8 => (toB r8.1).bind fun b9 => bif !b9 then (some (.tuple #[.int .i64 (0 : Int), .int .i64 (2 : Int)], r8.2)) else ((ldI .i64 r8.2 h1 0).bind fun n10 => (ldI .i64 r8.2 h1 (0 + 1)).bind fun n11 => (ldI .i64 r8.2 h1 (0 + 1 + 1)).bind fun n12 => (heap_Words n10 n11 n12 r8.2).bind fun r13 => (toI .i64 r13.1).bind fun n14 => (heap_Heap_fits x0 x1 n14 (-1 : Int) r13.2).bind fun r15 => (toI .i64 r15.1).bind fun n16 => bif n16 != (0 : Int) then (some (.tuple #[.int .i64 (0 : Int), .int .i64 n16], r15.2)) else (x0.bind fun a17 => (ldI .i64 r15.2 a17.block (a17.off + 6)).bind fun n18 => x0.bind fun a19 => (st1 r15.2 a19.block (a19.off + 6) (.int .i64 (w64 (n18 + (1 : Int))))).bind fun s20 => x0.bind fun a21 => (ldS s20 a21.block (a21.off + 1)).bind fun l22 => x0.bind fun a23 => (ldS s20 a23.block (a23.off + 1)).bind fun l24 => x0.bind fun a25 => (ldI .i64 s20 a25.block (a25.off + 6)).bind fun n26 => (ldI .i64 s20 h1 0).bind fun n27 => (ldI .i64 s20 h1 (0 + 1)).bind fun n28 => (ldI .i64 s20 h1 (0 + 1 + 1)).bind fun n29 => (heap_number n27 n28 n29 s20).bind fun r30 => (toI .i64 r30.1).bind fun n31 => if 0 ≤ x1 ∧ x1 < (l22.2.1 : Nat) then l22.1.bind fun a32 => (st1 r30.2 a32.block (a32.off + x1.toNat * 1) (.int .i64 n26)).bind fun s33 => if 0 ≤ (w64 (x1 + (1 : Int))) ∧ (w64 (x1 + (1 : Int))) < (l24.2.1 : Nat) then l24.1.bind fun a34 => (st1 s33 a34.block (a34.off + (w64 (x1 + (1 : Int))).toNat * 1) (.int .i64 n31)).bind fun s35 => x0.bind fun a36 => (ldP s35 a36.block (a36.off + 2)).bind fun p37 => if (2 : Int) = 0 then none else (side_Table_Set p37 (w64 (x1.tdiv (2 : Int))) (1 : Int) s35).bind fun r38 => (toI .i64 r38.1).bind fun n39 => x0.bind fun a40 => (ldM r38.2 a40.block (a40.off + 4)).bind fun m41 => x0.bind fun a42 => (ldI .i64 r38.2 a42.block (a42.off + 6)).bind fun n43 => m41.bind fun h45 => (ldMap r38.2 h45).bind fun es44 => x0.bind fun a46 => (ldI .i64 (List.set r38.2 h45 (.map (mapSet n43 (.int .i64 x1) es44))) a46.block (a46.off + 6)).bind fun n47 => some (.tuple #[.int .i64 n47, .int .i64 (0 : Int)], (List.set r38.2 h45 (.map (mapSet n43 (.int .i64 x1) es44)))) else none else none)))

noncomputable def b_side_Table_made (k : Nat)  (x0 : Option Addr) (σ : AMem) : RV1 :=
  (eqA P pt_side_Table (.pointer x0) (.pointer none)).bind fun e1 => (bif !e1 then x0.bind fun a2 => (ldI .i64 σ a2.block (a2.off + 0)).bind fun n3 => some (decide (n3 > (0 : Int)), σ) else some (false, σ)).bind fun r4 => some (.bool r4.1, r4.2)

noncomputable def b_slices_ContainsFunc_int (k : Nat) (slices_IndexFunc_int : T_lv) (x0 : Option Addr × Nat × Nat) (x1 : Value) (σ : AMem) : RV1 :=
  (slices_IndexFunc_int (x0.1, x0.2.1, x0.2.2) (x1) σ).bind fun r1 => (toI .i64 r1.1).bind fun n2 => some (.bool (decide (n2 ≥ (0 : Int))), r1.2)

noncomputable def b_heap_Heap_Objects (k : Nat) (heap_Heap_between : T_pii) (heap_Heap_made : T_p) (x0 : Option Addr) (x1 : Int) (σ : AMem) : RV1 :=
  (heap_Heap_made x0 σ).bind fun r1 => (toB r1.1).bind fun b2 => (bif !b2 then some (true, r1.2) else some (decide (x1 < (0 : Int)), r1.2)).bind fun r3 => (bif r3.1 then some (true, r3.2) else x0.bind fun a4 => (ldS r3.2 a4.block (a4.off + 0)).bind fun l5 => some (decide (x1 ≥ ((l5.2.1 : Nat) : Int)), r3.2)).bind fun r6 => bif r6.1 then (some (.slice none 0 0, r6.2)) else ((heap_Heap_between x0 (w64 (x1 * (64 : Int))) (w64 ((w64 (x1 + (1 : Int))) * (64 : Int))) r6.2).bind fun r7 => (toS r7.1).bind fun l8 => some (.slice l8.1 l8.2.1 l8.2.2, r7.2))

noncomputable def b_heap_Heap_size (k : Nat) (heap_Words : T_iii) (heap_shape : T_i) (x0 : Option Addr) (x1 : Int) (σ : AMem) : RV1 :=
  x0.bind fun a1 => (ldS σ a1.block (a1.off + 1)).bind fun l2 => if 0 ≤ (w64 (x1 + (1 : Int))) ∧ (w64 (x1 + (1 : Int))) < (l2.2.1 : Nat) then l2.1.bind fun a3 => (ldI .i64 σ a3.block (a3.off + (w64 (x1 + (1 : Int))).toNat * 1)).bind fun n4 => (heap_shape n4 σ).bind fun r5 => a_iii r5.1 fun n6 n7 n8 => (heap_Words n6 n7 n8 r5.2).bind fun r9 => (toI .i64 r9.1).bind fun n10 => some (.int .i64 n10, r9.2) else none

noncomputable def b_law06_blocks (k : Nat)  (x0_0 : Int) (x0_1 : Int) (x0_2 : Int) (x0_3 : Option Addr × Nat × Nat) (σ : AMem) : RV1 :=
  allocK σ (.cells [.int .u8 x0_0, .int .u8 x0_1, .int .u8 x0_2, .slice x0_3.1 x0_3.2.1 x0_3.2.2] ty_dustcartlaw06_Setup true) fun h1 s2 => (ldI .u8 s2 h1 (0 + 0)).bind fun n3 => if (12 : Int) = 0 then none else some (.int .i64 (w64 ((2 : Int) + ((w64 (n3)).tmod (12 : Int)))), s2)

noncomputable def b_law06_mutators (k : Nat)  (x0_0 : Int) (x0_1 : Int) (x0_2 : Int) (x0_3 : Option Addr × Nat × Nat) (σ : AMem) : RV1 :=
  allocK σ (.cells [.int .u8 x0_0, .int .u8 x0_1, .int .u8 x0_2, .slice x0_3.1 x0_3.2.1 x0_3.2.2] ty_dustcartlaw06_Setup true) fun h1 s2 => (ldI .u8 s2 h1 (0 + 1)).bind fun n3 => if (3 : Int) = 0 then none else some (.int .i64 (w64 ((1 : Int) + ((w64 (n3)).tmod (3 : Int)))), s2)

noncomputable def b_model_New_l0 (k n : Nat) (model_New_l0 : L_nii) (h0 : Nat) (i1 : Int) (x15 : Int) (σ : AMem) : Option LOut :=
  bif decide (x15 < i1) then ((ldS σ h0 (0 + 0)).bind fun l6 => if 0 ≤ (16 : Int) ∧ (16 : Int) ≤ (16 : Int) ∧ (16 : Int) * (8 : Nat) ≤ 2 ^ 40 ∧ (16 : Int) ≤ 2 ^ 40 then allocK σ (.cells (rep (16 : Int).toNat [.int .i64 (0 : Int)]) ty_int true) fun h7 s8 => allocK s8 (.cells [.slice (some ⟨h7, 0, none⟩) ((16 : Int).toNat) ((16 : Int).toNat)] sl_int true) fun h9 s10 => (appendD P sl_int (l6.1, l6.2.1, l6.2.2) (some ⟨h9, 0, none⟩, 1, 1) s10).bind fun r11 => (st1 r11.2 h0 (0 + 0) (.slice r11.1.1 r11.1.2.1 r11.1.2.2)).bind fun s12 => model_New_l0 n h0 i1 (w64 (x15 + (1 : Int))) s12 else none) else (some (.exit 0, [], σ))

noncomputable def b_model_New (k : Nat) (model_New_l0 : L_nii) (x0 : Int) (σ : AMem) : RV1 :=
  (bif decide (x0 < (1 : Int)) then some (true, σ) else some (decide (x0 > (4 : Int)), σ)).bind fun r1 => bif r1.1 then (some (.tuple #[.pointer none, .int .i64 (1 : Int)], r1.2)) else (if 0 ≤ (16 : Int) ∧ (16 : Int) ≤ (16 : Int) ∧ (16 : Int) * (8 : Nat) ≤ 2 ^ 40 ∧ (16 : Int) ≤ 2 ^ 40 then allocK r1.2 (.cells (rep (16 : Int).toNat [.int .i64 (0 : Int)]) ty_int true) fun h2 s3 => allocK s3 (.cells [.slice none 0 0, .slice (some ⟨h2, 0, none⟩) ((16 : Int).toNat) ((16 : Int).toNat), .slice none 0 0, .slice none 0 0] ty_model_Model true) fun h4 s5 => (model_New_l0 k h4 x0 (0 : Int) s5).bind fun r13 => if r13.1 = .exit 0 then (some (.tuple #[.pointer (some ⟨h4, 0, none⟩), .int .i64 (0 : Int)], r13.2.2)) else none else none)

noncomputable def b_alloc_New (k : Nat) (alloc_policies : T_) (heap_Heap_Blocks : T_p) (x0 : Option Addr) (x1 : Int) (x2 : Int) (σ : AMem) : RV1 :=
  (heap_Heap_Blocks x0 σ).bind fun r1 => (toI .i64 r1.1).bind fun n2 => (bif n2 == (0 : Int) then some (true, r1.2) else some (decide (x1 < (0 : Int)), r1.2)).bind fun r3 => (bif r3.1 then some (true, r3.2) else some (decide (x1 ≥ (8 : Int)), r3.2)).bind fun r4 => (bif r4.1 then some (true, r4.2) else some (decide (x2 < (0 : Int)), r4.2)).bind fun r5 => (bif r5.1 then some (true, r5.2) else (alloc_policies r5.2).bind fun r6 => (toS r6.1).bind fun l7 => some (decide (x2 ≥ ((l7.2.1 : Nat) : Int)), r6.2)).bind fun r8 => bif r8.1 then (some (.tuple #[.pointer none, .int .i64 (1 : Int)], r8.2)) else (allocK r8.2 (.cells [.pointer x0, .int .i64 x1, .int .i64 x2, .int .i64 (0 : Int), .int .i64 (0 : Int), .int .i64 (0 : Int), .int .i64 (0 : Int)] ty_alloc_Allocator true) fun h9 s10 => some (.tuple #[.pointer (some ⟨h9, 0, none⟩), .int .i64 (0 : Int)], s10))

noncomputable def b_roots_Roots_all_c1_l1 (k n : Nat) (callV_iiip_t : TV) (roots_Roots_all_c1_l1 : L_vipnnii) (v0 : Value) (i1 : Int) (p2 : Option Addr) (c3 : Nat) (c4 : Nat) (i5 : Int) (x28 : Int) (σ : AMem) : Option LOut :=
  bif decide (x28 < i5) then (allocK σ (.cells [.int .i64 (0 : Int), .int .i64 (0 : Int), .int .i64 (0 : Int)] ty_api_Place true) fun h16 s17 => (stN s17 h16 0 [.int .i64 i1, .int .i64 (0 : Int), .int .i64 x28]).bind fun s18 => (bif i1 == (0 : Int) then (if (16 : Int) = 0 then none else if (16 : Int) = 0 then none else (st1 s18 h16 (0 + 1) (.int .i64 (w64 (x28.tdiv (16 : Int))))).bind fun s19 => (st1 s19 h16 (0 + 2) (.int .i64 (x28.tmod (16 : Int)))).bind fun s20 => some (.normal, [], s20)) else (some (.normal, [], s18)) : Option LOut).bind fun r21 => if r21.1 = .normal then (if 0 ≤ x28 ∧ x28 < (c3 : Nat) then p2.bind fun a22 => (ldI .i64 r21.2.2 a22.block (a22.off + x28.toNat * 1)).bind fun n23 => (bif n23 != (0 : Int) then (ldI .i64 r21.2.2 h16 0).bind fun n24 => (ldI .i64 r21.2.2 h16 (0 + 1)).bind fun n25 => (ldI .i64 r21.2.2 h16 (0 + 1 + 1)).bind fun n26 => if 0 ≤ x28 ∧ x28 < (c3 : Nat) then p2.bind fun a27 => (callV_iiip_t v0 [.agg #[.int .i64 n24, .int .i64 n25, .int .i64 n26], .pointer (some ⟨a27.block, a27.off + x28.toNat * 1, none⟩)] r21.2.2).bind fun r28 => (toB r28.1).bind fun b29 => some (!b29, r28.2) else none else some (false, r21.2.2)).bind fun r30 => bif r30.1 then (some (.ret, [], r30.2)) else (roots_Roots_all_c1_l1 n v0 i1 p2 c3 c4 i5 (w64 (x28 + (1 : Int))) r30.2) else none) else none) else (some (.exit 2, [], σ))

noncomputable def b_roots_Roots_all_c1_l0 (k n : Nat) (roots_Roots_all_c1_l0 : L_vnii) (roots_Roots_all_c1_l1 : L_vipnnii) (v0 : Value) (h1 : Nat) (i2 : Int) (x21 : Int) (σ : AMem) : Option LOut :=
  bif decide (x21 < i2) then (if 0 ≤ x21 ∧ x21 < (3 : Nat) then (ldS σ h1 (0 + x21.toNat * 1)).bind fun l15 => (roots_Roots_all_c1_l1 k v0 x21 l15.1 l15.2.1 l15.2.2 ((l15.2.1 : Nat) : Int) (0 : Int) σ).bind fun r31 => if r31.1 = .exit 2 then (roots_Roots_all_c1_l0 n v0 h1 i2 (w64 (x21 + (1 : Int))) r31.2.2) else if r31.1 = .ret then (some (.ret, [], r31.2.2)) else none else none) else (some (.exit 0, [], σ))

noncomputable def b_roots_Roots_all_c1 (k : Nat) (roots_Roots_all_c1_l0 : L_vnii) (x0 : Value) (c0 : Option Addr) (σ : AMem) : RV1 :=
  c0.bind fun a1 => (ldP σ a1.block a1.off).bind fun p2 => p2.bind fun a3 => (ldS σ a3.block (a3.off + 1)).bind fun l4 => c0.bind fun a5 => (ldP σ a5.block a5.off).bind fun p6 => p6.bind fun a7 => (ldS σ a7.block (a7.off + 2)).bind fun l8 => c0.bind fun a9 => (ldP σ a9.block a9.off).bind fun p10 => p10.bind fun a11 => (ldS σ a11.block (a11.off + 3)).bind fun l12 => allocK σ (.cells [.slice l4.1 l4.2.1 l4.2.2, .slice l8.1 l8.2.1 l8.2.2, .slice l12.1 l12.2.1 l12.2.2] sl_int true) fun h13 s14 => (roots_Roots_all_c1_l0 k x0 h13 ((3 : Nat) : Int) (0 : Int) s14).bind fun r32 => if r32.1 = .exit 0 then (some (.tuple #[], r32.2.2)) else if r32.1 = .ret then (some (.tuple #[], r32.2.2)) else none

noncomputable def b_roots_Roots_at (k : Nat) (roots_Roots_at_c1 : T_lp) (x0 : Option Addr) (x1_0 : Int) (x1_1 : Int) (x1_2 : Int) (σ : AMem) : RV1 :=
  allocK σ (.cells [.int .i64 x1_0, .int .i64 x1_1, .int .i64 x1_2] ty_api_Place true) fun h1 s2 => (ldI .i64 s2 h1 (0 + 0)).bind fun n3 => (bif n3 == (0 : Int) then (ldI .i64 s2 h1 (0 + 1)).bind fun n4 => some (decide (n4 ≥ (0 : Int)), s2) else some (false, s2)).bind fun r5 => (bif r5.1 then (ldI .i64 r5.2 h1 (0 + 1)).bind fun n6 => x0.bind fun a7 => (ldI .i64 r5.2 a7.block (a7.off + 0)).bind fun n8 => some (decide (n6 < n8), r5.2) else some (false, r5.2)).bind fun r9 => bif r9.1 then (x0.bind fun a10 => (ldS r9.2 a10.block (a10.off + 1)).bind fun l11 => (ldI .i64 r9.2 h1 (0 + 1)).bind fun n12 => (ldI .i64 r9.2 h1 (0 + 1)).bind fun n13 => (sliceD ty_int 1 (l11.1, l11.2.1, l11.2.2) (some (.int .i64 (w64 (n12 * (16 : Int))))) (some (.int .i64 (w64 ((w64 (n13 + (1 : Int))) * (16 : Int))))) none r9.2).bind fun l14 => (roots_Roots_at_c1 (l14.1, l14.2.1, l14.2.2) (some ⟨h1, 0, none⟩) r9.2).bind fun r15 => (toP r15.1).bind fun p16 => some (.pointer p16, r15.2)) else ((ldI .i64 r9.2 h1 (0 + 0)).bind fun n17 => (bif n17 == (1 : Int) then (ldI .i64 r9.2 h1 (0 + 1)).bind fun n18 => some (n18 == (0 : Int), r9.2) else some (false, r9.2)).bind fun r19 => bif r19.1 then (x0.bind fun a20 => (ldS r19.2 a20.block (a20.off + 2)).bind fun l21 => (roots_Roots_at_c1 (l21.1, l21.2.1, l21.2.2) (some ⟨h1, 0, none⟩) r19.2).bind fun r22 => (toP r22.1).bind fun p23 => some (.pointer p23, r22.2)) else ((ldI .i64 r19.2 h1 (0 + 0)).bind fun n24 => (bif n24 == (2 : Int) then (ldI .i64 r19.2 h1 (0 + 1)).bind fun n25 => some (n25 == (0 : Int), r19.2) else some (false, r19.2)).bind fun r26 => bif r26.1 then (x0.bind fun a27 => (ldS r26.2 a27.block (a27.off + 3)).bind fun l28 => (roots_Roots_at_c1 (l28.1, l28.2.1, l28.2.2) (some ⟨h1, 0, none⟩) r26.2).bind fun r29 => (toP r29.1).bind fun p30 => some (.pointer p30, r29.2)) else (some (.pointer none, r26.2))))

noncomputable def b_side_Table_Swap (k : Nat) (side_Table_check : T_pil) (side_Table_get : T_pi) (side_Table_put : T_pii) (x0 : Option Addr) (x1 : Int) (x2 : Int) (x3 : Int) (σ : AMem) : RV1 :=
  allocK σ (.cells [.int .i64 x2, .int .i64 x3] ty_int true) fun h1 s2 => (side_Table_check x0 x1 (some ⟨h1, 0, none⟩, 2, 2) s2).bind fun r3 => (toI .i64 r3.1).bind fun n4 => bif n4 != (0 : Int) then (some (.tuple #[.bool false, .int .i64 n4], r3.2)) else ((side_Table_get x0 x1 r3.2).bind fun r5 => (toI .i64 r5.1).bind fun n6 => bif n6 != x2 then (some (.tuple #[.bool false, .int .i64 (0 : Int)], r5.2)) else ((side_Table_put x0 x1 x3 r5.2).bind fun r7 => r_0 r7.1 (some (.tuple #[.bool true, .int .i64 (0 : Int)], r7.2))))

noncomputable def b___trace_line_int__newest (k : Nat)  (x0 : Option Addr) (σ : AMem) : RV1 :=
  x0.bind fun a1 => (ldS σ a1.block (a1.off + 0)).bind fun l2 => x0.bind fun a3 => (ldS σ a3.block (a3.off + 0)).bind fun l4 => if 0 ≤ (w64 (((l4.2.1 : Nat) : Int) - (1 : Int))) ∧ (w64 (((l4.2.1 : Nat) : Int) - (1 : Int))) < (l2.2.1 : Nat) then l2.1.bind fun a5 => (ldI .i64 σ a5.block (a5.off + (w64 (((l4.2.1 : Nat) : Int) - (1 : Int))).toNat * 1)).bind fun n6 => x0.bind fun a7 => (ldS σ a7.block (a7.off + 0)).bind fun l8 => x0.bind fun a9 => (ldS σ a9.block (a9.off + 0)).bind fun l10 => (sliceD ty_int 1 (l8.1, l8.2.1, l8.2.2) none (some (.int .i64 (w64 (((l10.2.1 : Nat) : Int) - (1 : Int))))) none σ).bind fun l11 => x0.bind fun a12 => (st1 σ a12.block (a12.off + 0) (.slice l11.1 l11.2.1 l11.2.2)).bind fun s13 => some (.int .i64 n6, s13) else none

noncomputable def b_slices_IndexFunc_int_l0 (k n : Nat) (callV_i_t : TV) (slices_IndexFunc_int_l0 : L_pnnvii) (p0 : Option Addr) (c1 : Nat) (c2 : Nat) (v3 : Value) (i4 : Int) (x8 : Int) (σ : AMem) : Option LOut :=
  bif decide (x8 < i4) then (if 0 ≤ x8 ∧ x8 < (c1 : Nat) then p0.bind fun a1 => (ldI .i64 σ a1.block (a1.off + x8.toNat * 1)).bind fun n2 => (callV_i_t v3 [.int .i64 n2] σ).bind fun r3 => (toB r3.1).bind fun b4 => bif b4 then (some (.ret, [.int .i64 x8], r3.2)) else (slices_IndexFunc_int_l0 n p0 c1 c2 v3 i4 (w64 (x8 + (1 : Int))) r3.2) else none) else (some (.exit 0, [], σ))

noncomputable def b_slices_IndexFunc_int (k : Nat) (slices_IndexFunc_int_l0 : L_pnnvii) (x0 : Option Addr × Nat × Nat) (x1 : Value) (σ : AMem) : RV1 :=
  (slices_IndexFunc_int_l0 k x0.1 x0.2.1 x0.2.2 x1 ((x0.2.1 : Nat) : Int) (0 : Int) σ).bind fun r5 => if r5.1 = .exit 0 then (some (.int .i64 (-1 : Int), r5.2.2)) else if r5.1 = .ret then (u_i r5.2.1 fun n6 => some (.int .i64 n6, r5.2.2)) else none

noncomputable def b_side_Table_there (k : Nat) (side_Table_made : T_p) (x0 : Option Addr) (x1 : Int) (σ : AMem) : RV1 :=
  (side_Table_made x0 σ).bind fun r1 => (toB r1.1).bind fun b2 => (bif b2 then some (decide (x1 ≥ (0 : Int)), r1.2) else some (false, r1.2)).bind fun r3 => (bif r3.1 then x0.bind fun a4 => (ldI .i64 r3.2 a4.block (a4.off + 0)).bind fun n5 => some (decide (x1 < n5), r3.2) else some (false, r3.2)).bind fun r6 => some (.bool r6.1, r6.2)

noncomputable def b_side_Table_get (k : Nat) (side_Table_most : T_p) (x0 : Option Addr) (x1 : Int) (σ : AMem) : RV1 :=
  x0.bind fun a1 => (ldI .i64 σ a1.block (a1.off + 1)).bind fun n2 => x0.bind fun a3 => (ldS σ a3.block (a3.off + 2)).bind fun l4 => if (64 : Int) = 0 then none else if 0 ≤ (w64 ((w64 (x1 * n2)).tdiv (64 : Int))) ∧ (w64 ((w64 (x1 * n2)).tdiv (64 : Int))) < (l4.2.1 : Nat) then l4.1.bind fun a5 => (ldI .u64 σ a5.block (a5.off + (w64 ((w64 (x1 * n2)).tdiv (64 : Int))).toNat * 1)).bind fun n6 => if (64 : Int) = 0 then none else if ((w64 (x1 * n2)).tmod (64 : Int)) < 0 then none else (side_Table_most x0 σ).bind fun r7 => (toI .i64 r7.1).bind fun n8 => some (.int .i64 (w64 ((BitVec.ofInt 64 (w64 (n6.fdiv (2 ^ (min ((w64 (x1 * n2)).tmod (64 : Int)).toNat 64)))) &&& BitVec.ofInt 64 n8).toNat)), r7.2) else none

noncomputable def b_side_Table_Next_l0 (k n : Nat) (side_Table_Next_l0 : L_pii) (side_Table_get : T_pi) (p0 : Option Addr) (i1 : Int) (x8 : Int) (σ : AMem) : Option LOut :=
  p0.bind fun a3 => (ldI .i64 σ a3.block (a3.off + 0)).bind fun n4 => bif decide (x8 < n4) then ((side_Table_get p0 x8 σ).bind fun r5 => (toI .i64 r5.1).bind fun n6 => bif n6 == i1 then (some (.ret, [.int .i64 x8, .int .i64 (0 : Int)], r5.2)) else (side_Table_Next_l0 n p0 i1 (w64 (x8 + (1 : Int))) r5.2)) else (some (.exit 0, [], σ))

noncomputable def b_side_Table_Next (k : Nat) (side_Table_Next_l0 : L_pii) (side_Table_made : T_p) (x0 : Option Addr) (x1 : Int) (x2 : Int) (σ : AMem) : RV1 :=
  (side_Table_made x0 σ).bind fun r1 => (toB r1.1).bind fun b2 => bif !b2 then (some (.tuple #[.int .i64 (0 : Int), .int .i64 (5 : Int)], r1.2)) else ((side_Table_Next_l0 k x0 x2 (if (0 : Int) > x1 then (0 : Int) else x1) r1.2).bind fun r7 => if r7.1 = .exit 0 then (some (.tuple #[.int .i64 (0 : Int), .int .i64 (4 : Int)], r7.2.2)) else if r7.1 = .ret then (u_ii r7.2.1 fun n8 n9 => some (.tuple #[.int .i64 n8, .int .i64 n9], r7.2.2)) else none)

noncomputable def b_heap_Heap_Gaps_l0 (k n : Nat) (heap_Heap_Gaps_c1 : T_ipp) (heap_Heap_Gaps_l0 : L_pnnpnnii) (heap_Heap_size : T_pi) (p0 : Option Addr) (h1 : Nat) (h2 : Nat) (p3 : Option Addr) (c4 : Nat) (c5 : Nat) (i6 : Int) (x21 : Int) (σ : AMem) : Option LOut :=
  bif decide (x21 < i6) then (if 0 ≤ x21 ∧ x21 < (c4 : Nat) then p3.bind fun a10 => (ldI .i64 σ a10.block (a10.off + x21.toNat * 1)).bind fun n11 => (heap_Heap_Gaps_c1 n11 (some ⟨h1, 0, none⟩) (some ⟨h2, 0, none⟩) σ).bind fun r12 => r_0 r12.1 ((heap_Heap_size p0 n11 r12.2).bind fun r13 => (toI .i64 r13.1).bind fun n14 => (st1 r13.2 h1 0 (.int .i64 (w64 (n11 + n14)))).bind fun s15 => heap_Heap_Gaps_l0 n p0 h1 h2 p3 c4 c5 i6 (w64 (x21 + (1 : Int))) s15) else none) else (some (.exit 0, [], σ))

noncomputable def b_heap_Heap_Gaps (k : Nat) (heap_Heap_Gaps_c1 : T_ipp) (heap_Heap_Gaps_l0 : L_pnnpnnii) (heap_Heap_Objects : T_pi) (heap_Heap_used : T_pi) (x0 : Option Addr) (x1 : Int) (σ : AMem) : RV1 :=
  (heap_Heap_used x0 x1 σ).bind fun r1 => (toB r1.1).bind fun b2 => bif !b2 then (some (.slice none 0 0, r1.2)) else (allocK r1.2 (.cells [.slice none 0 0] sl_api_Run true) fun h3 s4 => allocK s4 (.cells [.int .i64 (0 : Int)] ty_int true) fun h5 s6 => (st1 s6 h5 0 (.int .i64 (w64 (x1 * (64 : Int))))).bind fun s7 => (heap_Heap_Objects x0 x1 s7).bind fun r8 => (toS r8.1).bind fun l9 => (heap_Heap_Gaps_l0 k x0 h5 h3 l9.1 l9.2.1 l9.2.2 ((l9.2.1 : Nat) : Int) (0 : Int) r8.2).bind fun r16 => if r16.1 = .exit 0 then ((heap_Heap_Gaps_c1 (w64 ((w64 (x1 + (1 : Int))) * (64 : Int))) (some ⟨h5, 0, none⟩) (some ⟨h3, 0, none⟩) r16.2.2).bind fun r17 => r_0 r17.1 ((ldS r17.2 h3 0).bind fun l18 => some (.slice l18.1 l18.2.1 l18.2.2, r17.2))) else none)

noncomputable def b_side_Table_check (k : Nat) (side_Table_made : T_p) (side_Table_there : T_pi) (slices_ContainsFunc_int : T_lv) (x0 : Option Addr) (x1 : Int) (x2 : Option Addr × Nat × Nat) (σ : AMem) : RV1 :=
  allocK σ (.cells [.pointer x0] pt_side_Table true) fun h1 s2 => (ldP s2 h1 0).bind fun p3 => (side_Table_made p3 s2).bind fun r4 => (toB r4.1).bind fun b5 => bif !b5 then (some (.int .i64 (5 : Int), r4.2)) else ((ldP r4.2 h1 0).bind fun p6 => (side_Table_there p6 x1 r4.2).bind fun r7 => (toB r7.1).bind fun b8 => (bif !b8 then some (true, r7.2) else (slices_ContainsFunc_int (x2.1, x2.2.1, x2.2.2) (.func (.func 237) #[] #[.pointer (some ⟨h1, 0, none⟩)]) r7.2).bind fun r9 => (toB r9.1).bind fun b10 => some (b10, r9.2)).bind fun r11 => bif r11.1 then (some (.int .i64 (1 : Int), r11.2)) else (some (.int .i64 (0 : Int), r11.2)))

noncomputable def b_side_Table_put (k : Nat) (side_Table_most : T_p) (x0 : Option Addr) (x1 : Int) (x2 : Int) (σ : AMem) : RV1 :=
  x0.bind fun a1 => (ldI .i64 σ a1.block (a1.off + 1)).bind fun n2 => x0.bind fun a3 => (ldS σ a3.block (a3.off + 2)).bind fun l4 => if (64 : Int) = 0 then none else if 0 ≤ (w64 ((w64 (x1 * n2)).tdiv (64 : Int))) ∧ (w64 ((w64 (x1 * n2)).tdiv (64 : Int))) < (l4.2.1 : Nat) then l4.1.bind fun a5 => (ldI .u64 σ a5.block (a5.off + (w64 ((w64 (x1 * n2)).tdiv (64 : Int))).toNat * 1)).bind fun n6 => (side_Table_most x0 σ).bind fun r7 => (toI .i64 r7.1).bind fun n8 => if (64 : Int) = 0 then none else if ((w64 (x1 * n2)).tmod (64 : Int)) < 0 then none else if (64 : Int) = 0 then none else if ((w64 (x1 * n2)).tmod (64 : Int)) < 0 then none else (st1 r7.2 a5.block (a5.off + (w64 ((w64 (x1 * n2)).tdiv (64 : Int))).toNat * 1) (.int .u64 (u64 ((BitVec.ofInt 64 (u64 ((BitVec.ofInt 64 n6 &&& ~~~ (BitVec.ofInt 64 (u64 ((u64 (n8)) * 2 ^ (min ((w64 (x1 * n2)).tmod (64 : Int)).toNat 64))))).toNat)) ||| BitVec.ofInt 64 (u64 ((u64 (x2)) * 2 ^ (min ((w64 (x1 * n2)).tmod (64 : Int)).toNat 64)))).toNat)))).bind fun s9 => some (.tuple #[], s9) else none

noncomputable def b_heap_Heap_ClaimLarge (k : Nat) (heap_Heap_claim : T_piiiiii) (x0 : Option Addr) (x1 : Int) (x2 : Int) (x3 : Int) (σ : AMem) : RV1 :=
  (heap_Heap_claim x0 x1 x2 (2 : Int) x3 (3 : Int) x3 σ).bind fun r1 => (toI .i64 r1.1).bind fun n2 => some (.int .i64 n2, r1.2)

noncomputable def b_heap_Heap_fits_l0 (k n : Nat) (heap_Heap_Find : T_pi) (heap_Heap_fits_l0 : L_piiii) (p0 : Option Addr) (i1 : Int) (i2 : Int) (i3 : Int) (x10 : Int) (σ : AMem) : Option LOut :=
  bif decide (x10 < (w64 (i1 + i2))) then ((heap_Heap_Find p0 x10 σ).bind fun r19 => r_ii r19.1 fun n20 n21 => (bif n21 == (0 : Int) then some (n20 != i3, r19.2) else some (false, r19.2)).bind fun r22 => bif r22.1 then (some (.ret, [.int .i64 (8 : Int)], r22.2)) else (heap_Heap_fits_l0 n p0 i1 i2 i3 (w64 (x10 + (2 : Int))) r22.2)) else (some (.exit 0, [], σ))

noncomputable def b_heap_Heap_fits (k : Nat) (heap_Heap_fits_l0 : L_piiii) (heap_Heap_span : T_pi) (x0 : Option Addr) (x1 : Int) (x2 : Int) (x3 : Int) (σ : AMem) : RV1 :=
  (bif decide (x1 < (0 : Int)) then some (true, σ) else x0.bind fun a1 => (ldS σ a1.block (a1.off + 1)).bind fun l2 => some (decide (x1 ≥ ((l2.2.1 : Nat) : Int)), σ)).bind fun r3 => (bif r3.1 then some (true, r3.2) else if (2 : Int) = 0 then none else some ((x1.tmod (2 : Int)) != (0 : Int), r3.2)).bind fun r4 => bif r4.1 then (some (.int .i64 (1 : Int), r4.2)) else (if (64 : Int) = 0 then none else (bif decide (x2 ≤ (32 : Int)) then (x0.bind fun a5 => (ldS r4.2 a5.block (a5.off + 0)).bind fun l6 => if 0 ≤ (w64 (x1.tdiv (64 : Int))) ∧ (w64 (x1.tdiv (64 : Int))) < (l6.2.1 : Nat) then l6.1.bind fun a7 => (ldI .i64 r4.2 a7.block (a7.off + (w64 (x1.tdiv (64 : Int))).toNat * 2 + 0)).bind fun n8 => (bif n8 != (1 : Int) then some (true, r4.2) else if (64 : Int) = 0 then none else some ((w64 ((w64 ((w64 (x1 + x2)) - (1 : Int))).tdiv (64 : Int))) != (w64 (x1.tdiv (64 : Int))), r4.2)).bind fun r9 => bif r9.1 then (some (.ret, [.int .i64 (5 : Int)], r9.2)) else (some (.normal, [], r9.2)) else none) else (x0.bind fun a10 => (ldS r4.2 a10.block (a10.off + 0)).bind fun l11 => if 0 ≤ (w64 (x1.tdiv (64 : Int))) ∧ (w64 (x1.tdiv (64 : Int))) < (l11.2.1 : Nat) then l11.1.bind fun a12 => (ldI .i64 r4.2 a12.block (a12.off + (w64 (x1.tdiv (64 : Int))).toNat * 2 + 0)).bind fun n13 => (bif n13 != (2 : Int) then some (true, r4.2) else if (64 : Int) = 0 then none else some ((x1.tmod (64 : Int)) != (0 : Int), r4.2)).bind fun r14 => (bif r14.1 then some (true, r14.2) else (heap_Heap_span x0 (w64 (x1.tdiv (64 : Int))) r14.2).bind fun r15 => (toI .i64 r15.1).bind fun n16 => if (64 : Int) = 0 then none else some (n16 != (w64 ((w64 ((w64 (x2 + (64 : Int))) - (1 : Int))).tdiv (64 : Int))), r15.2)).bind fun r17 => bif r17.1 then (some (.ret, [.int .i64 (5 : Int)], r17.2)) else (some (.normal, [], r17.2)) else none) : Option LOut).bind fun r18 => if r18.1 = .normal then ((heap_Heap_fits_l0 k x0 x1 x2 x3 x1 r18.2.2).bind fun r23 => if r23.1 = .exit 0 then (some (.int .i64 (0 : Int), r23.2.2)) else if r23.1 = .ret then (u_i r23.2.1 fun n24 => some (.int .i64 n24, r23.2.2)) else none) else if r18.1 = .ret then (u_i r18.2.1 fun n25 => some (.int .i64 n25, r18.2.2)) else none)

noncomputable def b_heap_number (k : Nat)  (x0_0 : Int) (x0_1 : Int) (x0_2 : Int) (σ : AMem) : RV1 :=
  allocK σ (.cells [.int .i64 x0_0, .int .i64 x0_1, .int .i64 x0_2] ty_api_Shape true) fun h1 s2 => (ldI .i64 s2 h1 (0 + 0)).bind fun n3 => (ldI .i64 s2 h1 (0 + 1)).bind fun n4 => (ldI .i64 s2 h1 (0 + 2)).bind fun n5 => some (.int .i64 (w64 ((w64 (n3 + (w64 ((16 : Int) * n4)))) + (w64 ((4096 : Int) * n5)))), s2)

noncomputable def b_heap_Heap_span_l0 (k n : Nat) (heap_Heap_span_l0 : L_pii) (p0 : Option Addr) (i1 : Int) (x5 : Int) (σ : AMem) : Option LOut :=
  p0.bind fun a1 => (ldS σ a1.block (a1.off + 0)).bind fun l2 => if 0 ≤ i1 ∧ i1 < (l2.2.1 : Nat) then l2.1.bind fun a3 => (ldI .i64 σ a3.block (a3.off + i1.toNat * 2 + 0)).bind fun n4 => (bif n4 == (2 : Int) then p0.bind fun a5 => (ldS σ a5.block (a5.off + 0)).bind fun l6 => some (decide ((w64 (i1 + x5)) < ((l6.2.1 : Nat) : Int)), σ) else some (false, σ)).bind fun r7 => (bif r7.1 then p0.bind fun a8 => (ldS r7.2 a8.block (a8.off + 0)).bind fun l9 => if 0 ≤ (w64 (i1 + x5)) ∧ (w64 (i1 + x5)) < (l9.2.1 : Nat) then l9.1.bind fun a10 => (ldI .i64 r7.2 a10.block (a10.off + (w64 (i1 + x5)).toNat * 2 + 0)).bind fun n11 => some (n11 == (3 : Int), r7.2) else none else some (false, r7.2)).bind fun r12 => bif r12.1 then (heap_Heap_span_l0 n p0 i1 (w64 (x5 + (1 : Int))) r12.2) else (some (.exit 0, [.int .i64 x5], r12.2)) else none

noncomputable def b_heap_Heap_span (k : Nat) (heap_Heap_span_l0 : L_pii) (x0 : Option Addr) (x1 : Int) (σ : AMem) : RV1 :=
  (heap_Heap_span_l0 k x0 x1 (1 : Int) σ).bind fun r13 => if r13.1 = .exit 0 then (u_i r13.2.1 fun n14 => some (.int .i64 n14, r13.2.2)) else none

noncomputable def b_roots_Roots_at_c1 (k : Nat)  (x0 : Option Addr × Nat × Nat) (c0 : Option Addr) (σ : AMem) : RV1 :=
  c0.bind fun a1 => (ldI .i64 σ a1.block (a1.off + 2)).bind fun n2 => (bif decide (n2 < (0 : Int)) then some (true, σ) else c0.bind fun a3 => (ldI .i64 σ a3.block (a3.off + 2)).bind fun n4 => some (decide (n4 ≥ ((x0.2.1 : Nat) : Int)), σ)).bind fun r5 => bif r5.1 then (some (.pointer none, r5.2)) else (c0.bind fun a6 => (ldI .i64 r5.2 a6.block (a6.off + 2)).bind fun n7 => if 0 ≤ n7 ∧ n7 < (x0.2.1 : Nat) then x0.1.bind fun a8 => some (.pointer (some ⟨a8.block, a8.off + n7.toNat * 1, none⟩), r5.2) else none)

noncomputable def b_side_Table_most (k : Nat)  (x0 : Option Addr) (σ : AMem) : RV1 :=
  x0.bind fun a1 => (ldI .i64 σ a1.block (a1.off + 1)).bind fun n2 => if n2 < 0 then none else some (.int .i64 (w64 ((w64 ((1 : Int) * 2 ^ (min n2.toNat 64))) - (1 : Int))), σ)

noncomputable def b_heap_Heap_used (k : Nat) (heap_Heap_there : T_pi) (x0 : Option Addr) (x1 : Int) (σ : AMem) : RV1 :=
  (heap_Heap_there x0 x1 σ).bind fun r1 => (toB r1.1).bind fun b2 => (bif b2 then x0.bind fun a3 => (ldS r1.2 a3.block (a3.off + 0)).bind fun l4 => if 0 ≤ x1 ∧ x1 < (l4.2.1 : Nat) then l4.1.bind fun a5 => (ldI .i64 r1.2 a5.block (a5.off + x1.toNat * 2 + 0)).bind fun n6 => some (n6 == (1 : Int), r1.2) else none else some (false, r1.2)).bind fun r7 => some (.bool r7.1, r7.2)

noncomputable def b_heap_Heap_Gaps_c1 (k : Nat)  (x0 : Int) (c0 : Option Addr) (c1 : Option Addr) (σ : AMem) : RV1 :=
  c0.bind fun a1 => (ldI .i64 σ a1.block a1.off).bind fun n2 => (bif decide (x0 > n2) then (c1.bind fun a3 => (ldS σ a3.block a3.off).bind fun l4 => c0.bind fun a5 => (ldI .i64 σ a5.block a5.off).bind fun n6 => c0.bind fun a7 => (ldI .i64 σ a7.block a7.off).bind fun n8 => allocK σ (.cells [.int .i64 n6, .int .i64 (w64 (x0 - n8))] ty_api_Run true) fun h9 s10 => (appendD P ty_api_Run (l4.1, l4.2.1, l4.2.2) (some ⟨h9, 0, none⟩, 1, 1) s10).bind fun r11 => c1.bind fun a12 => (st1 r11.2 a12.block a12.off (.slice r11.1.1 r11.1.2.1 r11.1.2.2)).bind fun s13 => some (.normal, [], s13)) else (some (.normal, [], σ)) : Option LOut).bind fun r14 => if r14.1 = .normal then (some (.tuple #[], r14.2.2)) else none

noncomputable def b_side_Table_check_c1 (k : Nat) (side_Table_value : T_pi) (x0 : Int) (c0 : Option Addr) (σ : AMem) : RV1 :=
  c0.bind fun a1 => (ldP σ a1.block a1.off).bind fun p2 => (side_Table_value p2 x0 σ).bind fun r3 => (toB r3.1).bind fun b4 => some (.bool (!b4), r3.2)

noncomputable def b_side_Table_value (k : Nat) (side_Table_most : T_p) (x0 : Option Addr) (x1 : Int) (σ : AMem) : RV1 :=
  (bif decide (x1 ≥ (0 : Int)) then (side_Table_most x0 σ).bind fun r1 => (toI .i64 r1.1).bind fun n2 => some (decide (x1 ≤ n2), r1.2) else some (false, σ)).bind fun r3 => some (.bool r3.1, r3.2)

noncomputable def b_heap_Heap_claim_l0 (k n : Nat) (heap_Heap_claim_l0 : L_pinii) (p0 : Option Addr) (i1 : Int) (h2 : Nat) (i3 : Int) (x54 : Int) (σ : AMem) : Option LOut :=
  bif decide (x54 < i3) then (p0.bind fun a22 => (ldS σ a22.block (a22.off + 0)).bind fun l23 => (ldI .i64 σ h2 0).bind fun n24 => (ldI .i64 σ h2 (0 + 1)).bind fun n25 => if 0 ≤ (w64 (i1 + x54)) ∧ (w64 (i1 + x54)) < (l23.2.1 : Nat) then l23.1.bind fun a26 => (stN σ a26.block (a26.off + (w64 (i1 + x54)).toNat * 2) [.int .i64 n24, .int .i64 n25]).bind fun s27 => heap_Heap_claim_l0 n p0 i1 h2 i3 (w64 (x54 + (1 : Int))) s27 else none) else (some (.exit 1, [], σ))

noncomputable def b_heap_Heap_claim (k : Nat) (heap_Heap_claim_l0 : L_pinii) (heap_Heap_made : T_p) (heap_Heap_there : T_pi) (heap_space : T_i) (slices_ContainsFunc_heap_block : T_lv) (x0 : Option Addr) (x1 : Int) (x2 : Int) (x3_0 : Int) (x3_1 : Int) (x4_0 : Int) (x4_1 : Int) (σ : AMem) : RV1 :=
  allocK σ (.cells [.int .i64 x3_0, .int .i64 x3_1] ty_heap_block true) fun h1 s2 => allocK s2 (.cells [.int .i64 x4_0, .int .i64 x4_1] ty_heap_block true) fun h3 s4 => (heap_Heap_made x0 s4).bind fun r5 => (toB r5.1).bind fun b6 => bif !b6 then (some (.int .i64 (5 : Int), r5.2)) else ((heap_Heap_there x0 x1 r5.2).bind fun r7 => (toB r7.1).bind fun b8 => (bif !b8 then some (true, r7.2) else some (decide (x2 < (1 : Int)), r7.2)).bind fun r9 => (bif r9.1 then some (true, r9.2) else x0.bind fun a10 => (ldS r9.2 a10.block (a10.off + 0)).bind fun l11 => some (decide (x2 > (w64 (((l11.2.1 : Nat) : Int) - x1))), r9.2)).bind fun r12 => (bif r12.1 then some (true, r12.2) else (ldI .i64 r12.2 h1 (0 + 1)).bind fun n13 => (heap_space n13 r12.2).bind fun r14 => (toB r14.1).bind fun b15 => some (!b15, r14.2)).bind fun r16 => bif r16.1 then (some (.int .i64 (1 : Int), r16.2)) else (x0.bind fun a17 => (ldS r16.2 a17.block (a17.off + 0)).bind fun l18 => (sliceD ty_heap_block 2 (l18.1, l18.2.1, l18.2.2) (some (.int .i64 x1)) (some (.int .i64 (w64 (x1 + x2)))) none r16.2).bind fun l19 => (slices_ContainsFunc_heap_block (l19.1, l19.2.1, l19.2.2) (.func (.func 252) #[] #[]) r16.2).bind fun r20 => (toB r20.1).bind fun b21 => bif b21 then (some (.int .i64 (8 : Int), r20.2)) else ((heap_Heap_claim_l0 k x0 x1 h3 x2 (0 : Int) r20.2).bind fun r28 => if r28.1 = .exit 1 then (x0.bind fun a29 => (ldS r28.2.2 a29.block (a29.off + 0)).bind fun l30 => (ldI .i64 r28.2.2 h1 0).bind fun n31 => (ldI .i64 r28.2.2 h1 (0 + 1)).bind fun n32 => if 0 ≤ x1 ∧ x1 < (l30.2.1 : Nat) then l30.1.bind fun a33 => (stN r28.2.2 a33.block (a33.off + x1.toNat * 2) [.int .i64 n31, .int .i64 n32]).bind fun s34 => some (.int .i64 (0 : Int), s34) else none) else none)))

noncomputable def b_heap_Heap_Find (k : Nat) (heap_Heap_made : T_p) (heap_Heap_size : T_pi) (side_Table_Last : T_pii) (x0 : Option Addr) (x1 : Int) (σ : AMem) : RV1 :=
  (heap_Heap_made x0 σ).bind fun r1 => (toB r1.1).bind fun b2 => bif !b2 then (some (.tuple #[.int .i64 (0 : Int), .int .i64 (5 : Int)], r1.2)) else ((bif decide (x1 < (0 : Int)) then some (true, r1.2) else x0.bind fun a3 => (ldS r1.2 a3.block (a3.off + 1)).bind fun l4 => some (decide (x1 ≥ ((l4.2.1 : Nat) : Int)), r1.2)).bind fun r5 => bif r5.1 then (some (.tuple #[.int .i64 (0 : Int), .int .i64 (4 : Int)], r5.2)) else (x0.bind fun a6 => (ldP r5.2 a6.block (a6.off + 2)).bind fun p7 => if (2 : Int) = 0 then none else (side_Table_Last p7 (w64 ((w64 (x1.tdiv (2 : Int))) + (1 : Int))) (1 : Int) r5.2).bind fun r8 => r_ii r8.1 fun n9 n10 => (bif n10 != (0 : Int) then some (true, r8.2) else (heap_Heap_size x0 (w64 ((2 : Int) * n9)) r8.2).bind fun r11 => (toI .i64 r11.1).bind fun n12 => some (decide (x1 ≥ (w64 ((w64 ((2 : Int) * n9)) + n12))), r11.2)).bind fun r13 => bif r13.1 then (some (.tuple #[.int .i64 (0 : Int), .int .i64 (4 : Int)], r13.2)) else (some (.tuple #[.int .i64 (w64 ((2 : Int) * n9)), .int .i64 (0 : Int)], r13.2))))

noncomputable def b_heap_Heap_there (k : Nat) (heap_Heap_made : T_p) (x0 : Option Addr) (x1 : Int) (σ : AMem) : RV1 :=
  (heap_Heap_made x0 σ).bind fun r1 => (toB r1.1).bind fun b2 => (bif b2 then some (decide (x1 ≥ (1 : Int)), r1.2) else some (false, r1.2)).bind fun r3 => (bif r3.1 then x0.bind fun a4 => (ldS r3.2 a4.block (a4.off + 0)).bind fun l5 => some (decide (x1 < ((l5.2.1 : Nat) : Int)), r3.2) else some (false, r3.2)).bind fun r6 => some (.bool r6.1, r6.2)

noncomputable def b_heap_space (k : Nat)  (x0 : Int) (σ : AMem) : RV1 :=
  (bif decide (x0 ≥ (0 : Int)) then some (decide (x0 < (8 : Int)), σ) else some (false, σ)).bind fun r1 => some (.bool r1.1, r1.2)

noncomputable def b_slices_ContainsFunc_heap_block (k : Nat) (slices_IndexFunc_heap_block : T_lv) (x0 : Option Addr × Nat × Nat) (x1 : Value) (σ : AMem) : RV1 :=
  (slices_IndexFunc_heap_block (x0.1, x0.2.1, x0.2.2) (x1) σ).bind fun r1 => (toI .i64 r1.1).bind fun n2 => some (.bool (decide (n2 ≥ (0 : Int))), r1.2)

noncomputable def b_heap_Heap_claim_c1 (k : Nat)  (x0_0 : Int) (x0_1 : Int) (σ : AMem) : RV1 :=
  allocK σ (.cells [.int .i64 x0_0, .int .i64 x0_1] ty_heap_block true) fun h1 s2 => (ldI .i64 s2 h1 0).bind fun n3 => (ldI .i64 s2 h1 (0 + 1)).bind fun n4 => (eqA P ty_heap_block (.agg #[.int .i64 n3, .int .i64 n4]) (.agg #[.int .i64 (0 : Int), .int .i64 (0 : Int)])).bind fun e5 => some (.bool (!e5), s2)

noncomputable def b_side_Table_Last_l0 (k n : Nat) (side_Table_Last_l0 : L_pii) (side_Table_get : T_pi) (p0 : Option Addr) (i1 : Int) (x8 : Int) (σ : AMem) : Option LOut :=
  bif decide (x8 ≥ (0 : Int)) then ((side_Table_get p0 x8 σ).bind fun r5 => (toI .i64 r5.1).bind fun n6 => bif n6 == i1 then (some (.ret, [.int .i64 x8, .int .i64 (0 : Int)], r5.2)) else (side_Table_Last_l0 n p0 i1 (w64 (x8 - (1 : Int))) r5.2)) else (some (.exit 0, [], σ))

noncomputable def b_side_Table_Last (k : Nat) (side_Table_Last_l0 : L_pii) (side_Table_made : T_p) (x0 : Option Addr) (x1 : Int) (x2 : Int) (σ : AMem) : RV1 :=
  (side_Table_made x0 σ).bind fun r1 => (toB r1.1).bind fun b2 => bif !b2 then (some (.tuple #[.int .i64 (0 : Int), .int .i64 (5 : Int)], r1.2)) else (x0.bind fun a3 => (ldI .i64 r1.2 a3.block (a3.off + 0)).bind fun n4 => (side_Table_Last_l0 k x0 x2 (w64 ((if n4 < (if (0 : Int) > x1 then (0 : Int) else x1) then n4 else (if (0 : Int) > x1 then (0 : Int) else x1)) - (1 : Int))) r1.2).bind fun r7 => if r7.1 = .exit 0 then (some (.tuple #[.int .i64 (0 : Int), .int .i64 (4 : Int)], r7.2.2)) else if r7.1 = .ret then (u_ii r7.2.1 fun n8 n9 => some (.tuple #[.int .i64 n8, .int .i64 n9], r7.2.2)) else none)

noncomputable def b_slices_IndexFunc_heap_block_l0 (k n : Nat) (callV_ii_t : TV) (slices_IndexFunc_heap_block_l0 : L_pnnvii) (p0 : Option Addr) (c1 : Nat) (c2 : Nat) (v3 : Value) (i4 : Int) (x8 : Int) (σ : AMem) : Option LOut :=
  bif decide (x8 < i4) then (if 0 ≤ x8 ∧ x8 < (c1 : Nat) then p0.bind fun a1 => (ldI .i64 σ a1.block (a1.off + x8.toNat * 2)).bind fun n2 => (ldI .i64 σ a1.block (a1.off + x8.toNat * 2 + 1)).bind fun n3 => (callV_ii_t v3 [.agg #[.int .i64 n2, .int .i64 n3]] σ).bind fun r4 => (toB r4.1).bind fun b5 => bif b5 then (some (.ret, [.int .i64 x8], r4.2)) else (slices_IndexFunc_heap_block_l0 n p0 c1 c2 v3 i4 (w64 (x8 + (1 : Int))) r4.2) else none) else (some (.exit 0, [], σ))

noncomputable def b_slices_IndexFunc_heap_block (k : Nat) (slices_IndexFunc_heap_block_l0 : L_pnnvii) (x0 : Option Addr × Nat × Nat) (x1 : Value) (σ : AMem) : RV1 :=
  (slices_IndexFunc_heap_block_l0 k x0.1 x0.2.1 x0.2.2 x1 ((x0.2.1 : Nat) : Int) (0 : Int) σ).bind fun r6 => if r6.1 = .exit 0 then (some (.int .i64 (-1 : Int), r6.2.2)) else if r6.1 = .ret then (u_i r6.2.1 fun n7 => some (.int .i64 n7, r6.2.2)) else none

noncomputable def b_alloc_first_place (k : Nat) (alloc_Allocator_gaps : T_pii) (alloc_Allocator_start : T_pl) (x1 : Option Addr) (x2 : Int) (σ : AMem) : RV1 :=
  allocK σ (.cells [] ty_alloc_first true) fun h1 s2 => (alloc_Allocator_gaps x1 (0 : Int) x2 s2).bind fun r3 => (toS r3.1).bind fun l4 => (alloc_Allocator_start x1 (l4.1, l4.2.1, l4.2.2) r3.2).bind fun r5 => r_it r5.1 fun n6 b7 => some (.tuple #[.int .i64 n6, .bool b7], r5.2)

noncomputable def b_alloc_Allocator_start (k : Nat) (alloc_Allocator_begin : T_p) (x0 : Option Addr) (x1 : Option Addr × Nat × Nat) (σ : AMem) : RV1 :=
  bif decide (((x1.2.1 : Nat) : Int) > (0 : Int)) then (if 0 ≤ (0 : Int) ∧ (0 : Int) < (x1.2.1 : Nat) then x1.1.bind fun a1 => (ldI .i64 σ a1.block (a1.off + (0 : Int).toNat * 2 + 0)).bind fun n2 => some (.tuple #[.int .i64 n2, .bool true], σ) else none) else ((alloc_Allocator_begin x0 σ).bind fun r3 => (toT r3.1).bind fun q4 => if q4.length = 2 then q4.head?.bind fun v5 => a_ii v5 fun n6 n7 => q4.tail.head?.bind fun v8 => (toB v8).bind fun b9 => allocK r3.2 (.cells [.int .i64 (0 : Int), .int .i64 (0 : Int)] ty_alloc_area true) fun h10 s11 => (stN s11 h10 0 [.int .i64 n6, .int .i64 n7]).bind fun s12 => (ldI .i64 s12 h10 (0 + 0)).bind fun n13 => some (.tuple #[.int .i64 n13, .bool b9], s12) else none)

noncomputable def b_alloc_Allocator_gaps_l1 (k n : Nat) (alloc_Allocator_gaps_l1 : L_iipnnili) (i0 : Int) (i1 : Int) (p2 : Option Addr) (c3 : Nat) (c4 : Nat) (i5 : Int) (x7 : Option Addr × Nat × Nat) (x27 : Int) (σ : AMem) : Option LOut :=
  bif decide (x27 < i5) then (if 0 ≤ x27 ∧ x27 < (c3 : Nat) then p2.bind fun a9 => (ldI .i64 σ a9.block (a9.off + x27.toNat * 2)).bind fun n10 => (ldI .i64 σ a9.block (a9.off + x27.toNat * 2 + 1)).bind fun n11 => allocK σ (.cells [.int .i64 (0 : Int), .int .i64 (0 : Int)] ty_api_Run true) fun h12 s13 => (stN s13 h12 0 [.int .i64 n10, .int .i64 n11]).bind fun s14 => (ldI .i64 s14 h12 (0 + 0)).bind fun n15 => (bif decide ((w64 (i0 - n15)) > (0 : Int)) then ((ldI .i64 s14 h12 (0 + 1)).bind fun n16 => (st1 s14 h12 (0 + 0) (.int .i64 i0)).bind fun s17 => (st1 s17 h12 (0 + 1) (.int .i64 (w64 (n16 - (w64 (i0 - n15)))))).bind fun s18 => some (.normal, [], s18)) else (some (.normal, [], s14)) : Option LOut).bind fun r19 => if r19.1 = .normal then ((ldI .i64 r19.2.2 h12 (0 + 1)).bind fun n20 => (bif decide (n20 ≥ i1) then ((ldI .i64 r19.2.2 h12 0).bind fun n21 => (ldI .i64 r19.2.2 h12 (0 + 1)).bind fun n22 => allocK r19.2.2 (.cells [.int .i64 n21, .int .i64 n22] ty_api_Run true) fun h23 s24 => (appendD P ty_api_Run (x7.1, x7.2.1, x7.2.2) (some ⟨h23, 0, none⟩, 1, 1) s24).bind fun r25 => some (.normal, [.slice r25.1.1 r25.1.2.1 r25.1.2.2], r25.2)) else (some (.normal, [.slice x7.1 x7.2.1 x7.2.2], r19.2.2)) : Option LOut).bind fun r26 => if r26.1 = .normal then (u_l r26.2.1 fun l27 => alloc_Allocator_gaps_l1 n i0 i1 p2 c3 c4 i5 (l27.1, l27.2.1, l27.2.2) (w64 (x27 + (1 : Int))) r26.2.2) else none) else none else none) else (some (.exit 2, [.slice x7.1 x7.2.1 x7.2.2], σ))

noncomputable def b_alloc_Allocator_gaps_l0 (k n : Nat) (alloc_Allocator_gaps_l0 : L_piipnnili) (alloc_Allocator_gaps_l1 : L_iipnnili) (heap_Heap_Gaps : T_pi) (p0 : Option Addr) (i1 : Int) (i2 : Int) (p3 : Option Addr) (c4 : Nat) (c5 : Nat) (i6 : Int) (x7 : Option Addr × Nat × Nat) (x16 : Int) (σ : AMem) : Option LOut :=
  bif decide (x16 < i6) then (if 0 ≤ x16 ∧ x16 < (c4 : Nat) then p3.bind fun a3 => (ldI .i64 σ a3.block (a3.off + x16.toNat * 1)).bind fun n4 => p0.bind fun a5 => (ldP σ a5.block (a5.off + 0)).bind fun p6 => (heap_Heap_Gaps p6 n4 σ).bind fun r7 => (toS r7.1).bind fun l8 => (alloc_Allocator_gaps_l1 k i1 i2 l8.1 l8.2.1 l8.2.2 ((l8.2.1 : Nat) : Int) (x7.1, x7.2.1, x7.2.2) (0 : Int) r7.2).bind fun r28 => if r28.1 = .exit 2 then (u_l r28.2.1 fun l29 => alloc_Allocator_gaps_l0 n p0 i1 i2 p3 c4 c5 i6 (l29.1, l29.2.1, l29.2.2) (w64 (x16 + (1 : Int))) r28.2.2) else none else none) else (some (.exit 0, [.slice x7.1 x7.2.1 x7.2.2], σ))

noncomputable def b_alloc_Allocator_gaps (k : Nat) (alloc_Allocator_blocks : T_p) (alloc_Allocator_gaps_l0 : L_piipnnili) (x0 : Option Addr) (x1 : Int) (x2 : Int) (σ : AMem) : RV1 :=
  (alloc_Allocator_blocks x0 σ).bind fun r1 => (toS r1.1).bind fun l2 => (alloc_Allocator_gaps_l0 k x0 x1 x2 l2.1 l2.2.1 l2.2.2 ((l2.2.1 : Nat) : Int) (none, 0, 0) (0 : Int) r1.2).bind fun r30 => if r30.1 = .exit 0 then (u_l r30.2.1 fun l31 => some (.slice l31.1 l31.2.1 l31.2.2, r30.2.2)) else none

noncomputable def b_alloc_Allocator_begin_l0 (k n : Nat) (alloc_Allocator_begin_l0 : L_pni) (heap_Heap_Blocks : T_p) (heap_Heap_Claim : T_pii) (p0 : Option Addr) (h1 : Nat) (x4 : Int) (σ : AMem) : Option LOut :=
  p0.bind fun a3 => (ldP σ a3.block (a3.off + 0)).bind fun p4 => (heap_Heap_Blocks p4 σ).bind fun r5 => (toI .i64 r5.1).bind fun n6 => bif decide (x4 < n6) then (p0.bind fun a7 => (ldP r5.2 a7.block (a7.off + 0)).bind fun p8 => p0.bind fun a9 => (ldI .i64 r5.2 a9.block (a9.off + 1)).bind fun n10 => (heap_Heap_Claim p8 x4 n10 r5.2).bind fun r11 => (toI .i64 r11.1).bind fun n12 => bif n12 == (0 : Int) then ((stN r11.2 h1 0 [.int .i64 (w64 (x4 * (64 : Int))), .int .i64 (w64 ((w64 (x4 + (1 : Int))) * (64 : Int)))]).bind fun s13 => some (.ret, [.bool true], s13)) else (alloc_Allocator_begin_l0 n p0 h1 (w64 (x4 + (1 : Int))) r11.2)) else (some (.exit 0, [], r5.2))

noncomputable def b_alloc_Allocator_begin (k : Nat) (alloc_Allocator_begin_l0 : L_pni) (x0 : Option Addr) (σ : AMem) : RV1 :=
  allocK σ (.cells [.int .i64 (0 : Int), .int .i64 (0 : Int)] ty_alloc_area true) fun h1 s2 => (alloc_Allocator_begin_l0 k x0 h1 (1 : Int) s2).bind fun r14 => if r14.1 = .exit 0 then ((stN r14.2.2 h1 0 [.int .i64 (0 : Int), .int .i64 (0 : Int)]).bind fun s15 => (((ldN s15 h1 0 2).bind fun v16 => some (.agg v16.toArray)).bind fun v17 => some [v17, .bool false]).bind fun vs18 => some (resOf vs18, s15)) else if r14.1 = .ret then (u_t r14.2.1 fun b19 => (((ldN r14.2.2 h1 0 2).bind fun v20 => some (.agg v20.toArray)).bind fun v21 => some [v21, .bool b19]).bind fun vs22 => some (resOf vs22, r14.2.2)) else none

noncomputable def b_alloc_Allocator_blocks_l0 (k n : Nat) (alloc_Allocator_blocks_l0 : L_pili) (heap_Heap_Space : T_pi) (heap_Heap_State : T_pi) (p0 : Option Addr) (i1 : Int) (x3 : Option Addr × Nat × Nat) (x10 : Int) (σ : AMem) : Option LOut :=
  bif decide (x10 < i1) then (p0.bind fun a5 => (ldP σ a5.block (a5.off + 0)).bind fun p6 => (heap_Heap_State p6 x10 σ).bind fun r7 => (toI .i64 r7.1).bind fun n8 => (bif n8 == (1 : Int) then p0.bind fun a9 => (ldP r7.2 a9.block (a9.off + 0)).bind fun p10 => (heap_Heap_Space p10 x10 r7.2).bind fun r11 => (toI .i64 r11.1).bind fun n12 => p0.bind fun a13 => (ldI .i64 r11.2 a13.block (a13.off + 1)).bind fun n14 => some (n12 == n14, r11.2) else some (false, r7.2)).bind fun r15 => (bif r15.1 then (allocK r15.2 (.cells [.int .i64 x10] ty_int true) fun h16 s17 => (appendD P ty_int (x3.1, x3.2.1, x3.2.2) (some ⟨h16, 0, none⟩, 1, 1) s17).bind fun r18 => some (.normal, [.slice r18.1.1 r18.1.2.1 r18.1.2.2], r18.2)) else (some (.normal, [.slice x3.1 x3.2.1 x3.2.2], r15.2)) : Option LOut).bind fun r19 => if r19.1 = .normal then (u_l r19.2.1 fun l20 => alloc_Allocator_blocks_l0 n p0 i1 (l20.1, l20.2.1, l20.2.2) (w64 (x10 + (1 : Int))) r19.2.2) else none) else (some (.exit 0, [.slice x3.1 x3.2.1 x3.2.2], σ))

noncomputable def b_alloc_Allocator_blocks (k : Nat) (alloc_Allocator_blocks_l0 : L_pili) (heap_Heap_Blocks : T_p) (x0 : Option Addr) (σ : AMem) : RV1 :=
  x0.bind fun a1 => (ldP σ a1.block (a1.off + 0)).bind fun p2 => (heap_Heap_Blocks p2 σ).bind fun r3 => (toI .i64 r3.1).bind fun n4 => (alloc_Allocator_blocks_l0 k x0 n4 (none, 0, 0) (0 : Int) r3.2).bind fun r21 => if r21.1 = .exit 0 then (u_l r21.2.1 fun l22 => some (.slice l22.1 l22.2.1 l22.2.2, r21.2.2)) else none

noncomputable def b_heap_Heap_Claim (k : Nat) (heap_Heap_claim : T_piiiiii) (x0 : Option Addr) (x1 : Int) (x2 : Int) (σ : AMem) : RV1 :=
  (heap_Heap_claim x0 x1 (1 : Int) (1 : Int) x2 (0 : Int) (0 : Int) σ).bind fun r1 => (toI .i64 r1.1).bind fun n2 => some (.int .i64 n2, r1.2)

noncomputable def b_alloc_best_place (k : Nat) (alloc_Allocator_gaps : T_pii) (alloc_Allocator_start : T_pl) (slices_SortStableFunc_api_Run : T_lv) (x1 : Option Addr) (x2 : Int) (σ : AMem) : RV1 :=
  allocK σ (.cells [] ty_alloc_best true) fun h1 s2 => (alloc_Allocator_gaps x1 (0 : Int) x2 s2).bind fun r3 => (toS r3.1).bind fun l4 => (slices_SortStableFunc_api_Run (l4.1, l4.2.1, l4.2.2) (.func (.func 288) #[] #[]) r3.2).bind fun r5 => r_0 r5.1 ((alloc_Allocator_start x1 (l4.1, l4.2.1, l4.2.2) r5.2).bind fun r6 => r_it r6.1 fun n7 b8 => some (.tuple #[.int .i64 n7, .bool b8], r6.2))

noncomputable def b_slices_SortStableFunc_api_Run (k : Nat) (slices_stableCmpFunc_api_Run : T_liv) (x0 : Option Addr × Nat × Nat) (x1 : Value) (σ : AMem) : RV1 :=
  (slices_stableCmpFunc_api_Run (x0.1, x0.2.1, x0.2.2) ((x0.2.1 : Nat) : Int) (x1) σ).bind fun r1 => r_0 r1.1 (some (.tuple #[], r1.2))

noncomputable def b_alloc_best_place_c1 (k : Nat)  (x0_0 : Int) (x0_1 : Int) (x1_0 : Int) (x1_1 : Int) (σ : AMem) : RV1 :=
  allocK σ (.cells [.int .i64 x0_0, .int .i64 x0_1] ty_api_Run true) fun h1 s2 => allocK s2 (.cells [.int .i64 x1_0, .int .i64 x1_1] ty_api_Run true) fun h3 s4 => (ldI .i64 s4 h1 (0 + 1)).bind fun n5 => (ldI .i64 s4 h3 (0 + 1)).bind fun n6 => some (.int .i64 (w64 (n5 - n6)), s4)

noncomputable def b_slices_stableCmpFunc_api_Run_l0 (k n : Nat) (slices_insertionSortCmpFunc_api_Run : T_liiv) (slices_stableCmpFunc_api_Run_l0 : L_pnnivii) (p0 : Option Addr) (c1 : Nat) (c2 : Nat) (i3 : Int) (v4 : Value) (x7 : Int) (x8 : Int) (σ : AMem) : Option LOut :=
  bif decide (x8 ≤ i3) then ((slices_insertionSortCmpFunc_api_Run (p0, c1, c2) x7 x8 (v4) σ).bind fun r1 => r_0 r1.1 (slices_stableCmpFunc_api_Run_l0 n p0 c1 c2 i3 v4 x8 (w64 (x8 + (20 : Int))) r1.2)) else (some (.exit 0, [.int .i64 x7], σ))

noncomputable def b_slices_stableCmpFunc_api_Run_l2 (k n : Nat) (slices_stableCmpFunc_api_Run_l2 : L_pnniviii) (slices_symMergeCmpFunc_api_Run : T_liiiv) (p0 : Option Addr) (c1 : Nat) (c2 : Nat) (i3 : Int) (v4 : Value) (i5 : Int) (x7 : Int) (x8 : Int) (σ : AMem) : Option LOut :=
  bif decide (x8 ≤ i3) then ((slices_symMergeCmpFunc_api_Run (p0, c1, c2) x7 (w64 (x7 + i5)) x8 (v4) σ).bind fun r5 => r_0 r5.1 (slices_stableCmpFunc_api_Run_l2 n p0 c1 c2 i3 v4 i5 x8 (w64 (x8 + (w64 ((2 : Int) * i5)))) r5.2)) else (some (.exit 4, [.int .i64 x7], σ))

noncomputable def b_slices_stableCmpFunc_api_Run_l1 (k n : Nat) (slices_stableCmpFunc_api_Run_l1 : L_pnnivi) (slices_stableCmpFunc_api_Run_l2 : L_pnniviii) (slices_symMergeCmpFunc_api_Run : T_liiiv) (p0 : Option Addr) (c1 : Nat) (c2 : Nat) (i3 : Int) (v4 : Value) (x6 : Int) (σ : AMem) : Option LOut :=
  bif decide (x6 < i3) then ((slices_stableCmpFunc_api_Run_l2 k p0 c1 c2 i3 v4 x6 (0 : Int) (w64 ((2 : Int) * x6)) σ).bind fun r6 => if r6.1 = .exit 4 then (u_i r6.2.1 fun n7 => (bif decide ((w64 (n7 + x6)) < i3) then ((slices_symMergeCmpFunc_api_Run (p0, c1, c2) n7 (w64 (n7 + x6)) i3 (v4) r6.2.2).bind fun r8 => r_0 r8.1 (some (.normal, [], r8.2))) else (some (.normal, [], r6.2.2)) : Option LOut).bind fun r9 => if r9.1 = .normal then (slices_stableCmpFunc_api_Run_l1 n p0 c1 c2 i3 v4 (w64 (x6 * (2 : Int))) r9.2.2) else none) else none) else (some (.exit 2, [], σ))

noncomputable def b_slices_stableCmpFunc_api_Run (k : Nat) (slices_insertionSortCmpFunc_api_Run : T_liiv) (slices_stableCmpFunc_api_Run_l0 : L_pnnivii) (slices_stableCmpFunc_api_Run_l1 : L_pnnivi) (x0 : Option Addr × Nat × Nat) (x1 : Int) (x2 : Value) (σ : AMem) : RV1 :=
  (slices_stableCmpFunc_api_Run_l0 k x0.1 x0.2.1 x0.2.2 x1 x2 (0 : Int) (20 : Int) σ).bind fun r2 => if r2.1 = .exit 0 then (u_i r2.2.1 fun n3 => (slices_insertionSortCmpFunc_api_Run (x0.1, x0.2.1, x0.2.2) n3 x1 (x2) r2.2.2).bind fun r4 => r_0 r4.1 ((slices_stableCmpFunc_api_Run_l1 k x0.1 x0.2.1 x0.2.2 x1 x2 (20 : Int) r4.2).bind fun r10 => if r10.1 = .exit 2 then (some (.tuple #[], r10.2.2)) else none)) else none

noncomputable def b_slices_insertionSortCmpFunc_api_Run_l1 (k n : Nat) (callV_iiii_i : TV) (slices_insertionSortCmpFunc_api_Run_l1 : L_pnnivi) (p0 : Option Addr) (c1 : Nat) (c2 : Nat) (i3 : Int) (v4 : Value) (x9 : Int) (σ : AMem) : Option LOut :=
  (bif decide (x9 > i3) then if 0 ≤ x9 ∧ x9 < (c1 : Nat) then p0.bind fun a1 => (ldI .i64 σ a1.block (a1.off + x9.toNat * 2)).bind fun n2 => (ldI .i64 σ a1.block (a1.off + x9.toNat * 2 + 1)).bind fun n3 => if 0 ≤ (w64 (x9 - (1 : Int))) ∧ (w64 (x9 - (1 : Int))) < (c1 : Nat) then p0.bind fun a4 => (ldI .i64 σ a4.block (a4.off + (w64 (x9 - (1 : Int))).toNat * 2)).bind fun n5 => (ldI .i64 σ a4.block (a4.off + (w64 (x9 - (1 : Int))).toNat * 2 + 1)).bind fun n6 => (callV_iiii_i v4 [.agg #[.int .i64 n2, .int .i64 n3], .agg #[.int .i64 n5, .int .i64 n6]] σ).bind fun r7 => (toI .i64 r7.1).bind fun n8 => some (decide (n8 < (0 : Int)), r7.2) else none else none else some (false, σ)).bind fun r9 => bif r9.1 then (if 0 ≤ (w64 (x9 - (1 : Int))) ∧ (w64 (x9 - (1 : Int))) < (c1 : Nat) then p0.bind fun a10 => (ldI .i64 r9.2 a10.block (a10.off + (w64 (x9 - (1 : Int))).toNat * 2)).bind fun n11 => (ldI .i64 r9.2 a10.block (a10.off + (w64 (x9 - (1 : Int))).toNat * 2 + 1)).bind fun n12 => if 0 ≤ x9 ∧ x9 < (c1 : Nat) then p0.bind fun a13 => (ldI .i64 r9.2 a13.block (a13.off + x9.toNat * 2)).bind fun n14 => (ldI .i64 r9.2 a13.block (a13.off + x9.toNat * 2 + 1)).bind fun n15 => if 0 ≤ x9 ∧ x9 < (c1 : Nat) then p0.bind fun a16 => (stN r9.2 a16.block (a16.off + x9.toNat * 2) [.int .i64 n11, .int .i64 n12]).bind fun s17 => if 0 ≤ (w64 (x9 - (1 : Int))) ∧ (w64 (x9 - (1 : Int))) < (c1 : Nat) then p0.bind fun a18 => (stN s17 a18.block (a18.off + (w64 (x9 - (1 : Int))).toNat * 2) [.int .i64 n14, .int .i64 n15]).bind fun s19 => slices_insertionSortCmpFunc_api_Run_l1 n p0 c1 c2 i3 v4 (w64 (x9 - (1 : Int))) s19 else none else none else none else none) else (some (.exit 2, [], r9.2))

noncomputable def b_slices_insertionSortCmpFunc_api_Run_l0 (k n : Nat) (slices_insertionSortCmpFunc_api_Run_l0 : L_pnniivi) (slices_insertionSortCmpFunc_api_Run_l1 : L_pnnivi) (p0 : Option Addr) (c1 : Nat) (c2 : Nat) (i3 : Int) (i4 : Int) (v5 : Value) (x8 : Int) (σ : AMem) : Option LOut :=
  bif decide (x8 < i4) then ((slices_insertionSortCmpFunc_api_Run_l1 k p0 c1 c2 i3 v5 x8 σ).bind fun r20 => if r20.1 = .exit 2 then (slices_insertionSortCmpFunc_api_Run_l0 n p0 c1 c2 i3 i4 v5 (w64 (x8 + (1 : Int))) r20.2.2) else none) else (some (.exit 0, [], σ))

noncomputable def b_slices_insertionSortCmpFunc_api_Run (k : Nat) (slices_insertionSortCmpFunc_api_Run_l0 : L_pnniivi) (x0 : Option Addr × Nat × Nat) (x1 : Int) (x2 : Int) (x3 : Value) (σ : AMem) : RV1 :=
  (slices_insertionSortCmpFunc_api_Run_l0 k x0.1 x0.2.1 x0.2.2 x1 x2 x3 (w64 (x1 + (1 : Int))) σ).bind fun r21 => if r21.1 = .exit 0 then (some (.tuple #[], r21.2.2)) else none

noncomputable def b_slices_symMergeCmpFunc_api_Run_l0 (k n : Nat) (callV_iiii_i : TV) (slices_symMergeCmpFunc_api_Run_l0 : L_pnnivii) (p0 : Option Addr) (c1 : Nat) (c2 : Nat) (i3 : Int) (v4 : Value) (x10 : Int) (x11 : Int) (σ : AMem) : Option LOut :=
  bif decide (x10 < x11) then (if (1 : Int) < 0 then none else if 0 ≤ (w64 ((u64 (w64 (x10 + x11))).fdiv (2 ^ (min (1 : Int).toNat 64)))) ∧ (w64 ((u64 (w64 (x10 + x11))).fdiv (2 ^ (min (1 : Int).toNat 64)))) < (c1 : Nat) then p0.bind fun a1 => (ldI .i64 σ a1.block (a1.off + (w64 ((u64 (w64 (x10 + x11))).fdiv (2 ^ (min (1 : Int).toNat 64)))).toNat * 2)).bind fun n2 => (ldI .i64 σ a1.block (a1.off + (w64 ((u64 (w64 (x10 + x11))).fdiv (2 ^ (min (1 : Int).toNat 64)))).toNat * 2 + 1)).bind fun n3 => if 0 ≤ i3 ∧ i3 < (c1 : Nat) then p0.bind fun a4 => (ldI .i64 σ a4.block (a4.off + i3.toNat * 2)).bind fun n5 => (ldI .i64 σ a4.block (a4.off + i3.toNat * 2 + 1)).bind fun n6 => (callV_iiii_i v4 [.agg #[.int .i64 n2, .int .i64 n3], .agg #[.int .i64 n5, .int .i64 n6]] σ).bind fun r7 => (toI .i64 r7.1).bind fun n8 => (bif decide (n8 < (0 : Int)) then (some (.normal, [.int .i64 (w64 ((w64 ((u64 (w64 (x10 + x11))).fdiv (2 ^ (min (1 : Int).toNat 64)))) + (1 : Int))), .int .i64 x11], r7.2)) else (some (.normal, [.int .i64 x10, .int .i64 (w64 ((u64 (w64 (x10 + x11))).fdiv (2 ^ (min (1 : Int).toNat 64))))], r7.2)) : Option LOut).bind fun r9 => if r9.1 = .normal then (u_ii r9.2.1 fun n10 n11 => slices_symMergeCmpFunc_api_Run_l0 n p0 c1 c2 i3 v4 n10 n11 r9.2.2) else none else none else none) else (some (.exit 0, [.int .i64 x10], σ))

noncomputable def b_slices_symMergeCmpFunc_api_Run_l1 (k n : Nat) (slices_symMergeCmpFunc_api_Run_l1 : L_pnnii) (p0 : Option Addr) (c1 : Nat) (c2 : Nat) (i3 : Int) (x13 : Int) (σ : AMem) : Option LOut :=
  bif decide (x13 < (w64 (i3 - (1 : Int)))) then (if 0 ≤ (w64 (x13 + (1 : Int))) ∧ (w64 (x13 + (1 : Int))) < (c1 : Nat) then p0.bind fun a14 => (ldI .i64 σ a14.block (a14.off + (w64 (x13 + (1 : Int))).toNat * 2)).bind fun n15 => (ldI .i64 σ a14.block (a14.off + (w64 (x13 + (1 : Int))).toNat * 2 + 1)).bind fun n16 => if 0 ≤ x13 ∧ x13 < (c1 : Nat) then p0.bind fun a17 => (ldI .i64 σ a17.block (a17.off + x13.toNat * 2)).bind fun n18 => (ldI .i64 σ a17.block (a17.off + x13.toNat * 2 + 1)).bind fun n19 => if 0 ≤ x13 ∧ x13 < (c1 : Nat) then p0.bind fun a20 => (stN σ a20.block (a20.off + x13.toNat * 2) [.int .i64 n15, .int .i64 n16]).bind fun s21 => if 0 ≤ (w64 (x13 + (1 : Int))) ∧ (w64 (x13 + (1 : Int))) < (c1 : Nat) then p0.bind fun a22 => (stN s21 a22.block (a22.off + (w64 (x13 + (1 : Int))).toNat * 2) [.int .i64 n18, .int .i64 n19]).bind fun s23 => slices_symMergeCmpFunc_api_Run_l1 n p0 c1 c2 i3 (w64 (x13 + (1 : Int))) s23 else none else none else none else none) else (some (.exit 2, [], σ))

noncomputable def b_slices_symMergeCmpFunc_api_Run_l2 (k n : Nat) (callV_iiii_i : TV) (slices_symMergeCmpFunc_api_Run_l2 : L_pnnivii) (p0 : Option Addr) (c1 : Nat) (c2 : Nat) (i3 : Int) (v4 : Value) (x14 : Int) (x15 : Int) (σ : AMem) : Option LOut :=
  bif decide (x14 < x15) then (if (1 : Int) < 0 then none else if 0 ≤ i3 ∧ i3 < (c1 : Nat) then p0.bind fun a25 => (ldI .i64 σ a25.block (a25.off + i3.toNat * 2)).bind fun n26 => (ldI .i64 σ a25.block (a25.off + i3.toNat * 2 + 1)).bind fun n27 => if 0 ≤ (w64 ((u64 (w64 (x14 + x15))).fdiv (2 ^ (min (1 : Int).toNat 64)))) ∧ (w64 ((u64 (w64 (x14 + x15))).fdiv (2 ^ (min (1 : Int).toNat 64)))) < (c1 : Nat) then p0.bind fun a28 => (ldI .i64 σ a28.block (a28.off + (w64 ((u64 (w64 (x14 + x15))).fdiv (2 ^ (min (1 : Int).toNat 64)))).toNat * 2)).bind fun n29 => (ldI .i64 σ a28.block (a28.off + (w64 ((u64 (w64 (x14 + x15))).fdiv (2 ^ (min (1 : Int).toNat 64)))).toNat * 2 + 1)).bind fun n30 => (callV_iiii_i v4 [.agg #[.int .i64 n26, .int .i64 n27], .agg #[.int .i64 n29, .int .i64 n30]] σ).bind fun r31 => (toI .i64 r31.1).bind fun n32 => (bif !(decide (n32 < (0 : Int))) then (some (.normal, [.int .i64 (w64 ((w64 ((u64 (w64 (x14 + x15))).fdiv (2 ^ (min (1 : Int).toNat 64)))) + (1 : Int))), .int .i64 x15], r31.2)) else (some (.normal, [.int .i64 x14, .int .i64 (w64 ((u64 (w64 (x14 + x15))).fdiv (2 ^ (min (1 : Int).toNat 64))))], r31.2)) : Option LOut).bind fun r33 => if r33.1 = .normal then (u_ii r33.2.1 fun n34 n35 => slices_symMergeCmpFunc_api_Run_l2 n p0 c1 c2 i3 v4 n34 n35 r33.2.2) else none else none else none) else (some (.exit 4, [.int .i64 x14], σ))

noncomputable def b_slices_symMergeCmpFunc_api_Run_l3 (k n : Nat) (slices_symMergeCmpFunc_api_Run_l3 : L_pnnii) (p0 : Option Addr) (c1 : Nat) (c2 : Nat) (i3 : Int) (x17 : Int) (σ : AMem) : Option LOut :=
  bif decide (x17 > i3) then (if 0 ≤ (w64 (x17 - (1 : Int))) ∧ (w64 (x17 - (1 : Int))) < (c1 : Nat) then p0.bind fun a38 => (ldI .i64 σ a38.block (a38.off + (w64 (x17 - (1 : Int))).toNat * 2)).bind fun n39 => (ldI .i64 σ a38.block (a38.off + (w64 (x17 - (1 : Int))).toNat * 2 + 1)).bind fun n40 => if 0 ≤ x17 ∧ x17 < (c1 : Nat) then p0.bind fun a41 => (ldI .i64 σ a41.block (a41.off + x17.toNat * 2)).bind fun n42 => (ldI .i64 σ a41.block (a41.off + x17.toNat * 2 + 1)).bind fun n43 => if 0 ≤ x17 ∧ x17 < (c1 : Nat) then p0.bind fun a44 => (stN σ a44.block (a44.off + x17.toNat * 2) [.int .i64 n39, .int .i64 n40]).bind fun s45 => if 0 ≤ (w64 (x17 - (1 : Int))) ∧ (w64 (x17 - (1 : Int))) < (c1 : Nat) then p0.bind fun a46 => (stN s45 a46.block (a46.off + (w64 (x17 - (1 : Int))).toNat * 2) [.int .i64 n42, .int .i64 n43]).bind fun s47 => slices_symMergeCmpFunc_api_Run_l3 n p0 c1 c2 i3 (w64 (x17 - (1 : Int))) s47 else none else none else none else none) else (some (.exit 6, [], σ))

noncomputable def b_slices_symMergeCmpFunc_api_Run_l4 (k n : Nat) (callV_iiii_i : TV) (slices_symMergeCmpFunc_api_Run_l4 : L_pnnviii) (p0 : Option Addr) (c1 : Nat) (c2 : Nat) (v3 : Value) (i4 : Int) (x20 : Int) (x21 : Int) (σ : AMem) : Option LOut :=
  bif decide (x20 < x21) then (if (1 : Int) < 0 then none else if 0 ≤ (w64 (i4 - (w64 ((u64 (w64 (x20 + x21))).fdiv (2 ^ (min (1 : Int).toNat 64)))))) ∧ (w64 (i4 - (w64 ((u64 (w64 (x20 + x21))).fdiv (2 ^ (min (1 : Int).toNat 64)))))) < (c1 : Nat) then p0.bind fun a52 => (ldI .i64 σ a52.block (a52.off + (w64 (i4 - (w64 ((u64 (w64 (x20 + x21))).fdiv (2 ^ (min (1 : Int).toNat 64)))))).toNat * 2)).bind fun n53 => (ldI .i64 σ a52.block (a52.off + (w64 (i4 - (w64 ((u64 (w64 (x20 + x21))).fdiv (2 ^ (min (1 : Int).toNat 64)))))).toNat * 2 + 1)).bind fun n54 => if 0 ≤ (w64 ((u64 (w64 (x20 + x21))).fdiv (2 ^ (min (1 : Int).toNat 64)))) ∧ (w64 ((u64 (w64 (x20 + x21))).fdiv (2 ^ (min (1 : Int).toNat 64)))) < (c1 : Nat) then p0.bind fun a55 => (ldI .i64 σ a55.block (a55.off + (w64 ((u64 (w64 (x20 + x21))).fdiv (2 ^ (min (1 : Int).toNat 64)))).toNat * 2)).bind fun n56 => (ldI .i64 σ a55.block (a55.off + (w64 ((u64 (w64 (x20 + x21))).fdiv (2 ^ (min (1 : Int).toNat 64)))).toNat * 2 + 1)).bind fun n57 => (callV_iiii_i v3 [.agg #[.int .i64 n53, .int .i64 n54], .agg #[.int .i64 n56, .int .i64 n57]] σ).bind fun r58 => (toI .i64 r58.1).bind fun n59 => (bif !(decide (n59 < (0 : Int))) then (some (.normal, [.int .i64 (w64 ((w64 ((u64 (w64 (x20 + x21))).fdiv (2 ^ (min (1 : Int).toNat 64)))) + (1 : Int))), .int .i64 x21], r58.2)) else (some (.normal, [.int .i64 x20, .int .i64 (w64 ((u64 (w64 (x20 + x21))).fdiv (2 ^ (min (1 : Int).toNat 64))))], r58.2)) : Option LOut).bind fun r60 => if r60.1 = .normal then (u_ii r60.2.1 fun n61 n62 => slices_symMergeCmpFunc_api_Run_l4 n p0 c1 c2 v3 i4 n61 n62 r60.2.2) else none else none else none) else (some (.exit 8, [.int .i64 x20], σ))

noncomputable def b_slices_symMergeCmpFunc_api_Run (k : Nat) (slices_rotateCmpFunc_api_Run : T_liiiv) (slices_symMergeCmpFunc_api_Run : T_liiiv) (slices_symMergeCmpFunc_api_Run_l0 : L_pnnivii) (slices_symMergeCmpFunc_api_Run_l1 : L_pnnii) (slices_symMergeCmpFunc_api_Run_l2 : L_pnnivii) (slices_symMergeCmpFunc_api_Run_l3 : L_pnnii) (slices_symMergeCmpFunc_api_Run_l4 : L_pnnviii) (x0 : Option Addr × Nat × Nat) (x1 : Int) (x2 : Int) (x3 : Int) (x4 : Value) (σ : AMem) : RV1 :=
  bif (w64 (x2 - x1)) == (1 : Int) then ((slices_symMergeCmpFunc_api_Run_l0 k x0.1 x0.2.1 x0.2.2 x1 x4 x2 x3 σ).bind fun r12 => if r12.1 = .exit 0 then (u_i r12.2.1 fun n13 => (slices_symMergeCmpFunc_api_Run_l1 k x0.1 x0.2.1 x0.2.2 n13 x1 r12.2.2).bind fun r24 => if r24.1 = .exit 2 then (some (.tuple #[], r24.2.2)) else none) else none) else (bif (w64 (x3 - x2)) == (1 : Int) then ((slices_symMergeCmpFunc_api_Run_l2 k x0.1 x0.2.1 x0.2.2 x2 x4 x1 x2 σ).bind fun r36 => if r36.1 = .exit 4 then (u_i r36.2.1 fun n37 => (slices_symMergeCmpFunc_api_Run_l3 k x0.1 x0.2.1 x0.2.2 n37 x2 r36.2.2).bind fun r48 => if r48.1 = .exit 6 then (some (.tuple #[], r48.2.2)) else none) else none) else (if (1 : Int) < 0 then none else (bif decide (x2 > (w64 ((u64 (w64 (x1 + x3))).fdiv (2 ^ (min (1 : Int).toNat 64))))) then (some (.normal, [.int .i64 (w64 ((w64 ((w64 ((u64 (w64 (x1 + x3))).fdiv (2 ^ (min (1 : Int).toNat 64)))) + x2)) - x3)), .int .i64 (w64 ((u64 (w64 (x1 + x3))).fdiv (2 ^ (min (1 : Int).toNat 64))))], σ)) else (some (.normal, [.int .i64 x1, .int .i64 x2], σ)) : Option LOut).bind fun r49 => if r49.1 = .normal then (u_ii r49.2.1 fun n50 n51 => (slices_symMergeCmpFunc_api_Run_l4 k x0.1 x0.2.1 x0.2.2 x4 (w64 ((w64 ((w64 ((u64 (w64 (x1 + x3))).fdiv (2 ^ (min (1 : Int).toNat 64)))) + x2)) - (1 : Int))) n50 n51 r49.2.2).bind fun r63 => if r63.1 = .exit 8 then (u_i r63.2.1 fun n64 => (bif decide (n64 < x2) then some (decide (x2 < (w64 ((w64 ((w64 ((u64 (w64 (x1 + x3))).fdiv (2 ^ (min (1 : Int).toNat 64)))) + x2)) - n64))), r63.2.2) else some (false, r63.2.2)).bind fun r65 => (bif r65.1 then ((slices_rotateCmpFunc_api_Run (x0.1, x0.2.1, x0.2.2) n64 x2 (w64 ((w64 ((w64 ((u64 (w64 (x1 + x3))).fdiv (2 ^ (min (1 : Int).toNat 64)))) + x2)) - n64)) (x4) r65.2).bind fun r66 => r_0 r66.1 (some (.normal, [], r66.2))) else (some (.normal, [], r65.2)) : Option LOut).bind fun r67 => if r67.1 = .normal then ((bif decide (x1 < n64) then some (decide (n64 < (w64 ((u64 (w64 (x1 + x3))).fdiv (2 ^ (min (1 : Int).toNat 64))))), r67.2.2) else some (false, r67.2.2)).bind fun r68 => (bif r68.1 then ((slices_symMergeCmpFunc_api_Run (x0.1, x0.2.1, x0.2.2) x1 n64 (w64 ((u64 (w64 (x1 + x3))).fdiv (2 ^ (min (1 : Int).toNat 64)))) (x4) r68.2).bind fun r69 => r_0 r69.1 (some (.normal, [], r69.2))) else (some (.normal, [], r68.2)) : Option LOut).bind fun r70 => if r70.1 = .normal then ((bif decide ((w64 ((u64 (w64 (x1 + x3))).fdiv (2 ^ (min (1 : Int).toNat 64)))) < (w64 ((w64 ((w64 ((u64 (w64 (x1 + x3))).fdiv (2 ^ (min (1 : Int).toNat 64)))) + x2)) - n64))) then some (decide ((w64 ((w64 ((w64 ((u64 (w64 (x1 + x3))).fdiv (2 ^ (min (1 : Int).toNat 64)))) + x2)) - n64)) < x3), r70.2.2) else some (false, r70.2.2)).bind fun r71 => (bif r71.1 then ((slices_symMergeCmpFunc_api_Run (x0.1, x0.2.1, x0.2.2) (w64 ((u64 (w64 (x1 + x3))).fdiv (2 ^ (min (1 : Int).toNat 64)))) (w64 ((w64 ((w64 ((u64 (w64 (x1 + x3))).fdiv (2 ^ (min (1 : Int).toNat 64)))) + x2)) - n64)) x3 (x4) r71.2).bind fun r72 => r_0 r72.1 (some (.normal, [], r72.2))) else (some (.normal, [], r71.2)) : Option LOut).bind fun r73 => if r73.1 = .normal then (some (.tuple #[], r73.2.2)) else none) else none) else none) else none) else none))

noncomputable def b_slices_rotateCmpFunc_api_Run_l0 (k n : Nat) (slices_rotateCmpFunc_api_Run_l0 : L_pnnivii) (slices_swapRangeCmpFunc_api_Run : T_liiiv) (p0 : Option Addr) (c1 : Nat) (c2 : Nat) (i3 : Int) (v4 : Value) (x10 : Int) (x11 : Int) (σ : AMem) : Option LOut :=
  bif x10 != x11 then ((bif decide (x10 > x11) then ((slices_swapRangeCmpFunc_api_Run (p0, c1, c2) (w64 (i3 - x10)) i3 x11 (v4) σ).bind fun r1 => r_0 r1.1 (some (.normal, [.int .i64 (w64 (x10 - x11)), .int .i64 x11], r1.2))) else ((slices_swapRangeCmpFunc_api_Run (p0, c1, c2) (w64 (i3 - x10)) (w64 ((w64 (i3 + x11)) - x10)) x10 (v4) σ).bind fun r2 => r_0 r2.1 (some (.normal, [.int .i64 x10, .int .i64 (w64 (x11 - x10))], r2.2))) : Option LOut).bind fun r3 => if r3.1 = .normal then (u_ii r3.2.1 fun n4 n5 => slices_rotateCmpFunc_api_Run_l0 n p0 c1 c2 i3 v4 n4 n5 r3.2.2) else none) else (some (.exit 0, [.int .i64 x10], σ))

noncomputable def b_slices_rotateCmpFunc_api_Run (k : Nat) (slices_rotateCmpFunc_api_Run_l0 : L_pnnivii) (slices_swapRangeCmpFunc_api_Run : T_liiiv) (x0 : Option Addr × Nat × Nat) (x1 : Int) (x2 : Int) (x3 : Int) (x4 : Value) (σ : AMem) : RV1 :=
  (slices_rotateCmpFunc_api_Run_l0 k x0.1 x0.2.1 x0.2.2 x2 x4 (w64 (x2 - x1)) (w64 (x3 - x2)) σ).bind fun r6 => if r6.1 = .exit 0 then (u_i r6.2.1 fun n7 => (slices_swapRangeCmpFunc_api_Run (x0.1, x0.2.1, x0.2.2) (w64 (x2 - n7)) x2 n7 (x4) r6.2.2).bind fun r8 => r_0 r8.1 (some (.tuple #[], r8.2))) else none

noncomputable def b_slices_swapRangeCmpFunc_api_Run_l0 (k n : Nat) (slices_swapRangeCmpFunc_api_Run_l0 : L_pnniiii) (p0 : Option Addr) (c1 : Nat) (c2 : Nat) (i3 : Int) (i4 : Int) (i5 : Int) (x10 : Int) (σ : AMem) : Option LOut :=
  bif decide (x10 < i5) then (if 0 ≤ (w64 (i4 + x10)) ∧ (w64 (i4 + x10)) < (c1 : Nat) then p0.bind fun a1 => (ldI .i64 σ a1.block (a1.off + (w64 (i4 + x10)).toNat * 2)).bind fun n2 => (ldI .i64 σ a1.block (a1.off + (w64 (i4 + x10)).toNat * 2 + 1)).bind fun n3 => if 0 ≤ (w64 (i3 + x10)) ∧ (w64 (i3 + x10)) < (c1 : Nat) then p0.bind fun a4 => (ldI .i64 σ a4.block (a4.off + (w64 (i3 + x10)).toNat * 2)).bind fun n5 => (ldI .i64 σ a4.block (a4.off + (w64 (i3 + x10)).toNat * 2 + 1)).bind fun n6 => if 0 ≤ (w64 (i3 + x10)) ∧ (w64 (i3 + x10)) < (c1 : Nat) then p0.bind fun a7 => (stN σ a7.block (a7.off + (w64 (i3 + x10)).toNat * 2) [.int .i64 n2, .int .i64 n3]).bind fun s8 => if 0 ≤ (w64 (i4 + x10)) ∧ (w64 (i4 + x10)) < (c1 : Nat) then p0.bind fun a9 => (stN s8 a9.block (a9.off + (w64 (i4 + x10)).toNat * 2) [.int .i64 n5, .int .i64 n6]).bind fun s10 => slices_swapRangeCmpFunc_api_Run_l0 n p0 c1 c2 i3 i4 i5 (w64 (x10 + (1 : Int))) s10 else none else none else none else none) else (some (.exit 0, [], σ))

noncomputable def b_slices_swapRangeCmpFunc_api_Run (k : Nat) (slices_swapRangeCmpFunc_api_Run_l0 : L_pnniiii) (x0 : Option Addr × Nat × Nat) (x1 : Int) (x2 : Int) (x3 : Int) (x4 : Value) (σ : AMem) : RV1 :=
  (slices_swapRangeCmpFunc_api_Run_l0 k x0.1 x0.2.1 x0.2.2 x1 x2 x3 (0 : Int) σ).bind fun r11 => if r11.1 = .exit 0 then (some (.tuple #[], r11.2.2)) else none

noncomputable def b_alloc_next_place (k : Nat) (alloc_Allocator_gaps : T_pii) (alloc_Allocator_start : T_pl) (x1 : Option Addr) (x2 : Int) (σ : AMem) : RV1 :=
  allocK σ (.cells [] ty_alloc_next true) fun h1 s2 => x1.bind fun a3 => (ldI .i64 s2 a3.block (a3.off + 3 + 0)).bind fun n4 => (alloc_Allocator_gaps x1 n4 x2 s2).bind fun r5 => (toS r5.1).bind fun l6 => (alloc_Allocator_gaps x1 (0 : Int) x2 r5.2).bind fun r7 => (toS r7.1).bind fun l8 => (appendD P ty_api_Run (l6.1, l6.2.1, l6.2.2) (l8.1, l8.2.1, l8.2.2) r7.2).bind fun r9 => (alloc_Allocator_start x1 (r9.1.1, r9.1.2.1, r9.1.2.2) r9.2).bind fun r10 => r_it r10.1 fun n11 b12 => (bif b12 then (x1.bind fun a13 => (st1 r10.2 a13.block (a13.off + 3 + 0) (.int .i64 (w64 (n11 + x2)))).bind fun s14 => some (.normal, [], s14)) else (some (.normal, [], r10.2)) : Option LOut).bind fun r15 => if r15.1 = .normal then (some (.tuple #[.int .i64 n11, .bool b12], r15.2.2)) else none

noncomputable def b_alloc_bump_place (k : Nat) (alloc_Allocator_bumped : T_ppi) (x1 : Option Addr) (x2 : Int) (σ : AMem) : RV1 :=
  allocK σ (.cells [] ty_alloc_bump true) fun h1 s2 => x1.bind fun a3 => (alloc_Allocator_bumped x1 (some ⟨a3.block, a3.off + 3, none⟩) x2 s2).bind fun r4 => r_it r4.1 fun n5 b6 => some (.tuple #[.int .i64 n5, .bool b6], r4.2)

noncomputable def b_alloc_Allocator_bumped (k : Nat) (alloc_Allocator_begin : T_p) (alloc_area_has : T_pi) (alloc_area_take : T_pi) (x0 : Option Addr) (x1 : Option Addr) (x2 : Int) (σ : AMem) : RV1 :=
  (alloc_area_has x1 x2 σ).bind fun r1 => (toB r1.1).bind fun b2 => (bif !b2 then ((alloc_Allocator_begin x0 r1.2).bind fun r3 => (toT r3.1).bind fun q4 => if q4.length = 2 then q4.head?.bind fun v5 => a_ii v5 fun n6 n7 => q4.tail.head?.bind fun v8 => (toB v8).bind fun b9 => allocK r3.2 (.cells [.int .i64 (0 : Int), .int .i64 (0 : Int)] ty_alloc_area true) fun h10 s11 => (stN s11 h10 0 [.int .i64 n6, .int .i64 n7]).bind fun s12 => bif !b9 then (some (.ret, [.int .i64 (0 : Int), .bool false], s12)) else ((ldI .i64 s12 h10 0).bind fun n13 => (ldI .i64 s12 h10 (0 + 1)).bind fun n14 => x1.bind fun a15 => (stN s12 a15.block a15.off [.int .i64 n13, .int .i64 n14]).bind fun s16 => some (.normal, [], s16)) else none) else (some (.normal, [], r1.2)) : Option LOut).bind fun r17 => if r17.1 = .normal then ((alloc_area_take x1 x2 r17.2.2).bind fun r18 => (toI .i64 r18.1).bind fun n19 => some (.tuple #[.int .i64 n19, .bool true], r18.2)) else if r17.1 = .ret then (u_it r17.2.1 fun n20 b21 => some (.tuple #[.int .i64 n20, .bool b21], r17.2.2)) else none

noncomputable def b_alloc_area_has (k : Nat)  (x0 : Option Addr) (x1 : Int) (σ : AMem) : RV1 :=
  x0.bind fun a1 => (ldI .i64 σ a1.block (a1.off + 1)).bind fun n2 => x0.bind fun a3 => (ldI .i64 σ a3.block (a3.off + 0)).bind fun n4 => some (.bool (decide ((w64 (n2 - n4)) ≥ x1)), σ)

noncomputable def b_alloc_area_take (k : Nat)  (x0 : Option Addr) (x1 : Int) (σ : AMem) : RV1 :=
  x0.bind fun a1 => (ldI .i64 σ a1.block (a1.off + 0)).bind fun n2 => x0.bind fun a3 => (st1 σ a3.block (a3.off + 0) (.int .i64 (w64 (n2 + x1)))).bind fun s4 => x0.bind fun a5 => (ldI .i64 s4 a5.block (a5.off + 0)).bind fun n6 => some (.int .i64 (w64 (n6 - x1)), s4)

noncomputable def b_alloc_lines_place (k : Nat) (alloc_Allocator_bumped : T_ppi) (alloc_Allocator_hole : T_p) (alloc_area_has : T_pi) (alloc_area_take : T_pi) (x1 : Option Addr) (x2 : Int) (σ : AMem) : RV1 :=
  allocK σ (.cells [] ty_alloc_lines true) fun h1 s2 => x1.bind fun a3 => (alloc_area_has (some ⟨a3.block, a3.off + 3, none⟩) x2 s2).bind fun r4 => (toB r4.1).bind fun b5 => bif b5 then (x1.bind fun a6 => (alloc_area_take (some ⟨a6.block, a6.off + 3, none⟩) x2 r4.2).bind fun r7 => (toI .i64 r7.1).bind fun n8 => some (.tuple #[.int .i64 n8, .bool true], r7.2)) else (bif decide (x2 > (8 : Int)) then (x1.bind fun a9 => (alloc_Allocator_bumped x1 (some ⟨a9.block, a9.off + 5, none⟩) x2 r4.2).bind fun r10 => r_it r10.1 fun n11 b12 => some (.tuple #[.int .i64 n11, .bool b12], r10.2)) else ((alloc_Allocator_hole x1 r4.2).bind fun r13 => (toT r13.1).bind fun q14 => if q14.length = 2 then q14.head?.bind fun v15 => a_ii v15 fun n16 n17 => q14.tail.head?.bind fun v18 => (toB v18).bind fun b19 => allocK r13.2 (.cells [.int .i64 (0 : Int), .int .i64 (0 : Int)] ty_alloc_area true) fun h20 s21 => (stN s21 h20 0 [.int .i64 n16, .int .i64 n17]).bind fun s22 => bif !b19 then (some (.tuple #[.int .i64 (0 : Int), .bool false], s22)) else ((ldI .i64 s22 h20 0).bind fun n23 => (ldI .i64 s22 h20 (0 + 1)).bind fun n24 => x1.bind fun a25 => (stN s22 a25.block (a25.off + 3) [.int .i64 n23, .int .i64 n24]).bind fun s26 => x1.bind fun a27 => (alloc_area_take (some ⟨a27.block, a27.off + 3, none⟩) x2 s26).bind fun r28 => (toI .i64 r28.1).bind fun n29 => some (.tuple #[.int .i64 n29, .bool true], r28.2)) else none))

noncomputable def b_alloc_Allocator_hole_l2 (k n : Nat) (alloc_Allocator_hole_l2 : L_pnni) (p0 : Option Addr) (c1 : Nat) (c2 : Nat) (x8 : Int) (σ : AMem) : Option LOut :=
  (bif decide (x8 < ((c1 : Nat) : Int)) then if 0 ≤ x8 ∧ x8 < (c1 : Nat) then p0.bind fun a11 => (ldB σ a11.block (a11.off + x8.toNat * 1)).bind fun b12 => some (!b12, σ) else none else some (false, σ)).bind fun r13 => bif r13.1 then (alloc_Allocator_hole_l2 n p0 c1 c2 (w64 (x8 + (1 : Int))) r13.2) else (some (.exit 4, [.int .i64 x8], r13.2))

noncomputable def b_alloc_Allocator_hole_l1 (k n : Nat) (alloc_Allocator_hole_l1 : L_pnipnni) (alloc_Allocator_hole_l2 : L_pnni) (p0 : Option Addr) (h1 : Nat) (i2 : Int) (p3 : Option Addr) (c4 : Nat) (c5 : Nat) (x7 : Int) (σ : AMem) : Option LOut :=
  bif decide (x7 < ((c4 : Nat) : Int)) then ((alloc_Allocator_hole_l2 k p3 c4 c5 x7 σ).bind fun r14 => if r14.1 = .exit 4 then (u_i r14.2.1 fun n15 => (bif decide (n15 > x7) then p0.bind fun a16 => (ldI .i64 r14.2.2 a16.block (a16.off + 3 + 1)).bind fun n17 => some (decide ((w64 ((w64 (i2 * (64 : Int))) + (w64 (x7 * (8 : Int))))) ≥ n17), r14.2.2) else some (false, r14.2.2)).bind fun r18 => bif r18.1 then ((stN r18.2 h1 0 [.int .i64 (w64 ((w64 (i2 * (64 : Int))) + (w64 (x7 * (8 : Int))))), .int .i64 (w64 ((w64 (i2 * (64 : Int))) + (w64 (n15 * (8 : Int)))))]).bind fun s19 => some (.ret, [.bool true], s19)) else (alloc_Allocator_hole_l1 n p0 h1 i2 p3 c4 c5 (w64 ((if n15 > x7 then n15 else x7) + (1 : Int))) r18.2)) else none) else (some (.exit 2, [], σ))

noncomputable def b_alloc_Allocator_hole_l0 (k n : Nat) (alloc_Allocator_hole_l0 : L_pnpnnii) (alloc_Allocator_hole_l1 : L_pnipnni) (heap_Heap_Lines : T_pi) (p0 : Option Addr) (h1 : Nat) (p2 : Option Addr) (c3 : Nat) (c4 : Nat) (i5 : Int) (x13 : Int) (σ : AMem) : Option LOut :=
  bif decide (x13 < i5) then (if 0 ≤ x13 ∧ x13 < (c3 : Nat) then p2.bind fun a5 => (ldI .i64 σ a5.block (a5.off + x13.toNat * 1)).bind fun n6 => p0.bind fun a7 => (ldP σ a7.block (a7.off + 0)).bind fun p8 => (heap_Heap_Lines p8 n6 σ).bind fun r9 => (toS r9.1).bind fun l10 => (alloc_Allocator_hole_l1 k p0 h1 n6 l10.1 l10.2.1 l10.2.2 (0 : Int) r9.2).bind fun r20 => if r20.1 = .exit 2 then (alloc_Allocator_hole_l0 n p0 h1 p2 c3 c4 i5 (w64 (x13 + (1 : Int))) r20.2.2) else if r20.1 = .ret then (u_t r20.2.1 fun b21 => some (.ret, [.bool b21], r20.2.2)) else none else none) else (some (.exit 0, [], σ))

noncomputable def b_alloc_Allocator_hole (k : Nat) (alloc_Allocator_begin : T_p) (alloc_Allocator_blocks : T_p) (alloc_Allocator_hole_l0 : L_pnpnnii) (x0 : Option Addr) (σ : AMem) : RV1 :=
  allocK σ (.cells [.int .i64 (0 : Int), .int .i64 (0 : Int)] ty_alloc_area true) fun h1 s2 => (alloc_Allocator_blocks x0 s2).bind fun r3 => (toS r3.1).bind fun l4 => (alloc_Allocator_hole_l0 k x0 h1 l4.1 l4.2.1 l4.2.2 ((l4.2.1 : Nat) : Int) (0 : Int) r3.2).bind fun r22 => if r22.1 = .exit 0 then ((alloc_Allocator_begin x0 r22.2.2).bind fun r23 => (toT r23.1).bind fun q24 => if q24.length = 2 then q24.head?.bind fun v25 => a_ii v25 fun n26 n27 => q24.tail.head?.bind fun v28 => (toB v28).bind fun b29 => (stN r23.2 h1 0 [.int .i64 n26, .int .i64 n27]).bind fun s30 => (((ldN s30 h1 0 2).bind fun v31 => some (.agg v31.toArray)).bind fun v32 => some [v32, .bool b29]).bind fun vs33 => some (resOf vs33, s30) else none) else if r22.1 = .ret then (u_t r22.2.1 fun b34 => (((ldN r22.2.2 h1 0 2).bind fun v35 => some (.agg v35.toArray)).bind fun v36 => some [v36, .bool b34]).bind fun vs37 => some (resOf vs37, r22.2.2)) else none

noncomputable def b_heap_Heap_Lines_l1 (k n : Nat) (heap_Heap_Lines_l1 : L_nnii) (h0 : Nat) (c1 : Nat) (i2 : Int) (x10 : Int) (σ : AMem) : Option LOut :=
  if (8 : Int) = 0 then none else bif decide (x10 ≤ (w64 (i2.tdiv (8 : Int)))) then (if 0 ≤ x10 ∧ x10 < (c1 : Nat) then (st1 σ h0 (0 + x10.toNat * 1) (.bool true)).bind fun s11 => heap_Heap_Lines_l1 n h0 c1 i2 (w64 (x10 + (1 : Int))) s11 else none) else (some (.exit 2, [], σ))

noncomputable def b_heap_Heap_Lines_l0 (k n : Nat) (heap_Heap_Lines_l0 : L_pnnpnnii) (heap_Heap_Lines_l1 : L_nnii) (heap_Heap_size : T_pi) (p0 : Option Addr) (h1 : Nat) (c2 : Nat) (p3 : Option Addr) (c4 : Nat) (c5 : Nat) (i6 : Int) (x20 : Int) (σ : AMem) : Option LOut :=
  bif decide (x20 < i6) then (if 0 ≤ x20 ∧ x20 < (c4 : Nat) then p3.bind fun a7 => (ldI .i64 σ a7.block (a7.off + x20.toNat * 1)).bind fun n8 => if (64 : Int) = 0 then none else if (64 : Int) = 0 then none else (heap_Heap_size p0 n8 σ).bind fun r9 => (toI .i64 r9.1).bind fun n10 => if (8 : Int) = 0 then none else (heap_Heap_Lines_l1 k h1 c2 (w64 ((w64 ((n8.tmod (64 : Int)) + n10)) - (1 : Int))) (w64 ((n8.tmod (64 : Int)).tdiv (8 : Int))) r9.2).bind fun r12 => if r12.1 = .exit 2 then (heap_Heap_Lines_l0 n p0 h1 c2 p3 c4 c5 i6 (w64 (x20 + (1 : Int))) r12.2.2) else none else none) else (some (.exit 0, [], σ))

noncomputable def b_heap_Heap_Lines (k : Nat) (heap_Heap_Lines_l0 : L_pnnpnnii) (heap_Heap_Objects : T_pi) (heap_Heap_used : T_pi) (x0 : Option Addr) (x1 : Int) (σ : AMem) : RV1 :=
  (heap_Heap_used x0 x1 σ).bind fun r1 => (toB r1.1).bind fun b2 => bif !b2 then (some (.slice none 0 0, r1.2)) else (if 0 ≤ (8 : Int) ∧ (8 : Int) ≤ (8 : Int) ∧ (8 : Int) * (1 : Nat) ≤ 2 ^ 40 ∧ (8 : Int) ≤ 2 ^ 40 then allocK r1.2 (.cells (rep (8 : Int).toNat [.bool false]) ty_bool true) fun h3 s4 => (heap_Heap_Objects x0 x1 s4).bind fun r5 => (toS r5.1).bind fun l6 => (heap_Heap_Lines_l0 k x0 h3 ((8 : Int).toNat) l6.1 l6.2.1 l6.2.2 ((l6.2.1 : Nat) : Int) (0 : Int) r5.2).bind fun r13 => if r13.1 = .exit 0 then (some (.slice (some ⟨h3, 0, none⟩) ((8 : Int).toNat) ((8 : Int).toNat), r13.2.2)) else none else none)

noncomputable def b_roots_Roots_Places_r (k : Nat)  (h : Nat) (qh0 : Nat) (z0_0 : Int) (z0_1 : Int) (z0_2 : Int) (z1 : Option Addr) (σ : AMem) : RV1 :=
  allocK σ (.cells [.int .i64 (0 : Int), .int .i64 (0 : Int), .int .i64 (0 : Int)] ty_api_Place true) fun h1 s2 => (stN s2 h1 0 [.int .i64 z0_0, .int .i64 z0_1, .int .i64 z0_2]).bind fun s3 => setLoop h s3 .ready .busy fun _ _ s4 => (ldS s4 qh0 0).bind fun l5 => (ldI .i64 s4 h1 0).bind fun n6 => (ldI .i64 s4 h1 (0 + 1)).bind fun n7 => (ldI .i64 s4 h1 (0 + 1 + 1)).bind fun n8 => allocK s4 (.cells [.int .i64 n6, .int .i64 n7, .int .i64 n8] ty_api_Place true) fun h9 s10 => (appendD P ty_api_Place (l5.1, l5.2.1, l5.2.2) (some ⟨h9, 0, none⟩, 1, 1) s10).bind fun r11 => (st1 r11.2 qh0 0 (.slice r11.1.1 r11.1.2.1 r11.1.2.2)).bind fun s12 => setLoop h s12 .busy .ready fun _ _ s13 => some (.bool true, s13)

noncomputable def b_roots_Roots_Leads_r (k : Nat) (slices_Contains_int : T_li) (h : Nat) (qh0 : Nat) (z0_0 : Int) (z0_1 : Int) (z0_2 : Int) (z1 : Option Addr) (σ : AMem) : RV1 :=
  setLoop h σ .ready .busy fun _ _ s1 => (ldS s1 qh0 0).bind fun l2 => z1.bind fun a3 => (ldI .i64 s1 a3.block a3.off).bind fun n4 => (slices_Contains_int (l2.1, l2.2.1, l2.2.2) n4 s1).bind fun r5 => (toB r5.1).bind fun b6 => (bif !b6 then ((ldS r5.2 qh0 0).bind fun l7 => z1.bind fun a8 => (ldI .i64 r5.2 a8.block a8.off).bind fun n9 => allocK r5.2 (.cells [.int .i64 n9] ty_int true) fun h10 s11 => (appendD P ty_int (l7.1, l7.2.1, l7.2.2) (some ⟨h10, 0, none⟩, 1, 1) s11).bind fun r12 => (st1 r12.2 qh0 0 (.slice r12.1.1 r12.1.2.1 r12.1.2.2)).bind fun s13 => some (.normal, [], s13)) else (some (.normal, [], r5.2)) : Option LOut).bind fun r14 => if r14.1 = .normal then (setLoop h r14.2.2 .busy .ready fun _ _ s15 => some (.bool true, s15)) else none

end
end Go.Proofs.YtilefhlamdiomaaGreat
