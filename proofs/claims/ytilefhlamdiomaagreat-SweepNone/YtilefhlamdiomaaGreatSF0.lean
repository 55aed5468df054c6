/-
  PRINTED BY A PROGRAM OF THIS SESSION'S OWN (gen2.py): the Go functions as Lean functions over the abstract memory.
-/
import Derived.Test.YtilefhlamdiomaaGreatAXQ
import Derived.Test.YtilefhlamdiomaaGreatSAXC
set_option maxRecDepth 100000
set_option linter.unusedVariables false
set_option linter.unusedSimpArgs false
set_option linter.unusedSectionVars false
namespace Go.Proofs.YtilefhlamdiomaaGreat
open Go Go.AX

abbrev ty_int64 : TypeId := 2
abbrev ty_int : TypeId := 3
abbrev ty_bool : TypeId := 4
abbrev ty_uint8 : TypeId := 5
abbrev ty_internal_abi_BoundsErrorCode : TypeId := 6
abbrev ty_runtime_boundsError : TypeId := 8
abbrev ty_str : TypeId := 9
abbrev ty_runtime_errorString : TypeId := 10
abbrev ty_runtime_plainError : TypeId := 11
abbrev ty_uintptr : TypeId := 12
abbrev ty_runtime_errorAddressString : TypeId := 14
abbrev pt_runtime_TypeAssertionError : TypeId := 15
abbrev pt_runtime_PanicNilError : TypeId := 16
abbrev pt_internal_abi_Type : TypeId := 17
abbrev ty_internal_runtime_maps_unhashableTypeError : TypeId := 19
abbrev ty_int32 : TypeId := 21
abbrev sl_heap_block : TypeId := 22
abbrev sl_int : TypeId := 23
abbrev pt_side_Table : TypeId := 24
abbrev mp_int_int : TypeId := 25
abbrev ty_heap_Heap : TypeId := 27
abbrev el_heap_Heap_blocks : TypeId := 221
abbrev el_heap_Heap_words : TypeId := 3
abbrev ty_roots_Roots : TypeId := 29
abbrev el_roots_Roots_slots : TypeId := 3
abbrev el_roots_Roots_globals : TypeId := 3
abbrev el_roots_Roots_queue : TypeId := 3
abbrev sl_uint64 : TypeId := 30
abbrev ty_side_Table : TypeId := 32
abbrev el_side_Table_words : TypeId := 212
abbrev pt_heap_Heap : TypeId := 33
abbrev ty_api_Errno : TypeId := 34
abbrev pt_roots_Roots : TypeId := 37
abbrev sl_pt_heap_Heap : TypeId := 40
abbrev sl_pt_roots_Roots : TypeId := 41
abbrev ty_api_Traced : TypeId := 43
abbrev ty_api_Shape : TypeId := 57
abbrev ty_dustcartlaw08_Act : TypeId := 59
abbrev pt_sweep_Sweeper : TypeId := 60
abbrev ty_sweep_Sweeper : TypeId := 62
abbrev el_sweep_Sweeper_left : TypeId := 3
abbrev pt_dustcartref08_Sweeper : TypeId := 63
abbrev pt_alloc_Allocator : TypeId := 67
abbrev ar2_pt_alloc_Allocator : TypeId := 68
abbrev pt_model_Model : TypeId := 69
abbrev ty_dustcartlaw06_World : TypeId := 71
abbrev pt_dustcartref02_Heap : TypeId := 72
abbrev pt_dustcartref03_Roots : TypeId := 73
abbrev pt_dustcartref05_Allocator : TypeId := 74
abbrev ar2_pt_dustcartref05_Allocator : TypeId := 75
abbrev pt_dustcartref04_Model : TypeId := 76
abbrev ty_dustcartlaw06_Paper : TypeId := 78
abbrev ty_api_Report : TypeId := 84
abbrev pt_incr_Collector : TypeId := 88
abbrev pt_tri_Core : TypeId := 91
abbrev ty_incr_Collector : TypeId := 93
abbrev sl_pt_incr_Collector : TypeId := 94
abbrev pt_snap_Collector : TypeId := 104
abbrev ty_snap_Collector : TypeId := 107
abbrev sl_pt_snap_Collector : TypeId := 108
abbrev pt_trace_marker : TypeId := 112
abbrev ty_trace_line_int_ : TypeId := 115
abbrev el_trace_line_int__list : TypeId := 3
abbrev ty_trace_marker : TypeId := 117
abbrev sl_api_Place : TypeId := 118
abbrev ty_api_Place : TypeId := 121
abbrev pt_trace_crew : TypeId := 124
abbrev sl_trace_worker : TypeId := 125
abbrev ty_trace_crew : TypeId := 127
abbrev el_trace_crew_workers : TypeId := 131
abbrev ty_trace_worker : TypeId := 131
abbrev mp_int_sl_int : TypeId := 132
abbrev sl_sl_int : TypeId := 141
abbrev sl_dustcartlaw06_Step : TypeId := 150
abbrev ty_dustcartlaw06_Setup : TypeId := 152
abbrev el_dustcartlaw06_Setup_Steps : TypeId := 285
abbrev ty_iter_Seq2_api_Place___int_ : TypeId := 164
abbrev pt_int : TypeId := 166
abbrev pt_trace_worker : TypeId := 169
abbrev pt_trace_line_int_ : TypeId := 174
abbrev pt_dustcartref01_Table : TypeId := 178
abbrev sl_bool : TypeId := 179
abbrev ty_dustcartref08_Sweeper : TypeId := 181
abbrev el_dustcartref08_Sweeper_Some : TypeId := 4
abbrev sl_api_Run : TypeId := 183
abbrev ty_api_Run : TypeId := 186
abbrev sl_dustcartref02_Block : TypeId := 187
abbrev sl_dustcartref02_Object : TypeId := 188
abbrev sl_api_Move : TypeId := 189
abbrev ty_dustcartref02_Heap : TypeId := 191
abbrev el_dustcartref02_Heap_Blocked : TypeId := 234
abbrev el_dustcartref02_Heap_Objs : TypeId := 193
abbrev el_dustcartref02_Heap_Forwards : TypeId := 287
abbrev ty_dustcartref02_Object : TypeId := 193
abbrev el_dustcartref02_Object_Refs : TypeId := 3
abbrev el_dustcartref02_Object_Data : TypeId := 3
abbrev ty_alloc_policy : TypeId := 198
abbrev sl_alloc_policy : TypeId := 199
abbrev ty_alloc_area : TypeId := 202
abbrev ty_alloc_Allocator : TypeId := 204
abbrev ty_dustcartref05_Allocator : TypeId := 209
abbrev ty_uint64 : TypeId := 212
abbrev ty_heap_block : TypeId := 221
abbrev ty_tri_Core : TypeId := 223
abbrev el_tri_Core_list : TypeId := 3
abbrev el_tri_Core_left : TypeId := 3
abbrev ar3_int : TypeId := 225
abbrev ty_dustcartref02_Block : TypeId := 234
abbrev ty_dustcartref01_Table : TypeId := 237
abbrev el_dustcartref01_Table_L : TypeId := 3
abbrev ty_alloc_first : TypeId := 239
abbrev ty_alloc_best : TypeId := 240
abbrev ty_alloc_next : TypeId := 241
abbrev ty_alloc_bump : TypeId := 242
abbrev ty_alloc_lines : TypeId := 243
abbrev sl_model_object : TypeId := 247
abbrev ty_model_Model : TypeId := 249
abbrev el_model_Model_slots : TypeId := 23
abbrev el_model_Model_globals : TypeId := 3
abbrev el_model_Model_queue : TypeId := 3
abbrev el_model_Model_objects : TypeId := 301
abbrev pt_uint64 : TypeId := 252
abbrev ty_runtime_TypeAssertionError : TypeId := 264
abbrev ar0_pt_runtime_PanicNilError : TypeId := 265
abbrev ty_runtime_PanicNilError : TypeId := 267
abbrev ty_uint32 : TypeId := 268
abbrev ty_internal_abi_TFlag : TypeId := 269
abbrev ty_internal_abi_Kind : TypeId := 270
abbrev pt_uint8 : TypeId := 272
abbrev ty_internal_abi_NameOff : TypeId := 273
abbrev ty_internal_abi_TypeOff : TypeId := 274
abbrev ty_internal_abi_Type : TypeId := 276
abbrev ty_dustcartref03_Roots : TypeId := 278
abbrev el_dustcartref03_Roots_Slots : TypeId := 23
abbrev el_dustcartref03_Roots_Globals : TypeId := 3
abbrev el_dustcartref03_Roots_Waiting : TypeId := 3
abbrev sl_dustcartref04_Object : TypeId := 279
abbrev ty_dustcartref04_Model : TypeId := 281
abbrev el_dustcartref04_Model_Slots : TypeId := 23
abbrev el_dustcartref04_Model_Globals : TypeId := 3
abbrev el_dustcartref04_Model_Waiting : TypeId := 3
abbrev el_dustcartref04_Model_Objs : TypeId := 304
abbrev ty_api_Act : TypeId := 283
abbrev ty_dustcartlaw06_Step : TypeId := 285
abbrev ty_api_Move : TypeId := 287
abbrev ty_uint : TypeId := 297
abbrev pt_alloc_area : TypeId := 299
abbrev ty_model_object : TypeId := 301
abbrev el_model_object_refs : TypeId := 3
abbrev el_model_object_data : TypeId := 3
abbrev ty_dustcartref04_Object : TypeId := 304
abbrev el_dustcartref04_Object_Refs : TypeId := 3
abbrev el_dustcartref04_Object_Data : TypeId := 3
/-- The examples are known, or not. -/
def XK (b : Bool) : Ext := fun f => if f = 22 then (bif b then some trueA else X f) else X f
class Kn where
  b : Bool
/-- Registers, but for those that hold nothing. -/
def rgs (i : Nat) : Nat → List (Nat × Value) → Regs
  | 0, _ => []
  | n + 1, [] => none :: rgs (i + 1) n []
  | n + 1, (j, v) :: l => bif Nat.beq i j then some v :: rgs (i + 1) n l else none :: rgs (i + 1) n ((j, v) :: l)

def H : FuncId → Hints
  | 9 => [(10, ⟨[1, 11, 45, 46, 47], [(.exit 0, [])]⟩), (22, ⟨[11], [(.exit 2, [])]⟩)]
  | 13 => [(10, ⟨[0, 1, 6, 24, 25, 26], [(.exit 0, [(6, .int .i64)])]⟩), (26, ⟨[0, 8, 14, 52, 53], [(.exit 2, [(14, .bool)])]⟩), (41, ⟨[], [(.normal, [(6, .int .i64)])]⟩)]
  | 17 => [(29, ⟨[], [(.normal, [(19, .int .i64)])]⟩), (43, ⟨[], [(.normal, []), (.ret, [(10, .bool)])]⟩), (47, ⟨[], [(.normal, [(25, .int .i64)])]⟩)]
  | 20 => [(10, ⟨[0, 6, 31, 32], [(.exit 0, [])]⟩), (17, ⟨[], [(.normal, [])]⟩)]
  | 21 => [(18, ⟨[0, 6, 9, 38, 39], [(.exit 0, [])]⟩)]
  | 54 => [(12, ⟨[3], [(.normal, [])]⟩)]
  | 57 => [(2, ⟨[0], [(.exit 0, [])]⟩), (10, ⟨[0, 30, 31, 32], [(.exit 2, [])]⟩)]
  | 58 => [(8, ⟨[0, 3, 23, 24, 25], [(.exit 0, [(3, .bool)])]⟩)]
  | 60 => [(12, ⟨[3], [(.normal, [])]⟩), (15, ⟨[], [(.normal, [])]⟩)]
  | 61 => [(6, ⟨[0, 1, 5, 16, 17, 18], [(.exit 0, [(5, .slice)])]⟩), (17, ⟨[], [(.normal, [(5, .slice)])]⟩)]
  | 66 => [(8, ⟨[0, 1, 5, 7, 8], [(.exit 0, [(7, .slice)])]⟩)]
  | 79 => [(14, ⟨[0, 1], [(.ret, [(4, .int .i64), (5, .int .i64)])]⟩)]
  | 80 => [(14, ⟨[0, 1, 6, 7], [(.exit 0, [(6, .int .i64)]), (.ret, [(4, .int .i64), (5, .int .i64)])]⟩), (30, ⟨[1, 8, 9, 10], [(.exit 2, [(8, .bool)])]⟩)]
  | 81 => [(6, ⟨[0, 3, 4], [(.exit 0, [(3, .slice)])]⟩)]
  | 84 => [(8, ⟨[0, 4], [(.exit 0, [(4, .int .i64)])]⟩)]
  | 85 => [(10, ⟨[0, 4, 5], [(.exit 0, [(4, .int .i64)])]⟩)]
  | 86 => [(17, ⟨[], [(.normal, [(7, .func)])]⟩), (31, ⟨[], [(.normal, [(11, .int .i64)])]⟩)]
  | 87 => [(43, ⟨[], [(.normal, [(9, .int .i64), (11, .int .i64)]), (.ret, [(4, .int .i64), (5, .int .i64)])]⟩), (55, ⟨[], [(.normal, [])]⟩)]
  | 95 => [(10, ⟨[2, 5, 19, 20, 21], [(.exit 0, []), (.ret, [(4, .bool)])]⟩), (18, ⟨[2, 5, 7, 32, 33], [(.exit 2, []), (.ret, [(4, .bool)])]⟩)]
  | 96 => [(4, ⟨[0, 1, 3, 18, 19, 20], [(.exit 0, [])]⟩), (11, ⟨[], [(.normal, [])]⟩)]
  | 98 => [(6, ⟨[0, 3, 7, 8, 9], [(.exit 0, [(3, .int .i64)])]⟩)]
  | 99 => [(12, ⟨[1, 3, 4], [(.exit 0, [])]⟩)]
  | 101 => [(8, ⟨[0, 1, 5], [(.exit 0, []), (.ret, [(4, .bool)])]⟩)]
  | 129 => [(0, ⟨[0], [(.exit 0, [])]⟩), (5, ⟨[], [(.normal, [])]⟩)]
  | 130 => [(4, ⟨[0, 20, 21, 22], [(.exit 0, [])]⟩)]
  | 133 => [(10, ⟨[0, 1, 5, 6], [(.exit 0, [(5, .int .i64)])]⟩), (19, ⟨[], [(.normal, [(5, .int .i64)])]⟩)]
  | 137 => [(6, ⟨[0, 2, 7, 8, 9], [(.exit 0, [(7, .slice)])]⟩)]
  | 140 => [(15, ⟨[], [(.normal, [(12, .int .i64), (13, .int .i64)])]⟩)]
  | 141 => [(4, ⟨[0, 1, 7, 8], [(.exit 0, []), (.ret, [(4, .int .i64)])]⟩)]
  | 144 => [(14, ⟨[0, 1, 8, 9, 10], [(.exit 0, [(8, .int .i64)])]⟩), (21, ⟨[], [(.normal, [(8, .int .i64)])]⟩)]
  | 147 => [(14, ⟨[0, 5, 6, 7, 8], [(.exit 0, [(5, .slice), (6, .int .i64)])]⟩), (21, ⟨[], [(.normal, [(5, .slice)])]⟩), (29, ⟨[], [(.normal, [(5, .slice)])]⟩)]
  | 156 => [(6, ⟨[0, 6, 7], [(.exit 0, []), (.ret, [(4, .int .i64), (5, .bool)])]⟩)]
  | 163 => [(4, ⟨[0, 1, 5], [(.exit 0, []), (.ret, [(4, .int .i64)])]⟩), (10, ⟨[0, 1, 5, 6], [(.exit 2, [(6, .int .i64)])]⟩)]
  | 164 => [(12, ⟨[0, 1, 2, 9], [(.exit 0, []), (.ret, [(8, .int .i64)])]⟩), (22, ⟨[0, 1, 2, 3, 10], [(.exit 2, [])]⟩)]
  | 165 => [(5, ⟨[], [(.normal, [])]⟩)]
  | 167 => [(7, ⟨[], [(.normal, [(8, .int .i64), (9, .int .i64), (10, .int .i64)]), (.ret, [(6, .int .i64), (7, .int .i64)])]⟩), (19, ⟨[], [(.normal, [])]⟩)]
  | 168 => [(12, ⟨[0, 2, 4, 8], [(.exit 0, []), (.ret, [(6, .int .i64), (7, .int .i64)])]⟩), (22, ⟨[0, 2, 4, 8, 9, 10], [(.exit 2, []), (.ret, [(6, .int .i64), (7, .int .i64)])]⟩), (35, ⟨[], [(.normal, [])]⟩)]
  | 169 => [(7, ⟨[], [(.normal, []), (.ret, [(4, .int .i64), (5, .bool)])]⟩), (8, ⟨[0, 1, 6, 7], [(.exit 0, []), (.ret, [(4, .int .i64), (5, .bool)])]⟩), (22, ⟨[0, 1, 6, 10, 11], [(.exit 2, [(10, .int .i64)])]⟩), (31, ⟨[], [(.normal, [(10, .int .i64)])]⟩)]
  | 176 => [(14, ⟨[0, 1, 6], [(.exit 0, [])]⟩)]
  | 180 => [(10, ⟨[4, 14, 15], [(.exit 0, [])]⟩)]
  | 187 => [(2, ⟨[0, 19, 20, 21], [(.exit 0, []), (.ret, [])]⟩), (8, ⟨[0, 3, 4, 27, 28], [(.exit 2, []), (.ret, [])]⟩), (17, ⟨[], [(.normal, [])]⟩)]
  | 191 => [(4, ⟨[0, 1, 7, 8], [(.exit 0, []), (.ret, [(4, .int .i64)])]⟩)]
  | 194 => [(8, ⟨[0, 2, 8], [(.exit 0, []), (.ret, [(6, .int .i64), (7, .int .i64)])]⟩)]
  | 197 => [(6, ⟨[0, 1, 5, 6], [(.exit 0, [(5, .slice)])]⟩), (13, ⟨[], [(.normal, [(5, .slice)])]⟩)]
  | 201 => [(22, ⟨[0, 1, 5, 6], [(.exit 0, [])]⟩)]
  | 203 => [(14, ⟨[0, 6, 7, 19, 20, 21], [(.exit 0, [])]⟩)]
  | 205 => [(8, ⟨[0, 1, 5], [(.exit 0, []), (.ret, [(4, .int .i64)])]⟩)]
  | 212 => [(11, ⟨[], [(.normal, []), (.ret, [(8, .int .i64)])]⟩), (20, ⟨[0, 1, 2, 3, 10], [(.exit 0, []), (.ret, [(8, .int .i64)])]⟩)]
  | 220 => [(7, ⟨[], [(.normal, [(8, .int .i64), (9, .int .i64), (10, .int .i64)]), (.ret, [(6, .int .i64), (7, .int .i64)])]⟩), (19, ⟨[], [(.normal, [])]⟩)]
  | 221 => [(8, ⟨[5, 6, 7], [(.exit 0, [(5, .slice)])]⟩), (17, ⟨[], [(.normal, [(5, .slice)])]⟩)]
  | 222 => [(6, ⟨[0, 3, 4], [(.exit 0, [(3, .slice)])]⟩), (13, ⟨[], [(.normal, [(3, .slice)])]⟩)]
  | 225 => [(4, ⟨[0, 1, 5], [(.exit 0, [(5, .int .i64)])]⟩)]
  | 233 => [(12, ⟨[0, 1, 5], [(.exit 0, [(5, .int .i64)])]⟩)]
  | 234 => [(4, ⟨[0, 1, 7, 8], [(.exit 0, []), (.ret, [(4, .int .i64)])]⟩)]
  | 236 => [(3, ⟨[], [(.normal, [])]⟩)]
  | 239 => [(16, ⟨[0, 1, 9, 53, 54], [(.exit 1, [])]⟩)]
  | 241 => [(11, ⟨[], [(.normal, []), (.ret, [(8, .int .i64)])]⟩), (20, ⟨[0, 1, 3, 6, 10], [(.exit 0, []), (.ret, [(8, .int .i64)])]⟩)]
  | 242 => [(4, ⟨[0, 3, 4], [(.exit 0, [(4, .int .i64)])]⟩)]
  | 243 => [(10, ⟨[0, 1, 5, 6], [(.exit 0, [(5, .slice)])]⟩), (18, ⟨[0, 1, 6, 7, 8], [(.exit 2, [(7, .bool)])]⟩)]
  | 253 => [(8, ⟨[0, 2, 8], [(.exit 0, []), (.ret, [(6, .int .i64), (7, .int .i64)])]⟩)]
  | 254 => [(8, ⟨[0, 1, 6], [(.exit 0, []), (.ret, [(4, .int .i64), (5, .int .i64)])]⟩)]
  | 256 => [(4, ⟨[0, 1, 7, 8], [(.exit 0, []), (.ret, [(4, .int .i64)])]⟩)]
  | 282 => [(6, ⟨[0, 1, 2, 7, 14, 15, 16], [(.exit 0, [(7, .slice)])]⟩), (12, ⟨[1, 2, 7, 25, 26, 27], [(.exit 2, [(7, .slice)])]⟩), (21, ⟨[], [(.normal, [])]⟩), (25, ⟨[], [(.normal, [(7, .slice)])]⟩)]
  | 283 => [(4, ⟨[0, 2, 4], [(.exit 0, []), (.ret, [(3, .bool)])]⟩)]
  | 284 => [(6, ⟨[0, 3, 9, 10], [(.exit 0, [(3, .slice)])]⟩), (13, ⟨[], [(.normal, [(3, .slice)])]⟩)]
  | 289 => [(4, ⟨[0, 1, 2, 6, 7, 8], [(.exit 0, [(7, .int .i64)])]⟩), (14, ⟨[0, 1, 2, 6], [(.exit 2, [])]⟩), (18, ⟨[0, 1, 2, 6, 7, 8], [(.exit 4, [(7, .int .i64)])]⟩), (31, ⟨[], [(.normal, [])]⟩)]
  | 290 => [(2, ⟨[0, 1, 2, 3, 8], [(.exit 0, [])]⟩), (8, ⟨[0, 1, 3, 9], [(.exit 2, [])]⟩)]
  | 291 => [(6, ⟨[0, 1, 4, 10, 11], [(.exit 0, [(10, .int .i64)])]⟩), (13, ⟨[], [(.normal, [(10, .int .i64), (11, .int .i64)])]⟩), (18, ⟨[0, 10, 13], [(.exit 2, [])]⟩), (30, ⟨[0, 2, 4, 14, 15], [(.exit 4, [(14, .int .i64)])]⟩), (37, ⟨[], [(.normal, [(14, .int .i64), (15, .int .i64)])]⟩), (42, ⟨[0, 14, 17], [(.exit 6, [])]⟩), (57, ⟨[], [(.normal, [(20, .int .i64), (21, .int .i64)])]⟩), (66, ⟨[0, 4, 20, 21, 22], [(.exit 8, [(20, .int .i64)])]⟩), (73, ⟨[], [(.normal, [(20, .int .i64), (21, .int .i64)])]⟩), (81, ⟨[], [(.normal, [])]⟩), (85, ⟨[], [(.normal, [])]⟩), (89, ⟨[], [(.normal, [])]⟩)]
  | 292 => [(4, ⟨[0, 2, 4, 10, 11], [(.exit 0, [(10, .int .i64)])]⟩), (9, ⟨[], [(.normal, [(10, .int .i64), (11, .int .i64)])]⟩)]
  | 293 => [(2, ⟨[0, 1, 2, 3, 10], [(.exit 0, [])]⟩)]
  | 294 => [(9, ⟨[], [(.normal, [])]⟩)]
  | 296 => [(5, ⟨[], [(.normal, []), (.ret, [(6, .int .i64), (7, .bool)])]⟩)]
  | 300 => [(4, ⟨[0, 2, 11, 12, 13], [(.exit 0, []), (.ret, [(3, .bool)])]⟩), (12, ⟨[0, 2, 5, 6, 7], [(.exit 2, []), (.ret, [(3, .bool)])]⟩), (18, ⟨[6, 8], [(.exit 4, [(8, .int .i64)])]⟩)]
  | 301 => [(10, ⟨[0, 5, 18, 19, 20], [(.exit 0, [])]⟩), (18, ⟨[5, 9, 10], [(.exit 2, [])]⟩)]
  | _ => []

section
variable [Quiet] [Kn]

noncomputable def lp (k f i : Nat) (c : Code) (n : Nat) (rs : Regs) (σ : AMem) : Option LOut :=
  loopF (fun regs σ K => exec P (fn P (XK Kn.b) H k) f (H f) k (cB c) LOut regs σ K) (((H f).lookup i).getD default) n rs σ

def u_f {ρ : Type} (l : List Value) (K : Value → Option ρ) : Option ρ := l.head?.bind fun y0 => K y0
theorem u_f_eq {ρ : Type} (y0 : Value) (K : Value → Option ρ) : u_f [y0] K = K y0 := by simp [u_f, toI, toB, toStr, toP, toS, toM]

def u_i {ρ : Type} (l : List Value) (K : Int → Option ρ) : Option ρ := l.head?.bind fun v => (toI .i64 v).bind fun y0 => K y0
theorem u_i_eq {ρ : Type} (y0 : Int) (K : Int → Option ρ) : u_i [.int .i64 y0] K = K y0 := by simp [u_i, toI, toB, toStr, toP, toS, toM]

def u_ii {ρ : Type} (l : List Value) (K : Int → Int → Option ρ) : Option ρ := l.head?.bind fun v => (toI .i64 v).bind fun y0 => l.tail.head?.bind fun v => (toI .i64 v).bind fun y1 => K y0 y1
theorem u_ii_eq {ρ : Type} (y0 : Int) (y1 : Int) (K : Int → Int → Option ρ) : u_ii [.int .i64 y0, .int .i64 y1] K = K y0 y1 := by simp [u_ii, toI, toB, toStr, toP, toS, toM]

def u_iii {ρ : Type} (l : List Value) (K : Int → Int → Int → Option ρ) : Option ρ := l.head?.bind fun v => (toI .i64 v).bind fun y0 => l.tail.head?.bind fun v => (toI .i64 v).bind fun y1 => l.tail.tail.head?.bind fun v => (toI .i64 v).bind fun y2 => K y0 y1 y2
theorem u_iii_eq {ρ : Type} (y0 : Int) (y1 : Int) (y2 : Int) (K : Int → Int → Int → Option ρ) : u_iii [.int .i64 y0, .int .i64 y1, .int .i64 y2] K = K y0 y1 y2 := by simp [u_iii, toI, toB, toStr, toP, toS, toM]

def u_iiiii {ρ : Type} (l : List Value) (K : Int → Int → Int → Int → Int → Option ρ) : Option ρ := l.head?.bind fun v => (toI .i64 v).bind fun y0 => l.tail.head?.bind fun v => (toI .i64 v).bind fun y1 => l.tail.tail.head?.bind fun v => (toI .i64 v).bind fun y2 => l.tail.tail.tail.head?.bind fun v => (toI .i64 v).bind fun y3 => l.tail.tail.tail.tail.head?.bind fun v => (toI .i64 v).bind fun y4 => K y0 y1 y2 y3 y4
theorem u_iiiii_eq {ρ : Type} (y0 : Int) (y1 : Int) (y2 : Int) (y3 : Int) (y4 : Int) (K : Int → Int → Int → Int → Int → Option ρ) : u_iiiii [.int .i64 y0, .int .i64 y1, .int .i64 y2, .int .i64 y3, .int .i64 y4] K = K y0 y1 y2 y3 y4 := by simp [u_iiiii, toI, toB, toStr, toP, toS, toM]

def u_iiiiiiii {ρ : Type} (l : List Value) (K : Int → Int → Int → Int → Int → Int → Int → Int → Option ρ) : Option ρ := l.head?.bind fun v => (toI .i64 v).bind fun y0 => l.tail.head?.bind fun v => (toI .i64 v).bind fun y1 => l.tail.tail.head?.bind fun v => (toI .i64 v).bind fun y2 => l.tail.tail.tail.head?.bind fun v => (toI .i64 v).bind fun y3 => l.tail.tail.tail.tail.head?.bind fun v => (toI .i64 v).bind fun y4 => l.tail.tail.tail.tail.tail.head?.bind fun v => (toI .i64 v).bind fun y5 => l.tail.tail.tail.tail.tail.tail.head?.bind fun v => (toI .i64 v).bind fun y6 => l.tail.tail.tail.tail.tail.tail.tail.head?.bind fun v => (toI .i64 v).bind fun y7 => K y0 y1 y2 y3 y4 y5 y6 y7
theorem u_iiiiiiii_eq {ρ : Type} (y0 : Int) (y1 : Int) (y2 : Int) (y3 : Int) (y4 : Int) (y5 : Int) (y6 : Int) (y7 : Int) (K : Int → Int → Int → Int → Int → Int → Int → Int → Option ρ) : u_iiiiiiii [.int .i64 y0, .int .i64 y1, .int .i64 y2, .int .i64 y3, .int .i64 y4, .int .i64 y5, .int .i64 y6, .int .i64 y7] K = K y0 y1 y2 y3 y4 y5 y6 y7 := by simp [u_iiiiiiii, toI, toB, toStr, toP, toS, toM]

def u_it {ρ : Type} (l : List Value) (K : Int → Bool → Option ρ) : Option ρ := l.head?.bind fun v => (toI .i64 v).bind fun y0 => l.tail.head?.bind fun v => (toB v).bind fun y1 => K y0 y1
theorem u_it_eq {ρ : Type} (y0 : Int) (y1 : Bool) (K : Int → Bool → Option ρ) : u_it [.int .i64 y0, .bool y1] K = K y0 y1 := by simp [u_it, toI, toB, toStr, toP, toS, toM]

def u_l {ρ : Type} (l : List Value) (K : Option Addr × Nat × Nat → Option ρ) : Option ρ := l.head?.bind fun v => (toS v).bind fun y0 => K y0
theorem u_l_eq {ρ : Type} (y0 : Option Addr × Nat × Nat) (K : Option Addr × Nat × Nat → Option ρ) : u_l [.slice y0.1 y0.2.1 y0.2.2] K = K y0 := by simp [u_l, toI, toB, toStr, toP, toS, toM]

def u_li {ρ : Type} (l : List Value) (K : Option Addr × Nat × Nat → Int → Option ρ) : Option ρ := l.head?.bind fun v => (toS v).bind fun y0 => l.tail.head?.bind fun v => (toI .i64 v).bind fun y1 => K y0 y1
theorem u_li_eq {ρ : Type} (y0 : Option Addr × Nat × Nat) (y1 : Int) (K : Option Addr × Nat × Nat → Int → Option ρ) : u_li [.slice y0.1 y0.2.1 y0.2.2, .int .i64 y1] K = K y0 y1 := by simp [u_li, toI, toB, toStr, toP, toS, toM]

def u_ppppp {ρ : Type} (l : List Value) (K : Option Addr → Option Addr → Option Addr → Option Addr → Option Addr → Option ρ) : Option ρ := l.head?.bind fun v => (toP v).bind fun y0 => l.tail.head?.bind fun v => (toP v).bind fun y1 => l.tail.tail.head?.bind fun v => (toP v).bind fun y2 => l.tail.tail.tail.head?.bind fun v => (toP v).bind fun y3 => l.tail.tail.tail.tail.head?.bind fun v => (toP v).bind fun y4 => K y0 y1 y2 y3 y4
theorem u_ppppp_eq {ρ : Type} (y0 : Option Addr) (y1 : Option Addr) (y2 : Option Addr) (y3 : Option Addr) (y4 : Option Addr) (K : Option Addr → Option Addr → Option Addr → Option Addr → Option Addr → Option ρ) : u_ppppp [.pointer y0, .pointer y1, .pointer y2, .pointer y3, .pointer y4] K = K y0 y1 y2 y3 y4 := by simp [u_ppppp, toI, toB, toStr, toP, toS, toM]

def u_t {ρ : Type} (l : List Value) (K : Bool → Option ρ) : Option ρ := l.head?.bind fun v => (toB v).bind fun y0 => K y0
theorem u_t_eq {ρ : Type} (y0 : Bool) (K : Bool → Option ρ) : u_t [.bool y0] K = K y0 := by simp [u_t, toI, toB, toStr, toP, toS, toM]

def a_ii {ρ : Type} (v : Value) (K : Int → Int → Option ρ) : Option ρ := (toA v).bind fun l => if l.length = 2 then u_ii l K else none
theorem a_ii_eq {ρ : Type} (y0 : Int) (y1 : Int) (K : Int → Int → Option ρ) : a_ii (.agg #[.int .i64 y0, .int .i64 y1]) K = K y0 y1 := by simp [a_ii, u_ii, toA, toI, toB, toStr, toP, toS, toM]

def a_iii {ρ : Type} (v : Value) (K : Int → Int → Int → Option ρ) : Option ρ := (toA v).bind fun l => if l.length = 3 then u_iii l K else none
theorem a_iii_eq {ρ : Type} (y0 : Int) (y1 : Int) (y2 : Int) (K : Int → Int → Int → Option ρ) : a_iii (.agg #[.int .i64 y0, .int .i64 y1, .int .i64 y2]) K = K y0 y1 y2 := by simp [a_iii, u_iii, toA, toI, toB, toStr, toP, toS, toM]

def a_iiiii {ρ : Type} (v : Value) (K : Int → Int → Int → Int → Int → Option ρ) : Option ρ := (toA v).bind fun l => if l.length = 5 then u_iiiii l K else none
theorem a_iiiii_eq {ρ : Type} (y0 : Int) (y1 : Int) (y2 : Int) (y3 : Int) (y4 : Int) (K : Int → Int → Int → Int → Int → Option ρ) : a_iiiii (.agg #[.int .i64 y0, .int .i64 y1, .int .i64 y2, .int .i64 y3, .int .i64 y4]) K = K y0 y1 y2 y3 y4 := by simp [a_iiiii, u_iiiii, toA, toI, toB, toStr, toP, toS, toM]

def a_iiiiiiii {ρ : Type} (v : Value) (K : Int → Int → Int → Int → Int → Int → Int → Int → Option ρ) : Option ρ := (toA v).bind fun l => if l.length = 8 then u_iiiiiiii l K else none
theorem a_iiiiiiii_eq {ρ : Type} (y0 : Int) (y1 : Int) (y2 : Int) (y3 : Int) (y4 : Int) (y5 : Int) (y6 : Int) (y7 : Int) (K : Int → Int → Int → Int → Int → Int → Int → Int → Option ρ) : a_iiiiiiii (.agg #[.int .i64 y0, .int .i64 y1, .int .i64 y2, .int .i64 y3, .int .i64 y4, .int .i64 y5, .int .i64 y6, .int .i64 y7]) K = K y0 y1 y2 y3 y4 y5 y6 y7 := by simp [a_iiiiiiii, u_iiiiiiii, toA, toI, toB, toStr, toP, toS, toM]

def a_ppppp {ρ : Type} (v : Value) (K : Option Addr → Option Addr → Option Addr → Option Addr → Option Addr → Option ρ) : Option ρ := (toA v).bind fun l => if l.length = 5 then u_ppppp l K else none
theorem a_ppppp_eq {ρ : Type} (y0 : Option Addr) (y1 : Option Addr) (y2 : Option Addr) (y3 : Option Addr) (y4 : Option Addr) (K : Option Addr → Option Addr → Option Addr → Option Addr → Option Addr → Option ρ) : a_ppppp (.agg #[.pointer y0, .pointer y1, .pointer y2, .pointer y3, .pointer y4]) K = K y0 y1 y2 y3 y4 := by simp [a_ppppp, u_ppppp, toA, toI, toB, toStr, toP, toS, toM]

def r_0 {ρ : Type} (v : Value) (K : Option ρ) : Option ρ := (toT v).bind fun l => if l.length = 0 then K else none
theorem r_0_eq {ρ : Type}  (K : Option ρ) : r_0 (.tuple #[]) K = K := by simp [r_0, toT, toI, toB, toStr, toP, toS, toM]

def r_ii {ρ : Type} (v : Value) (K : Int → Int → Option ρ) : Option ρ := (toT v).bind fun l => if l.length = 2 then l.head?.bind fun v => (toI .i64 v).bind fun y0 => l.tail.head?.bind fun v => (toI .i64 v).bind fun y1 => K y0 y1 else none
theorem r_ii_eq {ρ : Type} (y0 : Int) (y1 : Int) (K : Int → Int → Option ρ) : r_ii (.tuple #[.int .i64 y0, .int .i64 y1]) K = K y0 y1 := by simp [r_ii, toT, toI, toB, toStr, toP, toS, toM]

def r_it {ρ : Type} (v : Value) (K : Int → Bool → Option ρ) : Option ρ := (toT v).bind fun l => if l.length = 2 then l.head?.bind fun v => (toI .i64 v).bind fun y0 => l.tail.head?.bind fun v => (toB v).bind fun y1 => K y0 y1 else none
theorem r_it_eq {ρ : Type} (y0 : Int) (y1 : Bool) (K : Int → Bool → Option ρ) : r_it (.tuple #[.int .i64 y0, .bool y1]) K = K y0 y1 := by simp [r_it, toT, toI, toB, toStr, toP, toS, toM]

def r_pi {ρ : Type} (v : Value) (K : Option Addr → Int → Option ρ) : Option ρ := (toT v).bind fun l => if l.length = 2 then l.head?.bind fun v => (toP v).bind fun y0 => l.tail.head?.bind fun v => (toI .i64 v).bind fun y1 => K y0 y1 else none
theorem r_pi_eq {ρ : Type} (y0 : Option Addr) (y1 : Int) (K : Option Addr → Int → Option ρ) : r_pi (.tuple #[.pointer y0, .int .i64 y1]) K = K y0 y1 := by simp [r_pi, toT, toI, toB, toStr, toP, toS, toM]

def r_ti {ρ : Type} (v : Value) (K : Bool → Int → Option ρ) : Option ρ := (toT v).bind fun l => if l.length = 2 then l.head?.bind fun v => (toB v).bind fun y0 => l.tail.head?.bind fun v => (toI .i64 v).bind fun y1 => K y0 y1 else none
theorem r_ti_eq {ρ : Type} (y0 : Bool) (y1 : Int) (K : Bool → Int → Option ρ) : r_ti (.tuple #[.bool y0, .int .i64 y1]) K = K y0 y1 := by simp [r_ti, toT, toI, toB, toStr, toP, toS, toM]

end
/-- A thing that is not looked into. -/
noncomputable def hide {α : Type} (x : α) : α := Classical.choose (⟨x, rfl⟩ : ∃ y, y = x)
theorem hide_eq {α : Type} (x : α) : hide x = x := Classical.choose_spec (⟨x, rfl⟩ : ∃ y, y = x)
abbrev RV1 := Option (Value × AMem)
abbrev TV := Value → List Value → AMem → RV1
section
variable [Quiet] [Kn]

abbrev L_iipnnili := Nat → Int → Int → Option Addr → Nat → Nat → Int → (Option Addr × Nat × Nat) → Int → AMem → Option LOut
abbrev L_ipnnbi := Nat → Int → Option Addr → Nat → Nat → Bool → Int → AMem → Option LOut
abbrev L_n := Nat → Nat → AMem → Option LOut
abbrev L_nii := Nat → Nat → Int → Int → AMem → Option LOut
abbrev L_niii := Nat → Nat → Int → Int → Int → AMem → Option LOut
abbrev L_nni := Nat → Nat → Nat → Int → AMem → Option LOut
abbrev L_nnii := Nat → Nat → Nat → Int → Int → AMem → Option LOut
abbrev L_npnnii := Nat → Nat → Option Addr → Nat → Nat → Int → Int → AMem → Option LOut
abbrev L_p := Nat → Option Addr → AMem → Option LOut
abbrev L_pi := Nat → Option Addr → Int → AMem → Option LOut
abbrev L_pii := Nat → Option Addr → Int → Int → AMem → Option LOut
abbrev L_piibi := Nat → Option Addr → Int → Int → Bool → Int → AMem → Option LOut
abbrev L_piii := Nat → Option Addr → Int → Int → Int → AMem → Option LOut
abbrev L_piiii := Nat → Option Addr → Int → Int → Int → Int → AMem → Option LOut
abbrev L_piini := Nat → Option Addr → Int → Int → Nat → Int → AMem → Option LOut
abbrev L_piipnnili := Nat → Option Addr → Int → Int → Option Addr → Nat → Nat → Int → (Option Addr × Nat × Nat) → Int → AMem → Option LOut
abbrev L_pili := Nat → Option Addr → Int → (Option Addr × Nat × Nat) → Int → AMem → Option LOut
abbrev L_pilii := Nat → Option Addr → Int → (Option Addr × Nat × Nat) → Int → Int → AMem → Option LOut
abbrev L_pini := Nat → Option Addr → Int → Nat → Int → AMem → Option LOut
abbrev L_pinii := Nat → Option Addr → Int → Nat → Int → Int → AMem → Option LOut
abbrev L_pinipnni := Nat → Option Addr → Int → Nat → Int → Option Addr → Nat → Nat → Int → AMem → Option LOut
abbrev L_pinli := Nat → Option Addr → Int → Nat → (Option Addr × Nat × Nat) → Int → AMem → Option LOut
abbrev L_pipnni := Nat → Option Addr → Int → Option Addr → Nat → Nat → Int → AMem → Option LOut
abbrev L_pipnnii := Nat → Option Addr → Int → Option Addr → Nat → Nat → Int → Int → AMem → Option LOut
abbrev L_pli := Nat → Option Addr → (Option Addr × Nat × Nat) → Int → AMem → Option LOut
abbrev L_pni := Nat → Option Addr → Nat → Int → AMem → Option LOut
abbrev L_pnii := Nat → Option Addr → Nat → Int → Int → AMem → Option LOut
abbrev L_pnipnni := Nat → Option Addr → Nat → Int → Option Addr → Nat → Nat → Int → AMem → Option LOut
abbrev L_pnni := Nat → Option Addr → Nat → Nat → Int → AMem → Option LOut
abbrev L_pnnii := Nat → Option Addr → Nat → Nat → Int → Int → AMem → Option LOut
abbrev L_pnniii := Nat → Option Addr → Nat → Nat → Int → Int → Int → AMem → Option LOut
abbrev L_pnniiii := Nat → Option Addr → Nat → Nat → Int → Int → Int → Int → AMem → Option LOut
abbrev L_pnniivi := Nat → Option Addr → Nat → Nat → Int → Int → Value → Int → AMem → Option LOut
abbrev L_pnnivi := Nat → Option Addr → Nat → Nat → Int → Value → Int → AMem → Option LOut
abbrev L_pnnivii := Nat → Option Addr → Nat → Nat → Int → Value → Int → Int → AMem → Option LOut
abbrev L_pnniviii := Nat → Option Addr → Nat → Nat → Int → Value → Int → Int → Int → AMem → Option LOut
abbrev L_pnnli := Nat → Option Addr → Nat → Nat → (Option Addr × Nat × Nat) → Int → AMem → Option LOut
abbrev L_pnnpnni := Nat → Option Addr → Nat → Nat → Option Addr → Nat → Nat → Int → AMem → Option LOut
abbrev L_pnnpnnii := Nat → Option Addr → Nat → Nat → Option Addr → Nat → Nat → Int → Int → AMem → Option LOut
abbrev L_pnnvii := Nat → Option Addr → Nat → Nat → Value → Int → Int → AMem → Option LOut
abbrev L_pnnviii := Nat → Option Addr → Nat → Nat → Value → Int → Int → Int → AMem → Option LOut
abbrev L_pnpnnii := Nat → Option Addr → Nat → Option Addr → Nat → Nat → Int → Int → AMem → Option LOut
abbrev L_ppnii := Nat → Option Addr → Option Addr → Nat → Int → Int → AMem → Option LOut
abbrev L_ppnnibi := Nat → Option Addr → Option Addr → Nat → Nat → Int → Bool → Int → AMem → Option LOut
abbrev L_ppnnii := Nat → Option Addr → Option Addr → Nat → Nat → Int → Int → AMem → Option LOut
abbrev L_ppnniii := Nat → Option Addr → Option Addr → Nat → Nat → Int → Int → Int → AMem → Option LOut
abbrev L_ppnnlii := Nat → Option Addr → Option Addr → Nat → Nat → (Option Addr × Nat × Nat) → Int → Int → AMem → Option LOut
abbrev L_pppnnii := Nat → Option Addr → Option Addr → Option Addr → Nat → Nat → Int → Int → AMem → Option LOut
abbrev L_pppnniii := Nat → Option Addr → Option Addr → Option Addr → Nat → Nat → Int → Int → Int → AMem → Option LOut
abbrev L_pppnnili := Nat → Option Addr → Option Addr → Option Addr → Nat → Nat → Int → (Option Addr × Nat × Nat) → Int → AMem → Option LOut
abbrev L_ppvpnnii := Nat → Option Addr → Option Addr → Value → Option Addr → Nat → Nat → Int → Int → AMem → Option LOut
abbrev L_vipnnii := Nat → Value → Int → Option Addr → Nat → Nat → Int → Int → AMem → Option LOut
abbrev L_vnii := Nat → Value → Nat → Int → Int → AMem → Option LOut
abbrev M_iipnnili := Int → Int → Option Addr → Nat → Nat → Int → (Option Addr × Nat × Nat) → Int → AMem → Option LOut
abbrev M_ipnnbi := Int → Option Addr → Nat → Nat → Bool → Int → AMem → Option LOut
abbrev M_n := Nat → AMem → Option LOut
abbrev M_nii := Nat → Int → Int → AMem → Option LOut
abbrev M_niii := Nat → Int → Int → Int → AMem → Option LOut
abbrev M_nni := Nat → Nat → Int → AMem → Option LOut
abbrev M_nnii := Nat → Nat → Int → Int → AMem → Option LOut
abbrev M_npnnii := Nat → Option Addr → Nat → Nat → Int → Int → AMem → Option LOut
abbrev M_p := Option Addr → AMem → Option LOut
abbrev M_pi := Option Addr → Int → AMem → Option LOut
abbrev M_pii := Option Addr → Int → Int → AMem → Option LOut
abbrev M_piibi := Option Addr → Int → Int → Bool → Int → AMem → Option LOut
abbrev M_piii := Option Addr → Int → Int → Int → AMem → Option LOut
abbrev M_piiii := Option Addr → Int → Int → Int → Int → AMem → Option LOut
abbrev M_piini := Option Addr → Int → Int → Nat → Int → AMem → Option LOut
abbrev M_piipnnili := Option Addr → Int → Int → Option Addr → Nat → Nat → Int → (Option Addr × Nat × Nat) → Int → AMem → Option LOut
abbrev M_pili := Option Addr → Int → (Option Addr × Nat × Nat) → Int → AMem → Option LOut
abbrev M_pilii := Option Addr → Int → (Option Addr × Nat × Nat) → Int → Int → AMem → Option LOut
abbrev M_pini := Option Addr → Int → Nat → Int → AMem → Option LOut
abbrev M_pinii := Option Addr → Int → Nat → Int → Int → AMem → Option LOut
abbrev M_pinipnni := Option Addr → Int → Nat → Int → Option Addr → Nat → Nat → Int → AMem → Option LOut
abbrev M_pinli := Option Addr → Int → Nat → (Option Addr × Nat × Nat) → Int → AMem → Option LOut
abbrev M_pipnni := Option Addr → Int → Option Addr → Nat → Nat → Int → AMem → Option LOut
abbrev M_pipnnii := Option Addr → Int → Option Addr → Nat → Nat → Int → Int → AMem → Option LOut
abbrev M_pli := Option Addr → (Option Addr × Nat × Nat) → Int → AMem → Option LOut
abbrev M_pni := Option Addr → Nat → Int → AMem → Option LOut
abbrev M_pnii := Option Addr → Nat → Int → Int → AMem → Option LOut
abbrev M_pnipnni := Option Addr → Nat → Int → Option Addr → Nat → Nat → Int → AMem → Option LOut
abbrev M_pnni := Option Addr → Nat → Nat → Int → AMem → Option LOut
abbrev M_pnnii := Option Addr → Nat → Nat → Int → Int → AMem → Option LOut
abbrev M_pnniii := Option Addr → Nat → Nat → Int → Int → Int → AMem → Option LOut
abbrev M_pnniiii := Option Addr → Nat → Nat → Int → Int → Int → Int → AMem → Option LOut
abbrev M_pnniivi := Option Addr → Nat → Nat → Int → Int → Value → Int → AMem → Option LOut
abbrev M_pnnivi := Option Addr → Nat → Nat → Int → Value → Int → AMem → Option LOut
abbrev M_pnnivii := Option Addr → Nat → Nat → Int → Value → Int → Int → AMem → Option LOut
abbrev M_pnniviii := Option Addr → Nat → Nat → Int → Value → Int → Int → Int → AMem → Option LOut
abbrev M_pnnli := Option Addr → Nat → Nat → (Option Addr × Nat × Nat) → Int → AMem → Option LOut
abbrev M_pnnpnni := Option Addr → Nat → Nat → Option Addr → Nat → Nat → Int → AMem → Option LOut
abbrev M_pnnpnnii := Option Addr → Nat → Nat → Option Addr → Nat → Nat → Int → Int → AMem → Option LOut
abbrev M_pnnvii := Option Addr → Nat → Nat → Value → Int → Int → AMem → Option LOut
abbrev M_pnnviii := Option Addr → Nat → Nat → Value → Int → Int → Int → AMem → Option LOut
abbrev M_pnpnnii := Option Addr → Nat → Option Addr → Nat → Nat → Int → Int → AMem → Option LOut
abbrev M_ppnii := Option Addr → Option Addr → Nat → Int → Int → AMem → Option LOut
abbrev M_ppnnibi := Option Addr → Option Addr → Nat → Nat → Int → Bool → Int → AMem → Option LOut
abbrev M_ppnnii := Option Addr → Option Addr → Nat → Nat → Int → Int → AMem → Option LOut
abbrev M_ppnniii := Option Addr → Option Addr → Nat → Nat → Int → Int → Int → AMem → Option LOut
abbrev M_ppnnlii := Option Addr → Option Addr → Nat → Nat → (Option Addr × Nat × Nat) → Int → Int → AMem → Option LOut
abbrev M_pppnnii := Option Addr → Option Addr → Option Addr → Nat → Nat → Int → Int → AMem → Option LOut
abbrev M_pppnniii := Option Addr → Option Addr → Option Addr → Nat → Nat → Int → Int → Int → AMem → Option LOut
abbrev M_pppnnili := Option Addr → Option Addr → Option Addr → Nat → Nat → Int → (Option Addr × Nat × Nat) → Int → AMem → Option LOut
abbrev M_ppvpnnii := Option Addr → Option Addr → Value → Option Addr → Nat → Nat → Int → Int → AMem → Option LOut
abbrev M_vipnnii := Value → Int → Option Addr → Nat → Nat → Int → Int → AMem → Option LOut
abbrev M_vnii := Value → Nat → Int → Int → AMem → Option LOut
abbrev T_ := AMem → RV1
abbrev T_i := Int → AMem → RV1
abbrev T_ii := Int → Int → AMem → RV1
abbrev T_iii := Int → Int → Int → AMem → RV1
abbrev T_iiii := Int → Int → Int → Int → AMem → RV1
abbrev T_iiiiiiii := Int → Int → Int → Int → Int → Int → Int → Int → AMem → RV1
abbrev T_iiil := Int → Int → Int → (Option Addr × Nat × Nat) → AMem → RV1
abbrev T_iip := Int → Int → Option Addr → AMem → RV1
abbrev T_ip := Int → Option Addr → AMem → RV1
abbrev T_ipp := Int → Option Addr → Option Addr → AMem → RV1
abbrev T_l := (Option Addr × Nat × Nat) → AMem → RV1
abbrev T_li := (Option Addr × Nat × Nat) → Int → AMem → RV1
abbrev T_liiiv := (Option Addr × Nat × Nat) → Int → Int → Int → Value → AMem → RV1
abbrev T_liiv := (Option Addr × Nat × Nat) → Int → Int → Value → AMem → RV1
abbrev T_liv := (Option Addr × Nat × Nat) → Int → Value → AMem → RV1
abbrev T_ll := (Option Addr × Nat × Nat) → (Option Addr × Nat × Nat) → AMem → RV1
abbrev T_lp := (Option Addr × Nat × Nat) → Option Addr → AMem → RV1
abbrev T_lv := (Option Addr × Nat × Nat) → Value → AMem → RV1
abbrev T_p := Option Addr → AMem → RV1
abbrev T_pi := Option Addr → Int → AMem → RV1
abbrev T_pib := Option Addr → Int → Bool → AMem → RV1
abbrev T_pii := Option Addr → Int → Int → AMem → RV1
abbrev T_piib := Option Addr → Int → Int → Bool → AMem → RV1
abbrev T_piii := Option Addr → Int → Int → Int → AMem → RV1
abbrev T_piiii := Option Addr → Int → Int → Int → Int → AMem → RV1
abbrev T_piiiii := Option Addr → Int → Int → Int → Int → Int → AMem → RV1
abbrev T_piiiiii := Option Addr → Int → Int → Int → Int → Int → Int → AMem → RV1
abbrev T_piiiiillb := Option Addr → Int → Int → Int → Int → Int → (Option Addr × Nat × Nat) → (Option Addr × Nat × Nat) → Bool → AMem → RV1
abbrev T_pil := Option Addr → Int → (Option Addr × Nat × Nat) → AMem → RV1
abbrev T_pl := Option Addr → (Option Addr × Nat × Nat) → AMem → RV1
abbrev T_pp := Option Addr → Option Addr → AMem → RV1
abbrev T_ppi := Option Addr → Option Addr → Int → AMem → RV1
abbrev T_ppii := Option Addr → Option Addr → Int → Int → AMem → RV1
abbrev T_ppiv := Option Addr → Option Addr → Int → Value → AMem → RV1
abbrev T_ppppppppppppiiiiii := Option Addr → Option Addr → Option Addr → Option Addr → Option Addr → Option Addr → Option Addr → Option Addr → Option Addr → Option Addr → Option Addr → Option Addr → Int → Int → Int → Int → Int → Int → AMem → RV1
abbrev T_vp := Value → Option Addr → AMem → RV1

noncomputable def d_law08_SweepNone : Nat → T_iiiiiiii := hide fun k x0_0 x0_1 x0_2 x0_3 x0_4 x0_5 x1 x2 σ => fn P (XK Kn.b) H k 4 [.agg #[.int .i64 x0_0, .int .i64 x0_1, .int .i64 x0_2, .int .i64 x0_3, .int .i64 x0_4, .int .i64 x0_5], .int .i64 x1, .int .i64 x2] σ
noncomputable def d_heap_New : Nat → T_i := hide fun k x0 σ => fn P (XK Kn.b) H k 7 [.int .i64 x0] σ
noncomputable def d_roots_New : Nat → T_i := hide fun k x0 σ => fn P (XK Kn.b) H k 8 [.int .i64 x0] σ
noncomputable def d_trace_Mark : Nat → T_ppii := hide fun k x0 x1 x2 x3 σ => fn P (XK Kn.b) H k 9 [.pointer x0, .pointer x1, .int .i64 x2, .int .i64 x3] σ
noncomputable def d_trace_Mark_l0 : Nat → L_pnpnnii := hide fun k n p0 h1 p2 c3 c4 i5 x47 σ => lp k 9 10 (cB (cR (cL (cR (cR (cR (bodyC Tryz.f9))))))) n (rgs 0 75 [(1, .pointer p0), (11, .pointer (some ⟨h1, 0, none⟩)), (45, .slice p2 c3 c4), (46, .int .i64 i5), (47, .int .i64 x47)]) σ
noncomputable def d_trace_Mark_l1 : Nat → L_n := hide fun k n h0 σ => lp k 9 22 (cB (cL (cR (cR (cR (cR (cR (bodyC Tryz.f9)))))))) n (rgs 0 75 [(11, .pointer (some ⟨h0, 0, none⟩))]) σ
noncomputable def d_trace_Clear : Nat → T_pp := hide fun k x0 x1 σ => fn P (XK Kn.b) H k 13 [.pointer x0, .pointer x1] σ
noncomputable def d_trace_Clear_l1 : Nat → L_piibi := hide fun k n p0 i1 i2 x14 x53 σ => lp k 13 26 (cB (cR (cL (cR (cR (cR (cR (cR (cB (cL (cR (cR (cB (cB (cR (cL (cR (cR (cR (bodyC Tryz.f13)))))))))))))))))))) n (rgs 0 78 [(0, .pointer p0), (8, .int .i64 i1), (14, .bool x14), (52, .int .i64 i2), (53, .int .i64 x53)]) σ
noncomputable def d_trace_Clear_l0 : Nat → L_pppnniii := hide fun k n p0 p1 p2 c3 c4 i5 x6 x26 σ => lp k 13 10 (cB (cR (cL (cR (cR (cR (bodyC Tryz.f13))))))) n (rgs 0 78 [(0, .pointer p0), (1, .pointer p1), (6, .int .i64 x6), (24, .slice p2 c3 c4), (25, .int .i64 i5), (26, .int .i64 x26)]) σ
noncomputable def d_trace_Marked : Nat → T_ppi := hide fun k x0 x1 x2 σ => fn P (XK Kn.b) H k 14 [.pointer x0, .pointer x1, .int .i64 x2] σ
noncomputable def d_side_New : Nat → T_ii := hide fun k x0 x1 σ => fn P (XK Kn.b) H k 16 [.int .i64 x0, .int .i64 x1] σ
noncomputable def d_law08_play : Nat → T_ppppppppppppiiiiii := hide fun k x0 x1 x2_0 x2_1 x2_2 x2_3 x2_4 x3_0 x3_1 x3_2 x3_3 x3_4 x4_0 x4_1 x4_2 x4_3 x4_4 x4_5 σ => fn P (XK Kn.b) H k 17 [.pointer x0, .pointer x1, .agg #[.pointer x2_0, .pointer x2_1, .pointer x2_2, .pointer x2_3, .pointer x2_4], .agg #[.pointer x3_0, .pointer x3_1, .pointer x3_2, .pointer x3_3, .pointer x3_4], .agg #[.int .i64 x4_0, .int .i64 x4_1, .int .i64 x4_2, .int .i64 x4_3, .int .i64 x4_4, .int .i64 x4_5]] σ
noncomputable def d_sweep_Sweeper_Left : Nat → T_p := hide fun k x0 σ => fn P (XK Kn.b) H k 18 [.pointer x0] σ
noncomputable def d_sweep_Sweeper_Clone : Nat → T_pp := hide fun k x0 x1 σ => fn P (XK Kn.b) H k 19 [.pointer x0, .pointer x1] σ
noncomputable def d_sweep_New : Nat → T_pp := hide fun k x0 x1 σ => fn P (XK Kn.b) H k 20 [.pointer x0, .pointer x1] σ
noncomputable def d_sweep_New_l0 : Nat → L_pnii := hide fun k n p0 h1 i2 x32 σ => lp k 20 10 (cB (cR (cL (cR (cR (cR (bodyC Tryz.f20))))))) n (rgs 0 50 [(0, .pointer p0), (6, .pointer (some ⟨h1, 0, none⟩)), (31, .int .i64 i2), (32, .int .i64 x32)]) σ
noncomputable def d_sweep_Collect : Nat → T_pp := hide fun k x0 x1 σ => fn P (XK Kn.b) H k 21 [.pointer x0, .pointer x1] σ
noncomputable def d_sweep_Collect_l0 : Nat → L_ppnii := hide fun k n p0 p1 h2 i3 x39 σ => lp k 21 18 (cB (cR (cL (cR (cR (cR (cR (cR (cR (bodyC Tryz.f21)))))))))) n (rgs 0 56 [(0, .pointer p0), (6, .pointer p1), (9, .pointer (some ⟨h2, 0, none⟩)), (38, .int .i64 i3), (39, .int .i64 x39)]) σ
noncomputable def d_law08_alive : Nat → T_ := hide fun k  σ => fn P (XK Kn.b) H k 22 [] σ
noncomputable def d_trace_given : Nat → T_pp := hide fun k x0 x1 σ => fn P (XK Kn.b) H k 52 [.pointer x0, .pointer x1] σ
noncomputable def d_trace_table : Nat → T_p := hide fun k x0 σ => fn P (XK Kn.b) H k 53 [.pointer x0] σ
noncomputable def d_roots_Roots_Places : Nat → T_p := hide fun k x0 σ => fn P (XK Kn.b) H k 54 [.pointer x0] σ
noncomputable def d_roots_Roots_Get : Nat → T_piii := hide fun k x0 x1_0 x1_1 x1_2 σ => fn P (XK Kn.b) H k 55 [.pointer x0, .agg #[.int .i64 x1_0, .int .i64 x1_1, .int .i64 x1_2]] σ
noncomputable def d_trace_marker_reach : Nat → T_pi := hide fun k x0 x1 σ => fn P (XK Kn.b) H k 56 [.pointer x0, .int .i64 x1] σ
noncomputable def d_trace_marker_run : Nat → T_p := hide fun k x0 σ => fn P (XK Kn.b) H k 57 [.pointer x0] σ
noncomputable def d_trace_marker_run_l1 : Nat → L_ppnnii := hide fun k n p0 p1 c2 c3 i4 x32 σ => lp k 57 10 (cB (cR (cR (cR (cB (cR (cB (cB (cR (bodyC Tryz.f57)))))))))) n (rgs 0 42 [(0, .pointer p0), (30, .slice p1 c2 c3), (31, .int .i64 i4), (32, .int .i64 x32)]) σ
noncomputable def d_trace_marker_run_l0 : Nat → L_p := hide fun k n p0 σ => lp k 57 2 (cB (cR (bodyC Tryz.f57))) n (rgs 0 42 [(0, .pointer p0)]) σ
noncomputable def d_trace_marker_round : Nat → T_p := hide fun k x0 σ => fn P (XK Kn.b) H k 58 [.pointer x0] σ
noncomputable def d_trace_marker_round_l0 : Nat → L_ppnnibi := hide fun k n p0 p1 c2 c3 i4 x3 x25 σ => lp k 58 8 (cB (cR (cL (cR (cR (cR (bodyC Tryz.f58))))))) n (rgs 0 37 [(0, .pointer p0), (3, .bool x3), (23, .slice p1 c2 c3), (24, .int .i64 i4), (25, .int .i64 x25)]) σ
noncomputable def d_roots_Roots_Leads : Nat → T_p := hide fun k x0 σ => fn P (XK Kn.b) H k 60 [.pointer x0] σ
noncomputable def d_trace_due : Nat → T_pp := hide fun k x0 x1 σ => fn P (XK Kn.b) H k 61 [.pointer x0, .pointer x1] σ
noncomputable def d_trace_due_l0 : Nat → L_pppnnili := hide fun k n p0 p1 p2 c3 c4 i5 x5 x18 σ => lp k 61 6 (cB (cR (cL (cR (cR (bodyC Tryz.f61)))))) n (rgs 0 55 [(0, .pointer p0), (1, .pointer p1), (5, .slice x5.1 x5.2.1 x5.2.2), (16, .slice p2 c3 c4), (17, .int .i64 i5), (18, .int .i64 x18)]) σ
noncomputable def d_trace_all : Nat → T_pp := hide fun k x0 x1 σ => fn P (XK Kn.b) H k 63 [.pointer x0, .pointer x1] σ
noncomputable def d_heap_Heap_Has : Nat → T_pi := hide fun k x0 x1 σ => fn P (XK Kn.b) H k 64 [.pointer x0, .int .i64 x1] σ
noncomputable def d_heap_Heap_All : Nat → T_p := hide fun k x0 σ => fn P (XK Kn.b) H k 65 [.pointer x0] σ
noncomputable def d_trace_strong : Nat → T_pi := hide fun k x0 x1 σ => fn P (XK Kn.b) H k 66 [.pointer x0, .int .i64 x1] σ
noncomputable def d_trace_strong_l0 : Nat → L_pinli := hide fun k n p0 i1 h2 x7 x8 σ => lp k 66 8 (cB (cR (cL (cR (cR (cR (bodyC Tryz.f66))))))) n (rgs 0 37 [(0, .pointer p0), (1, .int .i64 i1), (5, .pointer (some ⟨h2, 0, none⟩)), (7, .slice x7.1 x7.2.1 x7.2.2), (8, .int .i64 x8)]) σ
noncomputable def d___trace_line_int__oldest : Nat → T_p := hide fun k x0 σ => fn P (XK Kn.b) H k 67 [.pointer x0] σ
noncomputable def d___trace_line_int__add : Nat → T_pi := hide fun k x0 x1 σ => fn P (XK Kn.b) H k 68 [.pointer x0, .int .i64 x1] σ
noncomputable def d_trace_fits : Nat → T_pp := hide fun k x0 x1 σ => fn P (XK Kn.b) H k 69 [.pointer x0, .pointer x1] σ
noncomputable def d_heap_Heap_Shape : Nat → T_pi := hide fun k x0 x1 σ => fn P (XK Kn.b) H k 70 [.pointer x0, .int .i64 x1] σ
noncomputable def d_trace_softs : Nat → T_iii := hide fun k x0_0 x0_1 x0_2 σ => fn P (XK Kn.b) H k 71 [.agg #[.int .i64 x0_0, .int .i64 x0_1, .int .i64 x0_2]] σ
noncomputable def d_heap_Heap_Ref : Nat → T_pii := hide fun k x0 x1 x2 σ => fn P (XK Kn.b) H k 72 [.pointer x0, .int .i64 x1, .int .i64 x2] σ
noncomputable def d_trace_marked : Nat → T_ppi := hide fun k x0 x1 x2 σ => fn P (XK Kn.b) H k 73 [.pointer x0, .pointer x1, .int .i64 x2] σ
noncomputable def d_heap_Heap_SetRef : Nat → T_piii := hide fun k x0 x1 x2 x3 σ => fn P (XK Kn.b) H k 74 [.pointer x0, .int .i64 x1, .int .i64 x2, .int .i64 x3] σ
noncomputable def d_slices_Contains_int : Nat → T_li := hide fun k x0 x1 σ => fn P (XK Kn.b) H k 76 [.slice x0.1 x0.2.1 x0.2.2, .int .i64 x1] σ
noncomputable def d_sweep_Sweeper_Block : Nat → T_pi := hide fun k x0 x1 σ => fn P (XK Kn.b) H k 77 [.pointer x0, .int .i64 x1] σ
noncomputable def d_ref08_Sweeper_Block : Nat → T_pi := hide fun k x0 x1 σ => fn P (XK Kn.b) H k 78 [.pointer x0, .int .i64 x1] σ
noncomputable def d_sweep_Sweeper_Need : Nat → T_pi := hide fun k x0 x1 σ => fn P (XK Kn.b) H k 79 [.pointer x0, .int .i64 x1] σ
noncomputable def d_sweep_Sweeper_Need_l0 : Nat → L_pi := hide fun k n p0 i1 σ => lp k 79 14 (cB (cR (cR (bodyC Tryz.f79)))) n (rgs 0 47 [(0, .pointer p0), (1, .int .i64 i1)]) σ
noncomputable def d_ref08_Sweeper_Need : Nat → T_pi := hide fun k x0 x1 σ => fn P (XK Kn.b) H k 80 [.pointer x0, .int .i64 x1] σ
noncomputable def d_ref08_Sweeper_Need_l1 : Nat → L_ipnnbi := hide fun k n i0 p1 c2 c3 x8 x10 σ => lp k 80 30 (cB (cR (cL (cR (cR (cR (cR (cR (cB (cL (cR (cB (cB (cR (cL (cR (cR (cR (cR (bodyC Tryz.f80)))))))))))))))))))) n (rgs 0 75 [(1, .int .i64 i0), (8, .bool x8), (9, .slice p1 c2 c3), (10, .int .i64 x10)]) σ
noncomputable def d_ref08_Sweeper_Need_l0 : Nat → L_piii := hide fun k n p0 i1 x6 x7 σ => lp k 80 14 (cB (cR (cL (cR (cR (cR (cR (bodyC Tryz.f80)))))))) n (rgs 0 75 [(0, .pointer p0), (1, .int .i64 i1), (6, .int .i64 x6), (7, .int .i64 x7)]) σ
noncomputable def d_ref02_Heap_All : Nat → T_p := hide fun k x0 σ => fn P (XK Kn.b) H k 81 [.pointer x0] σ
noncomputable def d_ref02_Heap_All_l0 : Nat → L_pli := hide fun k n p0 x3 x4 σ => lp k 81 6 (cB (cR (cL (cR (cR (bodyC Tryz.f81)))))) n (rgs 0 30 [(0, .pointer p0), (3, .slice x3.1 x3.2.1 x3.2.2), (4, .int .i64 x4)]) σ
noncomputable def d_sweep_Sweeper_Born : Nat → T_pi := hide fun k x0 x1 σ => fn P (XK Kn.b) H k 82 [.pointer x0, .int .i64 x1] σ
noncomputable def d_ref08_Sweeper_Born : Nat → T_pi := hide fun k x0 x1 σ => fn P (XK Kn.b) H k 83 [.pointer x0, .int .i64 x1] σ
noncomputable def d_sweep_Sweeper_Finish : Nat → T_p := hide fun k x0 σ => fn P (XK Kn.b) H k 84 [.pointer x0] σ
noncomputable def d_sweep_Sweeper_Finish_l0 : Nat → L_pi := hide fun k n p0 x4 σ => lp k 84 8 (cB (cL (cR (cR (cR (bodyC Tryz.f84)))))) n (rgs 0 25 [(0, .pointer p0), (4, .int .i64 x4)]) σ
noncomputable def d_ref08_Sweeper_Finish : Nat → T_p := hide fun k x0 σ => fn P (XK Kn.b) H k 85 [.pointer x0] σ
noncomputable def d_ref08_Sweeper_Finish_l0 : Nat → L_pii := hide fun k n p0 x4 x5 σ => lp k 85 10 (cB (cR (cL (cR (cR (cR (bodyC Tryz.f85))))))) n (rgs 0 30 [(0, .pointer p0), (4, .int .i64 x4), (5, .int .i64 x5)]) σ
noncomputable def d_alloc_Allocator_Alloc : Nat → T_piii := hide fun k x0 x1_0 x1_1 x1_2 σ => fn P (XK Kn.b) H k 86 [.pointer x0, .agg #[.int .i64 x1_0, .int .i64 x1_1, .int .i64 x1_2]] σ
noncomputable def d_ref05_Allocator_Alloc : Nat → T_piii := hide fun k x0 x1_0 x1_1 x1_2 σ => fn P (XK Kn.b) H k 87 [.pointer x0, .agg #[.int .i64 x1_0, .int .i64 x1_1, .int .i64 x1_2]] σ
noncomputable def d_sweep_Sweeper_made : Nat → T_p := hide fun k x0 σ => fn P (XK Kn.b) H k 88 [.pointer x0] σ
noncomputable def d_slices_Clone_int : Nat → T_l := hide fun k x0 σ => fn P (XK Kn.b) H k 89 [.slice x0.1 x0.2.1 x0.2.2] σ
noncomputable def d_heap_Heap_Blocks : Nat → T_p := hide fun k x0 σ => fn P (XK Kn.b) H k 90 [.pointer x0] σ
noncomputable def d_side_Table_Clone : Nat → T_p := hide fun k x0 σ => fn P (XK Kn.b) H k 91 [.pointer x0] σ
noncomputable def d_side_Table_Width : Nat → T_p := hide fun k x0 σ => fn P (XK Kn.b) H k 92 [.pointer x0] σ
noncomputable def d_side_Table_Entries : Nat → T_p := hide fun k x0 σ => fn P (XK Kn.b) H k 93 [.pointer x0] σ
noncomputable def d_sweep_held : Nat → T_pi := hide fun k x0 x1 σ => fn P (XK Kn.b) H k 94 [.pointer x0, .int .i64 x1] σ
noncomputable def d_sound_Is : Nat → T_pp := hide fun k x0 x1 σ => fn P (XK Kn.b) H k 95 [.pointer x0, .pointer x1] σ
noncomputable def d_sound_Is_l1 : Nat → L_niii := hide fun k n h0 i1 i2 x33 σ => lp k 95 18 (cB (cR (cR (cR (cB (cL (cR (cR (cB (cB (cR (cL (cR (cR (cR (bodyC Tryz.f95)))))))))))))))) n (rgs 0 48 [(2, .pointer (some ⟨h0, 0, none⟩)), (5, .func (.func 172) #[] #[.pointer (some ⟨h0, 0, none⟩)]), (7, .int .i64 i1), (32, .int .i64 i2), (33, .int .i64 x33)]) σ
noncomputable def d_sound_Is_l0 : Nat → L_npnnii := hide fun k n h0 p1 c2 c3 i4 x21 σ => lp k 95 10 (cB (cR (cL (cR (cR (cR (bodyC Tryz.f95))))))) n (rgs 0 48 [(2, .pointer (some ⟨h0, 0, none⟩)), (5, .func (.func 172) #[] #[.pointer (some ⟨h0, 0, none⟩)]), (19, .slice p1 c2 c3), (20, .int .i64 i4), (21, .int .i64 x21)]) σ
noncomputable def d_sweep_block : Nat → T_ppiv := hide fun k x0 x1 x2 x3 σ => fn P (XK Kn.b) H k 96 [.pointer x0, .pointer x1, .int .i64 x2, x3] σ
noncomputable def d_sweep_block_l0 : Nat → L_ppvpnnii := hide fun k n p0 p1 v2 p3 c4 c5 i6 x20 σ => lp k 96 4 (cB (cR (cL (cR (bodyC Tryz.f96))))) n (rgs 0 46 [(0, .pointer p0), (1, .pointer p1), (3, v2), (18, .slice p3 c4 c5), (19, .int .i64 i6), (20, .int .i64 x20)]) σ
noncomputable def d_sweep_Collect_c1 : Nat → T_ip := hide fun k x0 c0 σ => fn P (XK Kn.b) H k 97 [.int .i64 x0, .pointer c0] σ
noncomputable def d_heap_Heap_Used : Nat → T_p := hide fun k x0 σ => fn P (XK Kn.b) H k 98 [.pointer x0] σ
noncomputable def d_heap_Heap_Used_l0 : Nat → L_ppnniii := hide fun k n p0 p1 c2 c3 i4 x3 x9 σ => lp k 98 6 (cB (cR (cL (cR (cR (bodyC Tryz.f98)))))) n (rgs 0 20 [(0, .pointer p0), (3, .int .i64 x3), (7, .slice p1 c2 c3), (8, .int .i64 i4), (9, .int .i64 x9)]) σ
noncomputable def d_law06_NewWorld : Nat → T_iiil := hide fun k x0_0 x0_1 x0_2 x0_3 σ => fn P (XK Kn.b) H k 99 [.agg #[.int .u8 x0_0, .int .u8 x0_1, .int .u8 x0_2, .slice x0_3.1 x0_3.2.1 x0_3.2.2]] σ
noncomputable def d_law06_NewWorld_l0 : Nat → L_nni := hide fun k n h0 h1 x4 σ => lp k 99 12 (cB (cR (cL (cR (cR (cR (cR (cR (bodyC Tryz.f99))))))))) n (rgs 0 45 [(1, .pointer (some ⟨h0, 0, none⟩)), (3, .pointer (some ⟨h1, 0, none⟩)), (4, .int .i64 x4)]) σ
noncomputable def d_roots_Roots_Set : Nat → T_piiii := hide fun k x0 x1_0 x1_1 x1_2 x2 σ => fn P (XK Kn.b) H k 100 [.pointer x0, .agg #[.int .i64 x1_0, .int .i64 x1_1, .int .i64 x1_2], .int .i64 x2] σ
noncomputable def d_ref01_Ints : Nat → T_ll := hide fun k x0 x1 σ => fn P (XK Kn.b) H k 101 [.slice x0.1 x0.2.1 x0.2.2, .slice x1.1 x1.2.1 x1.2.2] σ
noncomputable def d_ref01_Ints_l0 : Nat → L_pnnpnni := hide fun k n p0 c1 c2 p3 c4 c5 x5 σ => lp k 101 8 (cB (cR (cL (cR (cR (bodyC Tryz.f101)))))) n (rgs 0 26 [(0, .slice p0 c1 c2), (1, .slice p3 c4 c5), (5, .int .i64 x5)]) σ
noncomputable def d_heap_Heap_State : Nat → T_pi := hide fun k x0 x1 σ => fn P (XK Kn.b) H k 102 [.pointer x0, .int .i64 x1] σ
noncomputable def d_roots_Roots_Mutators : Nat → T_p := hide fun k x0 σ => fn P (XK Kn.b) H k 124 [.pointer x0] σ
noncomputable def d_roots_Roots_made : Nat → T_p := hide fun k x0 σ => fn P (XK Kn.b) H k 125 [.pointer x0] σ
noncomputable def d_roots_Roots_all : Nat → T_p := hide fun k x0 σ => fn P (XK Kn.b) H k 126 [.pointer x0] σ
noncomputable def d_roots_Roots_place : Nat → T_piii := hide fun k x0 x1_0 x1_1 x1_2 σ => fn P (XK Kn.b) H k 127 [.pointer x0, .agg #[.int .i64 x1_0, .int .i64 x1_1, .int .i64 x1_2]] σ
noncomputable def d_trace_mark : Nat → T_ppi := hide fun k x0 x1 x2 σ => fn P (XK Kn.b) H k 128 [.pointer x0, .pointer x1, .int .i64 x2] σ
noncomputable def d_trace_marker_drain : Nat → T_p := hide fun k x0 σ => fn P (XK Kn.b) H k 129 [.pointer x0] σ
noncomputable def d_trace_marker_drain_l0 : Nat → L_p := hide fun k n p0 σ => lp k 129 0 (cB (bodyC Tryz.f129)) n (rgs 0 26 [(0, .pointer p0)]) σ
noncomputable def d_trace_marker_scan : Nat → T_pi := hide fun k x0 x1 σ => fn P (XK Kn.b) H k 130 [.pointer x0, .int .i64 x1] σ
noncomputable def d_trace_marker_scan_l0 : Nat → L_ppnnii := hide fun k n p0 p1 c2 c3 i4 x22 σ => lp k 130 4 (cB (cR (cR (bodyC Tryz.f130)))) n (rgs 0 30 [(0, .pointer p0), (20, .slice p1 c2 c3), (21, .int .i64 i4), (22, .int .i64 x22)]) σ
noncomputable def d_slices_DeleteFunc_int : Nat → T_lv := hide fun k x0 x1 σ => fn P (XK Kn.b) H k 133 [.slice x0.1 x0.2.1 x0.2.2, x1] σ
noncomputable def d_slices_DeleteFunc_int_l0 : Nat → L_pnnvii := hide fun k n p0 c1 c2 v3 x5 x6 σ => lp k 133 10 (cB (cR (cL (cR (cR (cR (bodyC Tryz.f133))))))) n (rgs 0 42 [(0, .slice p0 c1 c2), (1, v3), (5, .int .i64 x5), (6, .int .i64 x6)]) σ
noncomputable def d_trace_all_c1 : Nat → T_ipp := hide fun k x0 c0 c1 σ => fn P (XK Kn.b) H k 134 [.int .i64 x0, .pointer c0, .pointer c1] σ
noncomputable def d_heap_Heap_made : Nat → T_p := hide fun k x0 σ => fn P (XK Kn.b) H k 135 [.pointer x0] σ
noncomputable def d_side_Table_Get : Nat → T_pi := hide fun k x0 x1 σ => fn P (XK Kn.b) H k 136 [.pointer x0, .int .i64 x1] σ
noncomputable def d_heap_Heap_between : Nat → T_pii := hide fun k x0 x1 x2 σ => fn P (XK Kn.b) H k 137 [.pointer x0, .int .i64 x1, .int .i64 x2] σ
noncomputable def d_heap_Heap_between_l0 : Nat → L_pilii := hide fun k n p0 i1 x7 x8 x9 σ => lp k 137 6 (cB (cR (cL (cR (cR (bodyC Tryz.f137)))))) n (rgs 0 44 [(0, .pointer p0), (2, .int .i64 i1), (7, .slice x7.1 x7.2.1 x7.2.2), (8, .int .i64 x8), (9, .int .i64 x9)]) σ
noncomputable def d_heap_Heap_object : Nat → T_pi := hide fun k x0 x1 σ => fn P (XK Kn.b) H k 138 [.pointer x0, .int .i64 x1] σ
noncomputable def d_heap_shape : Nat → T_i := hide fun k x0 σ => fn P (XK Kn.b) H k 139 [.int .i64 x0] σ
noncomputable def d_heap_Heap_field : Nat → T_piib := hide fun k x0 x1 x2 x3 σ => fn P (XK Kn.b) H k 140 [.pointer x0, .int .i64 x1, .int .i64 x2, .bool x3] σ
noncomputable def d_slices_Index_int : Nat → T_li := hide fun k x0 x1 σ => fn P (XK Kn.b) H k 141 [.slice x0.1 x0.2.1 x0.2.2, .int .i64 x1] σ
noncomputable def d_slices_Index_int_l0 : Nat → L_pnniii := hide fun k n p0 c1 c2 i3 i4 x8 σ => lp k 141 4 (cB (cR (cL (cR (bodyC Tryz.f141))))) n (rgs 0 19 [(0, .slice p0 c1 c2), (1, .int .i64 i3), (7, .int .i64 i4), (8, .int .i64 x8)]) σ
noncomputable def d_sweep_Sweeper_sweep : Nat → T_pi := hide fun k x0 x1 σ => fn P (XK Kn.b) H k 142 [.pointer x0, .int .i64 x1] σ
noncomputable def d_ref08_Sweeper_Made : Nat → T_p := hide fun k x0 σ => fn P (XK Kn.b) H k 143 [.pointer x0] σ
noncomputable def d_ref08_Sweep : Nat → T_ppi := hide fun k x0 x1 x2 σ => fn P (XK Kn.b) H k 144 [.pointer x0, .pointer x1, .int .i64 x2] σ
noncomputable def d_ref08_Sweep_l0 : Nat → L_pppnnii := hide fun k n p0 p1 p2 c3 c4 x8 x10 σ => lp k 144 14 (cB (cR (cL (cR (cR (cR (cR (cR (bodyC Tryz.f144))))))))) n (rgs 0 62 [(0, .pointer p0), (1, .pointer p1), (8, .int .i64 x8), (9, .slice p2 c3 c4), (10, .int .i64 x10)]) σ
noncomputable def d_sweep_Sweeper_roomy : Nat → T_pii := hide fun k x0 x1 x2 σ => fn P (XK Kn.b) H k 145 [.pointer x0, .int .i64 x1, .int .i64 x2] σ
noncomputable def d_ref02_Heap_State : Nat → T_pi := hide fun k x0 x1 σ => fn P (XK Kn.b) H k 146 [.pointer x0, .int .i64 x1] σ
noncomputable def d_ref02_Heap_Gaps : Nat → T_pi := hide fun k x0 x1 σ => fn P (XK Kn.b) H k 147 [.pointer x0, .int .i64 x1] σ
noncomputable def d_ref02_Heap_Gaps_l0 : Nat → L_ppnnlii := hide fun k n p0 p1 c2 c3 x5 x6 x8 σ => lp k 147 14 (cB (cR (cL (cR (cR (cR (cR (cR (bodyC Tryz.f147))))))))) n (rgs 0 77 [(0, .pointer p0), (5, .slice x5.1 x5.2.1 x5.2.2), (6, .int .i64 x6), (7, .slice p1 c2 c3), (8, .int .i64 x8)]) σ
noncomputable def d_ref02_Heap_Made : Nat → T_p := hide fun k x0 σ => fn P (XK Kn.b) H k 148 [.pointer x0] σ
noncomputable def d_side_Table_Set : Nat → T_pii := hide fun k x0 x1 x2 σ => fn P (XK Kn.b) H k 149 [.pointer x0, .int .i64 x1, .int .i64 x2] σ
noncomputable def d_ref02_Heap_Has : Nat → T_pi := hide fun k x0 x1 σ => fn P (XK Kn.b) H k 150 [.pointer x0, .int .i64 x1] σ
noncomputable def d_ref01_Table_Set : Nat → T_pii := hide fun k x0 x1 x2 σ => fn P (XK Kn.b) H k 151 [.pointer x0, .int .i64 x1, .int .i64 x2] σ
noncomputable def d_alloc_Allocator_made : Nat → T_p := hide fun k x0 σ => fn P (XK Kn.b) H k 152 [.pointer x0] σ
noncomputable def d_heap_Valid : Nat → T_iii := hide fun k x0_0 x0_1 x0_2 σ => fn P (XK Kn.b) H k 153 [.agg #[.int .i64 x0_0, .int .i64 x0_1, .int .i64 x0_2]] σ
noncomputable def d_heap_Words : Nat → T_iii := hide fun k x0_0 x0_1 x0_2 σ => fn P (XK Kn.b) H k 154 [.agg #[.int .i64 x0_0, .int .i64 x0_1, .int .i64 x0_2]] σ
noncomputable def d_alloc_policies : Nat → T_ := hide fun k  σ => fn P (XK Kn.b) H k 155 [] σ
noncomputable def d_alloc_Allocator_large : Nat → T_pi := hide fun k x0 x1 σ => fn P (XK Kn.b) H k 156 [.pointer x0, .int .i64 x1] σ
noncomputable def d_alloc_Allocator_large_l0 : Nat → L_pii := hide fun k n p0 i1 x7 σ => lp k 156 6 (cB (cR (cL (cR (cR (bodyC Tryz.f156)))))) n (rgs 0 37 [(0, .pointer p0), (6, .int .i64 i1), (7, .int .i64 x7)]) σ
noncomputable def d_heap_Heap_Space : Nat → T_pi := hide fun k x0 x1 σ => fn P (XK Kn.b) H k 157 [.pointer x0, .int .i64 x1] σ
noncomputable def d_heap_Heap_Place : Nat → T_piiii := hide fun k x0 x1 x2_0 x2_1 x2_2 σ => fn P (XK Kn.b) H k 158 [.pointer x0, .int .i64 x1, .agg #[.int .i64 x2_0, .int .i64 x2_1, .int .i64 x2_2]] σ
noncomputable def d_ref05_Allocator_Made : Nat → T_p := hide fun k x0 σ => fn P (XK Kn.b) H k 159 [.pointer x0] σ
noncomputable def d_ref02_Valid : Nat → T_iii := hide fun k x0_0 x0_1 x0_2 σ => fn P (XK Kn.b) H k 160 [.agg #[.int .i64 x0_0, .int .i64 x0_1, .int .i64 x0_2]] σ
noncomputable def d_ref02_Large : Nat → T_iii := hide fun k x0_0 x0_1 x0_2 σ => fn P (XK Kn.b) H k 161 [.agg #[.int .i64 x0_0, .int .i64 x0_1, .int .i64 x0_2]] σ
noncomputable def d_ref02_Need : Nat → T_iii := hide fun k x0_0 x0_1 x0_2 σ => fn P (XK Kn.b) H k 162 [.agg #[.int .i64 x0_0, .int .i64 x0_1, .int .i64 x0_2]] σ
noncomputable def d_ref05_Free : Nat → T_pi := hide fun k x0 x1 σ => fn P (XK Kn.b) H k 163 [.pointer x0, .int .i64 x1] σ
noncomputable def d_ref05_Free_l1 : Nat → L_piii := hide fun k n p0 i1 i2 x6 σ => lp k 163 10 (cB (cL (cR (cB (cL (cR (cB (cB (cR (cL (cR (bodyC Tryz.f163)))))))))))) n (rgs 0 32 [(0, .pointer p0), (1, .int .i64 i1), (5, .int .i64 i2), (6, .int .i64 x6)]) σ
noncomputable def d_ref05_Free_l0 : Nat → L_pii := hide fun k n p0 i1 x5 σ => lp k 163 4 (cB (cR (cL (cR (bodyC Tryz.f163))))) n (rgs 0 32 [(0, .pointer p0), (1, .int .i64 i1), (5, .int .i64 x5)]) σ
noncomputable def d_ref02_Heap_ClaimLarge : Nat → T_piii := hide fun k x0 x1 x2 x3 σ => fn P (XK Kn.b) H k 164 [.pointer x0, .int .i64 x1, .int .i64 x2, .int .i64 x3] σ
noncomputable def d_ref02_Heap_ClaimLarge_l0 : Nat → L_piii := hide fun k n p0 i1 i2 x9 σ => lp k 164 12 (cB (cR (cL (cR (cR (cR (bodyC Tryz.f164))))))) n (rgs 0 78 [(0, .pointer p0), (1, .int .i64 i1), (2, .int .i64 i2), (9, .int .i64 x9)]) σ
noncomputable def d_ref02_Heap_ClaimLarge_l1 : Nat → L_piiii := hide fun k n p0 i1 i2 i3 x10 σ => lp k 164 22 (cB (cR (cL (cR (cR (cR (cR (bodyC Tryz.f164)))))))) n (rgs 0 78 [(0, .pointer p0), (1, .int .i64 i1), (2, .int .i64 i2), (3, .int .i64 i3), (10, .int .i64 x10)]) σ
noncomputable def d_ref05_Allocator_place : Nat → T_piiiii := hide fun k x0 x1 x2 x3_0 x3_1 x3_2 σ => fn P (XK Kn.b) H k 165 [.pointer x0, .int .i64 x1, .int .i64 x2, .agg #[.int .i64 x3_0, .int .i64 x3_1, .int .i64 x3_2]] σ
noncomputable def d_ref02_Words : Nat → T_iii := hide fun k x0_0 x0_1 x0_2 σ => fn P (XK Kn.b) H k 166 [.agg #[.int .i64 x0_0, .int .i64 x0_1, .int .i64 x0_2]] σ
noncomputable def d_ref05_Allocator_bump : Nat → T_piiii := hide fun k x0 x1_0 x1_1 x1_2 x2 σ => fn P (XK Kn.b) H k 167 [.pointer x0, .agg #[.int .i64 x1_0, .int .i64 x1_1, .int .i64 x1_2], .int .i64 x2] σ
noncomputable def d_ref05_Allocator_lines : Nat → T_piiii := hide fun k x0 x1_0 x1_1 x1_2 x2 σ => fn P (XK Kn.b) H k 168 [.pointer x0, .agg #[.int .i64 x1_0, .int .i64 x1_1, .int .i64 x1_2], .int .i64 x2] σ
noncomputable def d_ref05_Allocator_lines_l1 : Nat → L_pinipnni := hide fun k n p0 i1 h2 i3 p4 c5 c6 x10 σ => lp k 168 22 (cB (cR (cR (cR (cB (cL (cR (cB (cB (cR (cL (cR (cR (cR (bodyC Tryz.f168))))))))))))))) n (rgs 0 129 [(0, .pointer p0), (2, .int .i64 i1), (4, .pointer (some ⟨h2, 0, none⟩)), (8, .int .i64 i3), (9, .slice p4 c5 c6), (10, .int .i64 x10)]) σ
noncomputable def d_ref05_Allocator_lines_l0 : Nat → L_pini := hide fun k n p0 i1 h2 x8 σ => lp k 168 12 (cB (cR (cL (cR (cR (cR (bodyC Tryz.f168))))))) n (rgs 0 129 [(0, .pointer p0), (2, .int .i64 i1), (4, .pointer (some ⟨h2, 0, none⟩)), (8, .int .i64 x8)]) σ
noncomputable def d_ref05_Allocator_choose : Nat → T_pi := hide fun k x0 x1 σ => fn P (XK Kn.b) H k 169 [.pointer x0, .int .i64 x1] σ
noncomputable def d_ref05_Allocator_choose_l0 : Nat → L_pipnni := hide fun k n p0 i1 p2 c3 c4 x7 σ => lp k 169 8 (cB (cR (cT (cR (cL (cR (cR (bodyC Tryz.f169)))))))) n (rgs 0 95 [(0, .pointer p0), (1, .int .i64 i1), (6, .slice p2 c3 c4), (7, .int .i64 x7)]) σ
noncomputable def d_ref05_Allocator_choose_l1 : Nat → L_pipnnii := hide fun k n p0 i1 p2 c3 c4 x10 x11 σ => lp k 169 22 (cB (cR (cL (cR (cR (cR (cR (bodyC Tryz.f169)))))))) n (rgs 0 95 [(0, .pointer p0), (1, .int .i64 i1), (6, .slice p2 c3 c4), (10, .int .i64 x10), (11, .int .i64 x11)]) σ
noncomputable def d_side_Table_made : Nat → T_p := hide fun k x0 σ => fn P (XK Kn.b) H k 170 [.pointer x0] σ
noncomputable def d_slices_Clone_uint64 : Nat → T_l := hide fun k x0 σ => fn P (XK Kn.b) H k 171 [.slice x0.1 x0.2.1 x0.2.2] σ
noncomputable def d_sound_Is_c1 : Nat → T_ip := hide fun k x0 c0 σ => fn P (XK Kn.b) H k 172 [.int .i64 x0, .pointer c0] σ
noncomputable def d_slices_ContainsFunc_int : Nat → T_lv := hide fun k x0 x1 σ => fn P (XK Kn.b) H k 173 [.slice x0.1 x0.2.1 x0.2.2, x1] σ
noncomputable def d_heap_Heap_Objects : Nat → T_pi := hide fun k x0 x1 σ => fn P (XK Kn.b) H k 174 [.pointer x0, .int .i64 x1] σ
noncomputable def d_heap_Heap_Kill : Nat → T_pi := hide fun k x0 x1 σ => fn P (XK Kn.b) H k 175 [.pointer x0, .int .i64 x1] σ
noncomputable def d_heap_Heap_Release : Nat → T_pi := hide fun k x0 x1 σ => fn P (XK Kn.b) H k 176 [.pointer x0, .int .i64 x1] σ
noncomputable def d_heap_Heap_Release_l0 : Nat → L_pii := hide fun k n p0 i1 x6 σ => lp k 176 14 (cB (cR (cL (cR (cR (cR (bodyC Tryz.f176))))))) n (rgs 0 35 [(0, .pointer p0), (1, .int .i64 i1), (6, .int .i64 x6)]) σ
noncomputable def d_heap_Heap_size : Nat → T_pi := hide fun k x0 x1 σ => fn P (XK Kn.b) H k 177 [.pointer x0, .int .i64 x1] σ
noncomputable def d_law06_blocks : Nat → T_iiil := hide fun k x0_0 x0_1 x0_2 x0_3 σ => fn P (XK Kn.b) H k 178 [.agg #[.int .u8 x0_0, .int .u8 x0_1, .int .u8 x0_2, .slice x0_3.1 x0_3.2.1 x0_3.2.2]] σ
noncomputable def d_law06_mutators : Nat → T_iiil := hide fun k x0_0 x0_1 x0_2 x0_3 σ => fn P (XK Kn.b) H k 179 [.agg #[.int .u8 x0_0, .int .u8 x0_1, .int .u8 x0_2, .slice x0_3.1 x0_3.2.1 x0_3.2.2]] σ
noncomputable def d_model_New : Nat → T_i := hide fun k x0 σ => fn P (XK Kn.b) H k 180 [.int .i64 x0] σ
noncomputable def d_model_New_l0 : Nat → L_nii := hide fun k n h0 i1 x15 σ => lp k 180 10 (cB (cR (cL (cR (cR (cR (bodyC Tryz.f180))))))) n (rgs 0 29 [(4, .pointer (some ⟨h0, 0, none⟩)), (14, .int .i64 i1), (15, .int .i64 x15)]) σ
noncomputable def d_alloc_New : Nat → T_pii := hide fun k x0 x1 x2 σ => fn P (XK Kn.b) H k 181 [.pointer x0, .int .i64 x1, .int .i64 x2] σ
noncomputable def d_roots_Roots_all_c1 : Nat → T_vp := hide fun k x0 c0 σ => fn P (XK Kn.b) H k 187 [x0, .pointer c0] σ
noncomputable def d_roots_Roots_all_c1_l1 : Nat → L_vipnnii := hide fun k n v0 i1 p2 c3 c4 i5 x28 σ => lp k 187 8 (cB (cR (cR (cB (cL (cR (cR (cB (cB (cR (bodyC Tryz.f187))))))))))) n (rgs 0 58 [(0, v0), (3, .int .i64 i1), (4, .slice p2 c3 c4), (27, .int .i64 i5), (28, .int .i64 x28)]) σ
noncomputable def d_roots_Roots_all_c1_l0 : Nat → L_vnii := hide fun k n v0 h1 i2 x21 σ => lp k 187 2 (cB (cR (bodyC Tryz.f187))) n (rgs 0 58 [(0, v0), (19, .slice (some ⟨h1, 0, none⟩) 3 3), (20, .int .i64 i2), (21, .int .i64 x21)]) σ
noncomputable def d_roots_Roots_at : Nat → T_piii := hide fun k x0 x1_0 x1_1 x1_2 σ => fn P (XK Kn.b) H k 188 [.pointer x0, .agg #[.int .i64 x1_0, .int .i64 x1_1, .int .i64 x1_2]] σ
noncomputable def d_side_Table_Swap : Nat → T_piii := hide fun k x0 x1 x2 x3 σ => fn P (XK Kn.b) H k 189 [.pointer x0, .int .i64 x1, .int .i64 x2, .int .i64 x3] σ
noncomputable def d___trace_line_int__newest : Nat → T_p := hide fun k x0 σ => fn P (XK Kn.b) H k 190 [.pointer x0] σ
noncomputable def d_slices_IndexFunc_int : Nat → T_lv := hide fun k x0 x1 σ => fn P (XK Kn.b) H k 191 [.slice x0.1 x0.2.1 x0.2.2, x1] σ
noncomputable def d_slices_IndexFunc_int_l0 : Nat → L_pnnvii := hide fun k n p0 c1 c2 v3 i4 x8 σ => lp k 191 4 (cB (cR (cL (cR (bodyC Tryz.f191))))) n (rgs 0 19 [(0, .slice p0 c1 c2), (1, v3), (7, .int .i64 i4), (8, .int .i64 x8)]) σ
noncomputable def d_side_Table_there : Nat → T_pi := hide fun k x0 x1 σ => fn P (XK Kn.b) H k 192 [.pointer x0, .int .i64 x1] σ
noncomputable def d_side_Table_get : Nat → T_pi := hide fun k x0 x1 σ => fn P (XK Kn.b) H k 193 [.pointer x0, .int .i64 x1] σ
noncomputable def d_side_Table_Next : Nat → T_pii := hide fun k x0 x1 x2 σ => fn P (XK Kn.b) H k 194 [.pointer x0, .int .i64 x1, .int .i64 x2] σ
noncomputable def d_side_Table_Next_l0 : Nat → L_pii := hide fun k n p0 i1 x8 σ => lp k 194 8 (cB (cR (cL (cR (cR (bodyC Tryz.f194)))))) n (rgs 0 28 [(0, .pointer p0), (2, .int .i64 i1), (8, .int .i64 x8)]) σ
noncomputable def d_sweep_Sweeper_sweep_c1 : Nat → T_ip := hide fun k x0 c0 σ => fn P (XK Kn.b) H k 195 [.int .i64 x0, .pointer c0] σ
noncomputable def d_sweep_Sweeper_sweep_c2 : Nat → T_ip := hide fun k x0 c0 σ => fn P (XK Kn.b) H k 196 [.int .i64 x0, .pointer c0] σ
noncomputable def d_ref02_Heap_Objects : Nat → T_pi := hide fun k x0 x1 σ => fn P (XK Kn.b) H k 197 [.pointer x0, .int .i64 x1] σ
noncomputable def d_ref02_Heap_Objects_l0 : Nat → L_pili := hide fun k n p0 i1 x5 x6 σ => lp k 197 6 (cB (cR (cL (cR (cR (bodyC Tryz.f197)))))) n (rgs 0 43 [(0, .pointer p0), (1, .int .i64 i1), (5, .slice x5.1 x5.2.1 x5.2.2), (6, .int .i64 x6)]) σ
noncomputable def d_ref01_Table_Get : Nat → T_pi := hide fun k x0 x1 σ => fn P (XK Kn.b) H k 198 [.pointer x0, .int .i64 x1] σ
noncomputable def d_ref02_Heap_Shape : Nat → T_pi := hide fun k x0 x1 σ => fn P (XK Kn.b) H k 199 [.pointer x0, .int .i64 x1] σ
noncomputable def d_ref02_Heap_Kill : Nat → T_pi := hide fun k x0 x1 σ => fn P (XK Kn.b) H k 200 [.pointer x0, .int .i64 x1] σ
noncomputable def d_ref02_Heap_Release : Nat → T_pi := hide fun k x0 x1 σ => fn P (XK Kn.b) H k 201 [.pointer x0, .int .i64 x1] σ
noncomputable def d_ref02_Heap_Release_l0 : Nat → L_piii := hide fun k n p0 i1 i2 x6 σ => lp k 201 22 (cB (cR (cL (cR (cR (cR (cR (cR (cR (bodyC Tryz.f201)))))))))) n (rgs 0 39 [(0, .pointer p0), (1, .int .i64 i1), (5, .int .i64 i2), (6, .int .i64 x6)]) σ
noncomputable def d_slices_ContainsFunc_api_Run : Nat → T_lv := hide fun k x0 x1 σ => fn P (XK Kn.b) H k 202 [.slice x0.1 x0.2.1 x0.2.2, x1] σ
noncomputable def d_heap_Heap_Gaps : Nat → T_pi := hide fun k x0 x1 σ => fn P (XK Kn.b) H k 203 [.pointer x0, .int .i64 x1] σ
noncomputable def d_heap_Heap_Gaps_l0 : Nat → L_pnnpnnii := hide fun k n p0 h1 h2 p3 c4 c5 i6 x21 σ => lp k 203 14 (cB (cR (cL (cR (cR (cR (cR (cR (bodyC Tryz.f203))))))))) n (rgs 0 40 [(0, .pointer p0), (6, .pointer (some ⟨h1, 0, none⟩)), (7, .func (.func 236) #[] #[.pointer (some ⟨h1, 0, none⟩), .pointer (some ⟨h2, 0, none⟩)]), (19, .slice p3 c4 c5), (20, .int .i64 i6), (21, .int .i64 x21)]) σ
noncomputable def d_sweep_Sweeper_roomy_c1 : Nat → T_iip := hide fun k x0_0 x0_1 c0 σ => fn P (XK Kn.b) H k 204 [.agg #[.int .i64 x0_0, .int .i64 x0_1], .pointer c0] σ
noncomputable def d_ref02_Heap_Index : Nat → T_pi := hide fun k x0 x1 σ => fn P (XK Kn.b) H k 205 [.pointer x0, .int .i64 x1] σ
noncomputable def d_ref02_Heap_Index_l0 : Nat → L_pii := hide fun k n p0 i1 x5 σ => lp k 205 8 (cB (cR (cL (cR (cR (bodyC Tryz.f205)))))) n (rgs 0 29 [(0, .pointer p0), (1, .int .i64 i1), (5, .int .i64 x5)]) σ
noncomputable def d_side_Table_check : Nat → T_pil := hide fun k x0 x1 x2 σ => fn P (XK Kn.b) H k 206 [.pointer x0, .int .i64 x1, .slice x2.1 x2.2.1 x2.2.2] σ
noncomputable def d_side_Table_put : Nat → T_pii := hide fun k x0 x1 x2 σ => fn P (XK Kn.b) H k 207 [.pointer x0, .int .i64 x1, .int .i64 x2] σ
noncomputable def d_ref01_Table_made : Nat → T_p := hide fun k x0 σ => fn P (XK Kn.b) H k 208 [.pointer x0] σ
noncomputable def d_ref01_Table_has : Nat → T_pi := hide fun k x0 x1 σ => fn P (XK Kn.b) H k 209 [.pointer x0, .int .i64 x1] σ
noncomputable def d_ref01_Table_may : Nat → T_pi := hide fun k x0 x1 σ => fn P (XK Kn.b) H k 210 [.pointer x0, .int .i64 x1] σ
noncomputable def d_heap_Heap_ClaimLarge : Nat → T_piii := hide fun k x0 x1 x2 x3 σ => fn P (XK Kn.b) H k 211 [.pointer x0, .int .i64 x1, .int .i64 x2, .int .i64 x3] σ
noncomputable def d_heap_Heap_fits : Nat → T_piii := hide fun k x0 x1 x2 x3 σ => fn P (XK Kn.b) H k 212 [.pointer x0, .int .i64 x1, .int .i64 x2, .int .i64 x3] σ
noncomputable def d_heap_Heap_fits_l0 : Nat → L_piiii := hide fun k n p0 i1 i2 i3 x10 σ => lp k 212 20 (cB (cR (cL (cR (cR (cR (cR (bodyC Tryz.f212)))))))) n (rgs 0 96 [(0, .pointer p0), (1, .int .i64 i1), (2, .int .i64 i2), (3, .int .i64 i3), (10, .int .i64 x10)]) σ
noncomputable def d_heap_number : Nat → T_iii := hide fun k x0_0 x0_1 x0_2 σ => fn P (XK Kn.b) H k 213 [.agg #[.int .i64 x0_0, .int .i64 x0_1, .int .i64 x0_2]] σ
noncomputable def d_ref02_Heap_Blocks : Nat → T_p := hide fun k x0 σ => fn P (XK Kn.b) H k 214 [.pointer x0] σ
noncomputable def d_ref02_Heap_block : Nat → T_pi := hide fun k x0 x1 σ => fn P (XK Kn.b) H k 215 [.pointer x0, .int .i64 x1] σ
noncomputable def d_ref02_space : Nat → T_i := hide fun k x0 σ => fn P (XK Kn.b) H k 216 [.int .i64 x0] σ
noncomputable def d_ref02_Heap_Claim : Nat → T_pii := hide fun k x0 x1 x2 σ => fn P (XK Kn.b) H k 217 [.pointer x0, .int .i64 x1, .int .i64 x2] σ
noncomputable def d_ref02_Heap_Space : Nat → T_pi := hide fun k x0 x1 σ => fn P (XK Kn.b) H k 218 [.pointer x0, .int .i64 x1] σ
noncomputable def d_ref02_Heap_Place : Nat → T_piiii := hide fun k x0 x1 x2_0 x2_1 x2_2 σ => fn P (XK Kn.b) H k 219 [.pointer x0, .int .i64 x1, .agg #[.int .i64 x2_0, .int .i64 x2_1, .int .i64 x2_2]] σ
noncomputable def d_ref05_Allocator_over : Nat → T_piiii := hide fun k x0 x1_0 x1_1 x1_2 x2 σ => fn P (XK Kn.b) H k 220 [.pointer x0, .agg #[.int .i64 x1_0, .int .i64 x1_1, .int .i64 x1_2], .int .i64 x2] σ
noncomputable def d_ref05_Holes : Nat → T_pi := hide fun k x0 x1 σ => fn P (XK Kn.b) H k 221 [.pointer x0, .int .i64 x1] σ
noncomputable def d_ref05_Holes_l0 : Nat → L_pnnli := hide fun k n p0 c1 c2 x5 x7 σ => lp k 221 8 (cB (cR (cL (cR (cR (cR (bodyC Tryz.f221))))))) n (rgs 0 47 [(5, .slice x5.1 x5.2.1 x5.2.2), (6, .slice p0 c1 c2), (7, .int .i64 x7)]) σ
noncomputable def d_ref05_Allocator_gaps : Nat → T_p := hide fun k x0 σ => fn P (XK Kn.b) H k 222 [.pointer x0] σ
noncomputable def d_ref05_Allocator_gaps_l0 : Nat → L_pli := hide fun k n p0 x3 x4 σ => lp k 222 6 (cB (cR (cL (cR (cR (bodyC Tryz.f222)))))) n (rgs 0 45 [(0, .pointer p0), (3, .slice x3.1 x3.2.1 x3.2.2), (4, .int .i64 x4)]) σ
noncomputable def d_heap_Heap_wipe : Nat → T_pii := hide fun k x0 x1 x2 σ => fn P (XK Kn.b) H k 223 [.pointer x0, .int .i64 x1, .int .i64 x2] σ
noncomputable def d_heap_Heap_held : Nat → T_pib := hide fun k x0 x1 x2 σ => fn P (XK Kn.b) H k 224 [.pointer x0, .int .i64 x1, .bool x2] σ
noncomputable def d_heap_Heap_span : Nat → T_pi := hide fun k x0 x1 σ => fn P (XK Kn.b) H k 225 [.pointer x0, .int .i64 x1] σ
noncomputable def d_heap_Heap_span_l0 : Nat → L_pii := hide fun k n p0 i1 x5 σ => lp k 225 4 (cB (cL (cR (cR (bodyC Tryz.f225))))) n (rgs 0 42 [(0, .pointer p0), (1, .int .i64 i1), (5, .int .i64 x5)]) σ
noncomputable def d_roots_Roots_at_c1 : Nat → T_lp := hide fun k x0 c0 σ => fn P (XK Kn.b) H k 229 [.slice x0.1 x0.2.1 x0.2.2, .pointer c0] σ
noncomputable def d_side_Table_most : Nat → T_p := hide fun k x0 σ => fn P (XK Kn.b) H k 230 [.pointer x0] σ
noncomputable def d_ref02_Heap_lacks : Nat → T_pi := hide fun k x0 x1 σ => fn P (XK Kn.b) H k 231 [.pointer x0, .int .i64 x1] σ
noncomputable def d_ref02_Heap_cut : Nat → T_pi := hide fun k x0 x1 σ => fn P (XK Kn.b) H k 232 [.pointer x0, .int .i64 x1] σ
noncomputable def d_ref02_Heap_Whole : Nat → T_pi := hide fun k x0 x1 σ => fn P (XK Kn.b) H k 233 [.pointer x0, .int .i64 x1] σ
noncomputable def d_ref02_Heap_Whole_l0 : Nat → L_pii := hide fun k n p0 i1 x5 σ => lp k 233 12 (cB (cL (cR (cR (cR (cR (bodyC Tryz.f233))))))) n (rgs 0 49 [(0, .pointer p0), (1, .int .i64 i1), (5, .int .i64 x5)]) σ
noncomputable def d_slices_IndexFunc_api_Run : Nat → T_lv := hide fun k x0 x1 σ => fn P (XK Kn.b) H k 234 [.slice x0.1 x0.2.1 x0.2.2, x1] σ
noncomputable def d_slices_IndexFunc_api_Run_l0 : Nat → L_pnnvii := hide fun k n p0 c1 c2 v3 i4 x8 σ => lp k 234 4 (cB (cR (cL (cR (bodyC Tryz.f234))))) n (rgs 0 19 [(0, .slice p0 c1 c2), (1, v3), (7, .int .i64 i4), (8, .int .i64 x8)]) σ
noncomputable def d_heap_Heap_used : Nat → T_pi := hide fun k x0 x1 σ => fn P (XK Kn.b) H k 235 [.pointer x0, .int .i64 x1] σ
noncomputable def d_heap_Heap_Gaps_c1 : Nat → T_ipp := hide fun k x0 c0 c1 σ => fn P (XK Kn.b) H k 236 [.int .i64 x0, .pointer c0, .pointer c1] σ
noncomputable def d_side_Table_check_c1 : Nat → T_ip := hide fun k x0 c0 σ => fn P (XK Kn.b) H k 237 [.int .i64 x0, .pointer c0] σ
noncomputable def d_side_Table_value : Nat → T_pi := hide fun k x0 x1 σ => fn P (XK Kn.b) H k 238 [.pointer x0, .int .i64 x1] σ
noncomputable def d_heap_Heap_claim : Nat → T_piiiiii := hide fun k x0 x1 x2 x3_0 x3_1 x4_0 x4_1 σ => fn P (XK Kn.b) H k 239 [.pointer x0, .int .i64 x1, .int .i64 x2, .agg #[.int .i64 x3_0, .int .i64 x3_1], .agg #[.int .i64 x4_0, .int .i64 x4_1]] σ
noncomputable def d_heap_Heap_claim_l0 : Nat → L_pinii := hide fun k n p0 i1 h2 i3 x54 σ => lp k 239 16 (cB (cR (cL (cR (cR (bodyC Tryz.f239)))))) n (rgs 0 74 [(0, .pointer p0), (1, .int .i64 i1), (9, .pointer (some ⟨h2, 0, none⟩)), (53, .int .i64 i3), (54, .int .i64 x54)]) σ
noncomputable def d_heap_Heap_Find : Nat → T_pi := hide fun k x0 x1 σ => fn P (XK Kn.b) H k 240 [.pointer x0, .int .i64 x1] σ
noncomputable def d_ref02_Heap_fits : Nat → T_piiiii := hide fun k x0 x1 x2_0 x2_1 x2_2 x3 σ => fn P (XK Kn.b) H k 241 [.pointer x0, .int .i64 x1, .agg #[.int .i64 x2_0, .int .i64 x2_1, .int .i64 x2_2], .int .i64 x3] σ
noncomputable def d_ref02_Heap_fits_l0 : Nat → L_piini := hide fun k n p0 i1 i2 h3 x10 σ => lp k 241 20 (cB (cR (cL (cR (cR (cR (cR (bodyC Tryz.f241)))))))) n (rgs 0 113 [(0, .pointer p0), (1, .int .i64 i1), (3, .int .i64 i2), (6, .pointer (some ⟨h3, 0, none⟩)), (10, .int .i64 x10)]) σ
noncomputable def d_ref02_Heap_put : Nat → T_piiiiillb := hide fun k x0 x1_0 x1_1 x1_2 x1_3 x1_4 x1_5 x1_6 x1_7 σ => fn P (XK Kn.b) H k 242 [.pointer x0, .agg #[.int .i64 x1_0, .int .i64 x1_1, .int .i64 x1_2, .int .i64 x1_3, .int .i64 x1_4, .slice x1_5.1 x1_5.2.1 x1_5.2.2, .slice x1_6.1 x1_6.2.1 x1_6.2.2, .bool x1_7]] σ
noncomputable def d_ref02_Heap_put_l0 : Nat → L_pni := hide fun k n p0 h1 x4 σ => lp k 242 4 (cB (cL (cR (cR (bodyC Tryz.f242))))) n (rgs 0 51 [(0, .pointer p0), (3, .pointer (some ⟨h1, 0, none⟩)), (4, .int .i64 x4)]) σ
noncomputable def d_ref02_Heap_Lines : Nat → T_pi := hide fun k x0 x1 σ => fn P (XK Kn.b) H k 243 [.pointer x0, .int .i64 x1] σ
noncomputable def d_ref02_Heap_Lines_l1 : Nat → L_piibi := hide fun k n p0 i1 i2 x7 x8 σ => lp k 243 18 (cB (cR (cL (cR (cB (cL (cR (cB (cB (cR (cL (cR (cR (cR (bodyC Tryz.f243))))))))))))))) n (rgs 0 45 [(0, .pointer p0), (1, .int .i64 i1), (6, .int .i64 i2), (7, .bool x7), (8, .int .i64 x8)]) σ
noncomputable def d_ref02_Heap_Lines_l0 : Nat → L_pili := hide fun k n p0 i1 x5 x6 σ => lp k 243 10 (cB (cR (cL (cR (cR (cR (bodyC Tryz.f243))))))) n (rgs 0 45 [(0, .pointer p0), (1, .int .i64 i1), (5, .slice x5.1 x5.2.1 x5.2.2), (6, .int .i64 x6)]) σ
noncomputable def d_heap_Heap_there : Nat → T_pi := hide fun k x0 x1 σ => fn P (XK Kn.b) H k 244 [.pointer x0, .int .i64 x1] σ
noncomputable def d_heap_space : Nat → T_i := hide fun k x0 σ => fn P (XK Kn.b) H k 250 [.int .i64 x0] σ
noncomputable def d_slices_ContainsFunc_heap_block : Nat → T_lv := hide fun k x0 x1 σ => fn P (XK Kn.b) H k 251 [.slice x0.1 x0.2.1 x0.2.2, x1] σ
noncomputable def d_heap_Heap_claim_c1 : Nat → T_ii := hide fun k x0_0 x0_1 σ => fn P (XK Kn.b) H k 252 [.agg #[.int .i64 x0_0, .int .i64 x0_1]] σ
noncomputable def d_side_Table_Last : Nat → T_pii := hide fun k x0 x1 x2 σ => fn P (XK Kn.b) H k 253 [.pointer x0, .int .i64 x1, .int .i64 x2] σ
noncomputable def d_side_Table_Last_l0 : Nat → L_pii := hide fun k n p0 i1 x8 σ => lp k 253 8 (cB (cR (cL (cR (cR (bodyC Tryz.f253)))))) n (rgs 0 30 [(0, .pointer p0), (2, .int .i64 i1), (8, .int .i64 x8)]) σ
noncomputable def d_ref02_Heap_Find : Nat → T_pi := hide fun k x0 x1 σ => fn P (XK Kn.b) H k 254 [.pointer x0, .int .i64 x1] σ
noncomputable def d_ref02_Heap_Find_l0 : Nat → L_pii := hide fun k n p0 i1 x6 σ => lp k 254 8 (cB (cR (cL (cR (cR (bodyC Tryz.f254)))))) n (rgs 0 59 [(0, .pointer p0), (1, .int .i64 i1), (6, .int .i64 x6)]) σ
noncomputable def d_slices_IndexFunc_heap_block : Nat → T_lv := hide fun k x0 x1 σ => fn P (XK Kn.b) H k 256 [.slice x0.1 x0.2.1 x0.2.2, x1] σ
noncomputable def d_slices_IndexFunc_heap_block_l0 : Nat → L_pnnvii := hide fun k n p0 c1 c2 v3 i4 x8 σ => lp k 256 4 (cB (cR (cL (cR (bodyC Tryz.f256))))) n (rgs 0 19 [(0, .slice p0 c1 c2), (1, v3), (7, .int .i64 i4), (8, .int .i64 x8)]) σ
noncomputable def d_alloc_first_place : Nat → T_pi := hide fun k x1 x2 σ => fn P (XK Kn.b) H k 280 [.agg #[], .pointer x1, .int .i64 x2] σ
noncomputable def d_alloc_Allocator_start : Nat → T_pl := hide fun k x0 x1 σ => fn P (XK Kn.b) H k 281 [.pointer x0, .slice x1.1 x1.2.1 x1.2.2] σ
noncomputable def d_alloc_Allocator_gaps : Nat → T_pii := hide fun k x0 x1 x2 σ => fn P (XK Kn.b) H k 282 [.pointer x0, .int .i64 x1, .int .i64 x2] σ
noncomputable def d_alloc_Allocator_gaps_l1 : Nat → L_iipnnili := hide fun k n i0 i1 p2 c3 c4 i5 x7 x27 σ => lp k 282 12 (cB (cR (cR (cB (cL (cR (cR (cB (cB (cR (cL (cR (cR (bodyC Tryz.f282)))))))))))))) n (rgs 0 55 [(1, .int .i64 i0), (2, .int .i64 i1), (7, .slice x7.1 x7.2.1 x7.2.2), (25, .slice p2 c3 c4), (26, .int .i64 i5), (27, .int .i64 x27)]) σ
noncomputable def d_alloc_Allocator_gaps_l0 : Nat → L_piipnnili := hide fun k n p0 i1 i2 p3 c4 c5 i6 x7 x16 σ => lp k 282 6 (cB (cR (cL (cR (cR (bodyC Tryz.f282)))))) n (rgs 0 55 [(0, .pointer p0), (1, .int .i64 i1), (2, .int .i64 i2), (7, .slice x7.1 x7.2.1 x7.2.2), (14, .slice p3 c4 c5), (15, .int .i64 i6), (16, .int .i64 x16)]) σ
noncomputable def d_alloc_Allocator_begin : Nat → T_p := hide fun k x0 σ => fn P (XK Kn.b) H k 283 [.pointer x0] σ
noncomputable def d_alloc_Allocator_begin_l0 : Nat → L_pni := hide fun k n p0 h1 x4 σ => lp k 283 4 (cB (cR (cL (cR (bodyC Tryz.f283))))) n (rgs 0 32 [(0, .pointer p0), (2, .pointer (some ⟨h1, 0, none⟩)), (4, .int .i64 x4)]) σ
noncomputable def d_alloc_Allocator_blocks : Nat → T_p := hide fun k x0 σ => fn P (XK Kn.b) H k 284 [.pointer x0] σ
noncomputable def d_alloc_Allocator_blocks_l0 : Nat → L_pili := hide fun k n p0 i1 x3 x10 σ => lp k 284 6 (cB (cR (cL (cR (cR (bodyC Tryz.f284)))))) n (rgs 0 39 [(0, .pointer p0), (3, .slice x3.1 x3.2.1 x3.2.2), (9, .int .i64 i1), (10, .int .i64 x10)]) σ
noncomputable def d_heap_Heap_Claim : Nat → T_pii := hide fun k x0 x1 x2 σ => fn P (XK Kn.b) H k 285 [.pointer x0, .int .i64 x1, .int .i64 x2] σ
noncomputable def d_alloc_best_place : Nat → T_pi := hide fun k x1 x2 σ => fn P (XK Kn.b) H k 286 [.agg #[], .pointer x1, .int .i64 x2] σ
noncomputable def d_slices_SortStableFunc_api_Run : Nat → T_lv := hide fun k x0 x1 σ => fn P (XK Kn.b) H k 287 [.slice x0.1 x0.2.1 x0.2.2, x1] σ
noncomputable def d_alloc_best_place_c1 : Nat → T_iiii := hide fun k x0_0 x0_1 x1_0 x1_1 σ => fn P (XK Kn.b) H k 288 [.agg #[.int .i64 x0_0, .int .i64 x0_1], .agg #[.int .i64 x1_0, .int .i64 x1_1]] σ
noncomputable def d_slices_stableCmpFunc_api_Run : Nat → T_liv := hide fun k x0 x1 x2 σ => fn P (XK Kn.b) H k 289 [.slice x0.1 x0.2.1 x0.2.2, .int .i64 x1, x2] σ
noncomputable def d_slices_stableCmpFunc_api_Run_l0 : Nat → L_pnnivii := hide fun k n p0 c1 c2 i3 v4 x7 x8 σ => lp k 289 4 (cB (cL (cR (cR (bodyC Tryz.f289))))) n (rgs 0 63 [(0, .slice p0 c1 c2), (1, .int .i64 i3), (2, v4), (6, .int .i64 (20 : Int)), (7, .int .i64 x7), (8, .int .i64 x8)]) σ
noncomputable def d_slices_stableCmpFunc_api_Run_l2 : Nat → L_pnniviii := hide fun k n p0 c1 c2 i3 v4 i5 x7 x8 σ => lp k 289 18 (cB (cL (cR (cB (cR (cB (cB (cR (cR (cR (cR (bodyC Tryz.f289)))))))))))) n (rgs 0 63 [(0, .slice p0 c1 c2), (1, .int .i64 i3), (2, v4), (6, .int .i64 i5), (7, .int .i64 x7), (8, .int .i64 x8)]) σ
noncomputable def d_slices_stableCmpFunc_api_Run_l1 : Nat → L_pnnivi := hide fun k n p0 c1 c2 i3 v4 x6 σ => lp k 289 14 (cB (cR (cR (cR (cR (bodyC Tryz.f289)))))) n (rgs 0 63 [(0, .slice p0 c1 c2), (1, .int .i64 i3), (2, v4), (6, .int .i64 x6)]) σ
noncomputable def d_slices_insertionSortCmpFunc_api_Run : Nat → T_liiv := hide fun k x0 x1 x2 x3 σ => fn P (XK Kn.b) H k 290 [.slice x0.1 x0.2.1 x0.2.2, .int .i64 x1, .int .i64 x2, x3] σ
noncomputable def d_slices_insertionSortCmpFunc_api_Run_l1 : Nat → L_pnnivi := hide fun k n p0 c1 c2 i3 v4 x9 σ => lp k 290 8 (cB (cR (cB (cL (cR (cB (cB (cR (bodyC Tryz.f290))))))))) n (rgs 0 53 [(0, .slice p0 c1 c2), (1, .int .i64 i3), (3, v4), (9, .int .i64 x9)]) σ
noncomputable def d_slices_insertionSortCmpFunc_api_Run_l0 : Nat → L_pnniivi := hide fun k n p0 c1 c2 i3 i4 v5 x8 σ => lp k 290 2 (cB (cR (bodyC Tryz.f290))) n (rgs 0 53 [(0, .slice p0 c1 c2), (1, .int .i64 i3), (2, .int .i64 i4), (3, v5), (8, .int .i64 x8)]) σ
noncomputable def d_slices_symMergeCmpFunc_api_Run : Nat → T_liiiv := hide fun k x0 x1 x2 x3 x4 σ => fn P (XK Kn.b) H k 291 [.slice x0.1 x0.2.1 x0.2.2, .int .i64 x1, .int .i64 x2, .int .i64 x3, x4] σ
noncomputable def d_slices_symMergeCmpFunc_api_Run_l0 : Nat → L_pnnivii := hide fun k n p0 c1 c2 i3 v4 x10 x11 σ => lp k 291 6 (cB (cL (cR (cR (cT (cR (cL (bodyC Tryz.f291)))))))) n (rgs 0 220 [(0, .slice p0 c1 c2), (1, .int .i64 i3), (4, v4), (10, .int .i64 x10), (11, .int .i64 x11)]) σ
noncomputable def d_slices_symMergeCmpFunc_api_Run_l1 : Nat → L_pnnii := hide fun k n p0 c1 c2 i3 x13 σ => lp k 291 18 (cB (cR (cL (cR (cR (cR (cT (cR (cL (bodyC Tryz.f291)))))))))) n (rgs 0 220 [(0, .slice p0 c1 c2), (10, .int .i64 i3), (13, .int .i64 x13)]) σ
noncomputable def d_slices_symMergeCmpFunc_api_Run_l2 : Nat → L_pnnivii := hide fun k n p0 c1 c2 i3 v4 x14 x15 σ => lp k 291 30 (cB (cL (cR (cR (cT (cR (cL (cR (bodyC Tryz.f291))))))))) n (rgs 0 220 [(0, .slice p0 c1 c2), (2, .int .i64 i3), (4, v4), (14, .int .i64 x14), (15, .int .i64 x15)]) σ
noncomputable def d_slices_symMergeCmpFunc_api_Run_l3 : Nat → L_pnnii := hide fun k n p0 c1 c2 i3 x17 σ => lp k 291 42 (cB (cR (cL (cR (cR (cR (cT (cR (cL (cR (bodyC Tryz.f291))))))))))) n (rgs 0 220 [(0, .slice p0 c1 c2), (14, .int .i64 i3), (17, .int .i64 x17)]) σ
noncomputable def d_slices_symMergeCmpFunc_api_Run_l4 : Nat → L_pnnviii := hide fun k n p0 c1 c2 v3 i4 x20 x21 σ => lp k 291 66 (cB (cL (cR (cR (cR (cR (cR (cR (cR (bodyC Tryz.f291)))))))))) n (rgs 0 220 [(0, .slice p0 c1 c2), (4, v3), (20, .int .i64 x20), (21, .int .i64 x21), (22, .int .i64 i4)]) σ
noncomputable def d_slices_rotateCmpFunc_api_Run : Nat → T_liiiv := hide fun k x0 x1 x2 x3 x4 σ => fn P (XK Kn.b) H k 292 [.slice x0.1 x0.2.1 x0.2.2, .int .i64 x1, .int .i64 x2, .int .i64 x3, x4] σ
noncomputable def d_slices_rotateCmpFunc_api_Run_l0 : Nat → L_pnnivii := hide fun k n p0 c1 c2 i3 v4 x10 x11 σ => lp k 292 4 (cB (cL (cR (cR (bodyC Tryz.f292))))) n (rgs 0 58 [(0, .slice p0 c1 c2), (2, .int .i64 i3), (4, v4), (10, .int .i64 x10), (11, .int .i64 x11)]) σ
noncomputable def d_slices_swapRangeCmpFunc_api_Run : Nat → T_liiiv := hide fun k x0 x1 x2 x3 x4 σ => fn P (XK Kn.b) H k 293 [.slice x0.1 x0.2.1 x0.2.2, .int .i64 x1, .int .i64 x2, .int .i64 x3, x4] σ
noncomputable def d_slices_swapRangeCmpFunc_api_Run_l0 : Nat → L_pnniiii := hide fun k n p0 c1 c2 i3 i4 i5 x10 σ => lp k 293 2 (cB (cR (bodyC Tryz.f293))) n (rgs 0 38 [(0, .slice p0 c1 c2), (1, .int .i64 i3), (2, .int .i64 i4), (3, .int .i64 i5), (10, .int .i64 x10)]) σ
noncomputable def d_alloc_next_place : Nat → T_pi := hide fun k x1 x2 σ => fn P (XK Kn.b) H k 294 [.agg #[], .pointer x1, .int .i64 x2] σ
noncomputable def d_alloc_bump_place : Nat → T_pi := hide fun k x1 x2 σ => fn P (XK Kn.b) H k 295 [.agg #[], .pointer x1, .int .i64 x2] σ
noncomputable def d_alloc_Allocator_bumped : Nat → T_ppi := hide fun k x0 x1 x2 σ => fn P (XK Kn.b) H k 296 [.pointer x0, .pointer x1, .int .i64 x2] σ
noncomputable def d_alloc_area_has : Nat → T_pi := hide fun k x0 x1 σ => fn P (XK Kn.b) H k 297 [.pointer x0, .int .i64 x1] σ
noncomputable def d_alloc_area_take : Nat → T_pi := hide fun k x0 x1 σ => fn P (XK Kn.b) H k 298 [.pointer x0, .int .i64 x1] σ
noncomputable def d_alloc_lines_place : Nat → T_pi := hide fun k x1 x2 σ => fn P (XK Kn.b) H k 299 [.agg #[], .pointer x1, .int .i64 x2] σ
noncomputable def d_alloc_Allocator_hole : Nat → T_p := hide fun k x0 σ => fn P (XK Kn.b) H k 300 [.pointer x0] σ
noncomputable def d_alloc_Allocator_hole_l2 : Nat → L_pnni := hide fun k n p0 c1 c2 x8 σ => lp k 300 18 (cB (cL (cR (cB (cL (cR (cB (cB (cR (cR (cR (cB (cL (cR (cR (cB (cB (cR (cL (cR (bodyC Tryz.f300))))))))))))))))))))) n (rgs 0 75 [(6, .slice p0 c1 c2), (8, .int .i64 x8)]) σ
noncomputable def d_alloc_Allocator_hole_l1 : Nat → L_pnipnni := hide fun k n p0 h1 i2 p3 c4 c5 x7 σ => lp k 300 12 (cB (cR (cR (cR (cB (cL (cR (cR (cB (cB (cR (cL (cR (bodyC Tryz.f300)))))))))))))) n (rgs 0 75 [(0, .pointer p0), (2, .pointer (some ⟨h1, 0, none⟩)), (5, .int .i64 i2), (6, .slice p3 c4 c5), (7, .int .i64 x7)]) σ
noncomputable def d_alloc_Allocator_hole_l0 : Nat → L_pnpnnii := hide fun k n p0 h1 p2 c3 c4 i5 x13 σ => lp k 300 4 (cB (cR (cL (cR (bodyC Tryz.f300))))) n (rgs 0 75 [(0, .pointer p0), (2, .pointer (some ⟨h1, 0, none⟩)), (11, .slice p2 c3 c4), (12, .int .i64 i5), (13, .int .i64 x13)]) σ
noncomputable def d_heap_Heap_Lines : Nat → T_pi := hide fun k x0 x1 σ => fn P (XK Kn.b) H k 301 [.pointer x0, .int .i64 x1] σ
noncomputable def d_heap_Heap_Lines_l1 : Nat → L_nnii := hide fun k n h0 c1 i2 x10 σ => lp k 301 18 (cB (cR (cR (cR (cB (cL (cR (cR (cB (cB (cR (cL (cR (cR (cR (bodyC Tryz.f301)))))))))))))))) n (rgs 0 46 [(5, .slice (some ⟨h0, 0, none⟩) c1 c1), (9, .int .i64 i2), (10, .int .i64 x10)]) σ
noncomputable def d_heap_Heap_Lines_l0 : Nat → L_pnnpnnii := hide fun k n p0 h1 c2 p3 c4 c5 i6 x20 σ => lp k 301 10 (cB (cR (cL (cR (cR (cR (bodyC Tryz.f301))))))) n (rgs 0 46 [(0, .pointer p0), (5, .slice (some ⟨h1, 0, none⟩) c2 c2), (18, .slice p3 c4 c5), (19, .int .i64 i6), (20, .int .i64 x20)]) σ
noncomputable def d_callV_f_0 : Nat → TV := hide fun k f args σ => callVal P (fn P (XK Kn.b) H k) f args σ
noncomputable def d_callV_iiip_t : Nat → TV := hide fun k f args σ => callVal P (fn P (XK Kn.b) H k) f args σ
noncomputable def d_callV_pi_it : Nat → TV := hide fun k f args σ => callVal P (fn P (XK Kn.b) H k) f args σ
noncomputable def d_callV_i_0 : Nat → TV := hide fun k f args σ => callVal P (fn P (XK Kn.b) H k) f args σ
noncomputable def d_callV_i_t : Nat → TV := hide fun k f args σ => callVal P (fn P (XK Kn.b) H k) f args σ
noncomputable def d_callV_ii_t : Nat → TV := hide fun k f args σ => callVal P (fn P (XK Kn.b) H k) f args σ
noncomputable def d_callV_ii_tx : Nat → TV := hide fun k f args σ => callVal P (fn P (XK Kn.b) H k) f args σ
noncomputable def d_callV_iiii_i : Nat → TV := hide fun k f args σ => callVal P (fn P (XK Kn.b) H k) f args σ

end
section
variable [Quiet]

end
end Go.Proofs.YtilefhlamdiomaaGreat
