/-
  PRINTED BY A PROGRAM OF THIS SESSION'S OWN (gen2.py): the Go functions as Lean functions over the abstract memory.
-/
import Derived.Test.YtlaplcglpnlieaaAXC
set_option maxRecDepth 100000
set_option linter.unusedVariables false
set_option linter.unusedSimpArgs false
set_option linter.unusedSectionVars false
namespace Go.Proofs.Ytlaplcglpnlieaa
open Go Go.AX

abbrev ty_int64 : TypeId := 2
abbrev ty_int : TypeId := 3
abbrev ty_bool : TypeId := 4
abbrev ty_uint8 : TypeId := 5
abbrev ty_internal_abi_BoundsErrorCode : TypeId := 6
abbrev ty_runtime_boundsError : TypeId := 8
abbrev ty_str : TypeId := 9
abbrev ty_runtime_errorString : TypeId := 10
abbrev ty_runtime_plainError : TypeId := 11
abbrev ty_uintptr : TypeId := 12
abbrev ty_runtime_errorAddressString : TypeId := 14
abbrev pt_runtime_TypeAssertionError : TypeId := 15
abbrev pt_runtime_PanicNilError : TypeId := 16
abbrev pt_internal_abi_Type : TypeId := 17
abbrev ty_internal_runtime_maps_unhashableTypeError : TypeId := 19
abbrev ty_int32 : TypeId := 21
abbrev sl_api_Shape : TypeId := 22
abbrev sl_bool : TypeId := 23
abbrev pt_heap_Heap : TypeId := 24
abbrev ty_api_Errno : TypeId := 25
abbrev pt_alloc_Allocator : TypeId := 30
abbrev ty_api_Shape : TypeId := 36
abbrev sl_heap_block : TypeId := 40
abbrev sl_int : TypeId := 41
abbrev mp_int_int : TypeId := 42
abbrev pt_side_Table : TypeId := 43
abbrev ty_heap_Heap : TypeId := 45
abbrev el_heap_Heap_blocks : TypeId := 71
abbrev el_heap_Heap_words : TypeId := 3
abbrev sl_alloc_policy : TypeId := 51
abbrev ty_alloc_area : TypeId := 54
abbrev ty_alloc_Allocator : TypeId := 56
abbrev ty_alloc_policy : TypeId := 60
abbrev sl_uint64 : TypeId := 66
abbrev ty_side_Table : TypeId := 68
abbrev el_side_Table_words : TypeId := 87
abbrev ty_heap_block : TypeId := 71
abbrev ty_alloc_first : TypeId := 74
abbrev ty_alloc_best : TypeId := 75
abbrev ty_alloc_next : TypeId := 76
abbrev ty_alloc_bump : TypeId := 77
abbrev ty_alloc_lines : TypeId := 78
abbrev pt_uint64 : TypeId := 86
abbrev ty_uint64 : TypeId := 87
abbrev ty_runtime_TypeAssertionError : TypeId := 93
abbrev ar0_pt_runtime_PanicNilError : TypeId := 94
abbrev ty_runtime_PanicNilError : TypeId := 96
abbrev ty_uint32 : TypeId := 97
abbrev ty_internal_abi_TFlag : TypeId := 98
abbrev ty_internal_abi_Kind : TypeId := 99
abbrev pt_uint8 : TypeId := 101
abbrev ty_internal_abi_NameOff : TypeId := 102
abbrev ty_internal_abi_TypeOff : TypeId := 103
abbrev ty_internal_abi_Type : TypeId := 105
abbrev sl_api_Run : TypeId := 107
abbrev ty_api_Run : TypeId := 110
abbrev ty_uint : TypeId := 123
abbrev pt_alloc_area : TypeId := 125
/-- The examples are known, or not. -/
def XK (b : Bool) : Ext := fun f => if f = 6 then (bif b then some trueA else X f) else X f
class Kn where
  b : Bool
/-- Registers, but for those that hold nothing. -/
def rgs (i : Nat) : Nat → List (Nat × Value) → Regs
  | 0, _ => []
  | n + 1, [] => none :: rgs (i + 1) n []
  | n + 1, (j, v) :: l => bif Nat.beq i j then some v :: rgs (i + 1) n l else none :: rgs (i + 1) n ((j, v) :: l)

def H : FuncId → Hints
  | 3 => [(14, ⟨[1, 2, 7, 9, 11, 12], [(.exit 0, []), (.ret, [(6, .bool)])]⟩), (27, ⟨[], [(.normal, [(11, .int .i64)]), (.ret, [(6, .bool)])]⟩), (39, ⟨[], [(.normal, [])]⟩)]
  | 8 => [(17, ⟨[], [(.normal, [(7, .func)])]⟩), (31, ⟨[], [(.normal, [(11, .int .i64)])]⟩)]
  | 18 => [(6, ⟨[0, 6, 7], [(.exit 0, []), (.ret, [(4, .int .i64), (5, .bool)])]⟩)]
  | 25 => [(16, ⟨[0, 1, 9, 53, 54], [(.exit 1, [])]⟩)]
  | 27 => [(11, ⟨[], [(.normal, []), (.ret, [(8, .int .i64)])]⟩), (20, ⟨[0, 1, 2, 3, 10], [(.exit 0, []), (.ret, [(8, .int .i64)])]⟩)]
  | 34 => [(4, ⟨[0, 1, 7, 8], [(.exit 0, []), (.ret, [(4, .int .i64)])]⟩)]
  | 39 => [(4, ⟨[0, 1, 5], [(.exit 0, [(5, .int .i64)])]⟩)]
  | 48 => [(4, ⟨[0, 1, 7, 8], [(.exit 0, []), (.ret, [(4, .int .i64)])]⟩)]
  | 49 => [(8, ⟨[0, 2, 8], [(.exit 0, []), (.ret, [(6, .int .i64), (7, .int .i64)])]⟩)]
  | 51 => [(4, ⟨[0, 1, 7, 8], [(.exit 0, []), (.ret, [(4, .int .i64)])]⟩)]
  | 72 => [(6, ⟨[0, 1, 2, 7, 14, 15, 16], [(.exit 0, [(7, .slice)])]⟩), (12, ⟨[1, 2, 7, 25, 26, 27], [(.exit 2, [(7, .slice)])]⟩), (21, ⟨[], [(.normal, [])]⟩), (25, ⟨[], [(.normal, [(7, .slice)])]⟩)]
  | 73 => [(4, ⟨[0, 2, 4], [(.exit 0, []), (.ret, [(3, .bool)])]⟩)]
  | 74 => [(6, ⟨[0, 3, 9, 10], [(.exit 0, [(3, .slice)])]⟩), (13, ⟨[], [(.normal, [(3, .slice)])]⟩)]
  | 75 => [(14, ⟨[0, 6, 7, 19, 20, 21], [(.exit 0, [])]⟩)]
  | 78 => [(3, ⟨[], [(.normal, [])]⟩)]
  | 80 => [(6, ⟨[0, 2, 7, 8, 9], [(.exit 0, [(7, .slice)])]⟩)]
  | 81 => [(8, ⟨[0, 2, 8], [(.exit 0, []), (.ret, [(6, .int .i64), (7, .int .i64)])]⟩)]
  | 85 => [(4, ⟨[0, 1, 2, 6, 7, 8], [(.exit 0, [(7, .int .i64)])]⟩), (14, ⟨[0, 1, 2, 6], [(.exit 2, [])]⟩), (18, ⟨[0, 1, 2, 6, 7, 8], [(.exit 4, [(7, .int .i64)])]⟩), (31, ⟨[], [(.normal, [])]⟩)]
  | 86 => [(2, ⟨[0, 1, 2, 3, 8], [(.exit 0, [])]⟩), (8, ⟨[0, 1, 3, 9], [(.exit 2, [])]⟩)]
  | 87 => [(6, ⟨[0, 1, 4, 10, 11], [(.exit 0, [(10, .int .i64)])]⟩), (13, ⟨[], [(.normal, [(10, .int .i64), (11, .int .i64)])]⟩), (18, ⟨[0, 10, 13], [(.exit 2, [])]⟩), (30, ⟨[0, 2, 4, 14, 15], [(.exit 4, [(14, .int .i64)])]⟩), (37, ⟨[], [(.normal, [(14, .int .i64), (15, .int .i64)])]⟩), (42, ⟨[0, 14, 17], [(.exit 6, [])]⟩), (57, ⟨[], [(.normal, [(20, .int .i64), (21, .int .i64)])]⟩), (66, ⟨[0, 4, 20, 21, 22], [(.exit 8, [(20, .int .i64)])]⟩), (73, ⟨[], [(.normal, [(20, .int .i64), (21, .int .i64)])]⟩), (81, ⟨[], [(.normal, [])]⟩), (85, ⟨[], [(.normal, [])]⟩), (89, ⟨[], [(.normal, [])]⟩)]
  | 88 => [(4, ⟨[0, 2, 4, 10, 11], [(.exit 0, [(10, .int .i64)])]⟩), (9, ⟨[], [(.normal, [(10, .int .i64), (11, .int .i64)])]⟩)]
  | 89 => [(2, ⟨[0, 1, 2, 3, 10], [(.exit 0, [])]⟩)]
  | 90 => [(9, ⟨[], [(.normal, [])]⟩)]
  | 92 => [(5, ⟨[], [(.normal, []), (.ret, [(6, .int .i64), (7, .bool)])]⟩)]
  | 95 => [(1, ⟨[], [(.normal, []), (.ret, [(6, .int .i64), (7, .bool)])]⟩)]
  | 96 => [(4, ⟨[0, 2, 11, 12, 13], [(.exit 0, []), (.ret, [(3, .bool)])]⟩), (12, ⟨[0, 2, 5, 6, 7], [(.exit 2, []), (.ret, [(3, .bool)])]⟩), (18, ⟨[6, 8], [(.exit 4, [(8, .int .i64)])]⟩)]
  | 97 => [(10, ⟨[0, 5, 18, 19, 20], [(.exit 0, [])]⟩), (18, ⟨[5, 9, 10], [(.exit 2, [])]⟩)]
  | _ => []

section
variable [Quiet] [Kn]

noncomputable def lp (k f i : Nat) (c : Code) (n : Nat) (rs : Regs) (σ : AMem) : Option LOut :=
  loopF (fun regs σ K => exec P (fn P (XK Kn.b) H k) (H f) k (cB c) LOut regs σ K) (((H f).lookup i).getD default) n rs σ

def u_f {ρ : Type} (l : List Value) (K : Value → Option ρ) : Option ρ := l.head?.bind fun y0 => K y0
theorem u_f_eq {ρ : Type} (y0 : Value) (K : Value → Option ρ) : u_f [y0] K = K y0 := by simp [u_f, toI, toB, toStr, toP, toS, toM]

def u_i {ρ : Type} (l : List Value) (K : Int → Option ρ) : Option ρ := l.head?.bind fun v => (toI .i64 v).bind fun y0 => K y0
theorem u_i_eq {ρ : Type} (y0 : Int) (K : Int → Option ρ) : u_i [.int .i64 y0] K = K y0 := by simp [u_i, toI, toB, toStr, toP, toS, toM]

def u_ii {ρ : Type} (l : List Value) (K : Int → Int → Option ρ) : Option ρ := l.head?.bind fun v => (toI .i64 v).bind fun y0 => l.tail.head?.bind fun v => (toI .i64 v).bind fun y1 => K y0 y1
theorem u_ii_eq {ρ : Type} (y0 : Int) (y1 : Int) (K : Int → Int → Option ρ) : u_ii [.int .i64 y0, .int .i64 y1] K = K y0 y1 := by simp [u_ii, toI, toB, toStr, toP, toS, toM]

def u_iii {ρ : Type} (l : List Value) (K : Int → Int → Int → Option ρ) : Option ρ := l.head?.bind fun v => (toI .i64 v).bind fun y0 => l.tail.head?.bind fun v => (toI .i64 v).bind fun y1 => l.tail.tail.head?.bind fun v => (toI .i64 v).bind fun y2 => K y0 y1 y2
theorem u_iii_eq {ρ : Type} (y0 : Int) (y1 : Int) (y2 : Int) (K : Int → Int → Int → Option ρ) : u_iii [.int .i64 y0, .int .i64 y1, .int .i64 y2] K = K y0 y1 y2 := by simp [u_iii, toI, toB, toStr, toP, toS, toM]

def u_it {ρ : Type} (l : List Value) (K : Int → Bool → Option ρ) : Option ρ := l.head?.bind fun v => (toI .i64 v).bind fun y0 => l.tail.head?.bind fun v => (toB v).bind fun y1 => K y0 y1
theorem u_it_eq {ρ : Type} (y0 : Int) (y1 : Bool) (K : Int → Bool → Option ρ) : u_it [.int .i64 y0, .bool y1] K = K y0 y1 := by simp [u_it, toI, toB, toStr, toP, toS, toM]

def u_l {ρ : Type} (l : List Value) (K : Option Addr × Nat × Nat → Option ρ) : Option ρ := l.head?.bind fun v => (toS v).bind fun y0 => K y0
theorem u_l_eq {ρ : Type} (y0 : Option Addr × Nat × Nat) (K : Option Addr × Nat × Nat → Option ρ) : u_l [.slice y0.1 y0.2.1 y0.2.2] K = K y0 := by simp [u_l, toI, toB, toStr, toP, toS, toM]

def u_t {ρ : Type} (l : List Value) (K : Bool → Option ρ) : Option ρ := l.head?.bind fun v => (toB v).bind fun y0 => K y0
theorem u_t_eq {ρ : Type} (y0 : Bool) (K : Bool → Option ρ) : u_t [.bool y0] K = K y0 := by simp [u_t, toI, toB, toStr, toP, toS, toM]

def a_ii {ρ : Type} (v : Value) (K : Int → Int → Option ρ) : Option ρ := (toA v).bind fun l => if l.length = 2 then u_ii l K else none
theorem a_ii_eq {ρ : Type} (y0 : Int) (y1 : Int) (K : Int → Int → Option ρ) : a_ii (.agg #[.int .i64 y0, .int .i64 y1]) K = K y0 y1 := by simp [a_ii, u_ii, toA, toI, toB, toStr, toP, toS, toM]

def a_iii {ρ : Type} (v : Value) (K : Int → Int → Int → Option ρ) : Option ρ := (toA v).bind fun l => if l.length = 3 then u_iii l K else none
theorem a_iii_eq {ρ : Type} (y0 : Int) (y1 : Int) (y2 : Int) (K : Int → Int → Int → Option ρ) : a_iii (.agg #[.int .i64 y0, .int .i64 y1, .int .i64 y2]) K = K y0 y1 y2 := by simp [a_iii, u_iii, toA, toI, toB, toStr, toP, toS, toM]

def r_0 {ρ : Type} (v : Value) (K : Option ρ) : Option ρ := (toT v).bind fun l => if l.length = 0 then K else none
theorem r_0_eq {ρ : Type}  (K : Option ρ) : r_0 (.tuple #[]) K = K := by simp [r_0, toT, toI, toB, toStr, toP, toS, toM]

def r_ii {ρ : Type} (v : Value) (K : Int → Int → Option ρ) : Option ρ := (toT v).bind fun l => if l.length = 2 then l.head?.bind fun v => (toI .i64 v).bind fun y0 => l.tail.head?.bind fun v => (toI .i64 v).bind fun y1 => K y0 y1 else none
theorem r_ii_eq {ρ : Type} (y0 : Int) (y1 : Int) (K : Int → Int → Option ρ) : r_ii (.tuple #[.int .i64 y0, .int .i64 y1]) K = K y0 y1 := by simp [r_ii, toT, toI, toB, toStr, toP, toS, toM]

def r_it {ρ : Type} (v : Value) (K : Int → Bool → Option ρ) : Option ρ := (toT v).bind fun l => if l.length = 2 then l.head?.bind fun v => (toI .i64 v).bind fun y0 => l.tail.head?.bind fun v => (toB v).bind fun y1 => K y0 y1 else none
theorem r_it_eq {ρ : Type} (y0 : Int) (y1 : Bool) (K : Int → Bool → Option ρ) : r_it (.tuple #[.int .i64 y0, .bool y1]) K = K y0 y1 := by simp [r_it, toT, toI, toB, toStr, toP, toS, toM]

def r_pi {ρ : Type} (v : Value) (K : Option Addr → Int → Option ρ) : Option ρ := (toT v).bind fun l => if l.length = 2 then l.head?.bind fun v => (toP v).bind fun y0 => l.tail.head?.bind fun v => (toI .i64 v).bind fun y1 => K y0 y1 else none
theorem r_pi_eq {ρ : Type} (y0 : Option Addr) (y1 : Int) (K : Option Addr → Int → Option ρ) : r_pi (.tuple #[.pointer y0, .int .i64 y1]) K = K y0 y1 := by simp [r_pi, toT, toI, toB, toStr, toP, toS, toM]

end
/-- A thing that is not looked into. -/
noncomputable def hide {α : Type} (x : α) : α := Classical.choose (⟨x, rfl⟩ : ∃ y, y = x)
theorem hide_eq {α : Type} (x : α) : hide x = x := Classical.choose_spec (⟨x, rfl⟩ : ∃ y, y = x)
abbrev RV1 := Option (Value × AMem)
abbrev TV := Value → List Value → AMem → RV1
section
variable [Quiet] [Kn]

abbrev L_iipnnili := Nat → Int → Int → Option Addr → Nat → Nat → Int → (Option Addr × Nat × Nat) → Int → AMem → Option LOut
abbrev L_nnii := Nat → Nat → Nat → Int → Int → AMem → Option LOut
abbrev L_pii := Nat → Option Addr → Int → Int → AMem → Option LOut
abbrev L_piiii := Nat → Option Addr → Int → Int → Int → Int → AMem → Option LOut
abbrev L_piipnnili := Nat → Option Addr → Int → Int → Option Addr → Nat → Nat → Int → (Option Addr × Nat × Nat) → Int → AMem → Option LOut
abbrev L_pili := Nat → Option Addr → Int → (Option Addr × Nat × Nat) → Int → AMem → Option LOut
abbrev L_pilii := Nat → Option Addr → Int → (Option Addr × Nat × Nat) → Int → Int → AMem → Option LOut
abbrev L_pinii := Nat → Option Addr → Int → Nat → Int → Int → AMem → Option LOut
abbrev L_pni := Nat → Option Addr → Nat → Int → AMem → Option LOut
abbrev L_pnipnni := Nat → Option Addr → Nat → Int → Option Addr → Nat → Nat → Int → AMem → Option LOut
abbrev L_pnni := Nat → Option Addr → Nat → Nat → Int → AMem → Option LOut
abbrev L_pnnii := Nat → Option Addr → Nat → Nat → Int → Int → AMem → Option LOut
abbrev L_pnniii := Nat → Option Addr → Nat → Nat → Int → Int → Int → AMem → Option LOut
abbrev L_pnniiii := Nat → Option Addr → Nat → Nat → Int → Int → Int → Int → AMem → Option LOut
abbrev L_pnniivi := Nat → Option Addr → Nat → Nat → Int → Int → Value → Int → AMem → Option LOut
abbrev L_pnnivi := Nat → Option Addr → Nat → Nat → Int → Value → Int → AMem → Option LOut
abbrev L_pnnivii := Nat → Option Addr → Nat → Nat → Int → Value → Int → Int → AMem → Option LOut
abbrev L_pnniviii := Nat → Option Addr → Nat → Nat → Int → Value → Int → Int → Int → AMem → Option LOut
abbrev L_pnnpnnii := Nat → Option Addr → Nat → Nat → Option Addr → Nat → Nat → Int → Int → AMem → Option LOut
abbrev L_pnnpnnppii := Nat → Option Addr → Nat → Nat → Option Addr → Nat → Nat → Option Addr → Option Addr → Int → Int → AMem → Option LOut
abbrev L_pnnvii := Nat → Option Addr → Nat → Nat → Value → Int → Int → AMem → Option LOut
abbrev L_pnnviii := Nat → Option Addr → Nat → Nat → Value → Int → Int → Int → AMem → Option LOut
abbrev L_pnpnnii := Nat → Option Addr → Nat → Option Addr → Nat → Nat → Int → Int → AMem → Option LOut
abbrev T_ := AMem → RV1
abbrev T_i := Int → AMem → RV1
abbrev T_ii := Int → Int → AMem → RV1
abbrev T_iii := Int → Int → Int → AMem → RV1
abbrev T_iiii := Int → Int → Int → Int → AMem → RV1
abbrev T_ill := Int → (Option Addr × Nat × Nat) → (Option Addr × Nat × Nat) → AMem → RV1
abbrev T_ip := Int → Option Addr → AMem → RV1
abbrev T_ipp := Int → Option Addr → Option Addr → AMem → RV1
abbrev T_li := (Option Addr × Nat × Nat) → Int → AMem → RV1
abbrev T_liiiv := (Option Addr × Nat × Nat) → Int → Int → Int → Value → AMem → RV1
abbrev T_liiv := (Option Addr × Nat × Nat) → Int → Int → Value → AMem → RV1
abbrev T_liv := (Option Addr × Nat × Nat) → Int → Value → AMem → RV1
abbrev T_lv := (Option Addr × Nat × Nat) → Value → AMem → RV1
abbrev T_p := Option Addr → AMem → RV1
abbrev T_pi := Option Addr → Int → AMem → RV1
abbrev T_pii := Option Addr → Int → Int → AMem → RV1
abbrev T_piii := Option Addr → Int → Int → Int → AMem → RV1
abbrev T_piiii := Option Addr → Int → Int → Int → Int → AMem → RV1
abbrev T_piiiiii := Option Addr → Int → Int → Int → Int → Int → Int → AMem → RV1
abbrev T_pil := Option Addr → Int → (Option Addr × Nat × Nat) → AMem → RV1
abbrev T_pl := Option Addr → (Option Addr × Nat × Nat) → AMem → RV1
abbrev T_ppi := Option Addr → Option Addr → Int → AMem → RV1

noncomputable def d_law05_AllocBumps : Nat → T_ill := hide fun k x0 x1 x2 σ => fn P (XK Kn.b) H k 3 [.int .i64 x0, .slice x1.1 x1.2.1 x1.2.2, .slice x2.1 x2.2.1 x2.2.2] σ
noncomputable def d_law05_AllocBumps_l0 : Nat → L_pnnpnnppii := hide fun k n p0 c1 c2 p3 c4 c5 p6 p7 x11 x12 σ => lp k 3 14 (cB (cR (cL (cR (cR (cR (cR (cR (bodyC Try.f3))))))))) n (rgs 0 107 [(1, .slice p0 c1 c2), (2, .slice p3 c4 c5), (7, .pointer p6), (9, .pointer p7), (11, .int .i64 x11), (12, .int .i64 x12)]) σ
noncomputable def d_heap_New : Nat → T_i := hide fun k x0 σ => fn P (XK Kn.b) H k 4 [.int .i64 x0] σ
noncomputable def d_law05_few : Nat → T_i := hide fun k x0 σ => fn P (XK Kn.b) H k 5 [.int .i64 x0] σ
noncomputable def d_law05_alive : Nat → T_ := hide fun k  σ => fn P (XK Kn.b) H k 6 [] σ
noncomputable def d_alloc_New : Nat → T_pii := hide fun k x0 x1 x2 σ => fn P (XK Kn.b) H k 7 [.pointer x0, .int .i64 x1, .int .i64 x2] σ
noncomputable def d_alloc_Allocator_Alloc : Nat → T_piii := hide fun k x0 x1_0 x1_1 x1_2 σ => fn P (XK Kn.b) H k 8 [.pointer x0, .agg #[.int .i64 x1_0, .int .i64 x1_1, .int .i64 x1_2]] σ
noncomputable def d_heap_Words : Nat → T_iii := hide fun k x0_0 x0_1 x0_2 σ => fn P (XK Kn.b) H k 9 [.agg #[.int .i64 x0_0, .int .i64 x0_1, .int .i64 x0_2]] σ
noncomputable def d_heap_Heap_Kill : Nat → T_pi := hide fun k x0 x1 σ => fn P (XK Kn.b) H k 10 [.pointer x0, .int .i64 x1] σ
noncomputable def d_side_New : Nat → T_ii := hide fun k x0 x1 σ => fn P (XK Kn.b) H k 11 [.int .i64 x0, .int .i64 x1] σ
noncomputable def d_heap_Heap_Claim : Nat → T_pii := hide fun k x0 x1 x2 σ => fn P (XK Kn.b) H k 12 [.pointer x0, .int .i64 x1, .int .i64 x2] σ
noncomputable def d_heap_Heap_Place : Nat → T_piiii := hide fun k x0 x1 x2_0 x2_1 x2_2 σ => fn P (XK Kn.b) H k 13 [.pointer x0, .int .i64 x1, .agg #[.int .i64 x2_0, .int .i64 x2_1, .int .i64 x2_2]] σ
noncomputable def d_heap_Heap_Blocks : Nat → T_p := hide fun k x0 σ => fn P (XK Kn.b) H k 14 [.pointer x0] σ
noncomputable def d_alloc_policies : Nat → T_ := hide fun k  σ => fn P (XK Kn.b) H k 15 [] σ
noncomputable def d_alloc_Allocator_made : Nat → T_p := hide fun k x0 σ => fn P (XK Kn.b) H k 16 [.pointer x0] σ
noncomputable def d_heap_Valid : Nat → T_iii := hide fun k x0_0 x0_1 x0_2 σ => fn P (XK Kn.b) H k 17 [.agg #[.int .i64 x0_0, .int .i64 x0_1, .int .i64 x0_2]] σ
noncomputable def d_alloc_Allocator_large : Nat → T_pi := hide fun k x0 x1 σ => fn P (XK Kn.b) H k 18 [.pointer x0, .int .i64 x1] σ
noncomputable def d_alloc_Allocator_large_l0 : Nat → L_pii := hide fun k n p0 i1 x7 σ => lp k 18 6 (cB (cR (cL (cR (cR (bodyC Try.f18)))))) n (rgs 0 37 [(0, .pointer p0), (6, .int .i64 i1), (7, .int .i64 x7)]) σ
noncomputable def d_heap_Heap_Space : Nat → T_pi := hide fun k x0 x1 σ => fn P (XK Kn.b) H k 19 [.pointer x0, .int .i64 x1] σ
noncomputable def d_heap_Heap_object : Nat → T_pi := hide fun k x0 x1 σ => fn P (XK Kn.b) H k 20 [.pointer x0, .int .i64 x1] σ
noncomputable def d_side_Table_Set : Nat → T_pii := hide fun k x0 x1 x2 σ => fn P (XK Kn.b) H k 21 [.pointer x0, .int .i64 x1, .int .i64 x2] σ
noncomputable def d_heap_Heap_wipe : Nat → T_pii := hide fun k x0 x1 x2 σ => fn P (XK Kn.b) H k 22 [.pointer x0, .int .i64 x1, .int .i64 x2] σ
noncomputable def d_heap_Heap_size : Nat → T_pi := hide fun k x0 x1 σ => fn P (XK Kn.b) H k 23 [.pointer x0, .int .i64 x1] σ
noncomputable def d_slices_Contains_int : Nat → T_li := hide fun k x0 x1 σ => fn P (XK Kn.b) H k 24 [.slice x0.1 x0.2.1 x0.2.2, .int .i64 x1] σ
noncomputable def d_heap_Heap_claim : Nat → T_piiiiii := hide fun k x0 x1 x2 x3_0 x3_1 x4_0 x4_1 σ => fn P (XK Kn.b) H k 25 [.pointer x0, .int .i64 x1, .int .i64 x2, .agg #[.int .i64 x3_0, .int .i64 x3_1], .agg #[.int .i64 x4_0, .int .i64 x4_1]] σ
noncomputable def d_heap_Heap_claim_l0 : Nat → L_pinii := hide fun k n p0 i1 h2 i3 x54 σ => lp k 25 16 (cB (cR (cL (cR (cR (bodyC Try.f25)))))) n (rgs 0 74 [(0, .pointer p0), (1, .int .i64 i1), (9, .pointer (some ⟨h2, 0, none⟩)), (53, .int .i64 i3), (54, .int .i64 x54)]) σ
noncomputable def d_heap_Heap_made : Nat → T_p := hide fun k x0 σ => fn P (XK Kn.b) H k 26 [.pointer x0] σ
noncomputable def d_heap_Heap_fits : Nat → T_piii := hide fun k x0 x1 x2 x3 σ => fn P (XK Kn.b) H k 27 [.pointer x0, .int .i64 x1, .int .i64 x2, .int .i64 x3] σ
noncomputable def d_heap_Heap_fits_l0 : Nat → L_piiii := hide fun k n p0 i1 i2 i3 x10 σ => lp k 27 20 (cB (cR (cL (cR (cR (cR (cR (bodyC Try.f27)))))))) n (rgs 0 96 [(0, .pointer p0), (1, .int .i64 i1), (2, .int .i64 i2), (3, .int .i64 i3), (10, .int .i64 x10)]) σ
noncomputable def d_heap_number : Nat → T_iii := hide fun k x0_0 x0_1 x0_2 σ => fn P (XK Kn.b) H k 28 [.agg #[.int .i64 x0_0, .int .i64 x0_1, .int .i64 x0_2]] σ
noncomputable def d_heap_Heap_ClaimLarge : Nat → T_piii := hide fun k x0 x1 x2 x3 σ => fn P (XK Kn.b) H k 29 [.pointer x0, .int .i64 x1, .int .i64 x2, .int .i64 x3] σ
noncomputable def d_heap_Heap_Has : Nat → T_pi := hide fun k x0 x1 σ => fn P (XK Kn.b) H k 30 [.pointer x0, .int .i64 x1] σ
noncomputable def d_side_Table_check : Nat → T_pil := hide fun k x0 x1 x2 σ => fn P (XK Kn.b) H k 31 [.pointer x0, .int .i64 x1, .slice x2.1 x2.2.1 x2.2.2] σ
noncomputable def d_side_Table_put : Nat → T_pii := hide fun k x0 x1 x2 σ => fn P (XK Kn.b) H k 32 [.pointer x0, .int .i64 x1, .int .i64 x2] σ
noncomputable def d_heap_shape : Nat → T_i := hide fun k x0 σ => fn P (XK Kn.b) H k 33 [.int .i64 x0] σ
noncomputable def d_slices_Index_int : Nat → T_li := hide fun k x0 x1 σ => fn P (XK Kn.b) H k 34 [.slice x0.1 x0.2.1 x0.2.2, .int .i64 x1] σ
noncomputable def d_slices_Index_int_l0 : Nat → L_pnniii := hide fun k n p0 c1 c2 i3 i4 x8 σ => lp k 34 4 (cB (cR (cL (cR (bodyC Try.f34))))) n (rgs 0 19 [(0, .slice p0 c1 c2), (1, .int .i64 i3), (7, .int .i64 i4), (8, .int .i64 x8)]) σ
noncomputable def d_heap_Heap_there : Nat → T_pi := hide fun k x0 x1 σ => fn P (XK Kn.b) H k 35 [.pointer x0, .int .i64 x1] σ
noncomputable def d_heap_space : Nat → T_i := hide fun k x0 σ => fn P (XK Kn.b) H k 36 [.int .i64 x0] σ
noncomputable def d_slices_ContainsFunc_heap_block : Nat → T_lv := hide fun k x0 x1 σ => fn P (XK Kn.b) H k 37 [.slice x0.1 x0.2.1 x0.2.2, x1] σ
noncomputable def d_heap_Heap_claim_c1 : Nat → T_ii := hide fun k x0_0 x0_1 σ => fn P (XK Kn.b) H k 38 [.agg #[.int .i64 x0_0, .int .i64 x0_1]] σ
noncomputable def d_heap_Heap_span : Nat → T_pi := hide fun k x0 x1 σ => fn P (XK Kn.b) H k 39 [.pointer x0, .int .i64 x1] σ
noncomputable def d_heap_Heap_span_l0 : Nat → L_pii := hide fun k n p0 i1 x5 σ => lp k 39 4 (cB (cL (cR (cR (bodyC Try.f39))))) n (rgs 0 42 [(0, .pointer p0), (1, .int .i64 i1), (5, .int .i64 x5)]) σ
noncomputable def d_heap_Heap_Find : Nat → T_pi := hide fun k x0 x1 σ => fn P (XK Kn.b) H k 40 [.pointer x0, .int .i64 x1] σ
noncomputable def d_side_Table_Get : Nat → T_pi := hide fun k x0 x1 σ => fn P (XK Kn.b) H k 41 [.pointer x0, .int .i64 x1] σ
noncomputable def d_side_Table_made : Nat → T_p := hide fun k x0 σ => fn P (XK Kn.b) H k 42 [.pointer x0] σ
noncomputable def d_side_Table_there : Nat → T_pi := hide fun k x0 x1 σ => fn P (XK Kn.b) H k 43 [.pointer x0, .int .i64 x1] σ
noncomputable def d_slices_ContainsFunc_int : Nat → T_lv := hide fun k x0 x1 σ => fn P (XK Kn.b) H k 44 [.slice x0.1 x0.2.1 x0.2.2, x1] σ
noncomputable def d_side_Table_check_c1 : Nat → T_ip := hide fun k x0 c0 σ => fn P (XK Kn.b) H k 45 [.int .i64 x0, .pointer c0] σ
noncomputable def d_side_Table_value : Nat → T_pi := hide fun k x0 x1 σ => fn P (XK Kn.b) H k 46 [.pointer x0, .int .i64 x1] σ
noncomputable def d_side_Table_most : Nat → T_p := hide fun k x0 σ => fn P (XK Kn.b) H k 47 [.pointer x0] σ
noncomputable def d_slices_IndexFunc_heap_block : Nat → T_lv := hide fun k x0 x1 σ => fn P (XK Kn.b) H k 48 [.slice x0.1 x0.2.1 x0.2.2, x1] σ
noncomputable def d_slices_IndexFunc_heap_block_l0 : Nat → L_pnnvii := hide fun k n p0 c1 c2 v3 i4 x8 σ => lp k 48 4 (cB (cR (cL (cR (bodyC Try.f48))))) n (rgs 0 19 [(0, .slice p0 c1 c2), (1, v3), (7, .int .i64 i4), (8, .int .i64 x8)]) σ
noncomputable def d_side_Table_Last : Nat → T_pii := hide fun k x0 x1 x2 σ => fn P (XK Kn.b) H k 49 [.pointer x0, .int .i64 x1, .int .i64 x2] σ
noncomputable def d_side_Table_Last_l0 : Nat → L_pii := hide fun k n p0 i1 x8 σ => lp k 49 8 (cB (cR (cL (cR (cR (bodyC Try.f49)))))) n (rgs 0 30 [(0, .pointer p0), (2, .int .i64 i1), (8, .int .i64 x8)]) σ
noncomputable def d_side_Table_get : Nat → T_pi := hide fun k x0 x1 σ => fn P (XK Kn.b) H k 50 [.pointer x0, .int .i64 x1] σ
noncomputable def d_slices_IndexFunc_int : Nat → T_lv := hide fun k x0 x1 σ => fn P (XK Kn.b) H k 51 [.slice x0.1 x0.2.1 x0.2.2, x1] σ
noncomputable def d_slices_IndexFunc_int_l0 : Nat → L_pnnvii := hide fun k n p0 c1 c2 v3 i4 x8 σ => lp k 51 4 (cB (cR (cL (cR (bodyC Try.f51))))) n (rgs 0 19 [(0, .slice p0 c1 c2), (1, v3), (7, .int .i64 i4), (8, .int .i64 x8)]) σ
noncomputable def d_alloc_first_place : Nat → T_pi := hide fun k x1 x2 σ => fn P (XK Kn.b) H k 70 [.agg #[], .pointer x1, .int .i64 x2] σ
noncomputable def d_alloc_Allocator_start : Nat → T_pl := hide fun k x0 x1 σ => fn P (XK Kn.b) H k 71 [.pointer x0, .slice x1.1 x1.2.1 x1.2.2] σ
noncomputable def d_alloc_Allocator_gaps : Nat → T_pii := hide fun k x0 x1 x2 σ => fn P (XK Kn.b) H k 72 [.pointer x0, .int .i64 x1, .int .i64 x2] σ
noncomputable def d_alloc_Allocator_gaps_l1 : Nat → L_iipnnili := hide fun k n i0 i1 p2 c3 c4 i5 x7 x27 σ => lp k 72 12 (cB (cR (cR (cB (cL (cR (cR (cB (cB (cR (cL (cR (cR (bodyC Try.f72)))))))))))))) n (rgs 0 55 [(1, .int .i64 i0), (2, .int .i64 i1), (7, .slice x7.1 x7.2.1 x7.2.2), (25, .slice p2 c3 c4), (26, .int .i64 i5), (27, .int .i64 x27)]) σ
noncomputable def d_alloc_Allocator_gaps_l0 : Nat → L_piipnnili := hide fun k n p0 i1 i2 p3 c4 c5 i6 x7 x16 σ => lp k 72 6 (cB (cR (cL (cR (cR (bodyC Try.f72)))))) n (rgs 0 55 [(0, .pointer p0), (1, .int .i64 i1), (2, .int .i64 i2), (7, .slice x7.1 x7.2.1 x7.2.2), (14, .slice p3 c4 c5), (15, .int .i64 i6), (16, .int .i64 x16)]) σ
noncomputable def d_alloc_Allocator_begin : Nat → T_p := hide fun k x0 σ => fn P (XK Kn.b) H k 73 [.pointer x0] σ
noncomputable def d_alloc_Allocator_begin_l0 : Nat → L_pni := hide fun k n p0 h1 x4 σ => lp k 73 4 (cB (cR (cL (cR (bodyC Try.f73))))) n (rgs 0 32 [(0, .pointer p0), (2, .pointer (some ⟨h1, 0, none⟩)), (4, .int .i64 x4)]) σ
noncomputable def d_alloc_Allocator_blocks : Nat → T_p := hide fun k x0 σ => fn P (XK Kn.b) H k 74 [.pointer x0] σ
noncomputable def d_alloc_Allocator_blocks_l0 : Nat → L_pili := hide fun k n p0 i1 x3 x10 σ => lp k 74 6 (cB (cR (cL (cR (cR (bodyC Try.f74)))))) n (rgs 0 39 [(0, .pointer p0), (3, .slice x3.1 x3.2.1 x3.2.2), (9, .int .i64 i1), (10, .int .i64 x10)]) σ
noncomputable def d_heap_Heap_Gaps : Nat → T_pi := hide fun k x0 x1 σ => fn P (XK Kn.b) H k 75 [.pointer x0, .int .i64 x1] σ
noncomputable def d_heap_Heap_Gaps_l0 : Nat → L_pnnpnnii := hide fun k n p0 h1 h2 p3 c4 c5 i6 x21 σ => lp k 75 14 (cB (cR (cL (cR (cR (cR (cR (cR (bodyC Try.f75))))))))) n (rgs 0 40 [(0, .pointer p0), (6, .pointer (some ⟨h1, 0, none⟩)), (7, .func (.func 78) #[] #[.pointer (some ⟨h1, 0, none⟩), .pointer (some ⟨h2, 0, none⟩)]), (19, .slice p3 c4 c5), (20, .int .i64 i6), (21, .int .i64 x21)]) σ
noncomputable def d_heap_Heap_State : Nat → T_pi := hide fun k x0 x1 σ => fn P (XK Kn.b) H k 76 [.pointer x0, .int .i64 x1] σ
noncomputable def d_heap_Heap_used : Nat → T_pi := hide fun k x0 x1 σ => fn P (XK Kn.b) H k 77 [.pointer x0, .int .i64 x1] σ
noncomputable def d_heap_Heap_Gaps_c1 : Nat → T_ipp := hide fun k x0 c0 c1 σ => fn P (XK Kn.b) H k 78 [.int .i64 x0, .pointer c0, .pointer c1] σ
noncomputable def d_heap_Heap_Objects : Nat → T_pi := hide fun k x0 x1 σ => fn P (XK Kn.b) H k 79 [.pointer x0, .int .i64 x1] σ
noncomputable def d_heap_Heap_between : Nat → T_pii := hide fun k x0 x1 x2 σ => fn P (XK Kn.b) H k 80 [.pointer x0, .int .i64 x1, .int .i64 x2] σ
noncomputable def d_heap_Heap_between_l0 : Nat → L_pilii := hide fun k n p0 i1 x7 x8 x9 σ => lp k 80 6 (cB (cR (cL (cR (cR (bodyC Try.f80)))))) n (rgs 0 44 [(0, .pointer p0), (2, .int .i64 i1), (7, .slice x7.1 x7.2.1 x7.2.2), (8, .int .i64 x8), (9, .int .i64 x9)]) σ
noncomputable def d_side_Table_Next : Nat → T_pii := hide fun k x0 x1 x2 σ => fn P (XK Kn.b) H k 81 [.pointer x0, .int .i64 x1, .int .i64 x2] σ
noncomputable def d_side_Table_Next_l0 : Nat → L_pii := hide fun k n p0 i1 x8 σ => lp k 81 8 (cB (cR (cL (cR (cR (bodyC Try.f81)))))) n (rgs 0 28 [(0, .pointer p0), (2, .int .i64 i1), (8, .int .i64 x8)]) σ
noncomputable def d_alloc_best_place : Nat → T_pi := hide fun k x1 x2 σ => fn P (XK Kn.b) H k 82 [.agg #[], .pointer x1, .int .i64 x2] σ
noncomputable def d_slices_SortStableFunc_api_Run : Nat → T_lv := hide fun k x0 x1 σ => fn P (XK Kn.b) H k 83 [.slice x0.1 x0.2.1 x0.2.2, x1] σ
noncomputable def d_alloc_best_place_c1 : Nat → T_iiii := hide fun k x0_0 x0_1 x1_0 x1_1 σ => fn P (XK Kn.b) H k 84 [.agg #[.int .i64 x0_0, .int .i64 x0_1], .agg #[.int .i64 x1_0, .int .i64 x1_1]] σ
noncomputable def d_slices_stableCmpFunc_api_Run : Nat → T_liv := hide fun k x0 x1 x2 σ => fn P (XK Kn.b) H k 85 [.slice x0.1 x0.2.1 x0.2.2, .int .i64 x1, x2] σ
noncomputable def d_slices_stableCmpFunc_api_Run_l0 : Nat → L_pnnivii := hide fun k n p0 c1 c2 i3 v4 x7 x8 σ => lp k 85 4 (cB (cL (cR (cR (bodyC Try.f85))))) n (rgs 0 63 [(0, .slice p0 c1 c2), (1, .int .i64 i3), (2, v4), (6, .int .i64 (20 : Int)), (7, .int .i64 x7), (8, .int .i64 x8)]) σ
noncomputable def d_slices_stableCmpFunc_api_Run_l2 : Nat → L_pnniviii := hide fun k n p0 c1 c2 i3 v4 i5 x7 x8 σ => lp k 85 18 (cB (cL (cR (cB (cR (cB (cB (cR (cR (cR (cR (bodyC Try.f85)))))))))))) n (rgs 0 63 [(0, .slice p0 c1 c2), (1, .int .i64 i3), (2, v4), (6, .int .i64 i5), (7, .int .i64 x7), (8, .int .i64 x8)]) σ
noncomputable def d_slices_stableCmpFunc_api_Run_l1 : Nat → L_pnnivi := hide fun k n p0 c1 c2 i3 v4 x6 σ => lp k 85 14 (cB (cR (cR (cR (cR (bodyC Try.f85)))))) n (rgs 0 63 [(0, .slice p0 c1 c2), (1, .int .i64 i3), (2, v4), (6, .int .i64 x6)]) σ
noncomputable def d_slices_insertionSortCmpFunc_api_Run : Nat → T_liiv := hide fun k x0 x1 x2 x3 σ => fn P (XK Kn.b) H k 86 [.slice x0.1 x0.2.1 x0.2.2, .int .i64 x1, .int .i64 x2, x3] σ
noncomputable def d_slices_insertionSortCmpFunc_api_Run_l1 : Nat → L_pnnivi := hide fun k n p0 c1 c2 i3 v4 x9 σ => lp k 86 8 (cB (cR (cB (cL (cR (cB (cB (cR (bodyC Try.f86))))))))) n (rgs 0 53 [(0, .slice p0 c1 c2), (1, .int .i64 i3), (3, v4), (9, .int .i64 x9)]) σ
noncomputable def d_slices_insertionSortCmpFunc_api_Run_l0 : Nat → L_pnniivi := hide fun k n p0 c1 c2 i3 i4 v5 x8 σ => lp k 86 2 (cB (cR (bodyC Try.f86))) n (rgs 0 53 [(0, .slice p0 c1 c2), (1, .int .i64 i3), (2, .int .i64 i4), (3, v5), (8, .int .i64 x8)]) σ
noncomputable def d_slices_symMergeCmpFunc_api_Run : Nat → T_liiiv := hide fun k x0 x1 x2 x3 x4 σ => fn P (XK Kn.b) H k 87 [.slice x0.1 x0.2.1 x0.2.2, .int .i64 x1, .int .i64 x2, .int .i64 x3, x4] σ
noncomputable def d_slices_symMergeCmpFunc_api_Run_l0 : Nat → L_pnnivii := hide fun k n p0 c1 c2 i3 v4 x10 x11 σ => lp k 87 6 (cB (cL (cR (cR (cT (cR (cL (bodyC Try.f87)))))))) n (rgs 0 220 [(0, .slice p0 c1 c2), (1, .int .i64 i3), (4, v4), (10, .int .i64 x10), (11, .int .i64 x11)]) σ
noncomputable def d_slices_symMergeCmpFunc_api_Run_l1 : Nat → L_pnnii := hide fun k n p0 c1 c2 i3 x13 σ => lp k 87 18 (cB (cR (cL (cR (cR (cR (cT (cR (cL (bodyC Try.f87)))))))))) n (rgs 0 220 [(0, .slice p0 c1 c2), (10, .int .i64 i3), (13, .int .i64 x13)]) σ
noncomputable def d_slices_symMergeCmpFunc_api_Run_l2 : Nat → L_pnnivii := hide fun k n p0 c1 c2 i3 v4 x14 x15 σ => lp k 87 30 (cB (cL (cR (cR (cT (cR (cL (cR (bodyC Try.f87))))))))) n (rgs 0 220 [(0, .slice p0 c1 c2), (2, .int .i64 i3), (4, v4), (14, .int .i64 x14), (15, .int .i64 x15)]) σ
noncomputable def d_slices_symMergeCmpFunc_api_Run_l3 : Nat → L_pnnii := hide fun k n p0 c1 c2 i3 x17 σ => lp k 87 42 (cB (cR (cL (cR (cR (cR (cT (cR (cL (cR (bodyC Try.f87))))))))))) n (rgs 0 220 [(0, .slice p0 c1 c2), (14, .int .i64 i3), (17, .int .i64 x17)]) σ
noncomputable def d_slices_symMergeCmpFunc_api_Run_l4 : Nat → L_pnnviii := hide fun k n p0 c1 c2 v3 i4 x20 x21 σ => lp k 87 66 (cB (cL (cR (cR (cR (cR (cR (cR (cR (bodyC Try.f87)))))))))) n (rgs 0 220 [(0, .slice p0 c1 c2), (4, v3), (20, .int .i64 x20), (21, .int .i64 x21), (22, .int .i64 i4)]) σ
noncomputable def d_slices_rotateCmpFunc_api_Run : Nat → T_liiiv := hide fun k x0 x1 x2 x3 x4 σ => fn P (XK Kn.b) H k 88 [.slice x0.1 x0.2.1 x0.2.2, .int .i64 x1, .int .i64 x2, .int .i64 x3, x4] σ
noncomputable def d_slices_rotateCmpFunc_api_Run_l0 : Nat → L_pnnivii := hide fun k n p0 c1 c2 i3 v4 x10 x11 σ => lp k 88 4 (cB (cL (cR (cR (bodyC Try.f88))))) n (rgs 0 58 [(0, .slice p0 c1 c2), (2, .int .i64 i3), (4, v4), (10, .int .i64 x10), (11, .int .i64 x11)]) σ
noncomputable def d_slices_swapRangeCmpFunc_api_Run : Nat → T_liiiv := hide fun k x0 x1 x2 x3 x4 σ => fn P (XK Kn.b) H k 89 [.slice x0.1 x0.2.1 x0.2.2, .int .i64 x1, .int .i64 x2, .int .i64 x3, x4] σ
noncomputable def d_slices_swapRangeCmpFunc_api_Run_l0 : Nat → L_pnniiii := hide fun k n p0 c1 c2 i3 i4 i5 x10 σ => lp k 89 2 (cB (cR (bodyC Try.f89))) n (rgs 0 38 [(0, .slice p0 c1 c2), (1, .int .i64 i3), (2, .int .i64 i4), (3, .int .i64 i5), (10, .int .i64 x10)]) σ
noncomputable def d_alloc_next_place : Nat → T_pi := hide fun k x1 x2 σ => fn P (XK Kn.b) H k 90 [.agg #[], .pointer x1, .int .i64 x2] σ
noncomputable def d_alloc_bump_place : Nat → T_pi := hide fun k x1 x2 σ => fn P (XK Kn.b) H k 91 [.agg #[], .pointer x1, .int .i64 x2] σ
noncomputable def d_alloc_Allocator_bumped : Nat → T_ppi := hide fun k x0 x1 x2 σ => fn P (XK Kn.b) H k 92 [.pointer x0, .pointer x1, .int .i64 x2] σ
noncomputable def d_alloc_area_has : Nat → T_pi := hide fun k x0 x1 σ => fn P (XK Kn.b) H k 93 [.pointer x0, .int .i64 x1] σ
noncomputable def d_alloc_area_take : Nat → T_pi := hide fun k x0 x1 σ => fn P (XK Kn.b) H k 94 [.pointer x0, .int .i64 x1] σ
noncomputable def d_alloc_lines_place : Nat → T_pi := hide fun k x1 x2 σ => fn P (XK Kn.b) H k 95 [.agg #[], .pointer x1, .int .i64 x2] σ
noncomputable def d_alloc_Allocator_hole : Nat → T_p := hide fun k x0 σ => fn P (XK Kn.b) H k 96 [.pointer x0] σ
noncomputable def d_alloc_Allocator_hole_l2 : Nat → L_pnni := hide fun k n p0 c1 c2 x8 σ => lp k 96 18 (cB (cL (cR (cB (cL (cR (cB (cB (cR (cR (cR (cB (cL (cR (cR (cB (cB (cR (cL (cR (bodyC Try.f96))))))))))))))))))))) n (rgs 0 75 [(6, .slice p0 c1 c2), (8, .int .i64 x8)]) σ
noncomputable def d_alloc_Allocator_hole_l1 : Nat → L_pnipnni := hide fun k n p0 h1 i2 p3 c4 c5 x7 σ => lp k 96 12 (cB (cR (cR (cR (cB (cL (cR (cR (cB (cB (cR (cL (cR (bodyC Try.f96)))))))))))))) n (rgs 0 75 [(0, .pointer p0), (2, .pointer (some ⟨h1, 0, none⟩)), (5, .int .i64 i2), (6, .slice p3 c4 c5), (7, .int .i64 x7)]) σ
noncomputable def d_alloc_Allocator_hole_l0 : Nat → L_pnpnnii := hide fun k n p0 h1 p2 c3 c4 i5 x13 σ => lp k 96 4 (cB (cR (cL (cR (bodyC Try.f96))))) n (rgs 0 75 [(0, .pointer p0), (2, .pointer (some ⟨h1, 0, none⟩)), (11, .slice p2 c3 c4), (12, .int .i64 i5), (13, .int .i64 x13)]) σ
noncomputable def d_heap_Heap_Lines : Nat → T_pi := hide fun k x0 x1 σ => fn P (XK Kn.b) H k 97 [.pointer x0, .int .i64 x1] σ
noncomputable def d_heap_Heap_Lines_l1 : Nat → L_nnii := hide fun k n h0 c1 i2 x10 σ => lp k 97 18 (cB (cR (cR (cR (cB (cL (cR (cR (cB (cB (cR (cL (cR (cR (cR (bodyC Try.f97)))))))))))))))) n (rgs 0 46 [(5, .slice (some ⟨h0, 0, none⟩) c1 c1), (9, .int .i64 i2), (10, .int .i64 x10)]) σ
noncomputable def d_heap_Heap_Lines_l0 : Nat → L_pnnpnnii := hide fun k n p0 h1 c2 p3 c4 c5 i6 x20 σ => lp k 97 10 (cB (cR (cL (cR (cR (cR (bodyC Try.f97))))))) n (rgs 0 46 [(0, .pointer p0), (5, .slice (some ⟨h1, 0, none⟩) c2 c2), (18, .slice p3 c4 c5), (19, .int .i64 i6), (20, .int .i64 x20)]) σ
noncomputable def d_callV_pi_it : Nat → TV := hide fun k f args σ => callVal P (fn P (XK Kn.b) H k) f args σ
noncomputable def d_callV_ii_t : Nat → TV := hide fun k f args σ => callVal P (fn P (XK Kn.b) H k) f args σ
noncomputable def d_callV_i_t : Nat → TV := hide fun k f args σ => callVal P (fn P (XK Kn.b) H k) f args σ
noncomputable def d_callV_iiii_i : Nat → TV := hide fun k f args σ => callVal P (fn P (XK Kn.b) H k) f args σ

end
section
variable [Quiet]

noncomputable def b_law05_AllocBumps_l0 (k n : Nat) (alloc_Allocator_Alloc : T_piii) (heap_Heap_Kill : T_pi) (heap_Words : T_iii) (law05_AllocBumps_l0 : L_pnnpnnppii) (p0 : Option Addr) (c1 : Nat) (c2 : Nat) (p3 : Option Addr) (c4 : Nat) (c5 : Nat) (p6 : Option Addr) (p7 : Option Addr) (x11 : Int) (x12 : Int) (σ : AMem) : Option LOut :=
  bif decide (x12 < ((c1 : Nat) : Int)) then (if 0 ≤ x12 ∧ x12 < (c1 : Nat) then p0.bind fun a13 => (ldI .i64 σ a13.block (a13.off + x12.toNat * 3)).bind fun n14 => (ldI .i64 σ a13.block (a13.off + x12.toNat * 3 + 1)).bind fun n15 => (ldI .i64 σ a13.block (a13.off + x12.toNat * 3 + 1 + 1)).bind fun n16 => (alloc_Allocator_Alloc p7 n14 n15 n16 σ).bind fun r17 => r_ii r17.1 fun n18 n19 => bif n19 != (0 : Int) then (law05_AllocBumps_l0 n p0 c1 c2 p3 c4 c5 p6 p7 x11 (w64 (x12 + (1 : Int))) r17.2) else (if 0 ≤ x12 ∧ x12 < (c1 : Nat) then p0.bind fun a20 => (ldI .i64 r17.2 a20.block (a20.off + x12.toNat * 3)).bind fun n21 => (ldI .i64 r17.2 a20.block (a20.off + x12.toNat * 3 + 1)).bind fun n22 => (ldI .i64 r17.2 a20.block (a20.off + x12.toNat * 3 + 1 + 1)).bind fun n23 => (heap_Words n21 n22 n23 r17.2).bind fun r24 => (toI .i64 r24.1).bind fun n25 => (bif decide (n25 ≤ (32 : Int)) then ((bif n18 != x11 then if (64 : Int) = 0 then none else some ((n18.tmod (64 : Int)) != (0 : Int), r24.2) else some (false, r24.2)).bind fun r26 => bif r26.1 then (some (.ret, [.bool false], r26.2)) else ((bif n18 != x11 then some (decide (x11 > (0 : Int)), r26.2) else some (false, r26.2)).bind fun r27 => (bif r27.1 then if (64 : Int) = 0 then none else (bif decide ((w64 ((x11.tmod (64 : Int)) + n25)) ≤ (64 : Int)) then if (64 : Int) = 0 then none else some (decide ((x11.tmod (64 : Int)) > (0 : Int)), r27.2) else some (false, r27.2)).bind fun r28 => some (r28.1, r28.2) else some (false, r27.2)).bind fun r29 => bif r29.1 then (some (.ret, [.bool false], r29.2)) else (some (.normal, [.int .i64 (w64 (n18 + n25))], r29.2)))) else (some (.normal, [.int .i64 x11], r24.2)) : Option LOut).bind fun r30 => if r30.1 = .normal then (u_i r30.2.1 fun n31 => (bif decide (x12 < ((c4 : Nat) : Int)) then if 0 ≤ x12 ∧ x12 < (c4 : Nat) then p3.bind fun a32 => (ldB r30.2.2 a32.block (a32.off + x12.toNat * 1)).bind fun b33 => some (b33, r30.2.2) else none else some (false, r30.2.2)).bind fun r34 => (bif r34.1 then ((heap_Heap_Kill p6 n18 r34.2).bind fun r35 => (toI .i64 r35.1).bind fun n36 => some (.normal, [], r35.2)) else (some (.normal, [], r34.2)) : Option LOut).bind fun r37 => if r37.1 = .normal then (law05_AllocBumps_l0 n p0 c1 c2 p3 c4 c5 p6 p7 n31 (w64 (x12 + (1 : Int))) r37.2.2) else none) else if r30.1 = .ret then (u_t r30.2.1 fun b38 => some (.ret, [.bool b38], r30.2.2)) else none else none) else none) else (some (.exit 0, [], σ))

noncomputable def b_law05_AllocBumps (k : Nat) (alloc_New : T_pii) (heap_New : T_i) (law05_AllocBumps_l0 : L_pnnpnnppii) (law05_alive : T_) (law05_few : T_i) (x0 : Int) (x1 : Option Addr × Nat × Nat) (x2 : Option Addr × Nat × Nat) (σ : AMem) : RV1 :=
  (heap_New x0 σ).bind fun r1 => r_pi r1.1 fun p2 n3 => (bif n3 != (0 : Int) then some (true, r1.2) else (law05_few x0 r1.2).bind fun r4 => (toB r4.1).bind fun b5 => some (!b5, r4.2)).bind fun r6 => (bif r6.1 then some (true, r6.2) else some (decide (((x1.2.1 : Nat) : Int) > (60 : Int)), r6.2)).bind fun r7 => bif r7.1 then ((law05_alive r7.2).bind fun r8 => (toB r8.1).bind fun b9 => some (.bool b9, r8.2)) else ((alloc_New p2 (0 : Int) (3 : Int) r7.2).bind fun r10 => r_pi r10.1 fun p11 n12 => (law05_AllocBumps_l0 k x1.1 x1.2.1 x1.2.2 x2.1 x2.2.1 x2.2.2 p2 p11 (0 : Int) (0 : Int) r10.2).bind fun r39 => if r39.1 = .exit 0 then ((law05_alive r39.2.2).bind fun r40 => (toB r40.1).bind fun b41 => some (.bool b41, r40.2)) else if r39.1 = .ret then (u_t r39.2.1 fun b42 => some (.bool b42, r39.2.2)) else none)

noncomputable def b_heap_New (k : Nat) (side_New : T_ii) (x0 : Int) (σ : AMem) : RV1 :=
  (bif decide (x0 < (2 : Int)) then some (true, σ) else some (decide (x0 > (64 : Int)), σ)).bind fun r1 => bif r1.1 then (some (.tuple #[.pointer none, .int .i64 (1 : Int)], r1.2)) else (if 0 ≤ x0 ∧ x0 ≤ x0 ∧ x0 * (16 : Nat) ≤ 2 ^ 40 ∧ x0 ≤ 2 ^ 40 then allocK r1.2 (.cells (rep x0.toNat [.int .i64 (0 : Int), .int .i64 (0 : Int)]) ty_heap_block true) fun h2 s3 => if 0 ≤ (w64 (x0 * (64 : Int))) ∧ (w64 (x0 * (64 : Int))) ≤ (w64 (x0 * (64 : Int))) ∧ (w64 (x0 * (64 : Int))) * (8 : Nat) ≤ 2 ^ 40 ∧ (w64 (x0 * (64 : Int))) ≤ 2 ^ 40 then allocK s3 (.cells (rep (w64 (x0 * (64 : Int))).toNat [.int .i64 (0 : Int)]) ty_int true) fun h4 s5 => allocK s5 (.map []) fun h6 s7 => allocK s7 (.map []) fun h8 s9 => allocK s9 (.cells [.slice (some ⟨h2, 0, none⟩) x0.toNat x0.toNat, .slice (some ⟨h4, 0, none⟩) ((w64 (x0 * (64 : Int))).toNat) ((w64 (x0 * (64 : Int))).toNat), .pointer none, .pointer none, .map (some h6), .map (some h8), .int .i64 (0 : Int)] ty_heap_Heap true) fun h10 s11 => (ldS s11 h10 (0 + 1)).bind fun l12 => if (2 : Int) = 0 then none else (side_New (w64 (((l12.2.1 : Nat) : Int).tdiv (2 : Int))) (1 : Int) s11).bind fun r13 => r_pi r13.1 fun p14 n15 => (st1 r13.2 h10 (0 + 2) (.pointer p14)).bind fun s16 => (ldS s16 h10 (0 + 1)).bind fun l17 => if (2 : Int) = 0 then none else (side_New (w64 (((l17.2.1 : Nat) : Int).tdiv (2 : Int))) (1 : Int) s16).bind fun r18 => r_pi r18.1 fun p19 n20 => (st1 r18.2 h10 (0 + 3) (.pointer p19)).bind fun s21 => some (.tuple #[.pointer (some ⟨h10, 0, none⟩), .int .i64 (0 : Int)], s21) else none else none)

noncomputable def b_law05_few (k : Nat)  (x0 : Int) (σ : AMem) : RV1 :=
  (bif decide (x0 ≤ (12 : Int)) then some (true, σ) else some (decide (x0 > (64 : Int)), σ)).bind fun r1 => some (.bool r1.1, r1.2)

noncomputable def b_law05_alive (k : Nat) (alloc_Allocator_Alloc : T_piii) (alloc_New : T_pii) (heap_Heap_Claim : T_pii) (heap_Heap_Kill : T_pi) (heap_Heap_Place : T_piiii) (heap_New : T_i)  (σ : AMem) : RV1 :=
  (heap_New (4 : Int) σ).bind fun r1 => r_pi r1.1 fun p2 n3 => (alloc_New p2 (0 : Int) (0 : Int) r1.2).bind fun r4 => r_pi r4.1 fun p5 n6 => (eqA P pt_alloc_Allocator (.pointer p5) (.pointer none)).bind fun e7 => (bif e7 then some (true, r4.2) else some (n6 != (0 : Int), r4.2)).bind fun r8 => bif r8.1 then (some (.bool false, r8.2)) else ((alloc_Allocator_Alloc p5 (0 : Int) (4 : Int) (0 : Int) r8.2).bind fun r9 => r_ii r9.1 fun n10 n11 => (alloc_Allocator_Alloc p5 (0 : Int) (0 : Int) (0 : Int) r9.2).bind fun r12 => r_ii r12.1 fun n13 n14 => (alloc_Allocator_Alloc p5 (0 : Int) (4 : Int) (0 : Int) r12.2).bind fun r15 => r_ii r15.1 fun n16 n17 => (heap_Heap_Kill p2 (64 : Int) r15.2).bind fun r18 => (toI .i64 r18.1).bind fun n19 => (alloc_Allocator_Alloc p5 (0 : Int) (2 : Int) (0 : Int) r18.2).bind fun r20 => r_ii r20.1 fun n21 n22 => (alloc_Allocator_Alloc p5 (0 : Int) (2 : Int) (0 : Int) r20.2).bind fun r23 => r_ii r23.1 fun n24 n25 => (bif n10 != (64 : Int) then some (true, r23.2) else some (n11 != (0 : Int), r23.2)).bind fun r26 => (bif r26.1 then some (true, r26.2) else some (n13 != (70 : Int), r26.2)).bind fun r27 => (bif r27.1 then some (true, r27.2) else some (n16 != (72 : Int), r27.2)).bind fun r28 => (bif r28.1 then some (true, r28.2) else some (n21 != (64 : Int), r28.2)).bind fun r29 => (bif r29.1 then some (true, r29.2) else some (n24 != (78 : Int), r29.2)).bind fun r30 => bif r30.1 then (some (.bool false, r30.2)) else ((heap_New (4 : Int) r30.2).bind fun r31 => r_pi r31.1 fun p32 n33 => (heap_Heap_Claim p32 (1 : Int) (0 : Int) r31.2).bind fun r34 => (toI .i64 r34.1).bind fun n35 => (heap_Heap_Place p32 (72 : Int) (0 : Int) (6 : Int) (0 : Int) r34.2).bind fun r36 => r_ii r36.1 fun n37 n38 => (alloc_New p32 (0 : Int) (4 : Int) r36.2).bind fun r39 => r_pi r39.1 fun p40 n41 => (alloc_Allocator_Alloc p40 (0 : Int) (6 : Int) (0 : Int) r39.2).bind fun r42 => r_ii r42.1 fun n43 n44 => (alloc_Allocator_Alloc p40 (0 : Int) (6 : Int) (0 : Int) r42.2).bind fun r45 => r_ii r45.1 fun n46 n47 => (alloc_Allocator_Alloc p40 (0 : Int) (30 : Int) (0 : Int) r45.2).bind fun r48 => r_ii r48.1 fun n49 n50 => (alloc_Allocator_Alloc p40 (0 : Int) (8 : Int) (0 : Int) r48.2).bind fun r51 => r_ii r51.1 fun n52 n53 => (bif n43 == (64 : Int) then some (n46 == (80 : Int), r51.2) else some (false, r51.2)).bind fun r54 => (bif r54.1 then some (n52 == (128 : Int), r54.2) else some (false, r54.2)).bind fun r55 => (bif r55.1 then some (n53 == (0 : Int), r55.2) else some (false, r55.2)).bind fun r56 => some (.bool r56.1, r56.2)))

noncomputable def b_alloc_New (k : Nat) (alloc_policies : T_) (heap_Heap_Blocks : T_p) (x0 : Option Addr) (x1 : Int) (x2 : Int) (σ : AMem) : RV1 :=
  (heap_Heap_Blocks x0 σ).bind fun r1 => (toI .i64 r1.1).bind fun n2 => (bif n2 == (0 : Int) then some (true, r1.2) else some (decide (x1 < (0 : Int)), r1.2)).bind fun r3 => (bif r3.1 then some (true, r3.2) else some (decide (x1 ≥ (8 : Int)), r3.2)).bind fun r4 => (bif r4.1 then some (true, r4.2) else some (decide (x2 < (0 : Int)), r4.2)).bind fun r5 => (bif r5.1 then some (true, r5.2) else (alloc_policies r5.2).bind fun r6 => (toS r6.1).bind fun l7 => some (decide (x2 ≥ ((l7.2.1 : Nat) : Int)), r6.2)).bind fun r8 => bif r8.1 then (some (.tuple #[.pointer none, .int .i64 (1 : Int)], r8.2)) else (allocK r8.2 (.cells [.pointer x0, .int .i64 x1, .int .i64 x2, .int .i64 (0 : Int), .int .i64 (0 : Int), .int .i64 (0 : Int), .int .i64 (0 : Int)] ty_alloc_Allocator true) fun h9 s10 => some (.tuple #[.pointer (some ⟨h9, 0, none⟩), .int .i64 (0 : Int)], s10))

noncomputable def b_alloc_Allocator_Alloc (k : Nat) (alloc_Allocator_made : T_p) (alloc_policies : T_) (callV_pi_it : TV) (heap_Heap_Place : T_piiii) (heap_Heap_Space : T_pi) (heap_Valid : T_iii) (heap_Words : T_iii) (x0 : Option Addr) (x1_0 : Int) (x1_1 : Int) (x1_2 : Int) (σ : AMem) : RV1 :=
  allocK σ (.cells [.int .i64 x1_0, .int .i64 x1_1, .int .i64 x1_2] ty_api_Shape true) fun h1 s2 => (alloc_Allocator_made x0 s2).bind fun r3 => (toB r3.1).bind fun b4 => bif !b4 then (some (.tuple #[.int .i64 (0 : Int), .int .i64 (5 : Int)], r3.2)) else ((ldI .i64 r3.2 h1 0).bind fun n5 => (ldI .i64 r3.2 h1 (0 + 1)).bind fun n6 => (ldI .i64 r3.2 h1 (0 + 1 + 1)).bind fun n7 => (heap_Valid n5 n6 n7 r3.2).bind fun r8 => (toB r8.1).bind fun b9 => bif !b9 then (some (.tuple #[.int .i64 (0 : Int), .int .i64 (2 : Int)], r8.2)) else ((ldI .i64 r8.2 h1 0).bind fun n10 => (ldI .i64 r8.2 h1 (0 + 1)).bind fun n11 => (ldI .i64 r8.2 h1 (0 + 1 + 1)).bind fun n12 => (heap_Words n10 n11 n12 r8.2).bind fun r13 => (toI .i64 r13.1).bind fun n14 => (alloc_policies r13.2).bind fun r15 => (toS r15.1).bind fun l16 => x0.bind fun a17 => (ldI .i64 r15.2 a17.block (a17.off + 2)).bind fun n18 => if 0 ≤ n18 ∧ n18 < (l16.2.1 : Nat) then l16.1.bind fun a19 => (ld1 r15.2 a19.block (a19.off + n18.toNat * 1)).bind fun v20 => nilV v20 fun v21 => (bif decide (n14 > (32 : Int)) then (some (.normal, [.func (.func 18) #[] #[]], r15.2)) else (some (.normal, [(.func (.method "dustcart/alloc.place") #[v21] #[])], r15.2)) : Option LOut).bind fun r22 => if r22.1 = .normal then (u_f r22.2.1 fun f23 => x0.bind fun a24 => (ldP r22.2.2 a24.block a24.off).bind fun p25 => (ldI .i64 r22.2.2 a24.block (a24.off + 1)).bind fun n26 => (ldI .i64 r22.2.2 a24.block (a24.off + 1 + 1)).bind fun n27 => (ldI .i64 r22.2.2 a24.block (a24.off + 1 + 1 + 1)).bind fun n28 => (ldI .i64 r22.2.2 a24.block (a24.off + 1 + 1 + 1 + 1)).bind fun n29 => (ldI .i64 r22.2.2 a24.block (a24.off + 1 + 1 + 1 + 1 + 1)).bind fun n30 => (ldI .i64 r22.2.2 a24.block (a24.off + 1 + 1 + 1 + 1 + 1 + 1)).bind fun n31 => allocK r22.2.2 (.cells [.pointer none, .int .i64 (0 : Int), .int .i64 (0 : Int), .int .i64 (0 : Int), .int .i64 (0 : Int), .int .i64 (0 : Int), .int .i64 (0 : Int)] ty_alloc_Allocator true) fun h32 s33 => (stN s33 h32 0 [.pointer p25, .int .i64 n26, .int .i64 n27, .int .i64 n28, .int .i64 n29, .int .i64 n30, .int .i64 n31]).bind fun s34 => (callV_pi_it f23 [.pointer x0, .int .i64 n14] s34).bind fun r35 => r_it r35.1 fun n36 b37 => bif !b37 then (some (.tuple #[.int .i64 (0 : Int), .int .i64 (6 : Int)], r35.2)) else (x0.bind fun a38 => (ldP r35.2 a38.block (a38.off + 0)).bind fun p39 => if (64 : Int) = 0 then none else (heap_Heap_Space p39 (w64 (n36.tdiv (64 : Int))) r35.2).bind fun r40 => (toI .i64 r40.1).bind fun n41 => x0.bind fun a42 => (ldI .i64 r40.2 a42.block (a42.off + 1)).bind fun n43 => (bif n41 == n43 then (x0.bind fun a44 => (ldP r40.2 a44.block (a44.off + 0)).bind fun p45 => (ldI .i64 r40.2 h1 0).bind fun n46 => (ldI .i64 r40.2 h1 (0 + 1)).bind fun n47 => (ldI .i64 r40.2 h1 (0 + 1 + 1)).bind fun n48 => (heap_Heap_Place p45 n36 n46 n47 n48 r40.2).bind fun r49 => r_ii r49.1 fun n50 n51 => some (.normal, [.int .i64 n51], r49.2)) else (some (.normal, [.int .i64 (5 : Int)], r40.2)) : Option LOut).bind fun r52 => if r52.1 = .normal then (u_i r52.2.1 fun n53 => bif n53 != (0 : Int) then ((ldP r52.2.2 h32 0).bind fun p54 => (ldI .i64 r52.2.2 h32 (0 + 1)).bind fun n55 => (ldI .i64 r52.2.2 h32 (0 + 1 + 1)).bind fun n56 => (ldI .i64 r52.2.2 h32 (0 + 1 + 1 + 1)).bind fun n57 => (ldI .i64 r52.2.2 h32 (0 + 1 + 1 + 1 + 1)).bind fun n58 => (ldI .i64 r52.2.2 h32 (0 + 1 + 1 + 1 + 1 + 1)).bind fun n59 => (ldI .i64 r52.2.2 h32 (0 + 1 + 1 + 1 + 1 + 1 + 1)).bind fun n60 => x0.bind fun a61 => (stN r52.2.2 a61.block a61.off [.pointer p54, .int .i64 n55, .int .i64 n56, .int .i64 n57, .int .i64 n58, .int .i64 n59, .int .i64 n60]).bind fun s62 => some (.tuple #[.int .i64 (0 : Int), .int .i64 (6 : Int)], s62)) else (some (.tuple #[.int .i64 n36, .int .i64 (0 : Int)], r52.2.2))) else none)) else none else none))

noncomputable def b_heap_Words (k : Nat) (heap_Valid : T_iii) (x0_0 : Int) (x0_1 : Int) (x0_2 : Int) (σ : AMem) : RV1 :=
  allocK σ (.cells [.int .i64 x0_0, .int .i64 x0_1, .int .i64 x0_2] ty_api_Shape true) fun h1 s2 => (ldI .i64 s2 h1 0).bind fun n3 => (ldI .i64 s2 h1 (0 + 1)).bind fun n4 => (ldI .i64 s2 h1 (0 + 1 + 1)).bind fun n5 => (heap_Valid n3 n4 n5 s2).bind fun r6 => (toB r6.1).bind fun b7 => bif !b7 then (some (.int .i64 (0 : Int), r6.2)) else ((ldI .i64 r6.2 h1 (0 + 0)).bind fun n8 => (ldI .i64 r6.2 h1 (0 + 1)).bind fun n9 => if (2 : Int) = 0 then none else some (.int .i64 (w64 ((w64 ((w64 ((w64 ((w64 ((2 : Int) + n8)) + n9)) + (1 : Int))).tdiv (2 : Int))) * (2 : Int))), r6.2))

noncomputable def b_heap_Heap_Kill (k : Nat) (heap_Heap_object : T_pi) (heap_Heap_size : T_pi) (heap_Heap_wipe : T_pii) (side_Table_Set : T_pii) (x0 : Option Addr) (x1 : Int) (σ : AMem) : RV1 :=
  (heap_Heap_object x0 x1 σ).bind fun r1 => (toI .i64 r1.1).bind fun n2 => bif n2 != (0 : Int) then (some (.int .i64 n2, r1.2)) else (x0.bind fun a3 => (ldM r1.2 a3.block (a3.off + 4)).bind fun m4 => x0.bind fun a5 => (ldS r1.2 a5.block (a5.off + 1)).bind fun l6 => if 0 ≤ x1 ∧ x1 < (l6.2.1 : Nat) then l6.1.bind fun a7 => (ldI .i64 r1.2 a7.block (a7.off + x1.toNat * 1)).bind fun n8 => (ldMO r1.2 m4).bind fun es9 => x0.bind fun a10 => (ldP (stMO r1.2 m4 (mapDel n8 es9)) a10.block (a10.off + 2)).bind fun p11 => if (2 : Int) = 0 then none else (side_Table_Set p11 (w64 (x1.tdiv (2 : Int))) (0 : Int) (stMO r1.2 m4 (mapDel n8 es9))).bind fun r12 => (toI .i64 r12.1).bind fun n13 => x0.bind fun a14 => (ldP r12.2 a14.block (a14.off + 3)).bind fun p15 => if (2 : Int) = 0 then none else (side_Table_Set p15 (w64 (x1.tdiv (2 : Int))) (0 : Int) r12.2).bind fun r16 => (toI .i64 r16.1).bind fun n17 => (heap_Heap_size x0 x1 r16.2).bind fun r18 => (toI .i64 r18.1).bind fun n19 => (heap_Heap_wipe x0 x1 n19 r18.2).bind fun r20 => r_0 r20.1 (some (.int .i64 (0 : Int), r20.2)) else none)

noncomputable def b_side_New (k : Nat) (slices_Contains_int : T_li) (x0 : Int) (x1 : Int) (σ : AMem) : RV1 :=
  (bif decide (x0 < (1 : Int)) then some (true, σ) else some (decide (x0 > (4096 : Int)), σ)).bind fun r1 => (bif r1.1 then some (true, r1.2) else allocK r1.2 (.cells [.int .i64 (1 : Int), .int .i64 (2 : Int), .int .i64 (4 : Int), .int .i64 (8 : Int)] ty_int true) fun h2 s3 => (slices_Contains_int (some ⟨h2, 0, none⟩, 4, 4) x1 s3).bind fun r4 => (toB r4.1).bind fun b5 => some (!b5, r4.2)).bind fun r6 => bif r6.1 then (some (.tuple #[.pointer none, .int .i64 (1 : Int)], r6.2)) else (if (64 : Int) = 0 then none else if 0 ≤ (w64 ((w64 ((w64 ((w64 (x0 * x1)) + (64 : Int))) - (1 : Int))).tdiv (64 : Int))) ∧ (w64 ((w64 ((w64 ((w64 (x0 * x1)) + (64 : Int))) - (1 : Int))).tdiv (64 : Int))) ≤ (w64 ((w64 ((w64 ((w64 (x0 * x1)) + (64 : Int))) - (1 : Int))).tdiv (64 : Int))) ∧ (w64 ((w64 ((w64 ((w64 (x0 * x1)) + (64 : Int))) - (1 : Int))).tdiv (64 : Int))) * (8 : Nat) ≤ 2 ^ 40 ∧ (w64 ((w64 ((w64 ((w64 (x0 * x1)) + (64 : Int))) - (1 : Int))).tdiv (64 : Int))) ≤ 2 ^ 40 then allocK r6.2 (.cells (rep (w64 ((w64 ((w64 ((w64 (x0 * x1)) + (64 : Int))) - (1 : Int))).tdiv (64 : Int))).toNat [.int .u64 (0 : Int)]) ty_uint64 true) fun h7 s8 => allocK s8 (.cells [.int .i64 x0, .int .i64 x1, .slice (some ⟨h7, 0, none⟩) ((w64 ((w64 ((w64 ((w64 (x0 * x1)) + (64 : Int))) - (1 : Int))).tdiv (64 : Int))).toNat) ((w64 ((w64 ((w64 ((w64 (x0 * x1)) + (64 : Int))) - (1 : Int))).tdiv (64 : Int))).toNat)] ty_side_Table true) fun h9 s10 => some (.tuple #[.pointer (some ⟨h9, 0, none⟩), .int .i64 (0 : Int)], s10) else none)

noncomputable def b_heap_Heap_Claim (k : Nat) (heap_Heap_claim : T_piiiiii) (x0 : Option Addr) (x1 : Int) (x2 : Int) (σ : AMem) : RV1 :=
  (heap_Heap_claim x0 x1 (1 : Int) (1 : Int) x2 (0 : Int) (0 : Int) σ).bind fun r1 => (toI .i64 r1.1).bind fun n2 => some (.int .i64 n2, r1.2)

noncomputable def b_heap_Heap_Place (k : Nat) (heap_Heap_fits : T_piii) (heap_Heap_made : T_p) (heap_Valid : T_iii) (heap_Words : T_iii) (heap_number : T_iii) (side_Table_Set : T_pii) (x0 : Option Addr) (x1 : Int) (x2_0 : Int) (x2_1 : Int) (x2_2 : Int) (σ : AMem) : RV1 :=
  allocK σ (.cells [.int .i64 x2_0, .int .i64 x2_1, .int .i64 x2_2] ty_api_Shape true) fun h1 s2 => (heap_Heap_made x0 s2).bind fun r3 => (toB r3.1).bind fun b4 => bif !b4 then (some (.tuple #[.int .i64 (0 : Int), .int .i64 (5 : Int)], r3.2)) else ((ldI .i64 r3.2 h1 0).bind fun n5 => (ldI .i64 r3.2 h1 (0 + 1)).bind fun n6 => (ldI .i64 r3.2 h1 (0 + 1 + 1)).bind fun n7 => (heap_Valid n5 n6 n7 r3.2).bind fun r8 => (toB r8.1).bind fun b9 => bif !b9 then (some (.tuple #[.int .i64 (0 : Int), .int .i64 (2 : Int)], r8.2)) else ((ldI .i64 r8.2 h1 0).bind fun n10 => (ldI .i64 r8.2 h1 (0 + 1)).bind fun n11 => (ldI .i64 r8.2 h1 (0 + 1 + 1)).bind fun n12 => (heap_Words n10 n11 n12 r8.2).bind fun r13 => (toI .i64 r13.1).bind fun n14 => (heap_Heap_fits x0 x1 n14 (-1 : Int) r13.2).bind fun r15 => (toI .i64 r15.1).bind fun n16 => bif n16 != (0 : Int) then (some (.tuple #[.int .i64 (0 : Int), .int .i64 n16], r15.2)) else (x0.bind fun a17 => (ldI .i64 r15.2 a17.block (a17.off + 6)).bind fun n18 => x0.bind fun a19 => (st1 r15.2 a19.block (a19.off + 6) (.int .i64 (w64 (n18 + (1 : Int))))).bind fun s20 => x0.bind fun a21 => (ldS s20 a21.block (a21.off + 1)).bind fun l22 => x0.bind fun a23 => (ldS s20 a23.block (a23.off + 1)).bind fun l24 => x0.bind fun a25 => (ldI .i64 s20 a25.block (a25.off + 6)).bind fun n26 => (ldI .i64 s20 h1 0).bind fun n27 => (ldI .i64 s20 h1 (0 + 1)).bind fun n28 => (ldI .i64 s20 h1 (0 + 1 + 1)).bind fun n29 => (heap_number n27 n28 n29 s20).bind fun r30 => (toI .i64 r30.1).bind fun n31 => if 0 ≤ x1 ∧ x1 < (l22.2.1 : Nat) then l22.1.bind fun a32 => (st1 r30.2 a32.block (a32.off + x1.toNat * 1) (.int .i64 n26)).bind fun s33 => if 0 ≤ (w64 (x1 + (1 : Int))) ∧ (w64 (x1 + (1 : Int))) < (l24.2.1 : Nat) then l24.1.bind fun a34 => (st1 s33 a34.block (a34.off + (w64 (x1 + (1 : Int))).toNat * 1) (.int .i64 n31)).bind fun s35 => x0.bind fun a36 => (ldP s35 a36.block (a36.off + 2)).bind fun p37 => if (2 : Int) = 0 then none else (side_Table_Set p37 (w64 (x1.tdiv (2 : Int))) (1 : Int) s35).bind fun r38 => (toI .i64 r38.1).bind fun n39 => x0.bind fun a40 => (ldM r38.2 a40.block (a40.off + 4)).bind fun m41 => x0.bind fun a42 => (ldI .i64 r38.2 a42.block (a42.off + 6)).bind fun n43 => m41.bind fun h45 => (ldMap r38.2 h45).bind fun es44 => x0.bind fun a46 => (ldI .i64 (List.set r38.2 h45 (.map (mapSet n43 (.int .i64 x1) es44))) a46.block (a46.off + 6)).bind fun n47 => some (.tuple #[.int .i64 n47, .int .i64 (0 : Int)], (List.set r38.2 h45 (.map (mapSet n43 (.int .i64 x1) es44)))) else none else none)))

noncomputable def b_heap_Heap_Blocks (k : Nat) (heap_Heap_made : T_p) (x0 : Option Addr) (σ : AMem) : RV1 :=
  (heap_Heap_made x0 σ).bind fun r1 => (toB r1.1).bind fun b2 => bif !b2 then (some (.int .i64 (0 : Int), r1.2)) else (x0.bind fun a3 => (ldS r1.2 a3.block (a3.off + 0)).bind fun l4 => some (.int .i64 ((l4.2.1 : Nat) : Int), r1.2))

noncomputable def b_alloc_policies (k : Nat)   (σ : AMem) : RV1 :=
  allocK σ (.cells [.iface 74 (.agg #[]), .iface 75 (.agg #[]), .iface 76 (.agg #[]), .iface 77 (.agg #[]), .iface 78 (.agg #[])] ty_alloc_policy true) fun h1 s2 => some (.slice (some ⟨h1, 0, none⟩) 5 5, s2)

noncomputable def b_alloc_Allocator_made (k : Nat)  (x0 : Option Addr) (σ : AMem) : RV1 :=
  (eqA P pt_alloc_Allocator (.pointer x0) (.pointer none)).bind fun e1 => (bif !e1 then x0.bind fun a2 => (ldP σ a2.block (a2.off + 0)).bind fun p3 => (eqA P pt_heap_Heap (.pointer p3) (.pointer none)).bind fun e4 => some (!e4, σ) else some (false, σ)).bind fun r5 => some (.bool r5.1, r5.2)

noncomputable def b_heap_Valid (k : Nat)  (x0_0 : Int) (x0_1 : Int) (x0_2 : Int) (σ : AMem) : RV1 :=
  allocK σ (.cells [.int .i64 x0_0, .int .i64 x0_1, .int .i64 x0_2] ty_api_Shape true) fun h1 s2 => (ldI .i64 s2 h1 (0 + 0)).bind fun n3 => (bif decide (n3 ≥ (0 : Int)) then (ldI .i64 s2 h1 (0 + 0)).bind fun n4 => some (decide (n4 ≤ (15 : Int)), s2) else some (false, s2)).bind fun r5 => (bif r5.1 then (ldI .i64 r5.2 h1 (0 + 1)).bind fun n6 => some (decide (n6 ≥ (0 : Int)), r5.2) else some (false, r5.2)).bind fun r7 => (bif r7.1 then (ldI .i64 r7.2 h1 (0 + 1)).bind fun n8 => some (decide (n8 ≤ (200 : Int)), r7.2) else some (false, r7.2)).bind fun r9 => (bif r9.1 then (ldI .i64 r9.2 h1 (0 + 2)).bind fun n10 => some (decide (n10 ≥ (0 : Int)), r9.2) else some (false, r9.2)).bind fun r11 => (bif r11.1 then (ldI .i64 r11.2 h1 (0 + 2)).bind fun n12 => some (decide (n12 ≤ (3 : Int)), r11.2) else some (false, r11.2)).bind fun r13 => (bif r13.1 then (ldI .i64 r13.2 h1 (0 + 2)).bind fun n14 => (bif n14 != (1 : Int) then some (true, r13.2) else (ldI .i64 r13.2 h1 (0 + 0)).bind fun n15 => some (decide (n15 ≥ (1 : Int)), r13.2)).bind fun r16 => some (r16.1, r16.2) else some (false, r13.2)).bind fun r17 => (bif r17.1 then (ldI .i64 r17.2 h1 (0 + 2)).bind fun n18 => (bif n18 != (2 : Int) then some (true, r17.2) else (ldI .i64 r17.2 h1 (0 + 0)).bind fun n19 => some (decide (n19 ≥ (2 : Int)), r17.2)).bind fun r20 => some (r20.1, r20.2) else some (false, r17.2)).bind fun r21 => some (.bool r21.1, r21.2)

noncomputable def b_alloc_Allocator_large_l0 (k n : Nat) (alloc_Allocator_large_l0 : L_pii) (heap_Heap_Blocks : T_p) (heap_Heap_ClaimLarge : T_piii) (p0 : Option Addr) (i1 : Int) (x7 : Int) (σ : AMem) : Option LOut :=
  p0.bind fun a1 => (ldP σ a1.block (a1.off + 0)).bind fun p2 => (heap_Heap_Blocks p2 σ).bind fun r3 => (toI .i64 r3.1).bind fun n4 => bif decide ((w64 (x7 + i1)) ≤ n4) then (p0.bind fun a5 => (ldP r3.2 a5.block (a5.off + 0)).bind fun p6 => p0.bind fun a7 => (ldI .i64 r3.2 a7.block (a7.off + 1)).bind fun n8 => (heap_Heap_ClaimLarge p6 x7 i1 n8 r3.2).bind fun r9 => (toI .i64 r9.1).bind fun n10 => bif n10 == (0 : Int) then (some (.ret, [.int .i64 (w64 (x7 * (64 : Int))), .bool true], r9.2)) else (alloc_Allocator_large_l0 n p0 i1 (w64 (x7 + (1 : Int))) r9.2)) else (some (.exit 0, [], r3.2))

noncomputable def b_alloc_Allocator_large (k : Nat) (alloc_Allocator_large_l0 : L_pii) (x0 : Option Addr) (x1 : Int) (σ : AMem) : RV1 :=
  if (64 : Int) = 0 then none else (alloc_Allocator_large_l0 k x0 (w64 ((w64 ((w64 (x1 + (64 : Int))) - (1 : Int))).tdiv (64 : Int))) (1 : Int) σ).bind fun r11 => if r11.1 = .exit 0 then (some (.tuple #[.int .i64 (0 : Int), .bool false], r11.2.2)) else if r11.1 = .ret then (u_it r11.2.1 fun n12 b13 => some (.tuple #[.int .i64 n12, .bool b13], r11.2.2)) else none

noncomputable def b_heap_Heap_Space (k : Nat) (heap_Heap_Blocks : T_p) (x0 : Option Addr) (x1 : Int) (σ : AMem) : RV1 :=
  (bif decide (x1 < (0 : Int)) then some (true, σ) else (heap_Heap_Blocks x0 σ).bind fun r1 => (toI .i64 r1.1).bind fun n2 => some (decide (x1 ≥ n2), r1.2)).bind fun r3 => bif r3.1 then (some (.int .i64 (-1 : Int), r3.2)) else (x0.bind fun a4 => (ldS r3.2 a4.block (a4.off + 0)).bind fun l5 => if 0 ≤ x1 ∧ x1 < (l5.2.1 : Nat) then l5.1.bind fun a6 => (ldI .i64 r3.2 a6.block (a6.off + x1.toNat * 2 + 1)).bind fun n7 => some (.int .i64 n7, r3.2) else none)

noncomputable def b_heap_Heap_object (k : Nat) (heap_Heap_Has : T_pi) (heap_Heap_made : T_p) (x0 : Option Addr) (x1 : Int) (σ : AMem) : RV1 :=
  (heap_Heap_made x0 σ).bind fun r1 => (toB r1.1).bind fun b2 => bif !b2 then (some (.int .i64 (5 : Int), r1.2)) else ((heap_Heap_Has x0 x1 r1.2).bind fun r3 => (toB r3.1).bind fun b4 => bif !b4 then (some (.int .i64 (4 : Int), r3.2)) else (some (.int .i64 (0 : Int), r3.2)))

noncomputable def b_side_Table_Set (k : Nat) (side_Table_check : T_pil) (side_Table_put : T_pii) (x0 : Option Addr) (x1 : Int) (x2 : Int) (σ : AMem) : RV1 :=
  allocK σ (.cells [.int .i64 x2] ty_int true) fun h1 s2 => (side_Table_check x0 x1 (some ⟨h1, 0, none⟩, 1, 1) s2).bind fun r3 => (toI .i64 r3.1).bind fun n4 => bif n4 != (0 : Int) then (some (.int .i64 n4, r3.2)) else ((side_Table_put x0 x1 x2 r3.2).bind fun r5 => r_0 r5.1 (some (.int .i64 (0 : Int), r5.2)))

noncomputable def b_heap_Heap_wipe (k : Nat)  (x0 : Option Addr) (x1 : Int) (x2 : Int) (σ : AMem) : RV1 :=
  x0.bind fun a1 => (ldS σ a1.block (a1.off + 1)).bind fun l2 => (sliceD ty_int 1 (l2.1, l2.2.1, l2.2.2) (some (.int .i64 x1)) (some (.int .i64 (w64 (x1 + x2)))) none σ).bind fun l3 => (if l3.2.1 = 0 then some σ else l3.1.bind fun a5 => stN σ a5.block a5.off (rep l3.2.1 [.int .i64 (0 : Int)])).bind fun s4 => some (.tuple #[], s4)

noncomputable def b_heap_Heap_size (k : Nat) (heap_Words : T_iii) (heap_shape : T_i) (x0 : Option Addr) (x1 : Int) (σ : AMem) : RV1 :=
  x0.bind fun a1 => (ldS σ a1.block (a1.off + 1)).bind fun l2 => if 0 ≤ (w64 (x1 + (1 : Int))) ∧ (w64 (x1 + (1 : Int))) < (l2.2.1 : Nat) then l2.1.bind fun a3 => (ldI .i64 σ a3.block (a3.off + (w64 (x1 + (1 : Int))).toNat * 1)).bind fun n4 => (heap_shape n4 σ).bind fun r5 => a_iii r5.1 fun n6 n7 n8 => (heap_Words n6 n7 n8 r5.2).bind fun r9 => (toI .i64 r9.1).bind fun n10 => some (.int .i64 n10, r9.2) else none

noncomputable def b_slices_Contains_int (k : Nat) (slices_Index_int : T_li) (x0 : Option Addr × Nat × Nat) (x1 : Int) (σ : AMem) : RV1 :=
  (slices_Index_int (x0.1, x0.2.1, x0.2.2) x1 σ).bind fun r1 => (toI .i64 r1.1).bind fun n2 => some (.bool (decide (n2 ≥ (0 : Int))), r1.2)

noncomputable def b_heap_Heap_claim_l0 (k n : Nat) (heap_Heap_claim_l0 : L_pinii) (p0 : Option Addr) (i1 : Int) (h2 : Nat) (i3 : Int) (x54 : Int) (σ : AMem) : Option LOut :=
  bif decide (x54 < i3) then (p0.bind fun a22 => (ldS σ a22.block (a22.off + 0)).bind fun l23 => (ldI .i64 σ h2 0).bind fun n24 => (ldI .i64 σ h2 (0 + 1)).bind fun n25 => if 0 ≤ (w64 (i1 + x54)) ∧ (w64 (i1 + x54)) < (l23.2.1 : Nat) then l23.1.bind fun a26 => (stN σ a26.block (a26.off + (w64 (i1 + x54)).toNat * 2) [.int .i64 n24, .int .i64 n25]).bind fun s27 => heap_Heap_claim_l0 n p0 i1 h2 i3 (w64 (x54 + (1 : Int))) s27 else none) else (some (.exit 1, [], σ))

noncomputable def b_heap_Heap_claim (k : Nat) (heap_Heap_claim_l0 : L_pinii) (heap_Heap_made : T_p) (heap_Heap_there : T_pi) (heap_space : T_i) (slices_ContainsFunc_heap_block : T_lv) (x0 : Option Addr) (x1 : Int) (x2 : Int) (x3_0 : Int) (x3_1 : Int) (x4_0 : Int) (x4_1 : Int) (σ : AMem) : RV1 :=
  allocK σ (.cells [.int .i64 x3_0, .int .i64 x3_1] ty_heap_block true) fun h1 s2 => allocK s2 (.cells [.int .i64 x4_0, .int .i64 x4_1] ty_heap_block true) fun h3 s4 => (heap_Heap_made x0 s4).bind fun r5 => (toB r5.1).bind fun b6 => bif !b6 then (some (.int .i64 (5 : Int), r5.2)) else ((heap_Heap_there x0 x1 r5.2).bind fun r7 => (toB r7.1).bind fun b8 => (bif !b8 then some (true, r7.2) else some (decide (x2 < (1 : Int)), r7.2)).bind fun r9 => (bif r9.1 then some (true, r9.2) else x0.bind fun a10 => (ldS r9.2 a10.block (a10.off + 0)).bind fun l11 => some (decide (x2 > (w64 (((l11.2.1 : Nat) : Int) - x1))), r9.2)).bind fun r12 => (bif r12.1 then some (true, r12.2) else (ldI .i64 r12.2 h1 (0 + 1)).bind fun n13 => (heap_space n13 r12.2).bind fun r14 => (toB r14.1).bind fun b15 => some (!b15, r14.2)).bind fun r16 => bif r16.1 then (some (.int .i64 (1 : Int), r16.2)) else (x0.bind fun a17 => (ldS r16.2 a17.block (a17.off + 0)).bind fun l18 => (sliceD ty_heap_block 2 (l18.1, l18.2.1, l18.2.2) (some (.int .i64 x1)) (some (.int .i64 (w64 (x1 + x2)))) none r16.2).bind fun l19 => (slices_ContainsFunc_heap_block (l19.1, l19.2.1, l19.2.2) (.func (.func 38) #[] #[]) r16.2).bind fun r20 => (toB r20.1).bind fun b21 => bif b21 then (some (.int .i64 (8 : Int), r20.2)) else ((heap_Heap_claim_l0 k x0 x1 h3 x2 (0 : Int) r20.2).bind fun r28 => if r28.1 = .exit 1 then (x0.bind fun a29 => (ldS r28.2.2 a29.block (a29.off + 0)).bind fun l30 => (ldI .i64 r28.2.2 h1 0).bind fun n31 => (ldI .i64 r28.2.2 h1 (0 + 1)).bind fun n32 => if 0 ≤ x1 ∧ x1 < (l30.2.1 : Nat) then l30.1.bind fun a33 => (stN r28.2.2 a33.block (a33.off + x1.toNat * 2) [.int .i64 n31, .int .i64 n32]).bind fun s34 => some (.int .i64 (0 : Int), s34) else none) else none)))

noncomputable def b_heap_Heap_made (k : Nat)  (x0 : Option Addr) (σ : AMem) : RV1 :=
  (eqA P pt_heap_Heap (.pointer x0) (.pointer none)).bind fun e1 => (bif !e1 then x0.bind fun a2 => (ldS σ a2.block (a2.off + 0)).bind fun l3 => some (decide (((l3.2.1 : Nat) : Int) > (0 : Int)), σ) else some (false, σ)).bind fun r4 => some (.bool r4.1, r4.2)

noncomputable def b_heap_Heap_fits_l0 (k n : Nat) (heap_Heap_Find : T_pi) (heap_Heap_fits_l0 : L_piiii) (p0 : Option Addr) (i1 : Int) (i2 : Int) (i3 : Int) (x10 : Int) (σ : AMem) : Option LOut :=
  bif decide (x10 < (w64 (i1 + i2))) then ((heap_Heap_Find p0 x10 σ).bind fun r19 => r_ii r19.1 fun n20 n21 => (bif n21 == (0 : Int) then some (n20 != i3, r19.2) else some (false, r19.2)).bind fun r22 => bif r22.1 then (some (.ret, [.int .i64 (8 : Int)], r22.2)) else (heap_Heap_fits_l0 n p0 i1 i2 i3 (w64 (x10 + (2 : Int))) r22.2)) else (some (.exit 0, [], σ))

noncomputable def b_heap_Heap_fits (k : Nat) (heap_Heap_fits_l0 : L_piiii) (heap_Heap_span : T_pi) (x0 : Option Addr) (x1 : Int) (x2 : Int) (x3 : Int) (σ : AMem) : RV1 :=
  (bif decide (x1 < (0 : Int)) then some (true, σ) else x0.bind fun a1 => (ldS σ a1.block (a1.off + 1)).bind fun l2 => some (decide (x1 ≥ ((l2.2.1 : Nat) : Int)), σ)).bind fun r3 => (bif r3.1 then some (true, r3.2) else if (2 : Int) = 0 then none else some ((x1.tmod (2 : Int)) != (0 : Int), r3.2)).bind fun r4 => bif r4.1 then (some (.int .i64 (1 : Int), r4.2)) else (if (64 : Int) = 0 then none else (bif decide (x2 ≤ (32 : Int)) then (x0.bind fun a5 => (ldS r4.2 a5.block (a5.off + 0)).bind fun l6 => if 0 ≤ (w64 (x1.tdiv (64 : Int))) ∧ (w64 (x1.tdiv (64 : Int))) < (l6.2.1 : Nat) then l6.1.bind fun a7 => (ldI .i64 r4.2 a7.block (a7.off + (w64 (x1.tdiv (64 : Int))).toNat * 2 + 0)).bind fun n8 => (bif n8 != (1 : Int) then some (true, r4.2) else if (64 : Int) = 0 then none else some ((w64 ((w64 ((w64 (x1 + x2)) - (1 : Int))).tdiv (64 : Int))) != (w64 (x1.tdiv (64 : Int))), r4.2)).bind fun r9 => bif r9.1 then (some (.ret, [.int .i64 (5 : Int)], r9.2)) else (some (.normal, [], r9.2)) else none) else (x0.bind fun a10 => (ldS r4.2 a10.block (a10.off + 0)).bind fun l11 => if 0 ≤ (w64 (x1.tdiv (64 : Int))) ∧ (w64 (x1.tdiv (64 : Int))) < (l11.2.1 : Nat) then l11.1.bind fun a12 => (ldI .i64 r4.2 a12.block (a12.off + (w64 (x1.tdiv (64 : Int))).toNat * 2 + 0)).bind fun n13 => (bif n13 != (2 : Int) then some (true, r4.2) else if (64 : Int) = 0 then none else some ((x1.tmod (64 : Int)) != (0 : Int), r4.2)).bind fun r14 => (bif r14.1 then some (true, r14.2) else (heap_Heap_span x0 (w64 (x1.tdiv (64 : Int))) r14.2).bind fun r15 => (toI .i64 r15.1).bind fun n16 => if (64 : Int) = 0 then none else some (n16 != (w64 ((w64 ((w64 (x2 + (64 : Int))) - (1 : Int))).tdiv (64 : Int))), r15.2)).bind fun r17 => bif r17.1 then (some (.ret, [.int .i64 (5 : Int)], r17.2)) else (some (.normal, [], r17.2)) else none) : Option LOut).bind fun r18 => if r18.1 = .normal then ((heap_Heap_fits_l0 k x0 x1 x2 x3 x1 r18.2.2).bind fun r23 => if r23.1 = .exit 0 then (some (.int .i64 (0 : Int), r23.2.2)) else if r23.1 = .ret then (u_i r23.2.1 fun n24 => some (.int .i64 n24, r23.2.2)) else none) else if r18.1 = .ret then (u_i r18.2.1 fun n25 => some (.int .i64 n25, r18.2.2)) else none)

noncomputable def b_heap_number (k : Nat)  (x0_0 : Int) (x0_1 : Int) (x0_2 : Int) (σ : AMem) : RV1 :=
  allocK σ (.cells [.int .i64 x0_0, .int .i64 x0_1, .int .i64 x0_2] ty_api_Shape true) fun h1 s2 => (ldI .i64 s2 h1 (0 + 0)).bind fun n3 => (ldI .i64 s2 h1 (0 + 1)).bind fun n4 => (ldI .i64 s2 h1 (0 + 2)).bind fun n5 => some (.int .i64 (w64 ((w64 (n3 + (w64 ((16 : Int) * n4)))) + (w64 ((4096 : Int) * n5)))), s2)

noncomputable def b_heap_Heap_ClaimLarge (k : Nat) (heap_Heap_claim : T_piiiiii) (x0 : Option Addr) (x1 : Int) (x2 : Int) (x3 : Int) (σ : AMem) : RV1 :=
  (heap_Heap_claim x0 x1 x2 (2 : Int) x3 (3 : Int) x3 σ).bind fun r1 => (toI .i64 r1.1).bind fun n2 => some (.int .i64 n2, r1.2)

noncomputable def b_heap_Heap_Has (k : Nat) (heap_Heap_made : T_p) (side_Table_Get : T_pi) (x0 : Option Addr) (x1 : Int) (σ : AMem) : RV1 :=
  (heap_Heap_made x0 σ).bind fun r1 => (toB r1.1).bind fun b2 => (bif b2 then some (decide (x1 ≥ (0 : Int)), r1.2) else some (false, r1.2)).bind fun r3 => (bif r3.1 then if (2 : Int) = 0 then none else some ((x1.tmod (2 : Int)) == (0 : Int), r3.2) else some (false, r3.2)).bind fun r4 => (bif r4.1 then x0.bind fun a5 => (ldP r4.2 a5.block (a5.off + 2)).bind fun p6 => if (2 : Int) = 0 then none else (side_Table_Get p6 (w64 (x1.tdiv (2 : Int))) r4.2).bind fun r7 => (toI .i64 r7.1).bind fun n8 => some (n8 == (1 : Int), r7.2) else some (false, r4.2)).bind fun r9 => some (.bool r9.1, r9.2)

noncomputable def b_side_Table_check (k : Nat) (side_Table_made : T_p) (side_Table_there : T_pi) (slices_ContainsFunc_int : T_lv) (x0 : Option Addr) (x1 : Int) (x2 : Option Addr × Nat × Nat) (σ : AMem) : RV1 :=
  allocK σ (.cells [.pointer x0] pt_side_Table true) fun h1 s2 => (ldP s2 h1 0).bind fun p3 => (side_Table_made p3 s2).bind fun r4 => (toB r4.1).bind fun b5 => bif !b5 then (some (.int .i64 (5 : Int), r4.2)) else ((ldP r4.2 h1 0).bind fun p6 => (side_Table_there p6 x1 r4.2).bind fun r7 => (toB r7.1).bind fun b8 => (bif !b8 then some (true, r7.2) else (slices_ContainsFunc_int (x2.1, x2.2.1, x2.2.2) (.func (.func 45) #[] #[.pointer (some ⟨h1, 0, none⟩)]) r7.2).bind fun r9 => (toB r9.1).bind fun b10 => some (b10, r9.2)).bind fun r11 => bif r11.1 then (some (.int .i64 (1 : Int), r11.2)) else (some (.int .i64 (0 : Int), r11.2)))

noncomputable def b_side_Table_put (k : Nat) (side_Table_most : T_p) (x0 : Option Addr) (x1 : Int) (x2 : Int) (σ : AMem) : RV1 :=
  x0.bind fun a1 => (ldI .i64 σ a1.block (a1.off + 1)).bind fun n2 => x0.bind fun a3 => (ldS σ a3.block (a3.off + 2)).bind fun l4 => if (64 : Int) = 0 then none else if 0 ≤ (w64 ((w64 (x1 * n2)).tdiv (64 : Int))) ∧ (w64 ((w64 (x1 * n2)).tdiv (64 : Int))) < (l4.2.1 : Nat) then l4.1.bind fun a5 => (ldI .u64 σ a5.block (a5.off + (w64 ((w64 (x1 * n2)).tdiv (64 : Int))).toNat * 1)).bind fun n6 => (side_Table_most x0 σ).bind fun r7 => (toI .i64 r7.1).bind fun n8 => if (64 : Int) = 0 then none else if ((w64 (x1 * n2)).tmod (64 : Int)) < 0 then none else if (64 : Int) = 0 then none else if ((w64 (x1 * n2)).tmod (64 : Int)) < 0 then none else (st1 r7.2 a5.block (a5.off + (w64 ((w64 (x1 * n2)).tdiv (64 : Int))).toNat * 1) (.int .u64 (u64 ((BitVec.ofInt 64 (u64 ((BitVec.ofInt 64 n6 &&& ~~~ (BitVec.ofInt 64 (u64 ((u64 (n8)) * 2 ^ (min ((w64 (x1 * n2)).tmod (64 : Int)).toNat 64))))).toNat)) ||| BitVec.ofInt 64 (u64 ((u64 (x2)) * 2 ^ (min ((w64 (x1 * n2)).tmod (64 : Int)).toNat 64)))).toNat)))).bind fun s9 => some (.tuple #[], s9) else none

noncomputable def b_heap_shape (k : Nat)  (x0 : Int) (σ : AMem) : RV1 :=
  allocK σ (.cells [.int .i64 (0 : Int), .int .i64 (0 : Int), .int .i64 (0 : Int)] ty_api_Shape true) fun h1 s2 => if (16 : Int) = 0 then none else if (4096 : Int) = 0 then none else if (16 : Int) = 0 then none else if (4096 : Int) = 0 then none else (stN s2 h1 0 [.int .i64 (x0.tmod (16 : Int)), .int .i64 (w64 ((x0.tmod (4096 : Int)).tdiv (16 : Int))), .int .i64 (w64 (x0.tdiv (4096 : Int)))]).bind fun s3 => (((ldN s3 h1 0 3).bind fun v4 => some (.agg v4.toArray)).bind fun v5 => some [v5]).bind fun vs6 => some (resOf vs6, s3)

noncomputable def b_slices_Index_int_l0 (k n : Nat) (slices_Index_int_l0 : L_pnniii) (p0 : Option Addr) (c1 : Nat) (c2 : Nat) (i3 : Int) (i4 : Int) (x8 : Int) (σ : AMem) : Option LOut :=
  bif decide (x8 < i4) then (if 0 ≤ x8 ∧ x8 < (c1 : Nat) then p0.bind fun a1 => (ldI .i64 σ a1.block (a1.off + x8.toNat * 1)).bind fun n2 => bif i3 == n2 then (some (.ret, [.int .i64 x8], σ)) else (slices_Index_int_l0 n p0 c1 c2 i3 i4 (w64 (x8 + (1 : Int))) σ) else none) else (some (.exit 0, [], σ))

noncomputable def b_slices_Index_int (k : Nat) (slices_Index_int_l0 : L_pnniii) (x0 : Option Addr × Nat × Nat) (x1 : Int) (σ : AMem) : RV1 :=
  (slices_Index_int_l0 k x0.1 x0.2.1 x0.2.2 x1 ((x0.2.1 : Nat) : Int) (0 : Int) σ).bind fun r3 => if r3.1 = .exit 0 then (some (.int .i64 (-1 : Int), r3.2.2)) else if r3.1 = .ret then (u_i r3.2.1 fun n4 => some (.int .i64 n4, r3.2.2)) else none

noncomputable def b_heap_Heap_there (k : Nat) (heap_Heap_made : T_p) (x0 : Option Addr) (x1 : Int) (σ : AMem) : RV1 :=
  (heap_Heap_made x0 σ).bind fun r1 => (toB r1.1).bind fun b2 => (bif b2 then some (decide (x1 ≥ (1 : Int)), r1.2) else some (false, r1.2)).bind fun r3 => (bif r3.1 then x0.bind fun a4 => (ldS r3.2 a4.block (a4.off + 0)).bind fun l5 => some (decide (x1 < ((l5.2.1 : Nat) : Int)), r3.2) else some (false, r3.2)).bind fun r6 => some (.bool r6.1, r6.2)

noncomputable def b_heap_space (k : Nat)  (x0 : Int) (σ : AMem) : RV1 :=
  (bif decide (x0 ≥ (0 : Int)) then some (decide (x0 < (8 : Int)), σ) else some (false, σ)).bind fun r1 => some (.bool r1.1, r1.2)

noncomputable def b_slices_ContainsFunc_heap_block (k : Nat) (slices_IndexFunc_heap_block : T_lv) (x0 : Option Addr × Nat × Nat) (x1 : Value) (σ : AMem) : RV1 :=
  (slices_IndexFunc_heap_block (x0.1, x0.2.1, x0.2.2) (x1) σ).bind fun r1 => (toI .i64 r1.1).bind fun n2 => some (.bool (decide (n2 ≥ (0 : Int))), r1.2)

noncomputable def b_heap_Heap_claim_c1 (k : Nat)  (x0_0 : Int) (x0_1 : Int) (σ : AMem) : RV1 :=
  allocK σ (.cells [.int .i64 x0_0, .int .i64 x0_1] ty_heap_block true) fun h1 s2 => (ldI .i64 s2 h1 0).bind fun n3 => (ldI .i64 s2 h1 (0 + 1)).bind fun n4 => (eqA P ty_heap_block (.agg #[.int .i64 n3, .int .i64 n4]) (.agg #[.int .i64 (0 : Int), .int .i64 (0 : Int)])).bind fun e5 => some (.bool (!e5), s2)

noncomputable def b_heap_Heap_span_l0 (k n : Nat) (heap_Heap_span_l0 : L_pii) (p0 : Option Addr) (i1 : Int) (x5 : Int) (σ : AMem) : Option LOut :=
  p0.bind fun a1 => (ldS σ a1.block (a1.off + 0)).bind fun l2 => if 0 ≤ i1 ∧ i1 < (l2.2.1 : Nat) then l2.1.bind fun a3 => (ldI .i64 σ a3.block (a3.off + i1.toNat * 2 + 0)).bind fun n4 => (bif n4 == (2 : Int) then p0.bind fun a5 => (ldS σ a5.block (a5.off + 0)).bind fun l6 => some (decide ((w64 (i1 + x5)) < ((l6.2.1 : Nat) : Int)), σ) else some (false, σ)).bind fun r7 => (bif r7.1 then p0.bind fun a8 => (ldS r7.2 a8.block (a8.off + 0)).bind fun l9 => if 0 ≤ (w64 (i1 + x5)) ∧ (w64 (i1 + x5)) < (l9.2.1 : Nat) then l9.1.bind fun a10 => (ldI .i64 r7.2 a10.block (a10.off + (w64 (i1 + x5)).toNat * 2 + 0)).bind fun n11 => some (n11 == (3 : Int), r7.2) else none else some (false, r7.2)).bind fun r12 => bif r12.1 then (heap_Heap_span_l0 n p0 i1 (w64 (x5 + (1 : Int))) r12.2) else (some (.exit 0, [.int .i64 x5], r12.2)) else none

noncomputable def b_heap_Heap_span (k : Nat) (heap_Heap_span_l0 : L_pii) (x0 : Option Addr) (x1 : Int) (σ : AMem) : RV1 :=
  (heap_Heap_span_l0 k x0 x1 (1 : Int) σ).bind fun r13 => if r13.1 = .exit 0 then (u_i r13.2.1 fun n14 => some (.int .i64 n14, r13.2.2)) else none

noncomputable def b_heap_Heap_Find (k : Nat) (heap_Heap_made : T_p) (heap_Heap_size : T_pi) (side_Table_Last : T_pii) (x0 : Option Addr) (x1 : Int) (σ : AMem) : RV1 :=
  (heap_Heap_made x0 σ).bind fun r1 => (toB r1.1).bind fun b2 => bif !b2 then (some (.tuple #[.int .i64 (0 : Int), .int .i64 (5 : Int)], r1.2)) else ((bif decide (x1 < (0 : Int)) then some (true, r1.2) else x0.bind fun a3 => (ldS r1.2 a3.block (a3.off + 1)).bind fun l4 => some (decide (x1 ≥ ((l4.2.1 : Nat) : Int)), r1.2)).bind fun r5 => bif r5.1 then (some (.tuple #[.int .i64 (0 : Int), .int .i64 (4 : Int)], r5.2)) else (x0.bind fun a6 => (ldP r5.2 a6.block (a6.off + 2)).bind fun p7 => if (2 : Int) = 0 then none else (side_Table_Last p7 (w64 ((w64 (x1.tdiv (2 : Int))) + (1 : Int))) (1 : Int) r5.2).bind fun r8 => r_ii r8.1 fun n9 n10 => (bif n10 != (0 : Int) then some (true, r8.2) else (heap_Heap_size x0 (w64 ((2 : Int) * n9)) r8.2).bind fun r11 => (toI .i64 r11.1).bind fun n12 => some (decide (x1 ≥ (w64 ((w64 ((2 : Int) * n9)) + n12))), r11.2)).bind fun r13 => bif r13.1 then (some (.tuple #[.int .i64 (0 : Int), .int .i64 (4 : Int)], r13.2)) else (some (.tuple #[.int .i64 (w64 ((2 : Int) * n9)), .int .i64 (0 : Int)], r13.2))))

noncomputable def b_side_Table_Get (k : Nat) (side_Table_get : T_pi) (side_Table_there : T_pi) (x0 : Option Addr) (x1 : Int) (σ : AMem) : RV1 :=
  (side_Table_there x0 x1 σ).bind fun r1 => (toB r1.1).bind fun b2 => bif !b2 then (some (.int .i64 (-1 : Int), r1.2)) else ((side_Table_get x0 x1 r1.2).bind fun r3 => (toI .i64 r3.1).bind fun n4 => some (.int .i64 n4, r3.2))

noncomputable def b_side_Table_made (k : Nat)  (x0 : Option Addr) (σ : AMem) : RV1 :=
  (eqA P pt_side_Table (.pointer x0) (.pointer none)).bind fun e1 => (bif !e1 then x0.bind fun a2 => (ldI .i64 σ a2.block (a2.off + 0)).bind fun n3 => some (decide (n3 > (0 : Int)), σ) else some (false, σ)).bind fun r4 => some (.bool r4.1, r4.2)

noncomputable def b_side_Table_there (k : Nat) (side_Table_made : T_p) (x0 : Option Addr) (x1 : Int) (σ : AMem) : RV1 :=
  (side_Table_made x0 σ).bind fun r1 => (toB r1.1).bind fun b2 => (bif b2 then some (decide (x1 ≥ (0 : Int)), r1.2) else some (false, r1.2)).bind fun r3 => (bif r3.1 then x0.bind fun a4 => (ldI .i64 r3.2 a4.block (a4.off + 0)).bind fun n5 => some (decide (x1 < n5), r3.2) else some (false, r3.2)).bind fun r6 => some (.bool r6.1, r6.2)

noncomputable def b_slices_ContainsFunc_int (k : Nat) (slices_IndexFunc_int : T_lv) (x0 : Option Addr × Nat × Nat) (x1 : Value) (σ : AMem) : RV1 :=
  (slices_IndexFunc_int (x0.1, x0.2.1, x0.2.2) (x1) σ).bind fun r1 => (toI .i64 r1.1).bind fun n2 => some (.bool (decide (n2 ≥ (0 : Int))), r1.2)

noncomputable def b_side_Table_check_c1 (k : Nat) (side_Table_value : T_pi) (x0 : Int) (c0 : Option Addr) (σ : AMem) : RV1 :=
  c0.bind fun a1 => (ldP σ a1.block a1.off).bind fun p2 => (side_Table_value p2 x0 σ).bind fun r3 => (toB r3.1).bind fun b4 => some (.bool (!b4), r3.2)

noncomputable def b_side_Table_value (k : Nat) (side_Table_most : T_p) (x0 : Option Addr) (x1 : Int) (σ : AMem) : RV1 :=
  (bif decide (x1 ≥ (0 : Int)) then (side_Table_most x0 σ).bind fun r1 => (toI .i64 r1.1).bind fun n2 => some (decide (x1 ≤ n2), r1.2) else some (false, σ)).bind fun r3 => some (.bool r3.1, r3.2)

noncomputable def b_side_Table_most (k : Nat)  (x0 : Option Addr) (σ : AMem) : RV1 :=
  x0.bind fun a1 => (ldI .i64 σ a1.block (a1.off + 1)).bind fun n2 => if n2 < 0 then none else some (.int .i64 (w64 ((w64 ((1 : Int) * 2 ^ (min n2.toNat 64))) - (1 : Int))), σ)

noncomputable def b_slices_IndexFunc_heap_block_l0 (k n : Nat) (callV_ii_t : TV) (slices_IndexFunc_heap_block_l0 : L_pnnvii) (p0 : Option Addr) (c1 : Nat) (c2 : Nat) (v3 : Value) (i4 : Int) (x8 : Int) (σ : AMem) : Option LOut :=
  bif decide (x8 < i4) then (if 0 ≤ x8 ∧ x8 < (c1 : Nat) then p0.bind fun a1 => (ldI .i64 σ a1.block (a1.off + x8.toNat * 2)).bind fun n2 => (ldI .i64 σ a1.block (a1.off + x8.toNat * 2 + 1)).bind fun n3 => (callV_ii_t v3 [.agg #[.int .i64 n2, .int .i64 n3]] σ).bind fun r4 => (toB r4.1).bind fun b5 => bif b5 then (some (.ret, [.int .i64 x8], r4.2)) else (slices_IndexFunc_heap_block_l0 n p0 c1 c2 v3 i4 (w64 (x8 + (1 : Int))) r4.2) else none) else (some (.exit 0, [], σ))

noncomputable def b_slices_IndexFunc_heap_block (k : Nat) (slices_IndexFunc_heap_block_l0 : L_pnnvii) (x0 : Option Addr × Nat × Nat) (x1 : Value) (σ : AMem) : RV1 :=
  (slices_IndexFunc_heap_block_l0 k x0.1 x0.2.1 x0.2.2 x1 ((x0.2.1 : Nat) : Int) (0 : Int) σ).bind fun r6 => if r6.1 = .exit 0 then (some (.int .i64 (-1 : Int), r6.2.2)) else if r6.1 = .ret then (u_i r6.2.1 fun n7 => some (.int .i64 n7, r6.2.2)) else none

noncomputable def b_side_Table_Last_l0 (k n : Nat) (side_Table_Last_l0 : L_pii) (side_Table_get : T_pi) (p0 : Option Addr) (i1 : Int) (x8 : Int) (σ : AMem) : Option LOut :=
  bif decide (x8 ≥ (0 : Int)) then ((side_Table_get p0 x8 σ).bind fun r5 => (toI .i64 r5.1).bind fun n6 => bif n6 == i1 then (some (.ret, [.int .i64 x8, .int .i64 (0 : Int)], r5.2)) else (side_Table_Last_l0 n p0 i1 (w64 (x8 - (1 : Int))) r5.2)) else (some (.exit 0, [], σ))

noncomputable def b_side_Table_Last (k : Nat) (side_Table_Last_l0 : L_pii) (side_Table_made : T_p) (x0 : Option Addr) (x1 : Int) (x2 : Int) (σ : AMem) : RV1 :=
  (side_Table_made x0 σ).bind fun r1 => (toB r1.1).bind fun b2 => bif !b2 then (some (.tuple #[.int .i64 (0 : Int), .int .i64 (5 : Int)], r1.2)) else (x0.bind fun a3 => (ldI .i64 r1.2 a3.block (a3.off + 0)).bind fun n4 => (side_Table_Last_l0 k x0 x2 (w64 ((if n4 < (if (0 : Int) > x1 then (0 : Int) else x1) then n4 else (if (0 : Int) > x1 then (0 : Int) else x1)) - (1 : Int))) r1.2).bind fun r7 => if r7.1 = .exit 0 then (some (.tuple #[.int .i64 (0 : Int), .int .i64 (4 : Int)], r7.2.2)) else if r7.1 = .ret then (u_ii r7.2.1 fun n8 n9 => some (.tuple #[.int .i64 n8, .int .i64 n9], r7.2.2)) else none)

noncomputable def b_side_Table_get (k : Nat) (side_Table_most : T_p) (x0 : Option Addr) (x1 : Int) (σ : AMem) : RV1 :=
  x0.bind fun a1 => (ldI .i64 σ a1.block (a1.off + 1)).bind fun n2 => x0.bind fun a3 => (ldS σ a3.block (a3.off + 2)).bind fun l4 => if (64 : Int) = 0 then none else if 0 ≤ (w64 ((w64 (x1 * n2)).tdiv (64 : Int))) ∧ (w64 ((w64 (x1 * n2)).tdiv (64 : Int))) < (l4.2.1 : Nat) then l4.1.bind fun a5 => (ldI .u64 σ a5.block (a5.off + (w64 ((w64 (x1 * n2)).tdiv (64 : Int))).toNat * 1)).bind fun n6 => if (64 : Int) = 0 then none else if ((w64 (x1 * n2)).tmod (64 : Int)) < 0 then none else (side_Table_most x0 σ).bind fun r7 => (toI .i64 r7.1).bind fun n8 => some (.int .i64 (w64 ((BitVec.ofInt 64 (w64 (n6.fdiv (2 ^ (min ((w64 (x1 * n2)).tmod (64 : Int)).toNat 64)))) &&& BitVec.ofInt 64 n8).toNat)), r7.2) else none

noncomputable def b_slices_IndexFunc_int_l0 (k n : Nat) (callV_i_t : TV) (slices_IndexFunc_int_l0 : L_pnnvii) (p0 : Option Addr) (c1 : Nat) (c2 : Nat) (v3 : Value) (i4 : Int) (x8 : Int) (σ : AMem) : Option LOut :=
  bif decide (x8 < i4) then (if 0 ≤ x8 ∧ x8 < (c1 : Nat) then p0.bind fun a1 => (ldI .i64 σ a1.block (a1.off + x8.toNat * 1)).bind fun n2 => (callV_i_t v3 [.int .i64 n2] σ).bind fun r3 => (toB r3.1).bind fun b4 => bif b4 then (some (.ret, [.int .i64 x8], r3.2)) else (slices_IndexFunc_int_l0 n p0 c1 c2 v3 i4 (w64 (x8 + (1 : Int))) r3.2) else none) else (some (.exit 0, [], σ))

noncomputable def b_slices_IndexFunc_int (k : Nat) (slices_IndexFunc_int_l0 : L_pnnvii) (x0 : Option Addr × Nat × Nat) (x1 : Value) (σ : AMem) : RV1 :=
  (slices_IndexFunc_int_l0 k x0.1 x0.2.1 x0.2.2 x1 ((x0.2.1 : Nat) : Int) (0 : Int) σ).bind fun r5 => if r5.1 = .exit 0 then (some (.int .i64 (-1 : Int), r5.2.2)) else if r5.1 = .ret then (u_i r5.2.1 fun n6 => some (.int .i64 n6, r5.2.2)) else none

noncomputable def b_alloc_first_place (k : Nat) (alloc_Allocator_gaps : T_pii) (alloc_Allocator_start : T_pl) (x1 : Option Addr) (x2 : Int) (σ : AMem) : RV1 :=
  allocK σ (.cells [] ty_alloc_first true) fun h1 s2 => (alloc_Allocator_gaps x1 (0 : Int) x2 s2).bind fun r3 => (toS r3.1).bind fun l4 => (alloc_Allocator_start x1 (l4.1, l4.2.1, l4.2.2) r3.2).bind fun r5 => r_it r5.1 fun n6 b7 => some (.tuple #[.int .i64 n6, .bool b7], r5.2)

noncomputable def b_alloc_Allocator_start (k : Nat) (alloc_Allocator_begin : T_p) (x0 : Option Addr) (x1 : Option Addr × Nat × Nat) (σ : AMem) : RV1 :=
  bif decide (((x1.2.1 : Nat) : Int) > (0 : Int)) then (if 0 ≤ (0 : Int) ∧ (0 : Int) < (x1.2.1 : Nat) then x1.1.bind fun a1 => (ldI .i64 σ a1.block (a1.off + (0 : Int).toNat * 2 + 0)).bind fun n2 => some (.tuple #[.int .i64 n2, .bool true], σ) else none) else ((alloc_Allocator_begin x0 σ).bind fun r3 => (toT r3.1).bind fun q4 => if q4.length = 2 then q4.head?.bind fun v5 => a_ii v5 fun n6 n7 => q4.tail.head?.bind fun v8 => (toB v8).bind fun b9 => allocK r3.2 (.cells [.int .i64 (0 : Int), .int .i64 (0 : Int)] ty_alloc_area true) fun h10 s11 => (stN s11 h10 0 [.int .i64 n6, .int .i64 n7]).bind fun s12 => (ldI .i64 s12 h10 (0 + 0)).bind fun n13 => some (.tuple #[.int .i64 n13, .bool b9], s12) else none)

noncomputable def b_alloc_Allocator_gaps_l1 (k n : Nat) (alloc_Allocator_gaps_l1 : L_iipnnili) (i0 : Int) (i1 : Int) (p2 : Option Addr) (c3 : Nat) (c4 : Nat) (i5 : Int) (x7 : Option Addr × Nat × Nat) (x27 : Int) (σ : AMem) : Option LOut :=
  bif decide (x27 < i5) then (if 0 ≤ x27 ∧ x27 < (c3 : Nat) then p2.bind fun a9 => (ldI .i64 σ a9.block (a9.off + x27.toNat * 2)).bind fun n10 => (ldI .i64 σ a9.block (a9.off + x27.toNat * 2 + 1)).bind fun n11 => allocK σ (.cells [.int .i64 (0 : Int), .int .i64 (0 : Int)] ty_api_Run true) fun h12 s13 => (stN s13 h12 0 [.int .i64 n10, .int .i64 n11]).bind fun s14 => (ldI .i64 s14 h12 (0 + 0)).bind fun n15 => (bif decide ((w64 (i0 - n15)) > (0 : Int)) then ((ldI .i64 s14 h12 (0 + 1)).bind fun n16 => (st1 s14 h12 (0 + 0) (.int .i64 i0)).bind fun s17 => (st1 s17 h12 (0 + 1) (.int .i64 (w64 (n16 - (w64 (i0 - n15)))))).bind fun s18 => some (.normal, [], s18)) else (some (.normal, [], s14)) : Option LOut).bind fun r19 => if r19.1 = .normal then ((ldI .i64 r19.2.2 h12 (0 + 1)).bind fun n20 => (bif decide (n20 ≥ i1) then ((ldI .i64 r19.2.2 h12 0).bind fun n21 => (ldI .i64 r19.2.2 h12 (0 + 1)).bind fun n22 => allocK r19.2.2 (.cells [.int .i64 n21, .int .i64 n22] ty_api_Run true) fun h23 s24 => (appendD P ty_api_Run (x7.1, x7.2.1, x7.2.2) (some ⟨h23, 0, none⟩, 1, 1) s24).bind fun r25 => some (.normal, [.slice r25.1.1 r25.1.2.1 r25.1.2.2], r25.2)) else (some (.normal, [.slice x7.1 x7.2.1 x7.2.2], r19.2.2)) : Option LOut).bind fun r26 => if r26.1 = .normal then (u_l r26.2.1 fun l27 => alloc_Allocator_gaps_l1 n i0 i1 p2 c3 c4 i5 (l27.1, l27.2.1, l27.2.2) (w64 (x27 + (1 : Int))) r26.2.2) else none) else none else none) else (some (.exit 2, [.slice x7.1 x7.2.1 x7.2.2], σ))

noncomputable def b_alloc_Allocator_gaps_l0 (k n : Nat) (alloc_Allocator_gaps_l0 : L_piipnnili) (alloc_Allocator_gaps_l1 : L_iipnnili) (heap_Heap_Gaps : T_pi) (p0 : Option Addr) (i1 : Int) (i2 : Int) (p3 : Option Addr) (c4 : Nat) (c5 : Nat) (i6 : Int) (x7 : Option Addr × Nat × Nat) (x16 : Int) (σ : AMem) : Option LOut :=
  bif decide (x16 < i6) then (if 0 ≤ x16 ∧ x16 < (c4 : Nat) then p3.bind fun a3 => (ldI .i64 σ a3.block (a3.off + x16.toNat * 1)).bind fun n4 => p0.bind fun a5 => (ldP σ a5.block (a5.off + 0)).bind fun p6 => (heap_Heap_Gaps p6 n4 σ).bind fun r7 => (toS r7.1).bind fun l8 => (alloc_Allocator_gaps_l1 k i1 i2 l8.1 l8.2.1 l8.2.2 ((l8.2.1 : Nat) : Int) (x7.1, x7.2.1, x7.2.2) (0 : Int) r7.2).bind fun r28 => if r28.1 = .exit 2 then (u_l r28.2.1 fun l29 => alloc_Allocator_gaps_l0 n p0 i1 i2 p3 c4 c5 i6 (l29.1, l29.2.1, l29.2.2) (w64 (x16 + (1 : Int))) r28.2.2) else none else none) else (some (.exit 0, [.slice x7.1 x7.2.1 x7.2.2], σ))

noncomputable def b_alloc_Allocator_gaps (k : Nat) (alloc_Allocator_blocks : T_p) (alloc_Allocator_gaps_l0 : L_piipnnili) (x0 : Option Addr) (x1 : Int) (x2 : Int) (σ : AMem) : RV1 :=
  (alloc_Allocator_blocks x0 σ).bind fun r1 => (toS r1.1).bind fun l2 => (alloc_Allocator_gaps_l0 k x0 x1 x2 l2.1 l2.2.1 l2.2.2 ((l2.2.1 : Nat) : Int) (none, 0, 0) (0 : Int) r1.2).bind fun r30 => if r30.1 = .exit 0 then (u_l r30.2.1 fun l31 => some (.slice l31.1 l31.2.1 l31.2.2, r30.2.2)) else none

noncomputable def b_alloc_Allocator_begin_l0 (k n : Nat) (alloc_Allocator_begin_l0 : L_pni) (heap_Heap_Blocks : T_p) (heap_Heap_Claim : T_pii) (p0 : Option Addr) (h1 : Nat) (x4 : Int) (σ : AMem) : Option LOut :=
  p0.bind fun a3 => (ldP σ a3.block (a3.off + 0)).bind fun p4 => (heap_Heap_Blocks p4 σ).bind fun r5 => (toI .i64 r5.1).bind fun n6 => bif decide (x4 < n6) then (p0.bind fun a7 => (ldP r5.2 a7.block (a7.off + 0)).bind fun p8 => p0.bind fun a9 => (ldI .i64 r5.2 a9.block (a9.off + 1)).bind fun n10 => (heap_Heap_Claim p8 x4 n10 r5.2).bind fun r11 => (toI .i64 r11.1).bind fun n12 => bif n12 == (0 : Int) then ((stN r11.2 h1 0 [.int .i64 (w64 (x4 * (64 : Int))), .int .i64 (w64 ((w64 (x4 + (1 : Int))) * (64 : Int)))]).bind fun s13 => some (.ret, [.bool true], s13)) else (alloc_Allocator_begin_l0 n p0 h1 (w64 (x4 + (1 : Int))) r11.2)) else (some (.exit 0, [], r5.2))

noncomputable def b_alloc_Allocator_begin (k : Nat) (alloc_Allocator_begin_l0 : L_pni) (x0 : Option Addr) (σ : AMem) : RV1 :=
  allocK σ (.cells [.int .i64 (0 : Int), .int .i64 (0 : Int)] ty_alloc_area true) fun h1 s2 => (alloc_Allocator_begin_l0 k x0 h1 (1 : Int) s2).bind fun r14 => if r14.1 = .exit 0 then ((stN r14.2.2 h1 0 [.int .i64 (0 : Int), .int .i64 (0 : Int)]).bind fun s15 => (((ldN s15 h1 0 2).bind fun v16 => some (.agg v16.toArray)).bind fun v17 => some [v17, .bool false]).bind fun vs18 => some (resOf vs18, s15)) else if r14.1 = .ret then (u_t r14.2.1 fun b19 => (((ldN r14.2.2 h1 0 2).bind fun v20 => some (.agg v20.toArray)).bind fun v21 => some [v21, .bool b19]).bind fun vs22 => some (resOf vs22, r14.2.2)) else none

noncomputable def b_alloc_Allocator_blocks_l0 (k n : Nat) (alloc_Allocator_blocks_l0 : L_pili) (heap_Heap_Space : T_pi) (heap_Heap_State : T_pi) (p0 : Option Addr) (i1 : Int) (x3 : Option Addr × Nat × Nat) (x10 : Int) (σ : AMem) : Option LOut :=
  bif decide (x10 < i1) then (p0.bind fun a5 => (ldP σ a5.block (a5.off + 0)).bind fun p6 => (heap_Heap_State p6 x10 σ).bind fun r7 => (toI .i64 r7.1).bind fun n8 => (bif n8 == (1 : Int) then p0.bind fun a9 => (ldP r7.2 a9.block (a9.off + 0)).bind fun p10 => (heap_Heap_Space p10 x10 r7.2).bind fun r11 => (toI .i64 r11.1).bind fun n12 => p0.bind fun a13 => (ldI .i64 r11.2 a13.block (a13.off + 1)).bind fun n14 => some (n12 == n14, r11.2) else some (false, r7.2)).bind fun r15 => (bif r15.1 then (allocK r15.2 (.cells [.int .i64 x10] ty_int true) fun h16 s17 => (appendD P ty_int (x3.1, x3.2.1, x3.2.2) (some ⟨h16, 0, none⟩, 1, 1) s17).bind fun r18 => some (.normal, [.slice r18.1.1 r18.1.2.1 r18.1.2.2], r18.2)) else (some (.normal, [.slice x3.1 x3.2.1 x3.2.2], r15.2)) : Option LOut).bind fun r19 => if r19.1 = .normal then (u_l r19.2.1 fun l20 => alloc_Allocator_blocks_l0 n p0 i1 (l20.1, l20.2.1, l20.2.2) (w64 (x10 + (1 : Int))) r19.2.2) else none) else (some (.exit 0, [.slice x3.1 x3.2.1 x3.2.2], σ))

noncomputable def b_alloc_Allocator_blocks (k : Nat) (alloc_Allocator_blocks_l0 : L_pili) (heap_Heap_Blocks : T_p) (x0 : Option Addr) (σ : AMem) : RV1 :=
  x0.bind fun a1 => (ldP σ a1.block (a1.off + 0)).bind fun p2 => (heap_Heap_Blocks p2 σ).bind fun r3 => (toI .i64 r3.1).bind fun n4 => (alloc_Allocator_blocks_l0 k x0 n4 (none, 0, 0) (0 : Int) r3.2).bind fun r21 => if r21.1 = .exit 0 then (u_l r21.2.1 fun l22 => some (.slice l22.1 l22.2.1 l22.2.2, r21.2.2)) else none

noncomputable def b_heap_Heap_Gaps_l0 (k n : Nat) (heap_Heap_Gaps_c1 : T_ipp) (heap_Heap_Gaps_l0 : L_pnnpnnii) (heap_Heap_size : T_pi) (p0 : Option Addr) (h1 : Nat) (h2 : Nat) (p3 : Option Addr) (c4 : Nat) (c5 : Nat) (i6 : Int) (x21 : Int) (σ : AMem) : Option LOut :=
  bif decide (x21 < i6) then (if 0 ≤ x21 ∧ x21 < (c4 : Nat) then p3.bind fun a10 => (ldI .i64 σ a10.block (a10.off + x21.toNat * 1)).bind fun n11 => (heap_Heap_Gaps_c1 n11 (some ⟨h1, 0, none⟩) (some ⟨h2, 0, none⟩) σ).bind fun r12 => r_0 r12.1 ((heap_Heap_size p0 n11 r12.2).bind fun r13 => (toI .i64 r13.1).bind fun n14 => (st1 r13.2 h1 0 (.int .i64 (w64 (n11 + n14)))).bind fun s15 => heap_Heap_Gaps_l0 n p0 h1 h2 p3 c4 c5 i6 (w64 (x21 + (1 : Int))) s15) else none) else (some (.exit 0, [], σ))

noncomputable def b_heap_Heap_Gaps (k : Nat) (heap_Heap_Gaps_c1 : T_ipp) (heap_Heap_Gaps_l0 : L_pnnpnnii) (heap_Heap_Objects : T_pi) (heap_Heap_used : T_pi) (x0 : Option Addr) (x1 : Int) (σ : AMem) : RV1 :=
  (heap_Heap_used x0 x1 σ).bind fun r1 => (toB r1.1).bind fun b2 => bif !b2 then (some (.slice none 0 0, r1.2)) else (allocK r1.2 (.cells [.slice none 0 0] sl_api_Run true) fun h3 s4 => allocK s4 (.cells [.int .i64 (0 : Int)] ty_int true) fun h5 s6 => (st1 s6 h5 0 (.int .i64 (w64 (x1 * (64 : Int))))).bind fun s7 => (heap_Heap_Objects x0 x1 s7).bind fun r8 => (toS r8.1).bind fun l9 => (heap_Heap_Gaps_l0 k x0 h5 h3 l9.1 l9.2.1 l9.2.2 ((l9.2.1 : Nat) : Int) (0 : Int) r8.2).bind fun r16 => if r16.1 = .exit 0 then ((heap_Heap_Gaps_c1 (w64 ((w64 (x1 + (1 : Int))) * (64 : Int))) (some ⟨h5, 0, none⟩) (some ⟨h3, 0, none⟩) r16.2.2).bind fun r17 => r_0 r17.1 ((ldS r17.2 h3 0).bind fun l18 => some (.slice l18.1 l18.2.1 l18.2.2, r17.2))) else none)

noncomputable def b_heap_Heap_State (k : Nat) (heap_Heap_Blocks : T_p) (x0 : Option Addr) (x1 : Int) (σ : AMem) : RV1 :=
  (bif decide (x1 < (0 : Int)) then some (true, σ) else (heap_Heap_Blocks x0 σ).bind fun r1 => (toI .i64 r1.1).bind fun n2 => some (decide (x1 ≥ n2), r1.2)).bind fun r3 => bif r3.1 then (some (.int .i64 (-1 : Int), r3.2)) else (x0.bind fun a4 => (ldS r3.2 a4.block (a4.off + 0)).bind fun l5 => if 0 ≤ x1 ∧ x1 < (l5.2.1 : Nat) then l5.1.bind fun a6 => (ldI .i64 r3.2 a6.block (a6.off + x1.toNat * 2 + 0)).bind fun n7 => some (.int .i64 n7, r3.2) else none)

noncomputable def b_heap_Heap_used (k : Nat) (heap_Heap_there : T_pi) (x0 : Option Addr) (x1 : Int) (σ : AMem) : RV1 :=
  (heap_Heap_there x0 x1 σ).bind fun r1 => (toB r1.1).bind fun b2 => (bif b2 then x0.bind fun a3 => (ldS r1.2 a3.block (a3.off + 0)).bind fun l4 => if 0 ≤ x1 ∧ x1 < (l4.2.1 : Nat) then l4.1.bind fun a5 => (ldI .i64 r1.2 a5.block (a5.off + x1.toNat * 2 + 0)).bind fun n6 => some (n6 == (1 : Int), r1.2) else none else some (false, r1.2)).bind fun r7 => some (.bool r7.1, r7.2)

noncomputable def b_heap_Heap_Gaps_c1 (k : Nat)  (x0 : Int) (c0 : Option Addr) (c1 : Option Addr) (σ : AMem) : RV1 :=
  c0.bind fun a1 => (ldI .i64 σ a1.block a1.off).bind fun n2 => (bif decide (x0 > n2) then (c1.bind fun a3 => (ldS σ a3.block a3.off).bind fun l4 => c0.bind fun a5 => (ldI .i64 σ a5.block a5.off).bind fun n6 => c0.bind fun a7 => (ldI .i64 σ a7.block a7.off).bind fun n8 => allocK σ (.cells [.int .i64 n6, .int .i64 (w64 (x0 - n8))] ty_api_Run true) fun h9 s10 => (appendD P ty_api_Run (l4.1, l4.2.1, l4.2.2) (some ⟨h9, 0, none⟩, 1, 1) s10).bind fun r11 => c1.bind fun a12 => (st1 r11.2 a12.block a12.off (.slice r11.1.1 r11.1.2.1 r11.1.2.2)).bind fun s13 => some (.normal, [], s13)) else (some (.normal, [], σ)) : Option LOut).bind fun r14 => if r14.1 = .normal then (some (.tuple #[], r14.2.2)) else none

noncomputable def b_heap_Heap_Objects (k : Nat) (heap_Heap_between : T_pii) (heap_Heap_made : T_p) (x0 : Option Addr) (x1 : Int) (σ : AMem) : RV1 :=
  (heap_Heap_made x0 σ).bind fun r1 => (toB r1.1).bind fun b2 => (bif !b2 then some (true, r1.2) else some (decide (x1 < (0 : Int)), r1.2)).bind fun r3 => (bif r3.1 then some (true, r3.2) else x0.bind fun a4 => (ldS r3.2 a4.block (a4.off + 0)).bind fun l5 => some (decide (x1 ≥ ((l5.2.1 : Nat) : Int)), r3.2)).bind fun r6 => bif r6.1 then (some (.slice none 0 0, r6.2)) else ((heap_Heap_between x0 (w64 (x1 * (64 : Int))) (w64 ((w64 (x1 + (1 : Int))) * (64 : Int))) r6.2).bind fun r7 => (toS r7.1).bind fun l8 => some (.slice l8.1 l8.2.1 l8.2.2, r7.2))

noncomputable def b_heap_Heap_between_l0 (k n : Nat) (heap_Heap_between_l0 : L_pilii) (side_Table_Next : T_pii) (p0 : Option Addr) (i1 : Int) (x7 : Option Addr × Nat × Nat) (x8 : Int) (x9 : Int) (σ : AMem) : Option LOut :=
  (bif x9 == (0 : Int) then some (decide ((w64 ((2 : Int) * x8)) < i1), σ) else some (false, σ)).bind fun r6 => bif r6.1 then (allocK r6.2 (.cells [.int .i64 (w64 ((2 : Int) * x8))] ty_int true) fun h7 s8 => (appendD P ty_int (x7.1, x7.2.1, x7.2.2) (some ⟨h7, 0, none⟩, 1, 1) s8).bind fun r9 => p0.bind fun a10 => (ldP r9.2 a10.block (a10.off + 2)).bind fun p11 => (side_Table_Next p11 (w64 (x8 + (1 : Int))) (1 : Int) r9.2).bind fun r12 => r_ii r12.1 fun n13 n14 => heap_Heap_between_l0 n p0 i1 (r9.1.1, r9.1.2.1, r9.1.2.2) n13 n14 r12.2) else (some (.exit 0, [.slice x7.1 x7.2.1 x7.2.2], r6.2))

noncomputable def b_heap_Heap_between (k : Nat) (heap_Heap_between_l0 : L_pilii) (side_Table_Next : T_pii) (x0 : Option Addr) (x1 : Int) (x2 : Int) (σ : AMem) : RV1 :=
  x0.bind fun a1 => (ldP σ a1.block (a1.off + 2)).bind fun p2 => if (2 : Int) = 0 then none else (side_Table_Next p2 (w64 (x1.tdiv (2 : Int))) (1 : Int) σ).bind fun r3 => r_ii r3.1 fun n4 n5 => (heap_Heap_between_l0 k x0 x2 (none, 0, 0) n4 n5 r3.2).bind fun r15 => if r15.1 = .exit 0 then (u_l r15.2.1 fun l16 => some (.slice l16.1 l16.2.1 l16.2.2, r15.2.2)) else none

noncomputable def b_side_Table_Next_l0 (k n : Nat) (side_Table_Next_l0 : L_pii) (side_Table_get : T_pi) (p0 : Option Addr) (i1 : Int) (x8 : Int) (σ : AMem) : Option LOut :=
  p0.bind fun a3 => (ldI .i64 σ a3.block (a3.off + 0)).bind fun n4 => bif decide (x8 < n4) then ((side_Table_get p0 x8 σ).bind fun r5 => (toI .i64 r5.1).bind fun n6 => bif n6 == i1 then (some (.ret, [.int .i64 x8, .int .i64 (0 : Int)], r5.2)) else (side_Table_Next_l0 n p0 i1 (w64 (x8 + (1 : Int))) r5.2)) else (some (.exit 0, [], σ))

noncomputable def b_side_Table_Next (k : Nat) (side_Table_Next_l0 : L_pii) (side_Table_made : T_p) (x0 : Option Addr) (x1 : Int) (x2 : Int) (σ : AMem) : RV1 :=
  (side_Table_made x0 σ).bind fun r1 => (toB r1.1).bind fun b2 => bif !b2 then (some (.tuple #[.int .i64 (0 : Int), .int .i64 (5 : Int)], r1.2)) else ((side_Table_Next_l0 k x0 x2 (if (0 : Int) > x1 then (0 : Int) else x1) r1.2).bind fun r7 => if r7.1 = .exit 0 then (some (.tuple #[.int .i64 (0 : Int), .int .i64 (4 : Int)], r7.2.2)) else if r7.1 = .ret then (u_ii r7.2.1 fun n8 n9 => some (.tuple #[.int .i64 n8, .int .i64 n9], r7.2.2)) else none)

noncomputable def b_alloc_best_place (k : Nat) (alloc_Allocator_gaps : T_pii) (alloc_Allocator_start : T_pl) (slices_SortStableFunc_api_Run : T_lv) (x1 : Option Addr) (x2 : Int) (σ : AMem) : RV1 :=
  allocK σ (.cells [] ty_alloc_best true) fun h1 s2 => (alloc_Allocator_gaps x1 (0 : Int) x2 s2).bind fun r3 => (toS r3.1).bind fun l4 => (slices_SortStableFunc_api_Run (l4.1, l4.2.1, l4.2.2) (.func (.func 84) #[] #[]) r3.2).bind fun r5 => r_0 r5.1 ((alloc_Allocator_start x1 (l4.1, l4.2.1, l4.2.2) r5.2).bind fun r6 => r_it r6.1 fun n7 b8 => some (.tuple #[.int .i64 n7, .bool b8], r6.2))

noncomputable def b_slices_SortStableFunc_api_Run (k : Nat) (slices_stableCmpFunc_api_Run : T_liv) (x0 : Option Addr × Nat × Nat) (x1 : Value) (σ : AMem) : RV1 :=
  (slices_stableCmpFunc_api_Run (x0.1, x0.2.1, x0.2.2) ((x0.2.1 : Nat) : Int) (x1) σ).bind fun r1 => r_0 r1.1 (some (.tuple #[], r1.2))

noncomputable def b_alloc_best_place_c1 (k : Nat)  (x0_0 : Int) (x0_1 : Int) (x1_0 : Int) (x1_1 : Int) (σ : AMem) : RV1 :=
  allocK σ (.cells [.int .i64 x0_0, .int .i64 x0_1] ty_api_Run true) fun h1 s2 => allocK s2 (.cells [.int .i64 x1_0, .int .i64 x1_1] ty_api_Run true) fun h3 s4 => (ldI .i64 s4 h1 (0 + 1)).bind fun n5 => (ldI .i64 s4 h3 (0 + 1)).bind fun n6 => some (.int .i64 (w64 (n5 - n6)), s4)

noncomputable def b_slices_stableCmpFunc_api_Run_l0 (k n : Nat) (slices_insertionSortCmpFunc_api_Run : T_liiv) (slices_stableCmpFunc_api_Run_l0 : L_pnnivii) (p0 : Option Addr) (c1 : Nat) (c2 : Nat) (i3 : Int) (v4 : Value) (x7 : Int) (x8 : Int) (σ : AMem) : Option LOut :=
  bif decide (x8 ≤ i3) then ((slices_insertionSortCmpFunc_api_Run (p0, c1, c2) x7 x8 (v4) σ).bind fun r1 => r_0 r1.1 (slices_stableCmpFunc_api_Run_l0 n p0 c1 c2 i3 v4 x8 (w64 (x8 + (20 : Int))) r1.2)) else (some (.exit 0, [.int .i64 x7], σ))

noncomputable def b_slices_stableCmpFunc_api_Run_l2 (k n : Nat) (slices_stableCmpFunc_api_Run_l2 : L_pnniviii) (slices_symMergeCmpFunc_api_Run : T_liiiv) (p0 : Option Addr) (c1 : Nat) (c2 : Nat) (i3 : Int) (v4 : Value) (i5 : Int) (x7 : Int) (x8 : Int) (σ : AMem) : Option LOut :=
  bif decide (x8 ≤ i3) then ((slices_symMergeCmpFunc_api_Run (p0, c1, c2) x7 (w64 (x7 + i5)) x8 (v4) σ).bind fun r5 => r_0 r5.1 (slices_stableCmpFunc_api_Run_l2 n p0 c1 c2 i3 v4 i5 x8 (w64 (x8 + (w64 ((2 : Int) * i5)))) r5.2)) else (some (.exit 4, [.int .i64 x7], σ))

noncomputable def b_slices_stableCmpFunc_api_Run_l1 (k n : Nat) (slices_stableCmpFunc_api_Run_l1 : L_pnnivi) (slices_stableCmpFunc_api_Run_l2 : L_pnniviii) (slices_symMergeCmpFunc_api_Run : T_liiiv) (p0 : Option Addr) (c1 : Nat) (c2 : Nat) (i3 : Int) (v4 : Value) (x6 : Int) (σ : AMem) : Option LOut :=
  bif decide (x6 < i3) then ((slices_stableCmpFunc_api_Run_l2 k p0 c1 c2 i3 v4 x6 (0 : Int) (w64 ((2 : Int) * x6)) σ).bind fun r6 => if r6.1 = .exit 4 then (u_i r6.2.1 fun n7 => (bif decide ((w64 (n7 + x6)) < i3) then ((slices_symMergeCmpFunc_api_Run (p0, c1, c2) n7 (w64 (n7 + x6)) i3 (v4) r6.2.2).bind fun r8 => r_0 r8.1 (some (.normal, [], r8.2))) else (some (.normal, [], r6.2.2)) : Option LOut).bind fun r9 => if r9.1 = .normal then (slices_stableCmpFunc_api_Run_l1 n p0 c1 c2 i3 v4 (w64 (x6 * (2 : Int))) r9.2.2) else none) else none) else (some (.exit 2, [], σ))

noncomputable def b_slices_stableCmpFunc_api_Run (k : Nat) (slices_insertionSortCmpFunc_api_Run : T_liiv) (slices_stableCmpFunc_api_Run_l0 : L_pnnivii) (slices_stableCmpFunc_api_Run_l1 : L_pnnivi) (x0 : Option Addr × Nat × Nat) (x1 : Int) (x2 : Value) (σ : AMem) : RV1 :=
  (slices_stableCmpFunc_api_Run_l0 k x0.1 x0.2.1 x0.2.2 x1 x2 (0 : Int) (20 : Int) σ).bind fun r2 => if r2.1 = .exit 0 then (u_i r2.2.1 fun n3 => (slices_insertionSortCmpFunc_api_Run (x0.1, x0.2.1, x0.2.2) n3 x1 (x2) r2.2.2).bind fun r4 => r_0 r4.1 ((slices_stableCmpFunc_api_Run_l1 k x0.1 x0.2.1 x0.2.2 x1 x2 (20 : Int) r4.2).bind fun r10 => if r10.1 = .exit 2 then (some (.tuple #[], r10.2.2)) else none)) else none

noncomputable def b_slices_insertionSortCmpFunc_api_Run_l1 (k n : Nat) (callV_iiii_i : TV) (slices_insertionSortCmpFunc_api_Run_l1 : L_pnnivi) (p0 : Option Addr) (c1 : Nat) (c2 : Nat) (i3 : Int) (v4 : Value) (x9 : Int) (σ : AMem) : Option LOut :=
  (bif decide (x9 > i3) then if 0 ≤ x9 ∧ x9 < (c1 : Nat) then p0.bind fun a1 => (ldI .i64 σ a1.block (a1.off + x9.toNat * 2)).bind fun n2 => (ldI .i64 σ a1.block (a1.off + x9.toNat * 2 + 1)).bind fun n3 => if 0 ≤ (w64 (x9 - (1 : Int))) ∧ (w64 (x9 - (1 : Int))) < (c1 : Nat) then p0.bind fun a4 => (ldI .i64 σ a4.block (a4.off + (w64 (x9 - (1 : Int))).toNat * 2)).bind fun n5 => (ldI .i64 σ a4.block (a4.off + (w64 (x9 - (1 : Int))).toNat * 2 + 1)).bind fun n6 => (callV_iiii_i v4 [.agg #[.int .i64 n2, .int .i64 n3], .agg #[.int .i64 n5, .int .i64 n6]] σ).bind fun r7 => (toI .i64 r7.1).bind fun n8 => some (decide (n8 < (0 : Int)), r7.2) else none else none else some (false, σ)).bind fun r9 => bif r9.1 then (if 0 ≤ (w64 (x9 - (1 : Int))) ∧ (w64 (x9 - (1 : Int))) < (c1 : Nat) then p0.bind fun a10 => (ldI .i64 r9.2 a10.block (a10.off + (w64 (x9 - (1 : Int))).toNat * 2)).bind fun n11 => (ldI .i64 r9.2 a10.block (a10.off + (w64 (x9 - (1 : Int))).toNat * 2 + 1)).bind fun n12 => if 0 ≤ x9 ∧ x9 < (c1 : Nat) then p0.bind fun a13 => (ldI .i64 r9.2 a13.block (a13.off + x9.toNat * 2)).bind fun n14 => (ldI .i64 r9.2 a13.block (a13.off + x9.toNat * 2 + 1)).bind fun n15 => if 0 ≤ x9 ∧ x9 < (c1 : Nat) then p0.bind fun a16 => (stN r9.2 a16.block (a16.off + x9.toNat * 2) [.int .i64 n11, .int .i64 n12]).bind fun s17 => if 0 ≤ (w64 (x9 - (1 : Int))) ∧ (w64 (x9 - (1 : Int))) < (c1 : Nat) then p0.bind fun a18 => (stN s17 a18.block (a18.off + (w64 (x9 - (1 : Int))).toNat * 2) [.int .i64 n14, .int .i64 n15]).bind fun s19 => slices_insertionSortCmpFunc_api_Run_l1 n p0 c1 c2 i3 v4 (w64 (x9 - (1 : Int))) s19 else none else none else none else none) else (some (.exit 2, [], r9.2))

noncomputable def b_slices_insertionSortCmpFunc_api_Run_l0 (k n : Nat) (slices_insertionSortCmpFunc_api_Run_l0 : L_pnniivi) (slices_insertionSortCmpFunc_api_Run_l1 : L_pnnivi) (p0 : Option Addr) (c1 : Nat) (c2 : Nat) (i3 : Int) (i4 : Int) (v5 : Value) (x8 : Int) (σ : AMem) : Option LOut :=
  bif decide (x8 < i4) then ((slices_insertionSortCmpFunc_api_Run_l1 k p0 c1 c2 i3 v5 x8 σ).bind fun r20 => if r20.1 = .exit 2 then (slices_insertionSortCmpFunc_api_Run_l0 n p0 c1 c2 i3 i4 v5 (w64 (x8 + (1 : Int))) r20.2.2) else none) else (some (.exit 0, [], σ))

noncomputable def b_slices_insertionSortCmpFunc_api_Run (k : Nat) (slices_insertionSortCmpFunc_api_Run_l0 : L_pnniivi) (x0 : Option Addr × Nat × Nat) (x1 : Int) (x2 : Int) (x3 : Value) (σ : AMem) : RV1 :=
  (slices_insertionSortCmpFunc_api_Run_l0 k x0.1 x0.2.1 x0.2.2 x1 x2 x3 (w64 (x1 + (1 : Int))) σ).bind fun r21 => if r21.1 = .exit 0 then (some (.tuple #[], r21.2.2)) else none

noncomputable def b_slices_symMergeCmpFunc_api_Run_l0 (k n : Nat) (callV_iiii_i : TV) (slices_symMergeCmpFunc_api_Run_l0 : L_pnnivii) (p0 : Option Addr) (c1 : Nat) (c2 : Nat) (i3 : Int) (v4 : Value) (x10 : Int) (x11 : Int) (σ : AMem) : Option LOut :=
  bif decide (x10 < x11) then (if (1 : Int) < 0 then none else if 0 ≤ (w64 ((u64 (w64 (x10 + x11))).fdiv (2 ^ (min (1 : Int).toNat 64)))) ∧ (w64 ((u64 (w64 (x10 + x11))).fdiv (2 ^ (min (1 : Int).toNat 64)))) < (c1 : Nat) then p0.bind fun a1 => (ldI .i64 σ a1.block (a1.off + (w64 ((u64 (w64 (x10 + x11))).fdiv (2 ^ (min (1 : Int).toNat 64)))).toNat * 2)).bind fun n2 => (ldI .i64 σ a1.block (a1.off + (w64 ((u64 (w64 (x10 + x11))).fdiv (2 ^ (min (1 : Int).toNat 64)))).toNat * 2 + 1)).bind fun n3 => if 0 ≤ i3 ∧ i3 < (c1 : Nat) then p0.bind fun a4 => (ldI .i64 σ a4.block (a4.off + i3.toNat * 2)).bind fun n5 => (ldI .i64 σ a4.block (a4.off + i3.toNat * 2 + 1)).bind fun n6 => (callV_iiii_i v4 [.agg #[.int .i64 n2, .int .i64 n3], .agg #[.int .i64 n5, .int .i64 n6]] σ).bind fun r7 => (toI .i64 r7.1).bind fun n8 => (bif decide (n8 < (0 : Int)) then (some (.normal, [.int .i64 (w64 ((w64 ((u64 (w64 (x10 + x11))).fdiv (2 ^ (min (1 : Int).toNat 64)))) + (1 : Int))), .int .i64 x11], r7.2)) else (some (.normal, [.int .i64 x10, .int .i64 (w64 ((u64 (w64 (x10 + x11))).fdiv (2 ^ (min (1 : Int).toNat 64))))], r7.2)) : Option LOut).bind fun r9 => if r9.1 = .normal then (u_ii r9.2.1 fun n10 n11 => slices_symMergeCmpFunc_api_Run_l0 n p0 c1 c2 i3 v4 n10 n11 r9.2.2) else none else none else none) else (some (.exit 0, [.int .i64 x10], σ))

noncomputable def b_slices_symMergeCmpFunc_api_Run_l1 (k n : Nat) (slices_symMergeCmpFunc_api_Run_l1 : L_pnnii) (p0 : Option Addr) (c1 : Nat) (c2 : Nat) (i3 : Int) (x13 : Int) (σ : AMem) : Option LOut :=
  bif decide (x13 < (w64 (i3 - (1 : Int)))) then (if 0 ≤ (w64 (x13 + (1 : Int))) ∧ (w64 (x13 + (1 : Int))) < (c1 : Nat) then p0.bind fun a14 => (ldI .i64 σ a14.block (a14.off + (w64 (x13 + (1 : Int))).toNat * 2)).bind fun n15 => (ldI .i64 σ a14.block (a14.off + (w64 (x13 + (1 : Int))).toNat * 2 + 1)).bind fun n16 => if 0 ≤ x13 ∧ x13 < (c1 : Nat) then p0.bind fun a17 => (ldI .i64 σ a17.block (a17.off + x13.toNat * 2)).bind fun n18 => (ldI .i64 σ a17.block (a17.off + x13.toNat * 2 + 1)).bind fun n19 => if 0 ≤ x13 ∧ x13 < (c1 : Nat) then p0.bind fun a20 => (stN σ a20.block (a20.off + x13.toNat * 2) [.int .i64 n15, .int .i64 n16]).bind fun s21 => if 0 ≤ (w64 (x13 + (1 : Int))) ∧ (w64 (x13 + (1 : Int))) < (c1 : Nat) then p0.bind fun a22 => (stN s21 a22.block (a22.off + (w64 (x13 + (1 : Int))).toNat * 2) [.int .i64 n18, .int .i64 n19]).bind fun s23 => slices_symMergeCmpFunc_api_Run_l1 n p0 c1 c2 i3 (w64 (x13 + (1 : Int))) s23 else none else none else none else none) else (some (.exit 2, [], σ))

noncomputable def b_slices_symMergeCmpFunc_api_Run_l2 (k n : Nat) (callV_iiii_i : TV) (slices_symMergeCmpFunc_api_Run_l2 : L_pnnivii) (p0 : Option Addr) (c1 : Nat) (c2 : Nat) (i3 : Int) (v4 : Value) (x14 : Int) (x15 : Int) (σ : AMem) : Option LOut :=
  bif decide (x14 < x15) then (if (1 : Int) < 0 then none else if 0 ≤ i3 ∧ i3 < (c1 : Nat) then p0.bind fun a25 => (ldI .i64 σ a25.block (a25.off + i3.toNat * 2)).bind fun n26 => (ldI .i64 σ a25.block (a25.off + i3.toNat * 2 + 1)).bind fun n27 => if 0 ≤ (w64 ((u64 (w64 (x14 + x15))).fdiv (2 ^ (min (1 : Int).toNat 64)))) ∧ (w64 ((u64 (w64 (x14 + x15))).fdiv (2 ^ (min (1 : Int).toNat 64)))) < (c1 : Nat) then p0.bind fun a28 => (ldI .i64 σ a28.block (a28.off + (w64 ((u64 (w64 (x14 + x15))).fdiv (2 ^ (min (1 : Int).toNat 64)))).toNat * 2)).bind fun n29 => (ldI .i64 σ a28.block (a28.off + (w64 ((u64 (w64 (x14 + x15))).fdiv (2 ^ (min (1 : Int).toNat 64)))).toNat * 2 + 1)).bind fun n30 => (callV_iiii_i v4 [.agg #[.int .i64 n26, .int .i64 n27], .agg #[.int .i64 n29, .int .i64 n30]] σ).bind fun r31 => (toI .i64 r31.1).bind fun n32 => (bif !(decide (n32 < (0 : Int))) then (some (.normal, [.int .i64 (w64 ((w64 ((u64 (w64 (x14 + x15))).fdiv (2 ^ (min (1 : Int).toNat 64)))) + (1 : Int))), .int .i64 x15], r31.2)) else (some (.normal, [.int .i64 x14, .int .i64 (w64 ((u64 (w64 (x14 + x15))).fdiv (2 ^ (min (1 : Int).toNat 64))))], r31.2)) : Option LOut).bind fun r33 => if r33.1 = .normal then (u_ii r33.2.1 fun n34 n35 => slices_symMergeCmpFunc_api_Run_l2 n p0 c1 c2 i3 v4 n34 n35 r33.2.2) else none else none else none) else (some (.exit 4, [.int .i64 x14], σ))

noncomputable def b_slices_symMergeCmpFunc_api_Run_l3 (k n : Nat) (slices_symMergeCmpFunc_api_Run_l3 : L_pnnii) (p0 : Option Addr) (c1 : Nat) (c2 : Nat) (i3 : Int) (x17 : Int) (σ : AMem) : Option LOut :=
  bif decide (x17 > i3) then (if 0 ≤ (w64 (x17 - (1 : Int))) ∧ (w64 (x17 - (1 : Int))) < (c1 : Nat) then p0.bind fun a38 => (ldI .i64 σ a38.block (a38.off + (w64 (x17 - (1 : Int))).toNat * 2)).bind fun n39 => (ldI .i64 σ a38.block (a38.off + (w64 (x17 - (1 : Int))).toNat * 2 + 1)).bind fun n40 => if 0 ≤ x17 ∧ x17 < (c1 : Nat) then p0.bind fun a41 => (ldI .i64 σ a41.block (a41.off + x17.toNat * 2)).bind fun n42 => (ldI .i64 σ a41.block (a41.off + x17.toNat * 2 + 1)).bind fun n43 => if 0 ≤ x17 ∧ x17 < (c1 : Nat) then p0.bind fun a44 => (stN σ a44.block (a44.off + x17.toNat * 2) [.int .i64 n39, .int .i64 n40]).bind fun s45 => if 0 ≤ (w64 (x17 - (1 : Int))) ∧ (w64 (x17 - (1 : Int))) < (c1 : Nat) then p0.bind fun a46 => (stN s45 a46.block (a46.off + (w64 (x17 - (1 : Int))).toNat * 2) [.int .i64 n42, .int .i64 n43]).bind fun s47 => slices_symMergeCmpFunc_api_Run_l3 n p0 c1 c2 i3 (w64 (x17 - (1 : Int))) s47 else none else none else none else none) else (some (.exit 6, [], σ))

noncomputable def b_slices_symMergeCmpFunc_api_Run_l4 (k n : Nat) (callV_iiii_i : TV) (slices_symMergeCmpFunc_api_Run_l4 : L_pnnviii) (p0 : Option Addr) (c1 : Nat) (c2 : Nat) (v3 : Value) (i4 : Int) (x20 : Int) (x21 : Int) (σ : AMem) : Option LOut :=
  bif decide (x20 < x21) then (if (1 : Int) < 0 then none else if 0 ≤ (w64 (i4 - (w64 ((u64 (w64 (x20 + x21))).fdiv (2 ^ (min (1 : Int).toNat 64)))))) ∧ (w64 (i4 - (w64 ((u64 (w64 (x20 + x21))).fdiv (2 ^ (min (1 : Int).toNat 64)))))) < (c1 : Nat) then p0.bind fun a52 => (ldI .i64 σ a52.block (a52.off + (w64 (i4 - (w64 ((u64 (w64 (x20 + x21))).fdiv (2 ^ (min (1 : Int).toNat 64)))))).toNat * 2)).bind fun n53 => (ldI .i64 σ a52.block (a52.off + (w64 (i4 - (w64 ((u64 (w64 (x20 + x21))).fdiv (2 ^ (min (1 : Int).toNat 64)))))).toNat * 2 + 1)).bind fun n54 => if 0 ≤ (w64 ((u64 (w64 (x20 + x21))).fdiv (2 ^ (min (1 : Int).toNat 64)))) ∧ (w64 ((u64 (w64 (x20 + x21))).fdiv (2 ^ (min (1 : Int).toNat 64)))) < (c1 : Nat) then p0.bind fun a55 => (ldI .i64 σ a55.block (a55.off + (w64 ((u64 (w64 (x20 + x21))).fdiv (2 ^ (min (1 : Int).toNat 64)))).toNat * 2)).bind fun n56 => (ldI .i64 σ a55.block (a55.off + (w64 ((u64 (w64 (x20 + x21))).fdiv (2 ^ (min (1 : Int).toNat 64)))).toNat * 2 + 1)).bind fun n57 => (callV_iiii_i v3 [.agg #[.int .i64 n53, .int .i64 n54], .agg #[.int .i64 n56, .int .i64 n57]] σ).bind fun r58 => (toI .i64 r58.1).bind fun n59 => (bif !(decide (n59 < (0 : Int))) then (some (.normal, [.int .i64 (w64 ((w64 ((u64 (w64 (x20 + x21))).fdiv (2 ^ (min (1 : Int).toNat 64)))) + (1 : Int))), .int .i64 x21], r58.2)) else (some (.normal, [.int .i64 x20, .int .i64 (w64 ((u64 (w64 (x20 + x21))).fdiv (2 ^ (min (1 : Int).toNat 64))))], r58.2)) : Option LOut).bind fun r60 => if r60.1 = .normal then (u_ii r60.2.1 fun n61 n62 => slices_symMergeCmpFunc_api_Run_l4 n p0 c1 c2 v3 i4 n61 n62 r60.2.2) else none else none else none) else (some (.exit 8, [.int .i64 x20], σ))

noncomputable def b_slices_symMergeCmpFunc_api_Run (k : Nat) (slices_rotateCmpFunc_api_Run : T_liiiv) (slices_symMergeCmpFunc_api_Run : T_liiiv) (slices_symMergeCmpFunc_api_Run_l0 : L_pnnivii) (slices_symMergeCmpFunc_api_Run_l1 : L_pnnii) (slices_symMergeCmpFunc_api_Run_l2 : L_pnnivii) (slices_symMergeCmpFunc_api_Run_l3 : L_pnnii) (slices_symMergeCmpFunc_api_Run_l4 : L_pnnviii) (x0 : Option Addr × Nat × Nat) (x1 : Int) (x2 : Int) (x3 : Int) (x4 : Value) (σ : AMem) : RV1 :=
  bif (w64 (x2 - x1)) == (1 : Int) then ((slices_symMergeCmpFunc_api_Run_l0 k x0.1 x0.2.1 x0.2.2 x1 x4 x2 x3 σ).bind fun r12 => if r12.1 = .exit 0 then (u_i r12.2.1 fun n13 => (slices_symMergeCmpFunc_api_Run_l1 k x0.1 x0.2.1 x0.2.2 n13 x1 r12.2.2).bind fun r24 => if r24.1 = .exit 2 then (some (.tuple #[], r24.2.2)) else none) else none) else (bif (w64 (x3 - x2)) == (1 : Int) then ((slices_symMergeCmpFunc_api_Run_l2 k x0.1 x0.2.1 x0.2.2 x2 x4 x1 x2 σ).bind fun r36 => if r36.1 = .exit 4 then (u_i r36.2.1 fun n37 => (slices_symMergeCmpFunc_api_Run_l3 k x0.1 x0.2.1 x0.2.2 n37 x2 r36.2.2).bind fun r48 => if r48.1 = .exit 6 then (some (.tuple #[], r48.2.2)) else none) else none) else (if (1 : Int) < 0 then none else (bif decide (x2 > (w64 ((u64 (w64 (x1 + x3))).fdiv (2 ^ (min (1 : Int).toNat 64))))) then (some (.normal, [.int .i64 (w64 ((w64 ((w64 ((u64 (w64 (x1 + x3))).fdiv (2 ^ (min (1 : Int).toNat 64)))) + x2)) - x3)), .int .i64 (w64 ((u64 (w64 (x1 + x3))).fdiv (2 ^ (min (1 : Int).toNat 64))))], σ)) else (some (.normal, [.int .i64 x1, .int .i64 x2], σ)) : Option LOut).bind fun r49 => if r49.1 = .normal then (u_ii r49.2.1 fun n50 n51 => (slices_symMergeCmpFunc_api_Run_l4 k x0.1 x0.2.1 x0.2.2 x4 (w64 ((w64 ((w64 ((u64 (w64 (x1 + x3))).fdiv (2 ^ (min (1 : Int).toNat 64)))) + x2)) - (1 : Int))) n50 n51 r49.2.2).bind fun r63 => if r63.1 = .exit 8 then (u_i r63.2.1 fun n64 => (bif decide (n64 < x2) then some (decide (x2 < (w64 ((w64 ((w64 ((u64 (w64 (x1 + x3))).fdiv (2 ^ (min (1 : Int).toNat 64)))) + x2)) - n64))), r63.2.2) else some (false, r63.2.2)).bind fun r65 => (bif r65.1 then ((slices_rotateCmpFunc_api_Run (x0.1, x0.2.1, x0.2.2) n64 x2 (w64 ((w64 ((w64 ((u64 (w64 (x1 + x3))).fdiv (2 ^ (min (1 : Int).toNat 64)))) + x2)) - n64)) (x4) r65.2).bind fun r66 => r_0 r66.1 (some (.normal, [], r66.2))) else (some (.normal, [], r65.2)) : Option LOut).bind fun r67 => if r67.1 = .normal then ((bif decide (x1 < n64) then some (decide (n64 < (w64 ((u64 (w64 (x1 + x3))).fdiv (2 ^ (min (1 : Int).toNat 64))))), r67.2.2) else some (false, r67.2.2)).bind fun r68 => (bif r68.1 then ((slices_symMergeCmpFunc_api_Run (x0.1, x0.2.1, x0.2.2) x1 n64 (w64 ((u64 (w64 (x1 + x3))).fdiv (2 ^ (min (1 : Int).toNat 64)))) (x4) r68.2).bind fun r69 => r_0 r69.1 (some (.normal, [], r69.2))) else (some (.normal, [], r68.2)) : Option LOut).bind fun r70 => if r70.1 = .normal then ((bif decide ((w64 ((u64 (w64 (x1 + x3))).fdiv (2 ^ (min (1 : Int).toNat 64)))) < (w64 ((w64 ((w64 ((u64 (w64 (x1 + x3))).fdiv (2 ^ (min (1 : Int).toNat 64)))) + x2)) - n64))) then some (decide ((w64 ((w64 ((w64 ((u64 (w64 (x1 + x3))).fdiv (2 ^ (min (1 : Int).toNat 64)))) + x2)) - n64)) < x3), r70.2.2) else some (false, r70.2.2)).bind fun r71 => (bif r71.1 then ((slices_symMergeCmpFunc_api_Run (x0.1, x0.2.1, x0.2.2) (w64 ((u64 (w64 (x1 + x3))).fdiv (2 ^ (min (1 : Int).toNat 64)))) (w64 ((w64 ((w64 ((u64 (w64 (x1 + x3))).fdiv (2 ^ (min (1 : Int).toNat 64)))) + x2)) - n64)) x3 (x4) r71.2).bind fun r72 => r_0 r72.1 (some (.normal, [], r72.2))) else (some (.normal, [], r71.2)) : Option LOut).bind fun r73 => if r73.1 = .normal then (some (.tuple #[], r73.2.2)) else none) else none) else none) else none) else none))

noncomputable def b_slices_rotateCmpFunc_api_Run_l0 (k n : Nat) (slices_rotateCmpFunc_api_Run_l0 : L_pnnivii) (slices_swapRangeCmpFunc_api_Run : T_liiiv) (p0 : Option Addr) (c1 : Nat) (c2 : Nat) (i3 : Int) (v4 : Value) (x10 : Int) (x11 : Int) (σ : AMem) : Option LOut :=
  bif x10 != x11 then ((bif decide (x10 > x11) then ((slices_swapRangeCmpFunc_api_Run (p0, c1, c2) (w64 (i3 - x10)) i3 x11 (v4) σ).bind fun r1 => r_0 r1.1 (some (.normal, [.int .i64 (w64 (x10 - x11)), .int .i64 x11], r1.2))) else ((slices_swapRangeCmpFunc_api_Run (p0, c1, c2) (w64 (i3 - x10)) (w64 ((w64 (i3 + x11)) - x10)) x10 (v4) σ).bind fun r2 => r_0 r2.1 (some (.normal, [.int .i64 x10, .int .i64 (w64 (x11 - x10))], r2.2))) : Option LOut).bind fun r3 => if r3.1 = .normal then (u_ii r3.2.1 fun n4 n5 => slices_rotateCmpFunc_api_Run_l0 n p0 c1 c2 i3 v4 n4 n5 r3.2.2) else none) else (some (.exit 0, [.int .i64 x10], σ))

noncomputable def b_slices_rotateCmpFunc_api_Run (k : Nat) (slices_rotateCmpFunc_api_Run_l0 : L_pnnivii) (slices_swapRangeCmpFunc_api_Run : T_liiiv) (x0 : Option Addr × Nat × Nat) (x1 : Int) (x2 : Int) (x3 : Int) (x4 : Value) (σ : AMem) : RV1 :=
  (slices_rotateCmpFunc_api_Run_l0 k x0.1 x0.2.1 x0.2.2 x2 x4 (w64 (x2 - x1)) (w64 (x3 - x2)) σ).bind fun r6 => if r6.1 = .exit 0 then (u_i r6.2.1 fun n7 => (slices_swapRangeCmpFunc_api_Run (x0.1, x0.2.1, x0.2.2) (w64 (x2 - n7)) x2 n7 (x4) r6.2.2).bind fun r8 => r_0 r8.1 (some (.tuple #[], r8.2))) else none

noncomputable def b_slices_swapRangeCmpFunc_api_Run_l0 (k n : Nat) (slices_swapRangeCmpFunc_api_Run_l0 : L_pnniiii) (p0 : Option Addr) (c1 : Nat) (c2 : Nat) (i3 : Int) (i4 : Int) (i5 : Int) (x10 : Int) (σ : AMem) : Option LOut :=
  bif decide (x10 < i5) then (if 0 ≤ (w64 (i4 + x10)) ∧ (w64 (i4 + x10)) < (c1 : Nat) then p0.bind fun a1 => (ldI .i64 σ a1.block (a1.off + (w64 (i4 + x10)).toNat * 2)).bind fun n2 => (ldI .i64 σ a1.block (a1.off + (w64 (i4 + x10)).toNat * 2 + 1)).bind fun n3 => if 0 ≤ (w64 (i3 + x10)) ∧ (w64 (i3 + x10)) < (c1 : Nat) then p0.bind fun a4 => (ldI .i64 σ a4.block (a4.off + (w64 (i3 + x10)).toNat * 2)).bind fun n5 => (ldI .i64 σ a4.block (a4.off + (w64 (i3 + x10)).toNat * 2 + 1)).bind fun n6 => if 0 ≤ (w64 (i3 + x10)) ∧ (w64 (i3 + x10)) < (c1 : Nat) then p0.bind fun a7 => (stN σ a7.block (a7.off + (w64 (i3 + x10)).toNat * 2) [.int .i64 n2, .int .i64 n3]).bind fun s8 => if 0 ≤ (w64 (i4 + x10)) ∧ (w64 (i4 + x10)) < (c1 : Nat) then p0.bind fun a9 => (stN s8 a9.block (a9.off + (w64 (i4 + x10)).toNat * 2) [.int .i64 n5, .int .i64 n6]).bind fun s10 => slices_swapRangeCmpFunc_api_Run_l0 n p0 c1 c2 i3 i4 i5 (w64 (x10 + (1 : Int))) s10 else none else none else none else none) else (some (.exit 0, [], σ))

noncomputable def b_slices_swapRangeCmpFunc_api_Run (k : Nat) (slices_swapRangeCmpFunc_api_Run_l0 : L_pnniiii) (x0 : Option Addr × Nat × Nat) (x1 : Int) (x2 : Int) (x3 : Int) (x4 : Value) (σ : AMem) : RV1 :=
  (slices_swapRangeCmpFunc_api_Run_l0 k x0.1 x0.2.1 x0.2.2 x1 x2 x3 (0 : Int) σ).bind fun r11 => if r11.1 = .exit 0 then (some (.tuple #[], r11.2.2)) else none

noncomputable def b_alloc_next_place (k : Nat) (alloc_Allocator_gaps : T_pii) (alloc_Allocator_start : T_pl) (x1 : Option Addr) (x2 : Int) (σ : AMem) : RV1 :=
  allocK σ (.cells [] ty_alloc_next true) fun h1 s2 => x1.bind fun a3 => (ldI .i64 s2 a3.block (a3.off + 3 + 0)).bind fun n4 => (alloc_Allocator_gaps x1 n4 x2 s2).bind fun r5 => (toS r5.1).bind fun l6 => (alloc_Allocator_gaps x1 (0 : Int) x2 r5.2).bind fun r7 => (toS r7.1).bind fun l8 => (appendD P ty_api_Run (l6.1, l6.2.1, l6.2.2) (l8.1, l8.2.1, l8.2.2) r7.2).bind fun r9 => (alloc_Allocator_start x1 (r9.1.1, r9.1.2.1, r9.1.2.2) r9.2).bind fun r10 => r_it r10.1 fun n11 b12 => (bif b12 then (x1.bind fun a13 => (st1 r10.2 a13.block (a13.off + 3 + 0) (.int .i64 (w64 (n11 + x2)))).bind fun s14 => some (.normal, [], s14)) else (some (.normal, [], r10.2)) : Option LOut).bind fun r15 => if r15.1 = .normal then (some (.tuple #[.int .i64 n11, .bool b12], r15.2.2)) else none

noncomputable def b_alloc_bump_place (k : Nat) (alloc_Allocator_bumped : T_ppi) (x1 : Option Addr) (x2 : Int) (σ : AMem) : RV1 :=
  allocK σ (.cells [] ty_alloc_bump true) fun h1 s2 => x1.bind fun a3 => (alloc_Allocator_bumped x1 (some ⟨a3.block, a3.off + 3, none⟩) x2 s2).bind fun r4 => r_it r4.1 fun n5 b6 => some (.tuple #[.int .i64 n5, .bool b6], r4.2)

noncomputable def b_alloc_Allocator_bumped (k : Nat) (alloc_Allocator_begin : T_p) (alloc_area_has : T_pi) (alloc_area_take : T_pi) (x0 : Option Addr) (x1 : Option Addr) (x2 : Int) (σ : AMem) : RV1 :=
  (alloc_area_has x1 x2 σ).bind fun r1 => (toB r1.1).bind fun b2 => (bif !b2 then ((alloc_Allocator_begin x0 r1.2).bind fun r3 => (toT r3.1).bind fun q4 => if q4.length = 2 then q4.head?.bind fun v5 => a_ii v5 fun n6 n7 => q4.tail.head?.bind fun v8 => (toB v8).bind fun b9 => allocK r3.2 (.cells [.int .i64 (0 : Int), .int .i64 (0 : Int)] ty_alloc_area true) fun h10 s11 => (stN s11 h10 0 [.int .i64 n6, .int .i64 n7]).bind fun s12 => bif !b9 then (some (.ret, [.int .i64 (0 : Int), .bool false], s12)) else ((ldI .i64 s12 h10 0).bind fun n13 => (ldI .i64 s12 h10 (0 + 1)).bind fun n14 => x1.bind fun a15 => (stN s12 a15.block a15.off [.int .i64 n13, .int .i64 n14]).bind fun s16 => some (.normal, [], s16)) else none) else (some (.normal, [], r1.2)) : Option LOut).bind fun r17 => if r17.1 = .normal then ((alloc_area_take x1 x2 r17.2.2).bind fun r18 => (toI .i64 r18.1).bind fun n19 => some (.tuple #[.int .i64 n19, .bool true], r18.2)) else if r17.1 = .ret then (u_it r17.2.1 fun n20 b21 => some (.tuple #[.int .i64 n20, .bool b21], r17.2.2)) else none

noncomputable def b_alloc_area_has (k : Nat)  (x0 : Option Addr) (x1 : Int) (σ : AMem) : RV1 :=
  x0.bind fun a1 => (ldI .i64 σ a1.block (a1.off + 1)).bind fun n2 => x0.bind fun a3 => (ldI .i64 σ a3.block (a3.off + 0)).bind fun n4 => some (.bool (decide ((w64 (n2 - n4)) ≥ x1)), σ)

noncomputable def b_alloc_area_take (k : Nat)  (x0 : Option Addr) (x1 : Int) (σ : AMem) : RV1 :=
  x0.bind fun a1 => (ldI .i64 σ a1.block (a1.off + 0)).bind fun n2 => x0.bind fun a3 => (st1 σ a3.block (a3.off + 0) (.int .i64 (w64 (n2 + x1)))).bind fun s4 => x0.bind fun a5 => (ldI .i64 s4 a5.block (a5.off + 0)).bind fun n6 => some (.int .i64 (w64 (n6 - x1)), s4)

noncomputable def b_alloc_lines_place (k : Nat) (alloc_Allocator_bumped : T_ppi) (alloc_Allocator_hole : T_p) (alloc_area_has : T_pi) (alloc_area_take : T_pi) (x1 : Option Addr) (x2 : Int) (σ : AMem) : RV1 :=
  allocK σ (.cells [] ty_alloc_lines true) fun h1 s2 => x1.bind fun a3 => (alloc_area_has (some ⟨a3.block, a3.off + 3, none⟩) x2 s2).bind fun r4 => (toB r4.1).bind fun b5 => (bif b5 then (some (.normal, [], r4.2)) else (bif decide (x2 > (8 : Int)) then (x1.bind fun a6 => (alloc_Allocator_bumped x1 (some ⟨a6.block, a6.off + 5, none⟩) x2 r4.2).bind fun r7 => r_it r7.1 fun n8 b9 => some (.ret, [.int .i64 n8, .bool b9], r7.2)) else ((alloc_Allocator_hole x1 r4.2).bind fun r10 => (toT r10.1).bind fun q11 => if q11.length = 2 then q11.head?.bind fun v12 => a_ii v12 fun n13 n14 => q11.tail.head?.bind fun v15 => (toB v15).bind fun b16 => allocK r10.2 (.cells [.int .i64 (0 : Int), .int .i64 (0 : Int)] ty_alloc_area true) fun h17 s18 => (stN s18 h17 0 [.int .i64 n13, .int .i64 n14]).bind fun s19 => bif !b16 then (some (.ret, [.int .i64 (0 : Int), .bool false], s19)) else ((ldI .i64 s19 h17 0).bind fun n20 => (ldI .i64 s19 h17 (0 + 1)).bind fun n21 => x1.bind fun a22 => (stN s19 a22.block (a22.off + 3) [.int .i64 n20, .int .i64 n21]).bind fun s23 => some (.normal, [], s23)) else none)) : Option LOut).bind fun r24 => if r24.1 = .normal then (x1.bind fun a25 => (alloc_area_take (some ⟨a25.block, a25.off + 3, none⟩) x2 r24.2.2).bind fun r26 => (toI .i64 r26.1).bind fun n27 => some (.tuple #[.int .i64 n27, .bool true], r26.2)) else if r24.1 = .ret then (u_it r24.2.1 fun n28 b29 => some (.tuple #[.int .i64 n28, .bool b29], r24.2.2)) else none

noncomputable def b_alloc_Allocator_hole_l2 (k n : Nat) (alloc_Allocator_hole_l2 : L_pnni) (p0 : Option Addr) (c1 : Nat) (c2 : Nat) (x8 : Int) (σ : AMem) : Option LOut :=
  (bif decide (x8 < ((c1 : Nat) : Int)) then if 0 ≤ x8 ∧ x8 < (c1 : Nat) then p0.bind fun a11 => (ldB σ a11.block (a11.off + x8.toNat * 1)).bind fun b12 => some (!b12, σ) else none else some (false, σ)).bind fun r13 => bif r13.1 then (alloc_Allocator_hole_l2 n p0 c1 c2 (w64 (x8 + (1 : Int))) r13.2) else (some (.exit 4, [.int .i64 x8], r13.2))

noncomputable def b_alloc_Allocator_hole_l1 (k n : Nat) (alloc_Allocator_hole_l1 : L_pnipnni) (alloc_Allocator_hole_l2 : L_pnni) (p0 : Option Addr) (h1 : Nat) (i2 : Int) (p3 : Option Addr) (c4 : Nat) (c5 : Nat) (x7 : Int) (σ : AMem) : Option LOut :=
  bif decide (x7 < ((c4 : Nat) : Int)) then ((alloc_Allocator_hole_l2 k p3 c4 c5 x7 σ).bind fun r14 => if r14.1 = .exit 4 then (u_i r14.2.1 fun n15 => (bif decide (n15 > x7) then p0.bind fun a16 => (ldI .i64 r14.2.2 a16.block (a16.off + 3 + 1)).bind fun n17 => some (decide ((w64 ((w64 (i2 * (64 : Int))) + (w64 (x7 * (8 : Int))))) ≥ n17), r14.2.2) else some (false, r14.2.2)).bind fun r18 => bif r18.1 then ((stN r18.2 h1 0 [.int .i64 (w64 ((w64 (i2 * (64 : Int))) + (w64 (x7 * (8 : Int))))), .int .i64 (w64 ((w64 (i2 * (64 : Int))) + (w64 (n15 * (8 : Int)))))]).bind fun s19 => some (.ret, [.bool true], s19)) else (alloc_Allocator_hole_l1 n p0 h1 i2 p3 c4 c5 (w64 ((if n15 > x7 then n15 else x7) + (1 : Int))) r18.2)) else none) else (some (.exit 2, [], σ))

noncomputable def b_alloc_Allocator_hole_l0 (k n : Nat) (alloc_Allocator_hole_l0 : L_pnpnnii) (alloc_Allocator_hole_l1 : L_pnipnni) (heap_Heap_Lines : T_pi) (p0 : Option Addr) (h1 : Nat) (p2 : Option Addr) (c3 : Nat) (c4 : Nat) (i5 : Int) (x13 : Int) (σ : AMem) : Option LOut :=
  bif decide (x13 < i5) then (if 0 ≤ x13 ∧ x13 < (c3 : Nat) then p2.bind fun a5 => (ldI .i64 σ a5.block (a5.off + x13.toNat * 1)).bind fun n6 => p0.bind fun a7 => (ldP σ a7.block (a7.off + 0)).bind fun p8 => (heap_Heap_Lines p8 n6 σ).bind fun r9 => (toS r9.1).bind fun l10 => (alloc_Allocator_hole_l1 k p0 h1 n6 l10.1 l10.2.1 l10.2.2 (0 : Int) r9.2).bind fun r20 => if r20.1 = .exit 2 then (alloc_Allocator_hole_l0 n p0 h1 p2 c3 c4 i5 (w64 (x13 + (1 : Int))) r20.2.2) else if r20.1 = .ret then (u_t r20.2.1 fun b21 => some (.ret, [.bool b21], r20.2.2)) else none else none) else (some (.exit 0, [], σ))

noncomputable def b_alloc_Allocator_hole (k : Nat) (alloc_Allocator_begin : T_p) (alloc_Allocator_blocks : T_p) (alloc_Allocator_hole_l0 : L_pnpnnii) (x0 : Option Addr) (σ : AMem) : RV1 :=
  allocK σ (.cells [.int .i64 (0 : Int), .int .i64 (0 : Int)] ty_alloc_area true) fun h1 s2 => (alloc_Allocator_blocks x0 s2).bind fun r3 => (toS r3.1).bind fun l4 => (alloc_Allocator_hole_l0 k x0 h1 l4.1 l4.2.1 l4.2.2 ((l4.2.1 : Nat) : Int) (0 : Int) r3.2).bind fun r22 => if r22.1 = .exit 0 then ((alloc_Allocator_begin x0 r22.2.2).bind fun r23 => (toT r23.1).bind fun q24 => if q24.length = 2 then q24.head?.bind fun v25 => a_ii v25 fun n26 n27 => q24.tail.head?.bind fun v28 => (toB v28).bind fun b29 => (stN r23.2 h1 0 [.int .i64 n26, .int .i64 n27]).bind fun s30 => (((ldN s30 h1 0 2).bind fun v31 => some (.agg v31.toArray)).bind fun v32 => some [v32, .bool b29]).bind fun vs33 => some (resOf vs33, s30) else none) else if r22.1 = .ret then (u_t r22.2.1 fun b34 => (((ldN r22.2.2 h1 0 2).bind fun v35 => some (.agg v35.toArray)).bind fun v36 => some [v36, .bool b34]).bind fun vs37 => some (resOf vs37, r22.2.2)) else none

noncomputable def b_heap_Heap_Lines_l1 (k n : Nat) (heap_Heap_Lines_l1 : L_nnii) (h0 : Nat) (c1 : Nat) (i2 : Int) (x10 : Int) (σ : AMem) : Option LOut :=
  if (8 : Int) = 0 then none else bif decide (x10 ≤ (w64 (i2.tdiv (8 : Int)))) then (if 0 ≤ x10 ∧ x10 < (c1 : Nat) then (st1 σ h0 (0 + x10.toNat * 1) (.bool true)).bind fun s11 => heap_Heap_Lines_l1 n h0 c1 i2 (w64 (x10 + (1 : Int))) s11 else none) else (some (.exit 2, [], σ))

noncomputable def b_heap_Heap_Lines_l0 (k n : Nat) (heap_Heap_Lines_l0 : L_pnnpnnii) (heap_Heap_Lines_l1 : L_nnii) (heap_Heap_size : T_pi) (p0 : Option Addr) (h1 : Nat) (c2 : Nat) (p3 : Option Addr) (c4 : Nat) (c5 : Nat) (i6 : Int) (x20 : Int) (σ : AMem) : Option LOut :=
  bif decide (x20 < i6) then (if 0 ≤ x20 ∧ x20 < (c4 : Nat) then p3.bind fun a7 => (ldI .i64 σ a7.block (a7.off + x20.toNat * 1)).bind fun n8 => if (64 : Int) = 0 then none else if (64 : Int) = 0 then none else (heap_Heap_size p0 n8 σ).bind fun r9 => (toI .i64 r9.1).bind fun n10 => if (8 : Int) = 0 then none else (heap_Heap_Lines_l1 k h1 c2 (w64 ((w64 ((n8.tmod (64 : Int)) + n10)) - (1 : Int))) (w64 ((n8.tmod (64 : Int)).tdiv (8 : Int))) r9.2).bind fun r12 => if r12.1 = .exit 2 then (heap_Heap_Lines_l0 n p0 h1 c2 p3 c4 c5 i6 (w64 (x20 + (1 : Int))) r12.2.2) else none else none) else (some (.exit 0, [], σ))

noncomputable def b_heap_Heap_Lines (k : Nat) (heap_Heap_Lines_l0 : L_pnnpnnii) (heap_Heap_Objects : T_pi) (heap_Heap_used : T_pi) (x0 : Option Addr) (x1 : Int) (σ : AMem) : RV1 :=
  (heap_Heap_used x0 x1 σ).bind fun r1 => (toB r1.1).bind fun b2 => bif !b2 then (some (.slice none 0 0, r1.2)) else (if 0 ≤ (8 : Int) ∧ (8 : Int) ≤ (8 : Int) ∧ (8 : Int) * (1 : Nat) ≤ 2 ^ 40 ∧ (8 : Int) ≤ 2 ^ 40 then allocK r1.2 (.cells (rep (8 : Int).toNat [.bool false]) ty_bool true) fun h3 s4 => (heap_Heap_Objects x0 x1 s4).bind fun r5 => (toS r5.1).bind fun l6 => (heap_Heap_Lines_l0 k x0 h3 ((8 : Int).toNat) l6.1 l6.2.1 l6.2.2 ((l6.2.1 : Nat) : Int) (0 : Int) r5.2).bind fun r13 => if r13.1 = .exit 0 then (some (.slice (some ⟨h3, 0, none⟩) ((8 : Int).toNat) ((8 : Int).toNat), r13.2.2)) else none else none)

end
end Go.Proofs.Ytlaplcglpnlieaa
