/-
  PRINTED BY A PROGRAM OF THIS SESSION'S OWN (gen.py): the Go functions as Lean functions over the abstract memory.
-/
import Derived.Test.YtilefhlamdiomaaAXC
set_option maxRecDepth 100000
set_option linter.unusedVariables false
set_option linter.unusedSimpArgs false
set_option linter.unusedSectionVars false
namespace Go.Proofs.Ytilefhlamdiomaa.Al
open Go Go.AX

def H : FuncId → Hints
  | 5 => [(8, ⟨[], [(.normal, [(7, .func)])]⟩), (15, ⟨[], [(.normal, [(11, .int .i64)])]⟩)]
  | 16 => [(3, ⟨[0, 6, 7], [(.exit 0, []), (.ret, [(4, .int .i64), (5, .bool)])]⟩)]
  | 31 => [(5, ⟨[], [(.normal, []), (.ret, [(8, .int .i64)])]⟩), (10, ⟨[0, 1, 2, 3, 10], [(.exit 0, []), (.ret, [(8, .int .i64)])]⟩)]
  | 38 => [(8, ⟨[0, 1, 9, 53, 54], [(.exit 1, [])]⟩)]
  | 39 => [(2, ⟨[0, 1, 7, 8], [(.exit 0, []), (.ret, [(4, .int .i64)])]⟩)]
  | 40 => [(2, ⟨[0, 1, 5], [(.exit 0, [(5, .int .i64)])]⟩)]
  | 51 => [(4, ⟨[0, 2, 8], [(.exit 0, []), (.ret, [(6, .int .i64), (7, .int .i64)])]⟩)]
  | 59 => [(2, ⟨[0, 1, 7, 8], [(.exit 0, []), (.ret, [(4, .int .i64)])]⟩)]
  | 61 => [(2, ⟨[0, 1, 7, 8], [(.exit 0, []), (.ret, [(4, .int .i64)])]⟩)]
  | 82 => [(3, ⟨[0, 1, 2, 7, 14, 15, 16], [(.exit 0, [(7, .slice)])]⟩), (6, ⟨[1, 2, 7, 25, 26, 27], [(.exit 2, [(7, .slice)])]⟩), (10, ⟨[], [(.normal, [])]⟩), (12, ⟨[], [(.normal, [(7, .slice)])]⟩)]
  | 83 => [(2, ⟨[0, 2, 4], [(.exit 0, []), (.ret, [(3, .bool)])]⟩)]
  | 84 => [(3, ⟨[0, 3, 9, 10], [(.exit 0, [(3, .slice)])]⟩), (6, ⟨[], [(.normal, [(3, .slice)])]⟩)]
  | 85 => [(7, ⟨[0, 6, 7, 19, 20, 21], [(.exit 0, [])]⟩)]
  | 88 => [(1, ⟨[], [(.normal, [])]⟩)]
  | 90 => [(3, ⟨[0, 2, 7, 8, 9], [(.exit 0, [(7, .slice)])]⟩)]
  | 91 => [(4, ⟨[0, 2, 8], [(.exit 0, []), (.ret, [(6, .int .i64), (7, .int .i64)])]⟩)]
  | 95 => [(2, ⟨[0, 1, 2, 6, 7, 8], [(.exit 0, [(7, .int .i64)])]⟩), (7, ⟨[0, 1, 2, 6], [(.exit 2, [])]⟩), (9, ⟨[0, 1, 2, 6, 7, 8], [(.exit 4, [(7, .int .i64)])]⟩), (15, ⟨[], [(.normal, [])]⟩)]
  | 96 => [(1, ⟨[0, 1, 2, 3, 8], [(.exit 0, [])]⟩), (4, ⟨[0, 1, 3, 9], [(.exit 2, [])]⟩)]
  | 97 => [(3, ⟨[0, 1, 4, 10, 11], [(.exit 0, [(10, .int .i64)])]⟩), (6, ⟨[], [(.normal, [(10, .int .i64), (11, .int .i64)])]⟩), (9, ⟨[0, 10, 13], [(.exit 2, [])]⟩), (15, ⟨[0, 2, 4, 14, 15], [(.exit 4, [(14, .int .i64)])]⟩), (18, ⟨[], [(.normal, [(14, .int .i64), (15, .int .i64)])]⟩), (21, ⟨[0, 14, 17], [(.exit 6, [])]⟩), (28, ⟨[], [(.normal, [(20, .int .i64), (21, .int .i64)])]⟩), (33, ⟨[0, 4, 20, 21, 22], [(.exit 8, [(20, .int .i64)])]⟩), (36, ⟨[], [(.normal, [(20, .int .i64), (21, .int .i64)])]⟩), (40, ⟨[], [(.normal, [])]⟩), (42, ⟨[], [(.normal, [])]⟩), (44, ⟨[], [(.normal, [])]⟩)]
  | 98 => [(2, ⟨[0, 2, 4, 10, 11], [(.exit 0, [(10, .int .i64)])]⟩), (4, ⟨[], [(.normal, [(10, .int .i64), (11, .int .i64)])]⟩)]
  | 99 => [(1, ⟨[0, 1, 2, 3, 10], [(.exit 0, [])]⟩)]
  | 100 => [(4, ⟨[], [(.normal, [])]⟩)]
  | 102 => [(2, ⟨[], [(.normal, []), (.ret, [(6, .int .i64), (7, .bool)])]⟩)]
  | 105 => [(0, ⟨[], [(.normal, []), (.ret, [(6, .int .i64), (7, .bool)])]⟩)]
  | 106 => [(2, ⟨[0, 2, 11, 12, 13], [(.exit 0, []), (.ret, [(3, .bool)])]⟩), (6, ⟨[0, 2, 5, 6, 7], [(.exit 2, []), (.ret, [(3, .bool)])]⟩), (9, ⟨[6, 8], [(.exit 4, [(8, .int .i64)])]⟩)]
  | 107 => [(5, ⟨[0, 5, 18, 19, 20], [(.exit 0, [])]⟩), (9, ⟨[5, 9, 10], [(.exit 2, [])]⟩)]
  | _ => []

variable [Quiet]

noncomputable def callV0 (k : Nat) (f : Value) (args : List Value) (σ : AMem) : Option (Value × AMem) := callVal P (fn P X H k) f args σ

noncomputable def callV1 (k : Nat) (f : Value) (args : List Value) (σ : AMem) : Option (Value × AMem) := callVal P (fn P X H k) f args σ

noncomputable def callV2 (k : Nat) (f : Value) (args : List Value) (σ : AMem) : Option (Value × AMem) := callVal P (fn P X H k) f args σ

noncomputable def callV3 (k : Nat) (f : Value) (args : List Value) (σ : AMem) : Option (Value × AMem) := callVal P (fn P X H k) f args σ

def u_f {ρ : Type} (l : List Value) (K : Value → Option ρ) : Option ρ := l.head?.bind fun y0 => K y0
theorem u_f_eq {ρ : Type} (y0 : Value) (K : Value → Option ρ) : u_f [y0] K = K y0 := by simp [u_f, toI, toB, toStr, toP, toS, toM]

def u_i {ρ : Type} (l : List Value) (K : Int → Option ρ) : Option ρ := l.head?.bind fun v => (toI .i64 v).bind fun y0 => K y0
theorem u_i_eq {ρ : Type} (y0 : Int) (K : Int → Option ρ) : u_i [.int .i64 y0] K = K y0 := by simp [u_i, toI, toB, toStr, toP, toS, toM]

def u_ii {ρ : Type} (l : List Value) (K : Int → Int → Option ρ) : Option ρ := l.head?.bind fun v => (toI .i64 v).bind fun y0 => l.tail.head?.bind fun v => (toI .i64 v).bind fun y1 => K y0 y1
theorem u_ii_eq {ρ : Type} (y0 : Int) (y1 : Int) (K : Int → Int → Option ρ) : u_ii [.int .i64 y0, .int .i64 y1] K = K y0 y1 := by simp [u_ii, toI, toB, toStr, toP, toS, toM]

def u_iii {ρ : Type} (l : List Value) (K : Int → Int → Int → Option ρ) : Option ρ := l.head?.bind fun v => (toI .i64 v).bind fun y0 => l.tail.head?.bind fun v => (toI .i64 v).bind fun y1 => l.tail.tail.head?.bind fun v => (toI .i64 v).bind fun y2 => K y0 y1 y2
theorem u_iii_eq {ρ : Type} (y0 : Int) (y1 : Int) (y2 : Int) (K : Int → Int → Int → Option ρ) : u_iii [.int .i64 y0, .int .i64 y1, .int .i64 y2] K = K y0 y1 y2 := by simp [u_iii, toI, toB, toStr, toP, toS, toM]

def u_it {ρ : Type} (l : List Value) (K : Int → Bool → Option ρ) : Option ρ := l.head?.bind fun v => (toI .i64 v).bind fun y0 => l.tail.head?.bind fun v => (toB v).bind fun y1 => K y0 y1
theorem u_it_eq {ρ : Type} (y0 : Int) (y1 : Bool) (K : Int → Bool → Option ρ) : u_it [.int .i64 y0, .bool y1] K = K y0 y1 := by simp [u_it, toI, toB, toStr, toP, toS, toM]

def u_l {ρ : Type} (l : List Value) (K : Option Addr × Nat × Nat → Option ρ) : Option ρ := l.head?.bind fun v => (toS v).bind fun y0 => K y0
theorem u_l_eq {ρ : Type} (y0 : Option Addr × Nat × Nat) (K : Option Addr × Nat × Nat → Option ρ) : u_l [.slice y0.1 y0.2.1 y0.2.2] K = K y0 := by simp [u_l, toI, toB, toStr, toP, toS, toM]

def u_t {ρ : Type} (l : List Value) (K : Bool → Option ρ) : Option ρ := l.head?.bind fun v => (toB v).bind fun y0 => K y0
theorem u_t_eq {ρ : Type} (y0 : Bool) (K : Bool → Option ρ) : u_t [.bool y0] K = K y0 := by simp [u_t, toI, toB, toStr, toP, toS, toM]

def a_ii {ρ : Type} (v : Value) (K : Int → Int → Option ρ) : Option ρ := (toA v).bind fun l => if l.length = 2 then u_ii l K else none
theorem a_ii_eq {ρ : Type} (y0 : Int) (y1 : Int) (K : Int → Int → Option ρ) : a_ii (.agg #[.int .i64 y0, .int .i64 y1]) K = K y0 y1 := by simp [a_ii, u_ii, toA, toI, toB, toStr, toP, toS, toM]

def a_iii {ρ : Type} (v : Value) (K : Int → Int → Int → Option ρ) : Option ρ := (toA v).bind fun l => if l.length = 3 then u_iii l K else none
theorem a_iii_eq {ρ : Type} (y0 : Int) (y1 : Int) (y2 : Int) (K : Int → Int → Int → Option ρ) : a_iii (.agg #[.int .i64 y0, .int .i64 y1, .int .i64 y2]) K = K y0 y1 y2 := by simp [a_iii, u_iii, toA, toI, toB, toStr, toP, toS, toM]

def r_0 {ρ : Type} (v : Value) (K : Option ρ) : Option ρ := (toT v).bind fun l => if l.length = 0 then K else none
theorem r_0_eq {ρ : Type}  (K : Option ρ) : r_0 (.tuple #[]) K = K := by simp [r_0, toT, toI, toB, toStr, toP, toS, toM]

def r_ii {ρ : Type} (v : Value) (K : Int → Int → Option ρ) : Option ρ := (toT v).bind fun l => if l.length = 2 then l.head?.bind fun v => (toI .i64 v).bind fun y0 => l.tail.head?.bind fun v => (toI .i64 v).bind fun y1 => K y0 y1 else none
theorem r_ii_eq {ρ : Type} (y0 : Int) (y1 : Int) (K : Int → Int → Option ρ) : r_ii (.tuple #[.int .i64 y0, .int .i64 y1]) K = K y0 y1 := by simp [r_ii, toT, toI, toB, toStr, toP, toS, toM]

def r_it {ρ : Type} (v : Value) (K : Int → Bool → Option ρ) : Option ρ := (toT v).bind fun l => if l.length = 2 then l.head?.bind fun v => (toI .i64 v).bind fun y0 => l.tail.head?.bind fun v => (toB v).bind fun y1 => K y0 y1 else none
theorem r_it_eq {ρ : Type} (y0 : Int) (y1 : Bool) (K : Int → Bool → Option ρ) : r_it (.tuple #[.int .i64 y0, .bool y1]) K = K y0 y1 := by simp [r_it, toT, toI, toB, toStr, toP, toS, toM]

def r_pi {ρ : Type} (v : Value) (K : Option Addr → Int → Option ρ) : Option ρ := (toT v).bind fun l => if l.length = 2 then l.head?.bind fun v => (toP v).bind fun y0 => l.tail.head?.bind fun v => (toI .i64 v).bind fun y1 => K y0 y1 else none
theorem r_pi_eq {ρ : Type} (y0 : Option Addr) (y1 : Int) (K : Option Addr → Int → Option ρ) : r_pi (.tuple #[.pointer y0, .int .i64 y1]) K = K y0 y1 := by simp [r_pi, toT, toI, toB, toStr, toP, toS, toM]

noncomputable def heap_New (k : Nat) (x0 : Int) (σ : AMem) : Option (Value × AMem) := fn P X H k 4 [.int .i64 x0] σ

noncomputable def alloc_Allocator_Alloc (k : Nat) (x0 : Option Addr) (x1_0 : Int) (x1_1 : Int) (x1_2 : Int) (σ : AMem) : Option (Value × AMem) := fn P X H k 5 [.pointer x0, .agg #[.int .i64 x1_0, .int .i64 x1_1, .int .i64 x1_2]] σ

noncomputable def alloc_New (k : Nat) (x0 : Option Addr) (x1 : Int) (x2 : Int) (σ : AMem) : Option (Value × AMem) := fn P X H k 7 [.pointer x0, .int .i64 x1, .int .i64 x2] σ

noncomputable def law05_alive (k : Nat)  (σ : AMem) : Option (Value × AMem) := fn P X H k 10 [] σ

noncomputable def side_New (k : Nat) (x0 : Int) (x1 : Int) (σ : AMem) : Option (Value × AMem) := fn P X H k 11 [.int .i64 x0, .int .i64 x1] σ

noncomputable def alloc_Allocator_made (k : Nat) (x0 : Option Addr) (σ : AMem) : Option (Value × AMem) := fn P X H k 12 [.pointer x0] σ

noncomputable def heap_Valid (k : Nat) (x0_0 : Int) (x0_1 : Int) (x0_2 : Int) (σ : AMem) : Option (Value × AMem) := fn P X H k 13 [.agg #[.int .i64 x0_0, .int .i64 x0_1, .int .i64 x0_2]] σ

noncomputable def heap_Words (k : Nat) (x0_0 : Int) (x0_1 : Int) (x0_2 : Int) (σ : AMem) : Option (Value × AMem) := fn P X H k 14 [.agg #[.int .i64 x0_0, .int .i64 x0_1, .int .i64 x0_2]] σ

noncomputable def alloc_policies (k : Nat)  (σ : AMem) : Option (Value × AMem) := fn P X H k 15 [] σ

noncomputable def alloc_Allocator_large (k : Nat) (x0 : Option Addr) (x1 : Int) (σ : AMem) : Option (Value × AMem) := fn P X H k 16 [.pointer x0, .int .i64 x1] σ

noncomputable def heap_Heap_Space (k : Nat) (x0 : Option Addr) (x1 : Int) (σ : AMem) : Option (Value × AMem) := fn P X H k 17 [.pointer x0, .int .i64 x1] σ

noncomputable def heap_Heap_Place (k : Nat) (x0 : Option Addr) (x1 : Int) (x2_0 : Int) (x2_1 : Int) (x2_2 : Int) (σ : AMem) : Option (Value × AMem) := fn P X H k 18 [.pointer x0, .int .i64 x1, .agg #[.int .i64 x2_0, .int .i64 x2_1, .int .i64 x2_2]] σ

noncomputable def heap_Heap_Blocks (k : Nat) (x0 : Option Addr) (σ : AMem) : Option (Value × AMem) := fn P X H k 19 [.pointer x0] σ

noncomputable def heap_Heap_Kill (k : Nat) (x0 : Option Addr) (x1 : Int) (σ : AMem) : Option (Value × AMem) := fn P X H k 26 [.pointer x0, .int .i64 x1] σ

noncomputable def heap_Heap_Claim (k : Nat) (x0 : Option Addr) (x1 : Int) (x2 : Int) (σ : AMem) : Option (Value × AMem) := fn P X H k 27 [.pointer x0, .int .i64 x1, .int .i64 x2] σ

noncomputable def slices_Contains_int (k : Nat) (x0 : Option Addr × Nat × Nat) (x1 : Int) (σ : AMem) : Option (Value × AMem) := fn P X H k 28 [.slice x0.1 x0.2.1 x0.2.2, .int .i64 x1] σ

noncomputable def heap_Heap_ClaimLarge (k : Nat) (x0 : Option Addr) (x1 : Int) (x2 : Int) (x3 : Int) (σ : AMem) : Option (Value × AMem) := fn P X H k 29 [.pointer x0, .int .i64 x1, .int .i64 x2, .int .i64 x3] σ

noncomputable def heap_Heap_made (k : Nat) (x0 : Option Addr) (σ : AMem) : Option (Value × AMem) := fn P X H k 30 [.pointer x0] σ

noncomputable def heap_Heap_fits (k : Nat) (x0 : Option Addr) (x1 : Int) (x2 : Int) (x3 : Int) (σ : AMem) : Option (Value × AMem) := fn P X H k 31 [.pointer x0, .int .i64 x1, .int .i64 x2, .int .i64 x3] σ

noncomputable def heap_number (k : Nat) (x0_0 : Int) (x0_1 : Int) (x0_2 : Int) (σ : AMem) : Option (Value × AMem) := fn P X H k 32 [.agg #[.int .i64 x0_0, .int .i64 x0_1, .int .i64 x0_2]] σ

noncomputable def side_Table_Set (k : Nat) (x0 : Option Addr) (x1 : Int) (x2 : Int) (σ : AMem) : Option (Value × AMem) := fn P X H k 33 [.pointer x0, .int .i64 x1, .int .i64 x2] σ

noncomputable def heap_Heap_object (k : Nat) (x0 : Option Addr) (x1 : Int) (σ : AMem) : Option (Value × AMem) := fn P X H k 35 [.pointer x0, .int .i64 x1] σ

noncomputable def heap_Heap_wipe (k : Nat) (x0 : Option Addr) (x1 : Int) (x2 : Int) (σ : AMem) : Option (Value × AMem) := fn P X H k 36 [.pointer x0, .int .i64 x1, .int .i64 x2] σ

noncomputable def heap_Heap_size (k : Nat) (x0 : Option Addr) (x1 : Int) (σ : AMem) : Option (Value × AMem) := fn P X H k 37 [.pointer x0, .int .i64 x1] σ

noncomputable def heap_Heap_claim (k : Nat) (x0 : Option Addr) (x1 : Int) (x2 : Int) (x3_0 : Int) (x3_1 : Int) (x4_0 : Int) (x4_1 : Int) (σ : AMem) : Option (Value × AMem) := fn P X H k 38 [.pointer x0, .int .i64 x1, .int .i64 x2, .agg #[.int .i64 x3_0, .int .i64 x3_1], .agg #[.int .i64 x4_0, .int .i64 x4_1]] σ

noncomputable def slices_Index_int (k : Nat) (x0 : Option Addr × Nat × Nat) (x1 : Int) (σ : AMem) : Option (Value × AMem) := fn P X H k 39 [.slice x0.1 x0.2.1 x0.2.2, .int .i64 x1] σ

noncomputable def heap_Heap_span (k : Nat) (x0 : Option Addr) (x1 : Int) (σ : AMem) : Option (Value × AMem) := fn P X H k 40 [.pointer x0, .int .i64 x1] σ

noncomputable def heap_Heap_Find (k : Nat) (x0 : Option Addr) (x1 : Int) (σ : AMem) : Option (Value × AMem) := fn P X H k 41 [.pointer x0, .int .i64 x1] σ

noncomputable def side_Table_check (k : Nat) (x0 : Option Addr) (x1 : Int) (x2 : Option Addr × Nat × Nat) (σ : AMem) : Option (Value × AMem) := fn P X H k 42 [.pointer x0, .int .i64 x1, .slice x2.1 x2.2.1 x2.2.2] σ

noncomputable def side_Table_put (k : Nat) (x0 : Option Addr) (x1 : Int) (x2 : Int) (σ : AMem) : Option (Value × AMem) := fn P X H k 43 [.pointer x0, .int .i64 x1, .int .i64 x2] σ

noncomputable def heap_Heap_Has (k : Nat) (x0 : Option Addr) (x1 : Int) (σ : AMem) : Option (Value × AMem) := fn P X H k 45 [.pointer x0, .int .i64 x1] σ

noncomputable def heap_shape (k : Nat) (x0 : Int) (σ : AMem) : Option (Value × AMem) := fn P X H k 46 [.int .i64 x0] σ

noncomputable def heap_Heap_there (k : Nat) (x0 : Option Addr) (x1 : Int) (σ : AMem) : Option (Value × AMem) := fn P X H k 47 [.pointer x0, .int .i64 x1] σ

noncomputable def heap_space (k : Nat) (x0 : Int) (σ : AMem) : Option (Value × AMem) := fn P X H k 48 [.int .i64 x0] σ

noncomputable def slices_ContainsFunc_heap_block (k : Nat) (x0 : Option Addr × Nat × Nat) (x1 : Value) (σ : AMem) : Option (Value × AMem) := fn P X H k 49 [.slice x0.1 x0.2.1 x0.2.2, x1] σ

noncomputable def heap_Heap_claim_c1 (k : Nat) (x0_0 : Int) (x0_1 : Int) (σ : AMem) : Option (Value × AMem) := fn P X H k 50 [.agg #[.int .i64 x0_0, .int .i64 x0_1]] σ

noncomputable def side_Table_Last (k : Nat) (x0 : Option Addr) (x1 : Int) (x2 : Int) (σ : AMem) : Option (Value × AMem) := fn P X H k 51 [.pointer x0, .int .i64 x1, .int .i64 x2] σ

noncomputable def side_Table_made (k : Nat) (x0 : Option Addr) (σ : AMem) : Option (Value × AMem) := fn P X H k 52 [.pointer x0] σ

noncomputable def side_Table_there (k : Nat) (x0 : Option Addr) (x1 : Int) (σ : AMem) : Option (Value × AMem) := fn P X H k 53 [.pointer x0, .int .i64 x1] σ

noncomputable def slices_ContainsFunc_int (k : Nat) (x0 : Option Addr × Nat × Nat) (x1 : Value) (σ : AMem) : Option (Value × AMem) := fn P X H k 54 [.slice x0.1 x0.2.1 x0.2.2, x1] σ

noncomputable def side_Table_check_c1 (k : Nat) (x0 : Int) (c0 : Option Addr) (σ : AMem) : Option (Value × AMem) := fn P X H k 55 [.int .i64 x0, .pointer c0] σ

noncomputable def side_Table_value (k : Nat) (x0 : Option Addr) (x1 : Int) (σ : AMem) : Option (Value × AMem) := fn P X H k 56 [.pointer x0, .int .i64 x1] σ

noncomputable def side_Table_most (k : Nat) (x0 : Option Addr) (σ : AMem) : Option (Value × AMem) := fn P X H k 57 [.pointer x0] σ

noncomputable def side_Table_Get (k : Nat) (x0 : Option Addr) (x1 : Int) (σ : AMem) : Option (Value × AMem) := fn P X H k 58 [.pointer x0, .int .i64 x1] σ

noncomputable def slices_IndexFunc_heap_block (k : Nat) (x0 : Option Addr × Nat × Nat) (x1 : Value) (σ : AMem) : Option (Value × AMem) := fn P X H k 59 [.slice x0.1 x0.2.1 x0.2.2, x1] σ

noncomputable def side_Table_get (k : Nat) (x0 : Option Addr) (x1 : Int) (σ : AMem) : Option (Value × AMem) := fn P X H k 60 [.pointer x0, .int .i64 x1] σ

noncomputable def slices_IndexFunc_int (k : Nat) (x0 : Option Addr × Nat × Nat) (x1 : Value) (σ : AMem) : Option (Value × AMem) := fn P X H k 61 [.slice x0.1 x0.2.1 x0.2.2, x1] σ

noncomputable def alloc_first_place (k : Nat) (x1 : Option Addr) (x2 : Int) (σ : AMem) : Option (Value × AMem) := fn P X H k 80 [.agg #[], .pointer x1, .int .i64 x2] σ

noncomputable def alloc_Allocator_start (k : Nat) (x0 : Option Addr) (x1 : Option Addr × Nat × Nat) (σ : AMem) : Option (Value × AMem) := fn P X H k 81 [.pointer x0, .slice x1.1 x1.2.1 x1.2.2] σ

noncomputable def alloc_Allocator_gaps (k : Nat) (x0 : Option Addr) (x1 : Int) (x2 : Int) (σ : AMem) : Option (Value × AMem) := fn P X H k 82 [.pointer x0, .int .i64 x1, .int .i64 x2] σ

noncomputable def alloc_Allocator_begin (k : Nat) (x0 : Option Addr) (σ : AMem) : Option (Value × AMem) := fn P X H k 83 [.pointer x0] σ

noncomputable def alloc_Allocator_blocks (k : Nat) (x0 : Option Addr) (σ : AMem) : Option (Value × AMem) := fn P X H k 84 [.pointer x0] σ

noncomputable def heap_Heap_Gaps (k : Nat) (x0 : Option Addr) (x1 : Int) (σ : AMem) : Option (Value × AMem) := fn P X H k 85 [.pointer x0, .int .i64 x1] σ

noncomputable def heap_Heap_State (k : Nat) (x0 : Option Addr) (x1 : Int) (σ : AMem) : Option (Value × AMem) := fn P X H k 86 [.pointer x0, .int .i64 x1] σ

noncomputable def heap_Heap_used (k : Nat) (x0 : Option Addr) (x1 : Int) (σ : AMem) : Option (Value × AMem) := fn P X H k 87 [.pointer x0, .int .i64 x1] σ

noncomputable def heap_Heap_Gaps_c1 (k : Nat) (x0 : Int) (c0 : Option Addr) (c1 : Option Addr) (σ : AMem) : Option (Value × AMem) := fn P X H k 88 [.int .i64 x0, .pointer c0, .pointer c1] σ

noncomputable def heap_Heap_Objects (k : Nat) (x0 : Option Addr) (x1 : Int) (σ : AMem) : Option (Value × AMem) := fn P X H k 89 [.pointer x0, .int .i64 x1] σ

noncomputable def heap_Heap_between (k : Nat) (x0 : Option Addr) (x1 : Int) (x2 : Int) (σ : AMem) : Option (Value × AMem) := fn P X H k 90 [.pointer x0, .int .i64 x1, .int .i64 x2] σ

noncomputable def side_Table_Next (k : Nat) (x0 : Option Addr) (x1 : Int) (x2 : Int) (σ : AMem) : Option (Value × AMem) := fn P X H k 91 [.pointer x0, .int .i64 x1, .int .i64 x2] σ

noncomputable def alloc_best_place (k : Nat) (x1 : Option Addr) (x2 : Int) (σ : AMem) : Option (Value × AMem) := fn P X H k 92 [.agg #[], .pointer x1, .int .i64 x2] σ

noncomputable def slices_SortStableFunc_api_Run (k : Nat) (x0 : Option Addr × Nat × Nat) (x1 : Value) (σ : AMem) : Option (Value × AMem) := fn P X H k 93 [.slice x0.1 x0.2.1 x0.2.2, x1] σ

noncomputable def alloc_best_place_c1 (k : Nat) (x0_0 : Int) (x0_1 : Int) (x1_0 : Int) (x1_1 : Int) (σ : AMem) : Option (Value × AMem) := fn P X H k 94 [.agg #[.int .i64 x0_0, .int .i64 x0_1], .agg #[.int .i64 x1_0, .int .i64 x1_1]] σ

noncomputable def slices_stableCmpFunc_api_Run (k : Nat) (x0 : Option Addr × Nat × Nat) (x1 : Int) (x2 : Value) (σ : AMem) : Option (Value × AMem) := fn P X H k 95 [.slice x0.1 x0.2.1 x0.2.2, .int .i64 x1, x2] σ

noncomputable def slices_insertionSortCmpFunc_api_Run (k : Nat) (x0 : Option Addr × Nat × Nat) (x1 : Int) (x2 : Int) (x3 : Value) (σ : AMem) : Option (Value × AMem) := fn P X H k 96 [.slice x0.1 x0.2.1 x0.2.2, .int .i64 x1, .int .i64 x2, x3] σ

noncomputable def slices_symMergeCmpFunc_api_Run (k : Nat) (x0 : Option Addr × Nat × Nat) (x1 : Int) (x2 : Int) (x3 : Int) (x4 : Value) (σ : AMem) : Option (Value × AMem) := fn P X H k 97 [.slice x0.1 x0.2.1 x0.2.2, .int .i64 x1, .int .i64 x2, .int .i64 x3, x4] σ

noncomputable def slices_rotateCmpFunc_api_Run (k : Nat) (x0 : Option Addr × Nat × Nat) (x1 : Int) (x2 : Int) (x3 : Int) (x4 : Value) (σ : AMem) : Option (Value × AMem) := fn P X H k 98 [.slice x0.1 x0.2.1 x0.2.2, .int .i64 x1, .int .i64 x2, .int .i64 x3, x4] σ

noncomputable def slices_swapRangeCmpFunc_api_Run (k : Nat) (x0 : Option Addr × Nat × Nat) (x1 : Int) (x2 : Int) (x3 : Int) (x4 : Value) (σ : AMem) : Option (Value × AMem) := fn P X H k 99 [.slice x0.1 x0.2.1 x0.2.2, .int .i64 x1, .int .i64 x2, .int .i64 x3, x4] σ

noncomputable def alloc_next_place (k : Nat) (x1 : Option Addr) (x2 : Int) (σ : AMem) : Option (Value × AMem) := fn P X H k 100 [.agg #[], .pointer x1, .int .i64 x2] σ

noncomputable def alloc_bump_place (k : Nat) (x1 : Option Addr) (x2 : Int) (σ : AMem) : Option (Value × AMem) := fn P X H k 101 [.agg #[], .pointer x1, .int .i64 x2] σ

noncomputable def alloc_Allocator_bumped (k : Nat) (x0 : Option Addr) (x1 : Option Addr) (x2 : Int) (σ : AMem) : Option (Value × AMem) := fn P X H k 102 [.pointer x0, .pointer x1, .int .i64 x2] σ

noncomputable def alloc_area_has (k : Nat) (x0 : Option Addr) (x1 : Int) (σ : AMem) : Option (Value × AMem) := fn P X H k 103 [.pointer x0, .int .i64 x1] σ

noncomputable def alloc_area_take (k : Nat) (x0 : Option Addr) (x1 : Int) (σ : AMem) : Option (Value × AMem) := fn P X H k 104 [.pointer x0, .int .i64 x1] σ

noncomputable def alloc_lines_place (k : Nat) (x1 : Option Addr) (x2 : Int) (σ : AMem) : Option (Value × AMem) := fn P X H k 105 [.agg #[], .pointer x1, .int .i64 x2] σ

noncomputable def alloc_Allocator_hole (k : Nat) (x0 : Option Addr) (σ : AMem) : Option (Value × AMem) := fn P X H k 106 [.pointer x0] σ

noncomputable def heap_Heap_Lines (k : Nat) (x0 : Option Addr) (x1 : Int) (σ : AMem) : Option (Value × AMem) := fn P X H k 107 [.pointer x0, .int .i64 x1] σ

end Go.Proofs.Ytilefhlamdiomaa.Al
