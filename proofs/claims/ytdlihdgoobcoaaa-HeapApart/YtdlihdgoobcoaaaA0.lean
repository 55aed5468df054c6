/-
  PRINTED BY A PROGRAM OF THIS SESSION'S OWN (gen.py): the Go functions as Lean functions over the abstract memory.
-/
import Derived.Test.YtdlihdgoobcoaaaAXC
set_option maxRecDepth 100000
set_option linter.unusedVariables false
set_option linter.unusedSimpArgs false
set_option linter.unusedSectionVars false
namespace Go.Proofs.Ytdlihdgoobcoaaa.Al
open Go Go.AX

def H : FuncId → Hints
  | 27 => [(14, ⟨[0, 6, 7, 19, 20, 21], [(.exit 0, [])]⟩)]
  | 44 => [(14, ⟨[0, 1, 6], [(.exit 0, [])]⟩)]
  | 45 => [(8, ⟨[0, 1, 5], [(.exit 0, []), (.ret, [(4, .bool)])]⟩)]
  | 47 => [(6, ⟨[0, 2, 7, 8, 9], [(.exit 0, [(7, .slice)])]⟩)]
  | 49 => [(11, ⟨[], [(.normal, []), (.ret, [(8, .int .i64)])]⟩), (20, ⟨[0, 1, 2, 3, 10], [(.exit 0, []), (.ret, [(8, .int .i64)])]⟩)]
  | 55 => [(8, ⟨[0, 2, 8], [(.exit 0, []), (.ret, [(6, .int .i64), (7, .int .i64)])]⟩)]
  | 56 => [(3, ⟨[], [(.normal, [])]⟩)]
  | 76 => [(16, ⟨[0, 1, 9, 53, 54], [(.exit 1, [])]⟩)]
  | 78 => [(4, ⟨[0, 1, 5], [(.exit 0, [(5, .int .i64)])]⟩)]
  | 79 => [(8, ⟨[0, 2, 8], [(.exit 0, []), (.ret, [(6, .int .i64), (7, .int .i64)])]⟩)]
  | 98 => [(4, ⟨[0, 1, 7, 8], [(.exit 0, []), (.ret, [(4, .int .i64)])]⟩)]
  | 99 => [(4, ⟨[0, 1, 7, 8], [(.exit 0, []), (.ret, [(4, .int .i64)])]⟩)]
  | 100 => [(4, ⟨[0, 1, 7, 8], [(.exit 0, []), (.ret, [(4, .int .i64)])]⟩)]
  | _ => []

variable [Quiet]

noncomputable def callV_ii_t (k : Nat) (f : Value) (args : List Value) (σ : AMem) : Option (Value × AMem) := callVal P (fn P X H k) f args σ

noncomputable def callV_i_t (k : Nat) (f : Value) (args : List Value) (σ : AMem) : Option (Value × AMem) := callVal P (fn P X H k) f args σ

def u_i {ρ : Type} (l : List Value) (K : Int → Option ρ) : Option ρ := l.head?.bind fun v => (toI .i64 v).bind fun y0 => K y0
theorem u_i_eq {ρ : Type} (y0 : Int) (K : Int → Option ρ) : u_i [.int .i64 y0] K = K y0 := by simp [u_i, toI, toB, toStr, toP, toS, toM]

def u_ii {ρ : Type} (l : List Value) (K : Int → Int → Option ρ) : Option ρ := l.head?.bind fun v => (toI .i64 v).bind fun y0 => l.tail.head?.bind fun v => (toI .i64 v).bind fun y1 => K y0 y1
theorem u_ii_eq {ρ : Type} (y0 : Int) (y1 : Int) (K : Int → Int → Option ρ) : u_ii [.int .i64 y0, .int .i64 y1] K = K y0 y1 := by simp [u_ii, toI, toB, toStr, toP, toS, toM]

def u_iii {ρ : Type} (l : List Value) (K : Int → Int → Int → Option ρ) : Option ρ := l.head?.bind fun v => (toI .i64 v).bind fun y0 => l.tail.head?.bind fun v => (toI .i64 v).bind fun y1 => l.tail.tail.head?.bind fun v => (toI .i64 v).bind fun y2 => K y0 y1 y2
theorem u_iii_eq {ρ : Type} (y0 : Int) (y1 : Int) (y2 : Int) (K : Int → Int → Int → Option ρ) : u_iii [.int .i64 y0, .int .i64 y1, .int .i64 y2] K = K y0 y1 y2 := by simp [u_iii, toI, toB, toStr, toP, toS, toM]

def u_l {ρ : Type} (l : List Value) (K : Option Addr × Nat × Nat → Option ρ) : Option ρ := l.head?.bind fun v => (toS v).bind fun y0 => K y0
theorem u_l_eq {ρ : Type} (y0 : Option Addr × Nat × Nat) (K : Option Addr × Nat × Nat → Option ρ) : u_l [.slice y0.1 y0.2.1 y0.2.2] K = K y0 := by simp [u_l, toI, toB, toStr, toP, toS, toM]

def u_t {ρ : Type} (l : List Value) (K : Bool → Option ρ) : Option ρ := l.head?.bind fun v => (toB v).bind fun y0 => K y0
theorem u_t_eq {ρ : Type} (y0 : Bool) (K : Bool → Option ρ) : u_t [.bool y0] K = K y0 := by simp [u_t, toI, toB, toStr, toP, toS, toM]

def a_iii {ρ : Type} (v : Value) (K : Int → Int → Int → Option ρ) : Option ρ := (toA v).bind fun l => if l.length = 3 then u_iii l K else none
theorem a_iii_eq {ρ : Type} (y0 : Int) (y1 : Int) (y2 : Int) (K : Int → Int → Int → Option ρ) : a_iii (.agg #[.int .i64 y0, .int .i64 y1, .int .i64 y2]) K = K y0 y1 y2 := by simp [a_iii, u_iii, toA, toI, toB, toStr, toP, toS, toM]

def r_0 {ρ : Type} (v : Value) (K : Option ρ) : Option ρ := (toT v).bind fun l => if l.length = 0 then K else none
theorem r_0_eq {ρ : Type}  (K : Option ρ) : r_0 (.tuple #[]) K = K := by simp [r_0, toT, toI, toB, toStr, toP, toS, toM]

def r_ii {ρ : Type} (v : Value) (K : Int → Int → Option ρ) : Option ρ := (toT v).bind fun l => if l.length = 2 then l.head?.bind fun v => (toI .i64 v).bind fun y0 => l.tail.head?.bind fun v => (toI .i64 v).bind fun y1 => K y0 y1 else none
theorem r_ii_eq {ρ : Type} (y0 : Int) (y1 : Int) (K : Int → Int → Option ρ) : r_ii (.tuple #[.int .i64 y0, .int .i64 y1]) K = K y0 y1 := by simp [r_ii, toT, toI, toB, toStr, toP, toS, toM]

def r_pi {ρ : Type} (v : Value) (K : Option Addr → Int → Option ρ) : Option ρ := (toT v).bind fun l => if l.length = 2 then l.head?.bind fun v => (toP v).bind fun y0 => l.tail.head?.bind fun v => (toI .i64 v).bind fun y1 => K y0 y1 else none
theorem r_pi_eq {ρ : Type} (y0 : Option Addr) (y1 : Int) (K : Option Addr → Int → Option ρ) : r_pi (.tuple #[.pointer y0, .int .i64 y1]) K = K y0 y1 := by simp [r_pi, toT, toI, toB, toStr, toP, toS, toM]

noncomputable def heap_Valid (k : Nat) (x0_0 : Int) (x0_1 : Int) (x0_2 : Int) (σ : AMem) : Option (Value × AMem) := fn P X H k 11 [.agg #[.int .i64 x0_0, .int .i64 x0_1, .int .i64 x0_2]] σ

noncomputable def heap_Words (k : Nat) (x0_0 : Int) (x0_1 : Int) (x0_2 : Int) (σ : AMem) : Option (Value × AMem) := fn P X H k 13 [.agg #[.int .i64 x0_0, .int .i64 x0_1, .int .i64 x0_2]] σ

noncomputable def law02_alive (k : Nat)  (σ : AMem) : Option (Value × AMem) := fn P X H k 15 [] σ

noncomputable def heap_Heap_At (k : Nat) (x0 : Option Addr) (x1 : Int) (σ : AMem) : Option (Value × AMem) := fn P X H k 20 [.pointer x0, .int .i64 x1] σ

noncomputable def heap_Heap_Place (k : Nat) (x0 : Option Addr) (x1 : Int) (x2_0 : Int) (x2_1 : Int) (x2_2 : Int) (σ : AMem) : Option (Value × AMem) := fn P X H k 21 [.pointer x0, .int .i64 x1, .agg #[.int .i64 x2_0, .int .i64 x2_1, .int .i64 x2_2]] σ

noncomputable def heap_Heap_Find (k : Nat) (x0 : Option Addr) (x1 : Int) (σ : AMem) : Option (Value × AMem) := fn P X H k 25 [.pointer x0, .int .i64 x1] σ

noncomputable def heap_Heap_Gaps (k : Nat) (x0 : Option Addr) (x1 : Int) (σ : AMem) : Option (Value × AMem) := fn P X H k 27 [.pointer x0, .int .i64 x1] σ

noncomputable def heap_Heap_Move (k : Nat) (x0 : Option Addr) (x1 : Int) (x2 : Int) (σ : AMem) : Option (Value × AMem) := fn P X H k 30 [.pointer x0, .int .i64 x1, .int .i64 x2] σ

noncomputable def heap_Heap_Has (k : Nat) (x0 : Option Addr) (x1 : Int) (σ : AMem) : Option (Value × AMem) := fn P X H k 31 [.pointer x0, .int .i64 x1] σ

noncomputable def heap_Heap_Forward (k : Nat) (x0 : Option Addr) (x1 : Int) (σ : AMem) : Option (Value × AMem) := fn P X H k 33 [.pointer x0, .int .i64 x1] σ

noncomputable def heap_Heap_Word (k : Nat) (x0 : Option Addr) (x1 : Int) (σ : AMem) : Option (Value × AMem) := fn P X H k 35 [.pointer x0, .int .i64 x1] σ

noncomputable def heap_New (k : Nat) (x0 : Int) (σ : AMem) : Option (Value × AMem) := fn P X H k 40 [.int .i64 x0] σ

noncomputable def heap_Heap_Claim (k : Nat) (x0 : Option Addr) (x1 : Int) (x2 : Int) (σ : AMem) : Option (Value × AMem) := fn P X H k 41 [.pointer x0, .int .i64 x1, .int .i64 x2] σ

noncomputable def heap_Heap_ClaimLarge (k : Nat) (x0 : Option Addr) (x1 : Int) (x2 : Int) (x3 : Int) (σ : AMem) : Option (Value × AMem) := fn P X H k 42 [.pointer x0, .int .i64 x1, .int .i64 x2, .int .i64 x3] σ

noncomputable def heap_Heap_Kill (k : Nat) (x0 : Option Addr) (x1 : Int) (σ : AMem) : Option (Value × AMem) := fn P X H k 43 [.pointer x0, .int .i64 x1] σ

noncomputable def heap_Heap_Release (k : Nat) (x0 : Option Addr) (x1 : Int) (σ : AMem) : Option (Value × AMem) := fn P X H k 44 [.pointer x0, .int .i64 x1] σ

noncomputable def ref01_SameRuns (k : Nat) (x0 : Option Addr × Nat × Nat) (x1 : Option Addr × Nat × Nat) (σ : AMem) : Option (Value × AMem) := fn P X H k 45 [.slice x0.1 x0.2.1 x0.2.2, .slice x1.1 x1.2.1 x1.2.2] σ

noncomputable def heap_Heap_made (k : Nat) (x0 : Option Addr) (σ : AMem) : Option (Value × AMem) := fn P X H k 46 [.pointer x0] σ

noncomputable def heap_Heap_between (k : Nat) (x0 : Option Addr) (x1 : Int) (x2 : Int) (σ : AMem) : Option (Value × AMem) := fn P X H k 47 [.pointer x0, .int .i64 x1, .int .i64 x2] σ

noncomputable def heap_Heap_object (k : Nat) (x0 : Option Addr) (x1 : Int) (σ : AMem) : Option (Value × AMem) := fn P X H k 48 [.pointer x0, .int .i64 x1] σ

noncomputable def heap_Heap_fits (k : Nat) (x0 : Option Addr) (x1 : Int) (x2 : Int) (x3 : Int) (σ : AMem) : Option (Value × AMem) := fn P X H k 49 [.pointer x0, .int .i64 x1, .int .i64 x2, .int .i64 x3] σ

noncomputable def heap_number (k : Nat) (x0_0 : Int) (x0_1 : Int) (x0_2 : Int) (σ : AMem) : Option (Value × AMem) := fn P X H k 50 [.agg #[.int .i64 x0_0, .int .i64 x0_1, .int .i64 x0_2]] σ

noncomputable def side_Table_Set (k : Nat) (x0 : Option Addr) (x1 : Int) (x2 : Int) (σ : AMem) : Option (Value × AMem) := fn P X H k 51 [.pointer x0, .int .i64 x1, .int .i64 x2] σ

noncomputable def heap_Heap_used (k : Nat) (x0 : Option Addr) (x1 : Int) (σ : AMem) : Option (Value × AMem) := fn P X H k 52 [.pointer x0, .int .i64 x1] σ

noncomputable def heap_Heap_Objects (k : Nat) (x0 : Option Addr) (x1 : Int) (σ : AMem) : Option (Value × AMem) := fn P X H k 53 [.pointer x0, .int .i64 x1] σ

noncomputable def heap_Heap_size (k : Nat) (x0 : Option Addr) (x1 : Int) (σ : AMem) : Option (Value × AMem) := fn P X H k 54 [.pointer x0, .int .i64 x1] σ

noncomputable def side_Table_Last (k : Nat) (x0 : Option Addr) (x1 : Int) (x2 : Int) (σ : AMem) : Option (Value × AMem) := fn P X H k 55 [.pointer x0, .int .i64 x1, .int .i64 x2] σ

noncomputable def heap_Heap_Gaps_c1 (k : Nat) (x0 : Int) (c0 : Option Addr) (c1 : Option Addr) (σ : AMem) : Option (Value × AMem) := fn P X H k 56 [.int .i64 x0, .pointer c0, .pointer c1] σ

noncomputable def side_Table_Get (k : Nat) (x0 : Option Addr) (x1 : Int) (σ : AMem) : Option (Value × AMem) := fn P X H k 60 [.pointer x0, .int .i64 x1] σ

noncomputable def heap_Heap_wipe (k : Nat) (x0 : Option Addr) (x1 : Int) (x2 : Int) (σ : AMem) : Option (Value × AMem) := fn P X H k 61 [.pointer x0, .int .i64 x1, .int .i64 x2] σ

noncomputable def heap_shape (k : Nat) (x0 : Int) (σ : AMem) : Option (Value × AMem) := fn P X H k 62 [.int .i64 x0] σ

noncomputable def side_New (k : Nat) (x0 : Int) (x1 : Int) (σ : AMem) : Option (Value × AMem) := fn P X H k 75 [.int .i64 x0, .int .i64 x1] σ

noncomputable def heap_Heap_claim (k : Nat) (x0 : Option Addr) (x1 : Int) (x2 : Int) (x3_0 : Int) (x3_1 : Int) (x4_0 : Int) (x4_1 : Int) (σ : AMem) : Option (Value × AMem) := fn P X H k 76 [.pointer x0, .int .i64 x1, .int .i64 x2, .agg #[.int .i64 x3_0, .int .i64 x3_1], .agg #[.int .i64 x4_0, .int .i64 x4_1]] σ

noncomputable def heap_Heap_held (k : Nat) (x0 : Option Addr) (x1 : Int) (x2 : Bool) (σ : AMem) : Option (Value × AMem) := fn P X H k 77 [.pointer x0, .int .i64 x1, .bool x2] σ

noncomputable def heap_Heap_span (k : Nat) (x0 : Option Addr) (x1 : Int) (σ : AMem) : Option (Value × AMem) := fn P X H k 78 [.pointer x0, .int .i64 x1] σ

noncomputable def side_Table_Next (k : Nat) (x0 : Option Addr) (x1 : Int) (x2 : Int) (σ : AMem) : Option (Value × AMem) := fn P X H k 79 [.pointer x0, .int .i64 x1, .int .i64 x2] σ

noncomputable def side_Table_check (k : Nat) (x0 : Option Addr) (x1 : Int) (x2 : Option Addr × Nat × Nat) (σ : AMem) : Option (Value × AMem) := fn P X H k 80 [.pointer x0, .int .i64 x1, .slice x2.1 x2.2.1 x2.2.2] σ

noncomputable def side_Table_put (k : Nat) (x0 : Option Addr) (x1 : Int) (x2 : Int) (σ : AMem) : Option (Value × AMem) := fn P X H k 81 [.pointer x0, .int .i64 x1, .int .i64 x2] σ

noncomputable def heap_Heap_there (k : Nat) (x0 : Option Addr) (x1 : Int) (σ : AMem) : Option (Value × AMem) := fn P X H k 82 [.pointer x0, .int .i64 x1] σ

noncomputable def side_Table_made (k : Nat) (x0 : Option Addr) (σ : AMem) : Option (Value × AMem) := fn P X H k 83 [.pointer x0] σ

noncomputable def side_Table_get (k : Nat) (x0 : Option Addr) (x1 : Int) (σ : AMem) : Option (Value × AMem) := fn P X H k 84 [.pointer x0, .int .i64 x1] σ

noncomputable def side_Table_there (k : Nat) (x0 : Option Addr) (x1 : Int) (σ : AMem) : Option (Value × AMem) := fn P X H k 86 [.pointer x0, .int .i64 x1] σ

noncomputable def heap_space (k : Nat) (x0 : Int) (σ : AMem) : Option (Value × AMem) := fn P X H k 87 [.int .i64 x0] σ

noncomputable def slices_Contains_int (k : Nat) (x0 : Option Addr × Nat × Nat) (x1 : Int) (σ : AMem) : Option (Value × AMem) := fn P X H k 91 [.slice x0.1 x0.2.1 x0.2.2, .int .i64 x1] σ

noncomputable def slices_ContainsFunc_heap_block (k : Nat) (x0 : Option Addr × Nat × Nat) (x1 : Value) (σ : AMem) : Option (Value × AMem) := fn P X H k 92 [.slice x0.1 x0.2.1 x0.2.2, x1] σ

noncomputable def heap_Heap_claim_c1 (k : Nat) (x0_0 : Int) (x0_1 : Int) (σ : AMem) : Option (Value × AMem) := fn P X H k 93 [.agg #[.int .i64 x0_0, .int .i64 x0_1]] σ

noncomputable def slices_ContainsFunc_int (k : Nat) (x0 : Option Addr × Nat × Nat) (x1 : Value) (σ : AMem) : Option (Value × AMem) := fn P X H k 94 [.slice x0.1 x0.2.1 x0.2.2, x1] σ

noncomputable def side_Table_check_c1 (k : Nat) (x0 : Int) (c0 : Option Addr) (σ : AMem) : Option (Value × AMem) := fn P X H k 95 [.int .i64 x0, .pointer c0] σ

noncomputable def side_Table_value (k : Nat) (x0 : Option Addr) (x1 : Int) (σ : AMem) : Option (Value × AMem) := fn P X H k 96 [.pointer x0, .int .i64 x1] σ

noncomputable def side_Table_most (k : Nat) (x0 : Option Addr) (σ : AMem) : Option (Value × AMem) := fn P X H k 97 [.pointer x0] σ

noncomputable def slices_Index_int (k : Nat) (x0 : Option Addr × Nat × Nat) (x1 : Int) (σ : AMem) : Option (Value × AMem) := fn P X H k 98 [.slice x0.1 x0.2.1 x0.2.2, .int .i64 x1] σ

noncomputable def slices_IndexFunc_heap_block (k : Nat) (x0 : Option Addr × Nat × Nat) (x1 : Value) (σ : AMem) : Option (Value × AMem) := fn P X H k 99 [.slice x0.1 x0.2.1 x0.2.2, x1] σ

noncomputable def slices_IndexFunc_int (k : Nat) (x0 : Option Addr × Nat × Nat) (x1 : Value) (σ : AMem) : Option (Value × AMem) := fn P X H k 100 [.slice x0.1 x0.2.1 x0.2.2, x1] σ

end Go.Proofs.Ytdlihdgoobcoaaa.Al
