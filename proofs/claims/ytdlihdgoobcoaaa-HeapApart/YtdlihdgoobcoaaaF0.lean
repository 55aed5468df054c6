/-
  PRINTED BY A PROGRAM OF THIS SESSION'S OWN (gen.py): the Go functions as Lean functions over the abstract memory.
-/
import Derived.Test.YtdlihdgoobcoaaaAXL
set_option maxRecDepth 100000
set_option linter.unusedVariables false
set_option linter.unusedSimpArgs false
set_option linter.unusedSectionVars false
namespace Go.Proofs.Ytdlihdgoobcoaaa
open Go Go.AX

def H : FuncId → Hints
  | 4 => [(16, ⟨[9, 10, 11, 12, 13], [(.exit 0, []), (.ret, [(8, .bool)])]⟩), (36, ⟨[9, 10, 12, 18], [(.exit 2, []), (.ret, [(8, .bool)])]⟩)]
  | 5 => [(10, ⟨[5, 6], [(.exit 0, []), (.ret, [(4, .bool)])]⟩), (28, ⟨[5, 6, 7, 8], [(.exit 2, []), (.ret, [(4, .bool)])]⟩), (36, ⟨[5, 6, 8, 9, 10], [(.exit 4, [(9, .bool)])]⟩)]
  | 6 => [(16, ⟨[5, 6, 7, 8, 9], [(.exit 0, [(8, .int .i64)]), (.ret, [(4, .bool)])]⟩), (26, ⟨[6, 7, 9, 10, 11], [(.exit 2, []), (.ret, [(4, .bool)])]⟩), (46, ⟨[5, 13, 14], [(.exit 4, []), (.ret, [(4, .bool)])]⟩), (56, ⟨[5, 6, 15], [(.exit 6, []), (.ret, [(4, .bool)])]⟩), (66, ⟨[6, 15, 16, 17, 18], [(.exit 8, [(17, .int .i64)]), (.ret, [(4, .bool)])]⟩), (78, ⟨[6, 17, 19, 20], [(.exit 10, [(17, .int .i64)]), (.ret, [(4, .bool)])]⟩), (90, ⟨[6, 15, 17, 21], [(.exit 12, [(17, .int .i64)])]⟩), (97, ⟨[], [(.normal, [(17, .int .i64)])]⟩)]
  | 7 => [(14, ⟨[9, 10, 11, 12], [(.exit 0, [(11, .slice)])]⟩), (24, ⟨[2, 3, 9, 10, 11, 13, 14], [(.exit 2, []), (.ret, [(8, .bool)])]⟩), (33, ⟨[], [(.normal, [(15, .int .i64)])]⟩), (41, ⟨[], [(.normal, []), (.ret, [(8, .bool)])]⟩)]
  | 8 => [(14, ⟨[5, 6, 7, 8], [(.exit 0, []), (.ret, [(4, .bool)])]⟩), (28, ⟨[6, 7, 8, 9, 11, 12], [(.exit 2, [])]⟩), (36, ⟨[5, 7, 8, 9, 13], [(.exit 4, []), (.ret, [(4, .bool)])]⟩), (48, ⟨[5, 6, 16], [(.exit 6, []), (.ret, [(4, .bool)])]⟩)]
  | 10 => [(21, ⟨[], [(.normal, [(12, .ptr), (13, .ptr)])]⟩), (24, ⟨[2, 12, 14], [(.exit 0, [])]⟩)]
  | 16 => [(14, ⟨[1, 5, 7], [(.exit 0, [])]⟩)]
  | 23 => [(10, ⟨[0, 5, 18, 19, 20], [(.exit 0, [])]⟩), (18, ⟨[5, 9, 10], [(.exit 2, [])]⟩)]
  | 27 => [(14, ⟨[0, 6, 7, 19, 20, 21], [(.exit 0, [])]⟩)]
  | 28 => [(6, ⟨[0, 3, 7, 8, 9], [(.exit 0, [(3, .int .i64)])]⟩)]
  | 29 => [(10, ⟨[0, 1, 5, 9, 10], [(.exit 0, [(9, .slice)])]⟩), (20, ⟨[0, 1, 5, 9, 13], [(.exit 2, [(9, .slice)])]⟩), (31, ⟨[], [(.normal, [(9, .slice)])]⟩)]
  | 32 => [(8, ⟨[0, 1, 5], [(.exit 0, []), (.ret, [(4, .bool)])]⟩)]
  | 36 => [(6, ⟨[0, 3, 4], [(.exit 0, [(3, .slice)])]⟩), (14, ⟨[0, 3, 5], [(.exit 2, [(3, .slice)])]⟩), (28, ⟨[0, 3, 10, 11], [(.exit 4, [(3, .slice)])]⟩)]
  | 37 => [(25, ⟨[], [(.normal, [(5, .int .i64)]), (.ret, [(4, .int .i64)])]⟩), (57, ⟨[], [(.normal, [])]⟩)]
  | 44 => [(14, ⟨[0, 1, 6], [(.exit 0, [])]⟩)]
  | 47 => [(6, ⟨[0, 2, 7, 8, 9], [(.exit 0, [(7, .slice)])]⟩)]
  | 49 => [(11, ⟨[], [(.normal, []), (.ret, [(8, .int .i64)])]⟩), (20, ⟨[0, 1, 2, 3, 10], [(.exit 0, []), (.ret, [(8, .int .i64)])]⟩)]
  | 55 => [(8, ⟨[0, 2, 8], [(.exit 0, []), (.ret, [(6, .int .i64), (7, .int .i64)])]⟩)]
  | 56 => [(3, ⟨[], [(.normal, [])]⟩)]
  | 64 => [(10, ⟨[0, 1, 2, 8], [(.exit 0, [])]⟩)]
  | 76 => [(16, ⟨[0, 1, 9, 53, 54], [(.exit 1, [])]⟩)]
  | 78 => [(4, ⟨[0, 1, 5], [(.exit 0, [(5, .int .i64)])]⟩)]
  | 79 => [(8, ⟨[0, 2, 8], [(.exit 0, []), (.ret, [(6, .int .i64), (7, .int .i64)])]⟩)]
  | 85 => [(15, ⟨[], [(.normal, [(12, .int .i64), (13, .int .i64)])]⟩)]
  | 98 => [(4, ⟨[0, 1, 7, 8], [(.exit 0, []), (.ret, [(4, .int .i64)])]⟩)]
  | 99 => [(4, ⟨[0, 1, 7, 8], [(.exit 0, []), (.ret, [(4, .int .i64)])]⟩)]
  | 100 => [(4, ⟨[0, 1, 7, 8], [(.exit 0, []), (.ret, [(4, .int .i64)])]⟩)]
  | _ => []

variable [Quiet]

noncomputable def callV_ii_t (k : Nat) (f : Value) (args : List Value) (σ : AMem) : Option (Value × AMem) := callVal P (fn P X2 H k) f args σ

noncomputable def callV_i_t (k : Nat) (f : Value) (args : List Value) (σ : AMem) : Option (Value × AMem) := callVal P (fn P X2 H k) f args σ

def u_i {ρ : Type} (l : List Value) (K : Int → Option ρ) : Option ρ := l.head?.bind fun v => (toI .i64 v).bind fun y0 => K y0
theorem u_i_eq {ρ : Type} (y0 : Int) (K : Int → Option ρ) : u_i [.int .i64 y0] K = K y0 := by simp [u_i, toI, toB, toStr, toP, toS, toM]

def u_ii {ρ : Type} (l : List Value) (K : Int → Int → Option ρ) : Option ρ := l.head?.bind fun v => (toI .i64 v).bind fun y0 => l.tail.head?.bind fun v => (toI .i64 v).bind fun y1 => K y0 y1
theorem u_ii_eq {ρ : Type} (y0 : Int) (y1 : Int) (K : Int → Int → Option ρ) : u_ii [.int .i64 y0, .int .i64 y1] K = K y0 y1 := by simp [u_ii, toI, toB, toStr, toP, toS, toM]

def u_iii {ρ : Type} (l : List Value) (K : Int → Int → Int → Option ρ) : Option ρ := l.head?.bind fun v => (toI .i64 v).bind fun y0 => l.tail.head?.bind fun v => (toI .i64 v).bind fun y1 => l.tail.tail.head?.bind fun v => (toI .i64 v).bind fun y2 => K y0 y1 y2
theorem u_iii_eq {ρ : Type} (y0 : Int) (y1 : Int) (y2 : Int) (K : Int → Int → Int → Option ρ) : u_iii [.int .i64 y0, .int .i64 y1, .int .i64 y2] K = K y0 y1 y2 := by simp [u_iii, toI, toB, toStr, toP, toS, toM]

def u_l {ρ : Type} (l : List Value) (K : Option Addr × Nat × Nat → Option ρ) : Option ρ := l.head?.bind fun v => (toS v).bind fun y0 => K y0
theorem u_l_eq {ρ : Type} (y0 : Option Addr × Nat × Nat) (K : Option Addr × Nat × Nat → Option ρ) : u_l [.slice y0.1 y0.2.1 y0.2.2] K = K y0 := by simp [u_l, toI, toB, toStr, toP, toS, toM]

def u_pp {ρ : Type} (l : List Value) (K : Option Addr → Option Addr → Option ρ) : Option ρ := l.head?.bind fun v => (toP v).bind fun y0 => l.tail.head?.bind fun v => (toP v).bind fun y1 => K y0 y1
theorem u_pp_eq {ρ : Type} (y0 : Option Addr) (y1 : Option Addr) (K : Option Addr → Option Addr → Option ρ) : u_pp [.pointer y0, .pointer y1] K = K y0 y1 := by simp [u_pp, toI, toB, toStr, toP, toS, toM]

def u_t {ρ : Type} (l : List Value) (K : Bool → Option ρ) : Option ρ := l.head?.bind fun v => (toB v).bind fun y0 => K y0
theorem u_t_eq {ρ : Type} (y0 : Bool) (K : Bool → Option ρ) : u_t [.bool y0] K = K y0 := by simp [u_t, toI, toB, toStr, toP, toS, toM]

def a_iii {ρ : Type} (v : Value) (K : Int → Int → Int → Option ρ) : Option ρ := (toA v).bind fun l => if l.length = 3 then u_iii l K else none
theorem a_iii_eq {ρ : Type} (y0 : Int) (y1 : Int) (y2 : Int) (K : Int → Int → Int → Option ρ) : a_iii (.agg #[.int .i64 y0, .int .i64 y1, .int .i64 y2]) K = K y0 y1 y2 := by simp [a_iii, u_iii, toA, toI, toB, toStr, toP, toS, toM]

def r_0 {ρ : Type} (v : Value) (K : Option ρ) : Option ρ := (toT v).bind fun l => if l.length = 0 then K else none
theorem r_0_eq {ρ : Type}  (K : Option ρ) : r_0 (.tuple #[]) K = K := by simp [r_0, toT, toI, toB, toStr, toP, toS, toM]

def r_ii {ρ : Type} (v : Value) (K : Int → Int → Option ρ) : Option ρ := (toT v).bind fun l => if l.length = 2 then l.head?.bind fun v => (toI .i64 v).bind fun y0 => l.tail.head?.bind fun v => (toI .i64 v).bind fun y1 => K y0 y1 else none
theorem r_ii_eq {ρ : Type} (y0 : Int) (y1 : Int) (K : Int → Int → Option ρ) : r_ii (.tuple #[.int .i64 y0, .int .i64 y1]) K = K y0 y1 := by simp [r_ii, toT, toI, toB, toStr, toP, toS, toM]

def r_pi {ρ : Type} (v : Value) (K : Option Addr → Int → Option ρ) : Option ρ := (toT v).bind fun l => if l.length = 2 then l.head?.bind fun v => (toP v).bind fun y0 => l.tail.head?.bind fun v => (toI .i64 v).bind fun y1 => K y0 y1 else none
theorem r_pi_eq {ρ : Type} (y0 : Option Addr) (y1 : Int) (K : Option Addr → Int → Option ρ) : r_pi (.tuple #[.pointer y0, .int .i64 y1]) K = K y0 y1 := by simp [r_pi, toT, toI, toB, toStr, toP, toS, toM]

noncomputable def law02_HeapIdents (k : Nat) (x0 : Int) (x1 : Option Addr × Nat × Nat) (x2 : Int) (x3_0 : Int) (x3_1 : Int) (x3_2 : Int) (σ : AMem) : Option (Value × AMem) := fn P X2 H k 4 [.int .i64 x0, .slice x1.1 x1.2.1 x1.2.2, .int .i64 x2, .agg #[.int .i64 x3_0, .int .i64 x3_1, .int .i64 x3_2]] σ

noncomputable def law02_HeapLines (k : Nat) (x0 : Int) (x1 : Option Addr × Nat × Nat) (σ : AMem) : Option (Value × AMem) := fn P X2 H k 5 [.int .i64 x0, .slice x1.1 x1.2.1 x1.2.2] σ

noncomputable def law02_HeapApart (k : Nat) (x0 : Int) (x1 : Option Addr × Nat × Nat) (σ : AMem) : Option (Value × AMem) := fn P X2 H k 6 [.int .i64 x0, .slice x1.1 x1.2.1 x1.2.2] σ

noncomputable def law02_HeapMoves (k : Nat) (x0 : Int) (x1 : Option Addr × Nat × Nat) (x2 : Int) (x3 : Int) (σ : AMem) : Option (Value × AMem) := fn P X2 H k 7 [.int .i64 x0, .slice x1.1 x1.2.1 x1.2.2, .int .i64 x2, .int .i64 x3] σ

noncomputable def law02_HeapWords (k : Nat) (x0 : Int) (x1 : Option Addr × Nat × Nat) (σ : AMem) : Option (Value × AMem) := fn P X2 H k 8 [.int .i64 x0, .slice x1.1 x1.2.1 x1.2.2] σ

noncomputable def law02_HeapRefused (k : Nat) (x0 : Int) (x1 : Option Addr × Nat × Nat) (x2_0 : Int) (x2_1 : Int) (x2_2 : Int) (x2_3 : Int) (x2_4 : Int) (x2_5 : Int) (x2_6 : Int) (σ : AMem) : Option (Value × AMem) := fn P X2 H k 9 [.int .i64 x0, .slice x1.1 x1.2.1 x1.2.2, .agg #[.int .i64 x2_0, .int .i64 x2_1, .int .i64 x2_2, .int .i64 x2_3, .int .i64 x2_4, .int .i64 x2_5, .int .i64 x2_6]] σ

noncomputable def law02_HeapClones (k : Nat) (x0 : Int) (x1 : Option Addr × Nat × Nat) (x2 : Option Addr × Nat × Nat) (x3 : Bool) (σ : AMem) : Option (Value × AMem) := fn P X2 H k 10 [.int .i64 x0, .slice x1.1 x1.2.1 x1.2.2, .slice x2.1 x2.2.1 x2.2.2, .bool x3] σ

noncomputable def heap_Valid (k : Nat) (x0_0 : Int) (x0_1 : Int) (x0_2 : Int) (σ : AMem) : Option (Value × AMem) := fn P X2 H k 11 [.agg #[.int .i64 x0_0, .int .i64 x0_1, .int .i64 x0_2]] σ

noncomputable def heap_Words (k : Nat) (x0_0 : Int) (x0_1 : Int) (x0_2 : Int) (σ : AMem) : Option (Value × AMem) := fn P X2 H k 13 [.agg #[.int .i64 x0_0, .int .i64 x0_1, .int .i64 x0_2]] σ

noncomputable def law02_alive (k : Nat)  (σ : AMem) : Option (Value × AMem) := fn P X2 H k 15 [] σ

noncomputable def law02_Made (k : Nat) (x0 : Int) (x1 : Option Addr × Nat × Nat) (σ : AMem) : Option (Value × AMem) := fn P X2 H k 16 [.int .i64 x0, .slice x1.1 x1.2.1 x1.2.2] σ

noncomputable def heap_Heap_Births (k : Nat) (x0 : Option Addr) (σ : AMem) : Option (Value × AMem) := fn P X2 H k 17 [.pointer x0] σ

noncomputable def heap_Heap_All (k : Nat) (x0 : Option Addr) (σ : AMem) : Option (Value × AMem) := fn P X2 H k 18 [.pointer x0] σ

noncomputable def heap_Heap_Ident (k : Nat) (x0 : Option Addr) (x1 : Int) (σ : AMem) : Option (Value × AMem) := fn P X2 H k 19 [.pointer x0, .int .i64 x1] σ

noncomputable def heap_Heap_At (k : Nat) (x0 : Option Addr) (x1 : Int) (σ : AMem) : Option (Value × AMem) := fn P X2 H k 20 [.pointer x0, .int .i64 x1] σ

noncomputable def heap_Heap_Place (k : Nat) (x0 : Option Addr) (x1 : Int) (x2_0 : Int) (x2_1 : Int) (x2_2 : Int) (σ : AMem) : Option (Value × AMem) := fn P X2 H k 21 [.pointer x0, .int .i64 x1, .agg #[.int .i64 x2_0, .int .i64 x2_1, .int .i64 x2_2]] σ

noncomputable def heap_Heap_Blocks (k : Nat) (x0 : Option Addr) (σ : AMem) : Option (Value × AMem) := fn P X2 H k 22 [.pointer x0] σ

noncomputable def heap_Heap_Lines (k : Nat) (x0 : Option Addr) (x1 : Int) (σ : AMem) : Option (Value × AMem) := fn P X2 H k 23 [.pointer x0, .int .i64 x1] σ

noncomputable def heap_Heap_State (k : Nat) (x0 : Option Addr) (x1 : Int) (σ : AMem) : Option (Value × AMem) := fn P X2 H k 24 [.pointer x0, .int .i64 x1] σ

noncomputable def heap_Heap_Find (k : Nat) (x0 : Option Addr) (x1 : Int) (σ : AMem) : Option (Value × AMem) := fn P X2 H k 25 [.pointer x0, .int .i64 x1] σ

noncomputable def law02_words (k : Nat) (x0 : Option Addr) (x1 : Int) (σ : AMem) : Option (Value × AMem) := fn P X2 H k 26 [.pointer x0, .int .i64 x1] σ

noncomputable def heap_Heap_Gaps (k : Nat) (x0 : Option Addr) (x1 : Int) (σ : AMem) : Option (Value × AMem) := fn P X2 H k 27 [.pointer x0, .int .i64 x1] σ

noncomputable def heap_Heap_Used (k : Nat) (x0 : Option Addr) (σ : AMem) : Option (Value × AMem) := fn P X2 H k 28 [.pointer x0] σ

noncomputable def law02_contents (k : Nat) (x0 : Option Addr) (x1 : Int) (σ : AMem) : Option (Value × AMem) := fn P X2 H k 29 [.pointer x0, .int .i64 x1] σ

noncomputable def heap_Heap_Move (k : Nat) (x0 : Option Addr) (x1 : Int) (x2 : Int) (σ : AMem) : Option (Value × AMem) := fn P X2 H k 30 [.pointer x0, .int .i64 x1, .int .i64 x2] σ

noncomputable def heap_Heap_Has (k : Nat) (x0 : Option Addr) (x1 : Int) (σ : AMem) : Option (Value × AMem) := fn P X2 H k 31 [.pointer x0, .int .i64 x1] σ

noncomputable def law02_ints (k : Nat) (x0 : Option Addr × Nat × Nat) (x1 : Option Addr × Nat × Nat) (σ : AMem) : Option (Value × AMem) := fn P X2 H k 32 [.slice x0.1 x0.2.1 x0.2.2, .slice x1.1 x1.2.1 x1.2.2] σ

noncomputable def heap_Heap_Forward (k : Nat) (x0 : Option Addr) (x1 : Int) (σ : AMem) : Option (Value × AMem) := fn P X2 H k 33 [.pointer x0, .int .i64 x1] σ

noncomputable def heap_Heap_Shape (k : Nat) (x0 : Option Addr) (x1 : Int) (σ : AMem) : Option (Value × AMem) := fn P X2 H k 34 [.pointer x0, .int .i64 x1] σ

noncomputable def heap_Heap_Word (k : Nat) (x0 : Option Addr) (x1 : Int) (σ : AMem) : Option (Value × AMem) := fn P X2 H k 35 [.pointer x0, .int .i64 x1] σ

noncomputable def law02_state (k : Nat) (x0 : Option Addr) (σ : AMem) : Option (Value × AMem) := fn P X2 H k 36 [.pointer x0] σ

noncomputable def law02_do (k : Nat) (x0 : Option Addr) (x1_0 : Int) (x1_1 : Int) (x1_2 : Int) (x1_3 : Int) (x1_4 : Int) (x1_5 : Int) (x1_6 : Int) (σ : AMem) : Option (Value × AMem) := fn P X2 H k 37 [.pointer x0, .agg #[.int .i64 x1_0, .int .i64 x1_1, .int .i64 x1_2, .int .i64 x1_3, .int .i64 x1_4, .int .i64 x1_5, .int .i64 x1_6]] σ

noncomputable def law02_Great (k : Nat) (x0 : Option Addr × Nat × Nat) (σ : AMem) : Option (Value × AMem) := fn P X2 H k 38 [.slice x0.1 x0.2.1 x0.2.2] σ

noncomputable def heap_Heap_Clone (k : Nat) (x0 : Option Addr) (σ : AMem) : Option (Value × AMem) := fn P X2 H k 39 [.pointer x0] σ

noncomputable def heap_New (k : Nat) (x0 : Int) (σ : AMem) : Option (Value × AMem) := fn P X2 H k 40 [.int .i64 x0] σ

noncomputable def heap_Heap_Claim (k : Nat) (x0 : Option Addr) (x1 : Int) (x2 : Int) (σ : AMem) : Option (Value × AMem) := fn P X2 H k 41 [.pointer x0, .int .i64 x1, .int .i64 x2] σ

noncomputable def heap_Heap_ClaimLarge (k : Nat) (x0 : Option Addr) (x1 : Int) (x2 : Int) (x3 : Int) (σ : AMem) : Option (Value × AMem) := fn P X2 H k 42 [.pointer x0, .int .i64 x1, .int .i64 x2, .int .i64 x3] σ

noncomputable def heap_Heap_Kill (k : Nat) (x0 : Option Addr) (x1 : Int) (σ : AMem) : Option (Value × AMem) := fn P X2 H k 43 [.pointer x0, .int .i64 x1] σ

noncomputable def heap_Heap_Release (k : Nat) (x0 : Option Addr) (x1 : Int) (σ : AMem) : Option (Value × AMem) := fn P X2 H k 44 [.pointer x0, .int .i64 x1] σ

noncomputable def heap_Heap_made (k : Nat) (x0 : Option Addr) (σ : AMem) : Option (Value × AMem) := fn P X2 H k 46 [.pointer x0] σ

noncomputable def heap_Heap_between (k : Nat) (x0 : Option Addr) (x1 : Int) (x2 : Int) (σ : AMem) : Option (Value × AMem) := fn P X2 H k 47 [.pointer x0, .int .i64 x1, .int .i64 x2] σ

noncomputable def heap_Heap_object (k : Nat) (x0 : Option Addr) (x1 : Int) (σ : AMem) : Option (Value × AMem) := fn P X2 H k 48 [.pointer x0, .int .i64 x1] σ

noncomputable def heap_Heap_fits (k : Nat) (x0 : Option Addr) (x1 : Int) (x2 : Int) (x3 : Int) (σ : AMem) : Option (Value × AMem) := fn P X2 H k 49 [.pointer x0, .int .i64 x1, .int .i64 x2, .int .i64 x3] σ

noncomputable def heap_number (k : Nat) (x0_0 : Int) (x0_1 : Int) (x0_2 : Int) (σ : AMem) : Option (Value × AMem) := fn P X2 H k 50 [.agg #[.int .i64 x0_0, .int .i64 x0_1, .int .i64 x0_2]] σ

noncomputable def side_Table_Set (k : Nat) (x0 : Option Addr) (x1 : Int) (x2 : Int) (σ : AMem) : Option (Value × AMem) := fn P X2 H k 51 [.pointer x0, .int .i64 x1, .int .i64 x2] σ

noncomputable def heap_Heap_used (k : Nat) (x0 : Option Addr) (x1 : Int) (σ : AMem) : Option (Value × AMem) := fn P X2 H k 52 [.pointer x0, .int .i64 x1] σ

noncomputable def heap_Heap_Objects (k : Nat) (x0 : Option Addr) (x1 : Int) (σ : AMem) : Option (Value × AMem) := fn P X2 H k 53 [.pointer x0, .int .i64 x1] σ

noncomputable def heap_Heap_size (k : Nat) (x0 : Option Addr) (x1 : Int) (σ : AMem) : Option (Value × AMem) := fn P X2 H k 54 [.pointer x0, .int .i64 x1] σ

noncomputable def side_Table_Last (k : Nat) (x0 : Option Addr) (x1 : Int) (x2 : Int) (σ : AMem) : Option (Value × AMem) := fn P X2 H k 55 [.pointer x0, .int .i64 x1, .int .i64 x2] σ

noncomputable def heap_Heap_Gaps_c1 (k : Nat) (x0 : Int) (c0 : Option Addr) (c1 : Option Addr) (σ : AMem) : Option (Value × AMem) := fn P X2 H k 56 [.int .i64 x0, .pointer c0, .pointer c1] σ

noncomputable def heap_Heap_Ref (k : Nat) (x0 : Option Addr) (x1 : Int) (x2 : Int) (σ : AMem) : Option (Value × AMem) := fn P X2 H k 57 [.pointer x0, .int .i64 x1, .int .i64 x2] σ

noncomputable def heap_Heap_Data (k : Nat) (x0 : Option Addr) (x1 : Int) (x2 : Int) (σ : AMem) : Option (Value × AMem) := fn P X2 H k 58 [.pointer x0, .int .i64 x1, .int .i64 x2] σ

noncomputable def heap_Heap_Pinned (k : Nat) (x0 : Option Addr) (x1 : Int) (σ : AMem) : Option (Value × AMem) := fn P X2 H k 59 [.pointer x0, .int .i64 x1] σ

noncomputable def side_Table_Get (k : Nat) (x0 : Option Addr) (x1 : Int) (σ : AMem) : Option (Value × AMem) := fn P X2 H k 60 [.pointer x0, .int .i64 x1] σ

noncomputable def heap_Heap_wipe (k : Nat) (x0 : Option Addr) (x1 : Int) (x2 : Int) (σ : AMem) : Option (Value × AMem) := fn P X2 H k 61 [.pointer x0, .int .i64 x1, .int .i64 x2] σ

noncomputable def heap_shape (k : Nat) (x0 : Int) (σ : AMem) : Option (Value × AMem) := fn P X2 H k 62 [.int .i64 x0] σ

noncomputable def heap_Heap_Space (k : Nat) (x0 : Option Addr) (x1 : Int) (σ : AMem) : Option (Value × AMem) := fn P X2 H k 63 [.pointer x0, .int .i64 x1] σ

noncomputable def heap_Heap_Retag (k : Nat) (x0 : Option Addr) (x1 : Int) (x2 : Int) (σ : AMem) : Option (Value × AMem) := fn P X2 H k 64 [.pointer x0, .int .i64 x1, .int .i64 x2] σ

noncomputable def heap_Heap_SetRef (k : Nat) (x0 : Option Addr) (x1 : Int) (x2 : Int) (x3 : Int) (σ : AMem) : Option (Value × AMem) := fn P X2 H k 65 [.pointer x0, .int .i64 x1, .int .i64 x2, .int .i64 x3] σ

noncomputable def heap_Heap_SetData (k : Nat) (x0 : Option Addr) (x1 : Int) (x2 : Int) (x3 : Int) (σ : AMem) : Option (Value × AMem) := fn P X2 H k 66 [.pointer x0, .int .i64 x1, .int .i64 x2, .int .i64 x3] σ

noncomputable def heap_Heap_Poke (k : Nat) (x0 : Option Addr) (x1 : Int) (x2 : Int) (σ : AMem) : Option (Value × AMem) := fn P X2 H k 67 [.pointer x0, .int .i64 x1, .int .i64 x2] σ

noncomputable def heap_Heap_Pin (k : Nat) (x0 : Option Addr) (x1 : Int) (σ : AMem) : Option (Value × AMem) := fn P X2 H k 68 [.pointer x0, .int .i64 x1] σ

noncomputable def heap_Heap_Unpin (k : Nat) (x0 : Option Addr) (x1 : Int) (σ : AMem) : Option (Value × AMem) := fn P X2 H k 69 [.pointer x0, .int .i64 x1] σ

noncomputable def heap_Heap_Forget (k : Nat) (x0 : Option Addr) (σ : AMem) : Option (Value × AMem) := fn P X2 H k 70 [.pointer x0] σ

noncomputable def slices_Clone_heap_block (k : Nat) (x0 : Option Addr × Nat × Nat) (σ : AMem) : Option (Value × AMem) := fn P X2 H k 71 [.slice x0.1 x0.2.1 x0.2.2] σ

noncomputable def slices_Clone_int (k : Nat) (x0 : Option Addr × Nat × Nat) (σ : AMem) : Option (Value × AMem) := fn P X2 H k 72 [.slice x0.1 x0.2.1 x0.2.2] σ

noncomputable def side_Table_Clone (k : Nat) (x0 : Option Addr) (σ : AMem) : Option (Value × AMem) := fn P X2 H k 73 [.pointer x0] σ

noncomputable def maps_Clone_int (k : Nat) (x0 : Option Nat) (σ : AMem) : Option (Value × AMem) := fn P X2 H k 74 [.map x0] σ

noncomputable def side_New (k : Nat) (x0 : Int) (x1 : Int) (σ : AMem) : Option (Value × AMem) := fn P X2 H k 75 [.int .i64 x0, .int .i64 x1] σ

noncomputable def heap_Heap_claim (k : Nat) (x0 : Option Addr) (x1 : Int) (x2 : Int) (x3_0 : Int) (x3_1 : Int) (x4_0 : Int) (x4_1 : Int) (σ : AMem) : Option (Value × AMem) := fn P X2 H k 76 [.pointer x0, .int .i64 x1, .int .i64 x2, .agg #[.int .i64 x3_0, .int .i64 x3_1], .agg #[.int .i64 x4_0, .int .i64 x4_1]] σ

noncomputable def heap_Heap_held (k : Nat) (x0 : Option Addr) (x1 : Int) (x2 : Bool) (σ : AMem) : Option (Value × AMem) := fn P X2 H k 77 [.pointer x0, .int .i64 x1, .bool x2] σ

noncomputable def heap_Heap_span (k : Nat) (x0 : Option Addr) (x1 : Int) (σ : AMem) : Option (Value × AMem) := fn P X2 H k 78 [.pointer x0, .int .i64 x1] σ

noncomputable def side_Table_Next (k : Nat) (x0 : Option Addr) (x1 : Int) (x2 : Int) (σ : AMem) : Option (Value × AMem) := fn P X2 H k 79 [.pointer x0, .int .i64 x1, .int .i64 x2] σ

noncomputable def side_Table_check (k : Nat) (x0 : Option Addr) (x1 : Int) (x2 : Option Addr × Nat × Nat) (σ : AMem) : Option (Value × AMem) := fn P X2 H k 80 [.pointer x0, .int .i64 x1, .slice x2.1 x2.2.1 x2.2.2] σ

noncomputable def side_Table_put (k : Nat) (x0 : Option Addr) (x1 : Int) (x2 : Int) (σ : AMem) : Option (Value × AMem) := fn P X2 H k 81 [.pointer x0, .int .i64 x1, .int .i64 x2] σ

noncomputable def heap_Heap_there (k : Nat) (x0 : Option Addr) (x1 : Int) (σ : AMem) : Option (Value × AMem) := fn P X2 H k 82 [.pointer x0, .int .i64 x1] σ

noncomputable def side_Table_made (k : Nat) (x0 : Option Addr) (σ : AMem) : Option (Value × AMem) := fn P X2 H k 83 [.pointer x0] σ

noncomputable def side_Table_get (k : Nat) (x0 : Option Addr) (x1 : Int) (σ : AMem) : Option (Value × AMem) := fn P X2 H k 84 [.pointer x0, .int .i64 x1] σ

noncomputable def heap_Heap_field (k : Nat) (x0 : Option Addr) (x1 : Int) (x2 : Int) (x3 : Bool) (σ : AMem) : Option (Value × AMem) := fn P X2 H k 85 [.pointer x0, .int .i64 x1, .int .i64 x2, .bool x3] σ

noncomputable def side_Table_there (k : Nat) (x0 : Option Addr) (x1 : Int) (σ : AMem) : Option (Value × AMem) := fn P X2 H k 86 [.pointer x0, .int .i64 x1] σ

noncomputable def heap_space (k : Nat) (x0 : Int) (σ : AMem) : Option (Value × AMem) := fn P X2 H k 87 [.int .i64 x0] σ

noncomputable def heap_Heap_pin (k : Nat) (x0 : Option Addr) (x1 : Int) (x2 : Int) (σ : AMem) : Option (Value × AMem) := fn P X2 H k 88 [.pointer x0, .int .i64 x1, .int .i64 x2] σ

noncomputable def slices_Clone_uint64 (k : Nat) (x0 : Option Addr × Nat × Nat) (σ : AMem) : Option (Value × AMem) := fn P X2 H k 89 [.slice x0.1 x0.2.1 x0.2.2] σ

noncomputable def slices_Contains_int (k : Nat) (x0 : Option Addr × Nat × Nat) (x1 : Int) (σ : AMem) : Option (Value × AMem) := fn P X2 H k 91 [.slice x0.1 x0.2.1 x0.2.2, .int .i64 x1] σ

noncomputable def slices_ContainsFunc_heap_block (k : Nat) (x0 : Option Addr × Nat × Nat) (x1 : Value) (σ : AMem) : Option (Value × AMem) := fn P X2 H k 92 [.slice x0.1 x0.2.1 x0.2.2, x1] σ

noncomputable def heap_Heap_claim_c1 (k : Nat) (x0_0 : Int) (x0_1 : Int) (σ : AMem) : Option (Value × AMem) := fn P X2 H k 93 [.agg #[.int .i64 x0_0, .int .i64 x0_1]] σ

noncomputable def slices_ContainsFunc_int (k : Nat) (x0 : Option Addr × Nat × Nat) (x1 : Value) (σ : AMem) : Option (Value × AMem) := fn P X2 H k 94 [.slice x0.1 x0.2.1 x0.2.2, x1] σ

noncomputable def side_Table_check_c1 (k : Nat) (x0 : Int) (c0 : Option Addr) (σ : AMem) : Option (Value × AMem) := fn P X2 H k 95 [.int .i64 x0, .pointer c0] σ

noncomputable def side_Table_value (k : Nat) (x0 : Option Addr) (x1 : Int) (σ : AMem) : Option (Value × AMem) := fn P X2 H k 96 [.pointer x0, .int .i64 x1] σ

noncomputable def side_Table_most (k : Nat) (x0 : Option Addr) (σ : AMem) : Option (Value × AMem) := fn P X2 H k 97 [.pointer x0] σ

noncomputable def slices_Index_int (k : Nat) (x0 : Option Addr × Nat × Nat) (x1 : Int) (σ : AMem) : Option (Value × AMem) := fn P X2 H k 98 [.slice x0.1 x0.2.1 x0.2.2, .int .i64 x1] σ

noncomputable def slices_IndexFunc_heap_block (k : Nat) (x0 : Option Addr × Nat × Nat) (x1 : Value) (σ : AMem) : Option (Value × AMem) := fn P X2 H k 99 [.slice x0.1 x0.2.1 x0.2.2, x1] σ

noncomputable def slices_IndexFunc_int (k : Nat) (x0 : Option Addr × Nat × Nat) (x1 : Value) (σ : AMem) : Option (Value × AMem) := fn P X2 H k 100 [.slice x0.1 x0.2.1 x0.2.2, x1] σ

end Go.Proofs.Ytdlihdgoobcoaaa
