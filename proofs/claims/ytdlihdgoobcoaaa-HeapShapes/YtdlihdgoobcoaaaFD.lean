/-
  PRINTED BY A PROGRAM OF THIS SESSION'S OWN (gen.py): the functions as definitions.
-/
import Derived.Test.YtdlihdgoobcoaaaF1
set_option maxRecDepth 100000
set_option linter.unusedVariables false
set_option linter.unusedSimpArgs false
set_option linter.unusedSectionVars false
namespace Go.Proofs.Ytdlihdgoobcoaaa
open Go Go.AX
variable [Quiet]

noncomputable def d_heap_Valid (k : Nat) (x0_0 : Int) (x0_1 : Int) (x0_2 : Int) (σ : AMem) : Option (Value × AMem) := match k with
  | 0 => none
  | k + 1 => (allocK σ (.cells [.int .i64 x0_0, .int .i64 x0_1, .int .i64 x0_2] 23 true) fun h1 s2 => (ldI .i64 s2 h1 (0 + 0)).bind fun n3 => (bif decide (n3 ≥ (0 : Int)) then (ldI .i64 s2 h1 (0 + 0)).bind fun n4 => some (decide (n4 ≤ (15 : Int)), s2) else some (false, s2)).bind fun r5 => (bif r5.1 then (ldI .i64 r5.2 h1 (0 + 1)).bind fun n6 => some (decide (n6 ≥ (0 : Int)), r5.2) else some (false, r5.2)).bind fun r7 => (bif r7.1 then (ldI .i64 r7.2 h1 (0 + 1)).bind fun n8 => some (decide (n8 ≤ (200 : Int)), r7.2) else some (false, r7.2)).bind fun r9 => (bif r9.1 then (ldI .i64 r9.2 h1 (0 + 2)).bind fun n10 => some (decide (n10 ≥ (0 : Int)), r9.2) else some (false, r9.2)).bind fun r11 => (bif r11.1 then (ldI .i64 r11.2 h1 (0 + 2)).bind fun n12 => some (decide (n12 ≤ (3 : Int)), r11.2) else some (false, r11.2)).bind fun r13 => (bif r13.1 then (ldI .i64 r13.2 h1 (0 + 2)).bind fun n14 => (bif n14 != (1 : Int) then some (true, r13.2) else (ldI .i64 r13.2 h1 (0 + 0)).bind fun n15 => some (decide (n15 ≥ (1 : Int)), r13.2)).bind fun r16 => some (r16.1, r16.2) else some (false, r13.2)).bind fun r17 => (bif r17.1 then (ldI .i64 r17.2 h1 (0 + 2)).bind fun n18 => (bif n18 != (2 : Int) then some (true, r17.2) else (ldI .i64 r17.2 h1 (0 + 0)).bind fun n19 => some (decide (n19 ≥ (2 : Int)), r17.2)).bind fun r20 => some (r20.1, r20.2) else some (false, r17.2)).bind fun r21 => some (.bool r21.1, r21.2))

theorem heap_Valid_is (k : Nat) (x0_0 : Int) (x0_1 : Int) (x0_2 : Int) (σ : AMem) : heap_Valid k x0_0 x0_1 x0_2 σ = d_heap_Valid k x0_0 x0_1 x0_2 σ := by
  cases k with
  | zero => rfl
  | succ k => rw [heap_Valid_eq, d_heap_Valid]

noncomputable def d_ref02_Valid (k : Nat) (x0_0 : Int) (x0_1 : Int) (x0_2 : Int) (σ : AMem) : Option (Value × AMem) := match k with
  | 0 => none
  | k + 1 => (allocK σ (.cells [.int .i64 x0_0, .int .i64 x0_1, .int .i64 x0_2] 23 true) fun h1 s2 => (ldI .i64 s2 h1 (0 + 0)).bind fun n3 => (bif decide (n3 < (0 : Int)) then some (true, s2) else (ldI .i64 s2 h1 (0 + 0)).bind fun n4 => some (decide (n4 > (15 : Int)), s2)).bind fun r5 => (bif r5.1 then some (true, r5.2) else (ldI .i64 r5.2 h1 (0 + 1)).bind fun n6 => some (decide (n6 < (0 : Int)), r5.2)).bind fun r7 => (bif r7.1 then some (true, r7.2) else (ldI .i64 r7.2 h1 (0 + 1)).bind fun n8 => some (decide (n8 > (200 : Int)), r7.2)).bind fun r9 => bif r9.1 then (some (.bool false, r9.2)) else ((ldI .i64 r9.2 h1 (0 + 2)).bind fun n10 => (bif n10 == (0 : Int) then (some (.normal, [.bool (n10 == (0 : Int))], r9.2)) else (some (.normal, [.bool (n10 == (3 : Int))], r9.2)) : Option LOut).bind fun r11 => if r11.1 = .normal then (u_t r11.2.1 fun b12 => bif b12 then (some (.bool true, r11.2.2)) else (bif n10 == (1 : Int) then ((ldI .i64 r11.2.2 h1 (0 + 0)).bind fun n13 => some (.bool (decide (n13 ≥ (1 : Int))), r11.2.2)) else (bif n10 == (2 : Int) then ((ldI .i64 r11.2.2 h1 (0 + 0)).bind fun n14 => some (.bool (decide (n14 ≥ (2 : Int))), r11.2.2)) else (some (.bool false, r11.2.2))))) else none))

theorem ref02_Valid_is (k : Nat) (x0_0 : Int) (x0_1 : Int) (x0_2 : Int) (σ : AMem) : ref02_Valid k x0_0 x0_1 x0_2 σ = d_ref02_Valid k x0_0 x0_1 x0_2 σ := by
  cases k with
  | zero => rfl
  | succ k => rw [ref02_Valid_eq, d_ref02_Valid]

noncomputable def d_heap_Words (k : Nat) (x0_0 : Int) (x0_1 : Int) (x0_2 : Int) (σ : AMem) : Option (Value × AMem) := match k with
  | 0 => none
  | k + 1 => (allocK σ (.cells [.int .i64 x0_0, .int .i64 x0_1, .int .i64 x0_2] 23 true) fun h1 s2 => (ldI .i64 s2 h1 0).bind fun n3 => (ldI .i64 s2 h1 (0 + 1)).bind fun n4 => (ldI .i64 s2 h1 (0 + 1 + 1)).bind fun n5 => (d_heap_Valid k n3 n4 n5 s2).bind fun r6 => (toB r6.1).bind fun b7 => bif !b7 then (some (.int .i64 (0 : Int), r6.2)) else ((ldI .i64 r6.2 h1 (0 + 0)).bind fun n8 => (ldI .i64 r6.2 h1 (0 + 1)).bind fun n9 => if (2 : Int) = 0 then none else some (.int .i64 (w64 ((w64 ((w64 ((w64 ((w64 ((2 : Int) + n8)) + n9)) + (1 : Int))).tdiv (2 : Int))) * (2 : Int))), r6.2)))

theorem heap_Words_is (k : Nat) (x0_0 : Int) (x0_1 : Int) (x0_2 : Int) (σ : AMem) : heap_Words k x0_0 x0_1 x0_2 σ = d_heap_Words k x0_0 x0_1 x0_2 σ := by
  cases k with
  | zero => rfl
  | succ k => rw [heap_Words_eq, d_heap_Words]; simp only [heap_Valid_is]

noncomputable def d_ref02_Words (k : Nat) (x0_0 : Int) (x0_1 : Int) (x0_2 : Int) (σ : AMem) : Option (Value × AMem) := match k with
  | 0 => none
  | k + 1 => (allocK σ (.cells [.int .i64 x0_0, .int .i64 x0_1, .int .i64 x0_2] 23 true) fun h1 s2 => (ldI .i64 s2 h1 0).bind fun n3 => (ldI .i64 s2 h1 (0 + 1)).bind fun n4 => (ldI .i64 s2 h1 (0 + 1 + 1)).bind fun n5 => (d_ref02_Valid k n3 n4 n5 s2).bind fun r6 => (toB r6.1).bind fun b7 => bif !b7 then (some (.int .i64 (0 : Int), r6.2)) else ((ldI .i64 r6.2 h1 (0 + 0)).bind fun n8 => (ldI .i64 r6.2 h1 (0 + 1)).bind fun n9 => if (2 : Int) = 0 then none else some (.int .i64 (w64 ((w64 ((w64 ((2 : Int) + n8)) + n9)) + ((w64 ((w64 ((2 : Int) + n8)) + n9)).tmod (2 : Int)))), r6.2)))

theorem ref02_Words_is (k : Nat) (x0_0 : Int) (x0_1 : Int) (x0_2 : Int) (σ : AMem) : ref02_Words k x0_0 x0_1 x0_2 σ = d_ref02_Words k x0_0 x0_1 x0_2 σ := by
  cases k with
  | zero => rfl
  | succ k => rw [ref02_Words_eq, d_ref02_Words]; simp only [ref02_Valid_is]

noncomputable def d_law02_alive (k : Nat)  (σ : AMem) : Option (Value × AMem) := match k with
  | 0 => none
  | k + 1 => some (.bool true, σ)

theorem law02_alive_is (k : Nat)  (σ : AMem) : law02_alive k  σ = d_law02_alive k  σ := by
  cases k with
  | zero => rfl
  | succ k => rw [law02_alive_eq]; rfl

noncomputable def d_law02_HeapShapes (k : Nat) (x0_0 : Int) (x0_1 : Int) (x0_2 : Int) (σ : AMem) : Option (Value × AMem) := match k with
  | 0 => none
  | k + 1 => (allocK σ (.cells [.int .i64 x0_0, .int .i64 x0_1, .int .i64 x0_2] 23 true) fun h1 s2 => (ldI .i64 s2 h1 0).bind fun n3 => (ldI .i64 s2 h1 (0 + 1)).bind fun n4 => (ldI .i64 s2 h1 (0 + 1 + 1)).bind fun n5 => (d_heap_Valid k n3 n4 n5 s2).bind fun r6 => quietly s2 r6.2 ((toB r6.1).bind fun b7 => (ldI .i64 r6.2 h1 0).bind fun n8 => (ldI .i64 r6.2 h1 (0 + 1)).bind fun n9 => (ldI .i64 r6.2 h1 (0 + 1 + 1)).bind fun n10 => (d_ref02_Valid k n8 n9 n10 r6.2).bind fun r11 => (toB r11.1).bind fun b12 => (bif b7 == b12 then (ldI .i64 r11.2 h1 0).bind fun n13 => (ldI .i64 r11.2 h1 (0 + 1)).bind fun n14 => (ldI .i64 r11.2 h1 (0 + 1 + 1)).bind fun n15 => (d_heap_Words k n13 n14 n15 r11.2).bind fun r16 => quietly r11.2 r16.2 ((toI .i64 r16.1).bind fun n17 => (ldI .i64 r16.2 h1 0).bind fun n18 => (ldI .i64 r16.2 h1 (0 + 1)).bind fun n19 => (ldI .i64 r16.2 h1 (0 + 1 + 1)).bind fun n20 => (d_ref02_Words k n18 n19 n20 r16.2).bind fun r21 => (toI .i64 r21.1).bind fun n22 => some (n17 == n22, r21.2)) else some (false, r11.2)).bind fun r23 => (bif r23.1 then (d_law02_alive k  r23.2).bind fun r24 => (toB r24.1).bind fun b25 => some (b25, r24.2) else some (false, r23.2)).bind fun r26 => some (.bool r26.1, r26.2)))

theorem law02_HeapShapes_is (k : Nat) (x0_0 : Int) (x0_1 : Int) (x0_2 : Int) (σ : AMem) : law02_HeapShapes k x0_0 x0_1 x0_2 σ = d_law02_HeapShapes k x0_0 x0_1 x0_2 σ := by
  cases k with
  | zero => rfl
  | succ k => rw [law02_HeapShapes_eq, d_law02_HeapShapes]; simp only [heap_Valid_is, ref02_Valid_is, heap_Words_is, ref02_Words_is, law02_alive_is]

end Go.Proofs.Ytdlihdgoobcoaaa
