/-
  PRINTED BY A PROGRAM OF THIS SESSION'S OWN (gen.py): the functions as definitions.
-/
import Derived.Test.YtdlihdgoobcoaaaGreatF1
set_option maxRecDepth 100000
set_option linter.unusedVariables false
set_option linter.unusedSimpArgs false
set_option linter.unusedSectionVars false
namespace Go.Proofs.YtdlihdgoobcoaaaGreat
open Go Go.AX
variable [Quiet]

noncomputable def d_law02_alive (k : Nat)  (σ : AMem) : Option (Value × AMem) := match k with
  | 0 => none
  | k + 1 => some (.bool true, σ)

theorem law02_alive_is (k : Nat)  (σ : AMem) : law02_alive k  σ = d_law02_alive k  σ := by
  cases k with
  | zero => rfl
  | succ k => rw [law02_alive_eq]; rfl

noncomputable def d_heap_Heap_made (k : Nat) (x0 : Option Addr) (σ : AMem) : Option (Value × AMem) := match k with
  | 0 => none
  | k + 1 => ((eqA P 25 (.pointer x0) (.pointer none)).bind fun e1 => (bif !e1 then x0.bind fun a2 => (ldS σ a2.block (a2.off + 0)).bind fun l3 => some (decide (((l3.2.1 : Nat) : Int) > (0 : Int)), σ) else some (false, σ)).bind fun r4 => some (.bool r4.1, r4.2))

theorem heap_Heap_made_is (k : Nat) (x0 : Option Addr) (σ : AMem) : heap_Heap_made k x0 σ = d_heap_Heap_made k x0 σ := by
  cases k with
  | zero => rfl
  | succ k => rw [heap_Heap_made_eq, d_heap_Heap_made]

noncomputable def d_slices_Clone_heap_block (k : Nat) (x0 : Option Addr × Nat × Nat) (σ : AMem) : Option (Value × AMem) := match k with
  | 0 => none
  | k + 1 => ((eqA P 41 (.slice x0.1 x0.2.1 x0.2.2) (.slice none 0 0)).bind fun e1 => bif e1 then (some (.slice none 0 0, σ)) else (allocK σ (.cells [] 74 true) fun h2 s3 => (appendD P 74 (some ⟨h2, 0, none⟩, 0, 0) (x0.1, x0.2.1, x0.2.2) s3).bind fun r4 => some (.slice r4.1.1 r4.1.2.1 r4.1.2.2, r4.2)))

theorem slices_Clone_heap_block_is (k : Nat) (x0 : Option Addr × Nat × Nat) (σ : AMem) : slices_Clone_heap_block k x0 σ = d_slices_Clone_heap_block k x0 σ := by
  cases k with
  | zero => rfl
  | succ k => rw [slices_Clone_heap_block_eq, d_slices_Clone_heap_block]

noncomputable def d_slices_Clone_int (k : Nat) (x0 : Option Addr × Nat × Nat) (σ : AMem) : Option (Value × AMem) := match k with
  | 0 => none
  | k + 1 => ((eqA P 42 (.slice x0.1 x0.2.1 x0.2.2) (.slice none 0 0)).bind fun e1 => bif e1 then (some (.slice none 0 0, σ)) else (allocK σ (.cells [] 3 true) fun h2 s3 => (appendD P 3 (some ⟨h2, 0, none⟩, 0, 0) (x0.1, x0.2.1, x0.2.2) s3).bind fun r4 => some (.slice r4.1.1 r4.1.2.1 r4.1.2.2, r4.2)))

theorem slices_Clone_int_is (k : Nat) (x0 : Option Addr × Nat × Nat) (σ : AMem) : slices_Clone_int k x0 σ = d_slices_Clone_int k x0 σ := by
  cases k with
  | zero => rfl
  | succ k => rw [slices_Clone_int_eq, d_slices_Clone_int]

noncomputable def d_side_Table_made (k : Nat) (x0 : Option Addr) (σ : AMem) : Option (Value × AMem) := match k with
  | 0 => none
  | k + 1 => ((eqA P 43 (.pointer x0) (.pointer none)).bind fun e1 => (bif !e1 then x0.bind fun a2 => (ldI .i64 σ a2.block (a2.off + 0)).bind fun n3 => some (decide (n3 > (0 : Int)), σ) else some (false, σ)).bind fun r4 => some (.bool r4.1, r4.2))

theorem side_Table_made_is (k : Nat) (x0 : Option Addr) (σ : AMem) : side_Table_made k x0 σ = d_side_Table_made k x0 σ := by
  cases k with
  | zero => rfl
  | succ k => rw [side_Table_made_eq, d_side_Table_made]

noncomputable def d_slices_Clone_uint64 (k : Nat) (x0 : Option Addr × Nat × Nat) (σ : AMem) : Option (Value × AMem) := match k with
  | 0 => none
  | k + 1 => ((eqA P 96 (.slice x0.1 x0.2.1 x0.2.2) (.slice none 0 0)).bind fun e1 => bif e1 then (some (.slice none 0 0, σ)) else (allocK σ (.cells [] 100 true) fun h2 s3 => (appendD P 100 (some ⟨h2, 0, none⟩, 0, 0) (x0.1, x0.2.1, x0.2.2) s3).bind fun r4 => some (.slice r4.1.1 r4.1.2.1 r4.1.2.2, r4.2)))

theorem slices_Clone_uint64_is (k : Nat) (x0 : Option Addr × Nat × Nat) (σ : AMem) : slices_Clone_uint64 k x0 σ = d_slices_Clone_uint64 k x0 σ := by
  cases k with
  | zero => rfl
  | succ k => rw [slices_Clone_uint64_eq, d_slices_Clone_uint64]

noncomputable def d_side_Table_Clone (k : Nat) (x0 : Option Addr) (σ : AMem) : Option (Value × AMem) := match k with
  | 0 => none
  | k + 1 => ((d_side_Table_made k x0 σ).bind fun r1 => (toB r1.1).bind fun b2 => bif !b2 then (some (.pointer none, r1.2)) else (x0.bind fun a3 => (ldI .i64 r1.2 a3.block (a3.off + 0)).bind fun n4 => x0.bind fun a5 => (ldI .i64 r1.2 a5.block (a5.off + 1)).bind fun n6 => x0.bind fun a7 => (ldS r1.2 a7.block (a7.off + 2)).bind fun l8 => (d_slices_Clone_uint64 k (l8.1, l8.2.1, l8.2.2) r1.2).bind fun r9 => quietly r1.2 r9.2 ((toS r9.1).bind fun l10 => allocK r9.2 (.cells [.int .i64 n4, .int .i64 n6, .slice l10.1 l10.2.1 l10.2.2] 98 true) fun h11 s12 => some (.pointer (some ⟨h11, 0, none⟩), s12))))

theorem side_Table_Clone_is (k : Nat) (x0 : Option Addr) (σ : AMem) : side_Table_Clone k x0 σ = d_side_Table_Clone k x0 σ := by
  cases k with
  | zero => rfl
  | succ k => rw [side_Table_Clone_eq, d_side_Table_Clone]; simp only [side_Table_made_is, slices_Clone_uint64_is]

noncomputable def d_maps_Clone_int (k : Nat) (x0 : Option Nat) (σ : AMem) : Option (Value × AMem) := match k with
  | 0 => none
  | k + 1 => cloneA [.map x0] σ

theorem maps_Clone_int_is (k : Nat) (x0 : Option Nat) (σ : AMem) : maps_Clone_int k x0 σ = d_maps_Clone_int k x0 σ := by
  cases k with
  | zero => rfl
  | succ k => rw [maps_Clone_int_eq]; rfl

noncomputable def d_heap_Heap_Clone (k : Nat) (x0 : Option Addr) (σ : AMem) : Option (Value × AMem) := match k with
  | 0 => none
  | k + 1 => ((d_heap_Heap_made k x0 σ).bind fun r1 => (toB r1.1).bind fun b2 => bif !b2 then (some (.pointer none, r1.2)) else (x0.bind fun a3 => (ldS r1.2 a3.block (a3.off + 0)).bind fun l4 => (d_slices_Clone_heap_block k (l4.1, l4.2.1, l4.2.2) r1.2).bind fun r5 => quietly r1.2 r5.2 ((toS r5.1).bind fun l6 => x0.bind fun a7 => (ldS r5.2 a7.block (a7.off + 1)).bind fun l8 => (d_slices_Clone_int k (l8.1, l8.2.1, l8.2.2) r5.2).bind fun r9 => quietly r5.2 r9.2 ((toS r9.1).bind fun l10 => x0.bind fun a11 => (ldP r9.2 a11.block (a11.off + 2)).bind fun p12 => (d_side_Table_Clone k p12 r9.2).bind fun r13 => quietly r9.2 r13.2 ((toP r13.1).bind fun p14 => x0.bind fun a15 => (ldP r13.2 a15.block (a15.off + 3)).bind fun p16 => (d_side_Table_Clone k p16 r13.2).bind fun r17 => quietly r13.2 r17.2 ((toP r17.1).bind fun p18 => x0.bind fun a19 => (ldM r17.2 a19.block (a19.off + 4)).bind fun m20 => (d_maps_Clone_int k m20 r17.2).bind fun r21 => quietly r17.2 r21.2 ((toM r21.1).bind fun m22 => x0.bind fun a23 => (ldM r21.2 a23.block (a23.off + 5)).bind fun m24 => (d_maps_Clone_int k m24 r21.2).bind fun r25 => quietly r21.2 r25.2 ((toM r25.1).bind fun m26 => x0.bind fun a27 => (ldI .i64 r25.2 a27.block (a27.off + 6)).bind fun n28 => allocK r25.2 (.cells [.slice l6.1 l6.2.1 l6.2.2, .slice l10.1 l10.2.1 l10.2.2, .pointer p14, .pointer p18, .map m22, .map m26, .int .i64 n28] 46 true) fun h29 s30 => some (.pointer (some ⟨h29, 0, none⟩), s30)))))))))

theorem heap_Heap_Clone_is (k : Nat) (x0 : Option Addr) (σ : AMem) : heap_Heap_Clone k x0 σ = d_heap_Heap_Clone k x0 σ := by
  cases k with
  | zero => rfl
  | succ k => rw [heap_Heap_Clone_eq, d_heap_Heap_Clone]; simp only [heap_Heap_made_is, slices_Clone_heap_block_is, slices_Clone_int_is, side_Table_Clone_is, maps_Clone_int_is]

noncomputable def d_heap_space (k : Nat) (x0 : Int) (σ : AMem) : Option (Value × AMem) := match k with
  | 0 => none
  | k + 1 => ((bif decide (x0 ≥ (0 : Int)) then some (decide (x0 < (8 : Int)), σ) else some (false, σ)).bind fun r1 => some (.bool r1.1, r1.2))

theorem heap_space_is (k : Nat) (x0 : Int) (σ : AMem) : heap_space k x0 σ = d_heap_space k x0 σ := by
  cases k with
  | zero => rfl
  | succ k => rw [heap_space_eq, d_heap_space]

noncomputable def d_heap_Heap_there (k : Nat) (x0 : Option Addr) (x1 : Int) (σ : AMem) : Option (Value × AMem) := match k with
  | 0 => none
  | k + 1 => ((d_heap_Heap_made k x0 σ).bind fun r1 => (toB r1.1).bind fun b2 => (bif b2 then some (decide (x1 ≥ (1 : Int)), r1.2) else some (false, r1.2)).bind fun r3 => (bif r3.1 then x0.bind fun a4 => (ldS r3.2 a4.block (a4.off + 0)).bind fun l5 => some (decide (x1 < ((l5.2.1 : Nat) : Int)), r3.2) else some (false, r3.2)).bind fun r6 => some (.bool r6.1, r6.2))

theorem heap_Heap_there_is (k : Nat) (x0 : Option Addr) (x1 : Int) (σ : AMem) : heap_Heap_there k x0 x1 σ = d_heap_Heap_there k x0 x1 σ := by
  cases k with
  | zero => rfl
  | succ k => rw [heap_Heap_there_eq, d_heap_Heap_there]; simp only [heap_Heap_made_is]

noncomputable def d_slices_IndexFunc_heap_block_l0 (k n : Nat) (p0 : Option Addr) (c1 : Nat) (c2 : Nat) (v3 : Value) (i4 : Int) (x8 : Int) (σ : AMem) : Option LOut := match n with
  | 0 => none
  | n + 1 => (bif decide (x8 < i4) then (if 0 ≤ x8 ∧ x8 < (c1 : Nat) then p0.bind fun a1 => (ldI .i64 σ a1.block (a1.off + x8.toNat * 2)).bind fun n2 => (ldI .i64 σ a1.block (a1.off + x8.toNat * 2 + 1)).bind fun n3 => (callV k v3 [.agg #[.int .i64 n2, .int .i64 n3]] σ).bind fun r4 => (toB r4.1).bind fun b5 => bif b5 then (some (.ret, [.int .i64 x8], r4.2)) else (d_slices_IndexFunc_heap_block_l0 k n p0 c1 c2 v3 i4 (w64 (x8 + (1 : Int))) r4.2) else none) else (some (.exit 0, [], σ)))
termination_by structural n

theorem slices_IndexFunc_heap_block_l0_is (k n : Nat) (p0 : Option Addr) (c1 : Nat) (c2 : Nat) (v3 : Value) (i4 : Int) (x8 : Int) (σ : AMem) : slices_IndexFunc_heap_block_l0 k n p0 c1 c2 v3 i4 x8 σ = d_slices_IndexFunc_heap_block_l0 k n p0 c1 c2 v3 i4 x8 σ := by
  induction n generalizing p0 c1 c2 v3 i4 x8 σ with
  | zero => rfl
  | succ n ih => rw [slices_IndexFunc_heap_block_l0_eq, d_slices_IndexFunc_heap_block_l0]; simp only [ih]

noncomputable def d_slices_IndexFunc_heap_block (k : Nat) (x0 : Option Addr × Nat × Nat) (x1 : Value) (σ : AMem) : Option (Value × AMem) := match k with
  | 0 => none
  | k + 1 => ((d_slices_IndexFunc_heap_block_l0 k k x0.1 x0.2.1 x0.2.2 x1 ((x0.2.1 : Nat) : Int) (0 : Int) σ).bind fun r6 => if r6.1 = .exit 0 then (some (.int .i64 (-1 : Int), r6.2.2)) else if r6.1 = .ret then (u_i r6.2.1 fun n7 => some (.int .i64 n7, r6.2.2)) else none)

theorem slices_IndexFunc_heap_block_is (k : Nat) (x0 : Option Addr × Nat × Nat) (x1 : Value) (σ : AMem) : slices_IndexFunc_heap_block k x0 x1 σ = d_slices_IndexFunc_heap_block k x0 x1 σ := by
  cases k with
  | zero => rfl
  | succ k => rw [slices_IndexFunc_heap_block_eq, d_slices_IndexFunc_heap_block]; simp only [slices_IndexFunc_heap_block_l0_is]

noncomputable def d_slices_ContainsFunc_heap_block (k : Nat) (x0 : Option Addr × Nat × Nat) (x1 : Value) (σ : AMem) : Option (Value × AMem) := match k with
  | 0 => none
  | k + 1 => ((d_slices_IndexFunc_heap_block k (x0.1, x0.2.1, x0.2.2) (x1) σ).bind fun r1 => (toI .i64 r1.1).bind fun n2 => some (.bool (decide (n2 ≥ (0 : Int))), r1.2))

theorem slices_ContainsFunc_heap_block_is (k : Nat) (x0 : Option Addr × Nat × Nat) (x1 : Value) (σ : AMem) : slices_ContainsFunc_heap_block k x0 x1 σ = d_slices_ContainsFunc_heap_block k x0 x1 σ := by
  cases k with
  | zero => rfl
  | succ k => rw [slices_ContainsFunc_heap_block_eq, d_slices_ContainsFunc_heap_block]; simp only [slices_IndexFunc_heap_block_is]

noncomputable def d_heap_Heap_claim_l0 (k n : Nat) (p0 : Option Addr) (i1 : Int) (h2 : Nat) (i3 : Int) (x54 : Int) (σ : AMem) : Option LOut := match n with
  | 0 => none
  | n + 1 => (bif decide (x54 < i3) then (p0.bind fun a22 => (ldS σ a22.block (a22.off + 0)).bind fun l23 => (ldI .i64 σ h2 0).bind fun n24 => (ldI .i64 σ h2 (0 + 1)).bind fun n25 => if 0 ≤ (w64 (i1 + x54)) ∧ (w64 (i1 + x54)) < (l23.2.1 : Nat) then l23.1.bind fun a26 => (stN σ a26.block (a26.off + (w64 (i1 + x54)).toNat * 2) [.int .i64 n24, .int .i64 n25]).bind fun s27 => d_heap_Heap_claim_l0 k n p0 i1 h2 i3 (w64 (x54 + (1 : Int))) s27 else none) else (some (.exit 1, [], σ)))
termination_by structural n

theorem heap_Heap_claim_l0_is (k n : Nat) (p0 : Option Addr) (i1 : Int) (h2 : Nat) (i3 : Int) (x54 : Int) (σ : AMem) : heap_Heap_claim_l0 k n p0 i1 h2 i3 x54 σ = d_heap_Heap_claim_l0 k n p0 i1 h2 i3 x54 σ := by
  induction n generalizing p0 i1 h2 i3 x54 σ with
  | zero => rfl
  | succ n ih => rw [heap_Heap_claim_l0_eq, d_heap_Heap_claim_l0]; simp only [heap_Heap_made_is, heap_space_is, heap_Heap_there_is, slices_ContainsFunc_heap_block_is, ih]

noncomputable def d_heap_Heap_claim (k : Nat) (x0 : Option Addr) (x1 : Int) (x2 : Int) (x3_0 : Int) (x3_1 : Int) (x4_0 : Int) (x4_1 : Int) (σ : AMem) : Option (Value × AMem) := match k with
  | 0 => none
  | k + 1 => (allocK σ (.cells [.int .i64 x3_0, .int .i64 x3_1] 74 true) fun h1 s2 => allocK s2 (.cells [.int .i64 x4_0, .int .i64 x4_1] 74 true) fun h3 s4 => (d_heap_Heap_made k x0 s4).bind fun r5 => (toB r5.1).bind fun b6 => bif !b6 then (some (.int .i64 (5 : Int), r5.2)) else ((d_heap_Heap_there k x0 x1 r5.2).bind fun r7 => (toB r7.1).bind fun b8 => (bif !b8 then some (true, r7.2) else some (decide (x2 < (1 : Int)), r7.2)).bind fun r9 => (bif r9.1 then some (true, r9.2) else x0.bind fun a10 => (ldS r9.2 a10.block (a10.off + 0)).bind fun l11 => some (decide (x2 > (w64 (((l11.2.1 : Nat) : Int) - x1))), r9.2)).bind fun r12 => (bif r12.1 then some (true, r12.2) else (ldI .i64 r12.2 h1 (0 + 1)).bind fun n13 => (d_heap_space k n13 r12.2).bind fun r14 => (toB r14.1).bind fun b15 => some (!b15, r14.2)).bind fun r16 => bif r16.1 then (some (.int .i64 (1 : Int), r16.2)) else (x0.bind fun a17 => (ldS r16.2 a17.block (a17.off + 0)).bind fun l18 => (sliceD 74 2 (l18.1, l18.2.1, l18.2.2) (some (.int .i64 x1)) (some (.int .i64 (w64 (x1 + x2)))) none r16.2).bind fun l19 => (d_slices_ContainsFunc_heap_block k (l19.1, l19.2.1, l19.2.2) (.func (.func 127) #[] #[]) r16.2).bind fun r20 => (toB r20.1).bind fun b21 => bif b21 then (some (.int .i64 (8 : Int), r20.2)) else ((d_heap_Heap_claim_l0 k k x0 x1 h3 x2 (0 : Int) r20.2).bind fun r28 => if r28.1 = .exit 1 then (x0.bind fun a29 => (ldS r28.2.2 a29.block (a29.off + 0)).bind fun l30 => (ldI .i64 r28.2.2 h1 0).bind fun n31 => (ldI .i64 r28.2.2 h1 (0 + 1)).bind fun n32 => if 0 ≤ x1 ∧ x1 < (l30.2.1 : Nat) then l30.1.bind fun a33 => (stN r28.2.2 a33.block (a33.off + x1.toNat * 2) [.int .i64 n31, .int .i64 n32]).bind fun s34 => some (.int .i64 (0 : Int), s34) else none) else none))))

theorem heap_Heap_claim_is (k : Nat) (x0 : Option Addr) (x1 : Int) (x2 : Int) (x3_0 : Int) (x3_1 : Int) (x4_0 : Int) (x4_1 : Int) (σ : AMem) : heap_Heap_claim k x0 x1 x2 x3_0 x3_1 x4_0 x4_1 σ = d_heap_Heap_claim k x0 x1 x2 x3_0 x3_1 x4_0 x4_1 σ := by
  cases k with
  | zero => rfl
  | succ k => rw [heap_Heap_claim_eq, d_heap_Heap_claim]; simp only [heap_Heap_made_is, heap_space_is, heap_Heap_there_is, slices_ContainsFunc_heap_block_is, heap_Heap_claim_l0_is]

noncomputable def d_heap_Heap_Claim (k : Nat) (x0 : Option Addr) (x1 : Int) (x2 : Int) (σ : AMem) : Option (Value × AMem) := match k with
  | 0 => none
  | k + 1 => ((d_heap_Heap_claim k x0 x1 (1 : Int) (1 : Int) x2 (0 : Int) (0 : Int) σ).bind fun r1 => (toI .i64 r1.1).bind fun n2 => some (.int .i64 n2, r1.2))

theorem heap_Heap_Claim_is (k : Nat) (x0 : Option Addr) (x1 : Int) (x2 : Int) (σ : AMem) : heap_Heap_Claim k x0 x1 x2 σ = d_heap_Heap_Claim k x0 x1 x2 σ := by
  cases k with
  | zero => rfl
  | succ k => rw [heap_Heap_Claim_eq, d_heap_Heap_Claim]; simp only [heap_Heap_claim_is]

noncomputable def d_heap_Valid (k : Nat) (x0_0 : Int) (x0_1 : Int) (x0_2 : Int) (σ : AMem) : Option (Value × AMem) := match k with
  | 0 => none
  | k + 1 => (allocK σ (.cells [.int .i64 x0_0, .int .i64 x0_1, .int .i64 x0_2] 33 true) fun h1 s2 => (ldI .i64 s2 h1 (0 + 0)).bind fun n3 => (bif decide (n3 ≥ (0 : Int)) then (ldI .i64 s2 h1 (0 + 0)).bind fun n4 => some (decide (n4 ≤ (15 : Int)), s2) else some (false, s2)).bind fun r5 => (bif r5.1 then (ldI .i64 r5.2 h1 (0 + 1)).bind fun n6 => some (decide (n6 ≥ (0 : Int)), r5.2) else some (false, r5.2)).bind fun r7 => (bif r7.1 then (ldI .i64 r7.2 h1 (0 + 1)).bind fun n8 => some (decide (n8 ≤ (200 : Int)), r7.2) else some (false, r7.2)).bind fun r9 => (bif r9.1 then (ldI .i64 r9.2 h1 (0 + 2)).bind fun n10 => some (decide (n10 ≥ (0 : Int)), r9.2) else some (false, r9.2)).bind fun r11 => (bif r11.1 then (ldI .i64 r11.2 h1 (0 + 2)).bind fun n12 => some (decide (n12 ≤ (3 : Int)), r11.2) else some (false, r11.2)).bind fun r13 => (bif r13.1 then (ldI .i64 r13.2 h1 (0 + 2)).bind fun n14 => (bif n14 != (1 : Int) then some (true, r13.2) else (ldI .i64 r13.2 h1 (0 + 0)).bind fun n15 => some (decide (n15 ≥ (1 : Int)), r13.2)).bind fun r16 => some (r16.1, r16.2) else some (false, r13.2)).bind fun r17 => (bif r17.1 then (ldI .i64 r17.2 h1 (0 + 2)).bind fun n18 => (bif n18 != (2 : Int) then some (true, r17.2) else (ldI .i64 r17.2 h1 (0 + 0)).bind fun n19 => some (decide (n19 ≥ (2 : Int)), r17.2)).bind fun r20 => some (r20.1, r20.2) else some (false, r17.2)).bind fun r21 => some (.bool r21.1, r21.2))

theorem heap_Valid_is (k : Nat) (x0_0 : Int) (x0_1 : Int) (x0_2 : Int) (σ : AMem) : heap_Valid k x0_0 x0_1 x0_2 σ = d_heap_Valid k x0_0 x0_1 x0_2 σ := by
  cases k with
  | zero => rfl
  | succ k => rw [heap_Valid_eq, d_heap_Valid]

noncomputable def d_heap_Words (k : Nat) (x0_0 : Int) (x0_1 : Int) (x0_2 : Int) (σ : AMem) : Option (Value × AMem) := match k with
  | 0 => none
  | k + 1 => (allocK σ (.cells [.int .i64 x0_0, .int .i64 x0_1, .int .i64 x0_2] 33 true) fun h1 s2 => (ldI .i64 s2 h1 0).bind fun n3 => (ldI .i64 s2 h1 (0 + 1)).bind fun n4 => (ldI .i64 s2 h1 (0 + 1 + 1)).bind fun n5 => (d_heap_Valid k n3 n4 n5 s2).bind fun r6 => (toB r6.1).bind fun b7 => bif !b7 then (some (.int .i64 (0 : Int), r6.2)) else ((ldI .i64 r6.2 h1 (0 + 0)).bind fun n8 => (ldI .i64 r6.2 h1 (0 + 1)).bind fun n9 => if (2 : Int) = 0 then none else some (.int .i64 (w64 ((w64 ((w64 ((w64 ((w64 ((2 : Int) + n8)) + n9)) + (1 : Int))).tdiv (2 : Int))) * (2 : Int))), r6.2)))

theorem heap_Words_is (k : Nat) (x0_0 : Int) (x0_1 : Int) (x0_2 : Int) (σ : AMem) : heap_Words k x0_0 x0_1 x0_2 σ = d_heap_Words k x0_0 x0_1 x0_2 σ := by
  cases k with
  | zero => rfl
  | succ k => rw [heap_Words_eq, d_heap_Words]; simp only [heap_Valid_is]

noncomputable def d_heap_shape (k : Nat) (x0 : Int) (σ : AMem) : Option (Value × AMem) := match k with
  | 0 => none
  | k + 1 => (allocK σ (.cells [.int .i64 (0 : Int), .int .i64 (0 : Int), .int .i64 (0 : Int)] 33 true) fun h1 s2 => if (16 : Int) = 0 then none else if (4096 : Int) = 0 then none else if (16 : Int) = 0 then none else if (4096 : Int) = 0 then none else (stN s2 h1 0 [.int .i64 (x0.tmod (16 : Int)), .int .i64 (w64 ((x0.tmod (4096 : Int)).tdiv (16 : Int))), .int .i64 (w64 (x0.tdiv (4096 : Int)))]).bind fun s3 => (((ldN s3 h1 0 3).bind fun v4 => some (.agg v4.toArray)).bind fun v5 => some [v5]).bind fun vs6 => some (resOf vs6, s3))

theorem heap_shape_is (k : Nat) (x0 : Int) (σ : AMem) : heap_shape k x0 σ = d_heap_shape k x0 σ := by
  cases k with
  | zero => rfl
  | succ k => rw [heap_shape_eq, d_heap_shape]

noncomputable def d_heap_Heap_size (k : Nat) (x0 : Option Addr) (x1 : Int) (σ : AMem) : Option (Value × AMem) := match k with
  | 0 => none
  | k + 1 => (x0.bind fun a1 => (ldS σ a1.block (a1.off + 1)).bind fun l2 => if 0 ≤ (w64 (x1 + (1 : Int))) ∧ (w64 (x1 + (1 : Int))) < (l2.2.1 : Nat) then l2.1.bind fun a3 => (ldI .i64 σ a3.block (a3.off + (w64 (x1 + (1 : Int))).toNat * 1)).bind fun n4 => (d_heap_shape k n4 σ).bind fun r5 => a_iii r5.1 fun n6 n7 n8 => (d_heap_Words k n6 n7 n8 r5.2).bind fun r9 => (toI .i64 r9.1).bind fun n10 => some (.int .i64 n10, r9.2) else none)

theorem heap_Heap_size_is (k : Nat) (x0 : Option Addr) (x1 : Int) (σ : AMem) : heap_Heap_size k x0 x1 σ = d_heap_Heap_size k x0 x1 σ := by
  cases k with
  | zero => rfl
  | succ k => rw [heap_Heap_size_eq, d_heap_Heap_size]; simp only [heap_Words_is, heap_shape_is]

noncomputable def d_side_Table_most (k : Nat) (x0 : Option Addr) (σ : AMem) : Option (Value × AMem) := match k with
  | 0 => none
  | k + 1 => (x0.bind fun a1 => (ldI .i64 σ a1.block (a1.off + 1)).bind fun n2 => if n2 < 0 then none else some (.int .i64 (w64 ((w64 ((1 : Int) * 2 ^ (min n2.toNat 64))) - (1 : Int))), σ))

theorem side_Table_most_is (k : Nat) (x0 : Option Addr) (σ : AMem) : side_Table_most k x0 σ = d_side_Table_most k x0 σ := by
  cases k with
  | zero => rfl
  | succ k => rw [side_Table_most_eq, d_side_Table_most]

noncomputable def d_side_Table_get (k : Nat) (x0 : Option Addr) (x1 : Int) (σ : AMem) : Option (Value × AMem) := match k with
  | 0 => none
  | k + 1 => (x0.bind fun a1 => (ldI .i64 σ a1.block (a1.off + 1)).bind fun n2 => x0.bind fun a3 => (ldS σ a3.block (a3.off + 2)).bind fun l4 => if (64 : Int) = 0 then none else if 0 ≤ (w64 ((w64 (x1 * n2)).tdiv (64 : Int))) ∧ (w64 ((w64 (x1 * n2)).tdiv (64 : Int))) < (l4.2.1 : Nat) then l4.1.bind fun a5 => (ldI .u64 σ a5.block (a5.off + (w64 ((w64 (x1 * n2)).tdiv (64 : Int))).toNat * 1)).bind fun n6 => if (64 : Int) = 0 then none else if ((w64 (x1 * n2)).tmod (64 : Int)) < 0 then none else (d_side_Table_most k x0 σ).bind fun r7 => quietly σ r7.2 ((toI .i64 r7.1).bind fun n8 => some (.int .i64 (w64 ((BitVec.ofInt 64 (w64 (n6.fdiv (2 ^ (min ((w64 (x1 * n2)).tmod (64 : Int)).toNat 64)))) &&& BitVec.ofInt 64 n8).toNat)), r7.2)) else none)

theorem side_Table_get_is (k : Nat) (x0 : Option Addr) (x1 : Int) (σ : AMem) : side_Table_get k x0 x1 σ = d_side_Table_get k x0 x1 σ := by
  cases k with
  | zero => rfl
  | succ k => rw [side_Table_get_eq, d_side_Table_get]; simp only [side_Table_most_is]

noncomputable def d_side_Table_Last_l0 (k n : Nat) (p0 : Option Addr) (i1 : Int) (x8 : Int) (σ : AMem) : Option LOut := match n with
  | 0 => none
  | n + 1 => (bif decide (x8 ≥ (0 : Int)) then ((d_side_Table_get k p0 x8 σ).bind fun r5 => (toI .i64 r5.1).bind fun n6 => bif n6 == i1 then (some (.ret, [.int .i64 x8, .int .i64 (0 : Int)], r5.2)) else (d_side_Table_Last_l0 k n p0 i1 (w64 (x8 - (1 : Int))) r5.2)) else (some (.exit 0, [], σ)))
termination_by structural n

theorem side_Table_Last_l0_is (k n : Nat) (p0 : Option Addr) (i1 : Int) (x8 : Int) (σ : AMem) : side_Table_Last_l0 k n p0 i1 x8 σ = d_side_Table_Last_l0 k n p0 i1 x8 σ := by
  induction n generalizing p0 i1 x8 σ with
  | zero => rfl
  | succ n ih => rw [side_Table_Last_l0_eq, d_side_Table_Last_l0]; simp only [side_Table_made_is, side_Table_get_is, ih]

noncomputable def d_side_Table_Last (k : Nat) (x0 : Option Addr) (x1 : Int) (x2 : Int) (σ : AMem) : Option (Value × AMem) := match k with
  | 0 => none
  | k + 1 => ((d_side_Table_made k x0 σ).bind fun r1 => (toB r1.1).bind fun b2 => bif !b2 then (some (.tuple #[.int .i64 (0 : Int), .int .i64 (5 : Int)], r1.2)) else (x0.bind fun a3 => (ldI .i64 r1.2 a3.block (a3.off + 0)).bind fun n4 => (d_side_Table_Last_l0 k k x0 x2 (w64 ((if n4 < (if (0 : Int) > x1 then (0 : Int) else x1) then n4 else (if (0 : Int) > x1 then (0 : Int) else x1)) - (1 : Int))) r1.2).bind fun r7 => if r7.1 = .exit 0 then (some (.tuple #[.int .i64 (0 : Int), .int .i64 (4 : Int)], r7.2.2)) else if r7.1 = .ret then (u_ii r7.2.1 fun n8 n9 => some (.tuple #[.int .i64 n8, .int .i64 n9], r7.2.2)) else none))

theorem side_Table_Last_is (k : Nat) (x0 : Option Addr) (x1 : Int) (x2 : Int) (σ : AMem) : side_Table_Last k x0 x1 x2 σ = d_side_Table_Last k x0 x1 x2 σ := by
  cases k with
  | zero => rfl
  | succ k => rw [side_Table_Last_eq, d_side_Table_Last]; simp only [side_Table_made_is, side_Table_get_is, side_Table_Last_l0_is]

noncomputable def d_heap_Heap_Find (k : Nat) (x0 : Option Addr) (x1 : Int) (σ : AMem) : Option (Value × AMem) := match k with
  | 0 => none
  | k + 1 => ((d_heap_Heap_made k x0 σ).bind fun r1 => (toB r1.1).bind fun b2 => bif !b2 then (some (.tuple #[.int .i64 (0 : Int), .int .i64 (5 : Int)], r1.2)) else ((bif decide (x1 < (0 : Int)) then some (true, r1.2) else x0.bind fun a3 => (ldS r1.2 a3.block (a3.off + 1)).bind fun l4 => some (decide (x1 ≥ ((l4.2.1 : Nat) : Int)), r1.2)).bind fun r5 => bif r5.1 then (some (.tuple #[.int .i64 (0 : Int), .int .i64 (4 : Int)], r5.2)) else (x0.bind fun a6 => (ldP r5.2 a6.block (a6.off + 2)).bind fun p7 => if (2 : Int) = 0 then none else (d_side_Table_Last k p7 (w64 ((w64 (x1.tdiv (2 : Int))) + (1 : Int))) (1 : Int) r5.2).bind fun r8 => r_ii r8.1 fun n9 n10 => (bif n10 != (0 : Int) then some (true, r8.2) else (d_heap_Heap_size k x0 (w64 ((2 : Int) * n9)) r8.2).bind fun r11 => (toI .i64 r11.1).bind fun n12 => some (decide (x1 ≥ (w64 ((w64 ((2 : Int) * n9)) + n12))), r11.2)).bind fun r13 => bif r13.1 then (some (.tuple #[.int .i64 (0 : Int), .int .i64 (4 : Int)], r13.2)) else (some (.tuple #[.int .i64 (w64 ((2 : Int) * n9)), .int .i64 (0 : Int)], r13.2)))))

theorem heap_Heap_Find_is (k : Nat) (x0 : Option Addr) (x1 : Int) (σ : AMem) : heap_Heap_Find k x0 x1 σ = d_heap_Heap_Find k x0 x1 σ := by
  cases k with
  | zero => rfl
  | succ k => rw [heap_Heap_Find_eq, d_heap_Heap_Find]; simp only [heap_Heap_made_is, heap_Heap_size_is, side_Table_Last_is]

noncomputable def d_heap_Heap_span_l0 (k n : Nat) (p0 : Option Addr) (i1 : Int) (x5 : Int) (σ : AMem) : Option LOut := match n with
  | 0 => none
  | n + 1 => (p0.bind fun a1 => (ldS σ a1.block (a1.off + 0)).bind fun l2 => if 0 ≤ i1 ∧ i1 < (l2.2.1 : Nat) then l2.1.bind fun a3 => (ldI .i64 σ a3.block (a3.off + i1.toNat * 2 + 0)).bind fun n4 => (bif n4 == (2 : Int) then p0.bind fun a5 => (ldS σ a5.block (a5.off + 0)).bind fun l6 => some (decide ((w64 (i1 + x5)) < ((l6.2.1 : Nat) : Int)), σ) else some (false, σ)).bind fun r7 => (bif r7.1 then p0.bind fun a8 => (ldS r7.2 a8.block (a8.off + 0)).bind fun l9 => if 0 ≤ (w64 (i1 + x5)) ∧ (w64 (i1 + x5)) < (l9.2.1 : Nat) then l9.1.bind fun a10 => (ldI .i64 r7.2 a10.block (a10.off + (w64 (i1 + x5)).toNat * 2 + 0)).bind fun n11 => some (n11 == (3 : Int), r7.2) else none else some (false, r7.2)).bind fun r12 => bif r12.1 then (d_heap_Heap_span_l0 k n p0 i1 (w64 (x5 + (1 : Int))) r12.2) else (some (.exit 0, [.int .i64 x5], r12.2)) else none)
termination_by structural n

theorem heap_Heap_span_l0_is (k n : Nat) (p0 : Option Addr) (i1 : Int) (x5 : Int) (σ : AMem) : heap_Heap_span_l0 k n p0 i1 x5 σ = d_heap_Heap_span_l0 k n p0 i1 x5 σ := by
  induction n generalizing p0 i1 x5 σ with
  | zero => rfl
  | succ n ih => rw [heap_Heap_span_l0_eq, d_heap_Heap_span_l0]; simp only [ih]

noncomputable def d_heap_Heap_span (k : Nat) (x0 : Option Addr) (x1 : Int) (σ : AMem) : Option (Value × AMem) := match k with
  | 0 => none
  | k + 1 => ((d_heap_Heap_span_l0 k k x0 x1 (1 : Int) σ).bind fun r13 => if r13.1 = .exit 0 then (u_i r13.2.1 fun n14 => some (.int .i64 n14, r13.2.2)) else none)

theorem heap_Heap_span_is (k : Nat) (x0 : Option Addr) (x1 : Int) (σ : AMem) : heap_Heap_span k x0 x1 σ = d_heap_Heap_span k x0 x1 σ := by
  cases k with
  | zero => rfl
  | succ k => rw [heap_Heap_span_eq, d_heap_Heap_span]; simp only [heap_Heap_span_l0_is]

noncomputable def d_heap_Heap_fits_l0 (k n : Nat) (p0 : Option Addr) (i1 : Int) (i2 : Int) (i3 : Int) (x10 : Int) (σ : AMem) : Option LOut := match n with
  | 0 => none
  | n + 1 => (bif decide (x10 < (w64 (i1 + i2))) then ((d_heap_Heap_Find k p0 x10 σ).bind fun r19 => r_ii r19.1 fun n20 n21 => (bif n21 == (0 : Int) then some (n20 != i3, r19.2) else some (false, r19.2)).bind fun r22 => bif r22.1 then (some (.ret, [.int .i64 (8 : Int)], r22.2)) else (d_heap_Heap_fits_l0 k n p0 i1 i2 i3 (w64 (x10 + (2 : Int))) r22.2)) else (some (.exit 0, [], σ)))
termination_by structural n

theorem heap_Heap_fits_l0_is (k n : Nat) (p0 : Option Addr) (i1 : Int) (i2 : Int) (i3 : Int) (x10 : Int) (σ : AMem) : heap_Heap_fits_l0 k n p0 i1 i2 i3 x10 σ = d_heap_Heap_fits_l0 k n p0 i1 i2 i3 x10 σ := by
  induction n generalizing p0 i1 i2 i3 x10 σ with
  | zero => rfl
  | succ n ih => rw [heap_Heap_fits_l0_eq, d_heap_Heap_fits_l0]; simp only [heap_Heap_Find_is, heap_Heap_span_is, ih]

noncomputable def d_heap_Heap_fits (k : Nat) (x0 : Option Addr) (x1 : Int) (x2 : Int) (x3 : Int) (σ : AMem) : Option (Value × AMem) := match k with
  | 0 => none
  | k + 1 => ((bif decide (x1 < (0 : Int)) then some (true, σ) else x0.bind fun a1 => (ldS σ a1.block (a1.off + 1)).bind fun l2 => some (decide (x1 ≥ ((l2.2.1 : Nat) : Int)), σ)).bind fun r3 => (bif r3.1 then some (true, r3.2) else if (2 : Int) = 0 then none else some ((x1.tmod (2 : Int)) != (0 : Int), r3.2)).bind fun r4 => bif r4.1 then (some (.int .i64 (1 : Int), r4.2)) else (if (64 : Int) = 0 then none else (bif decide (x2 ≤ (32 : Int)) then (x0.bind fun a5 => (ldS r4.2 a5.block (a5.off + 0)).bind fun l6 => if 0 ≤ (w64 (x1.tdiv (64 : Int))) ∧ (w64 (x1.tdiv (64 : Int))) < (l6.2.1 : Nat) then l6.1.bind fun a7 => (ldI .i64 r4.2 a7.block (a7.off + (w64 (x1.tdiv (64 : Int))).toNat * 2 + 0)).bind fun n8 => (bif n8 != (1 : Int) then some (true, r4.2) else if (64 : Int) = 0 then none else some ((w64 ((w64 ((w64 (x1 + x2)) - (1 : Int))).tdiv (64 : Int))) != (w64 (x1.tdiv (64 : Int))), r4.2)).bind fun r9 => bif r9.1 then (some (.ret, [.int .i64 (5 : Int)], r9.2)) else (some (.normal, [], r9.2)) else none) else (x0.bind fun a10 => (ldS r4.2 a10.block (a10.off + 0)).bind fun l11 => if 0 ≤ (w64 (x1.tdiv (64 : Int))) ∧ (w64 (x1.tdiv (64 : Int))) < (l11.2.1 : Nat) then l11.1.bind fun a12 => (ldI .i64 r4.2 a12.block (a12.off + (w64 (x1.tdiv (64 : Int))).toNat * 2 + 0)).bind fun n13 => (bif n13 != (2 : Int) then some (true, r4.2) else if (64 : Int) = 0 then none else some ((x1.tmod (64 : Int)) != (0 : Int), r4.2)).bind fun r14 => (bif r14.1 then some (true, r14.2) else (d_heap_Heap_span k x0 (w64 (x1.tdiv (64 : Int))) r14.2).bind fun r15 => (toI .i64 r15.1).bind fun n16 => if (64 : Int) = 0 then none else some (n16 != (w64 ((w64 ((w64 (x2 + (64 : Int))) - (1 : Int))).tdiv (64 : Int))), r15.2)).bind fun r17 => bif r17.1 then (some (.ret, [.int .i64 (5 : Int)], r17.2)) else (some (.normal, [], r17.2)) else none) : Option LOut).bind fun r18 => if r18.1 = .normal then ((d_heap_Heap_fits_l0 k k x0 x1 x2 x3 x1 r18.2.2).bind fun r23 => if r23.1 = .exit 0 then (some (.int .i64 (0 : Int), r23.2.2)) else if r23.1 = .ret then (u_i r23.2.1 fun n24 => some (.int .i64 n24, r23.2.2)) else none) else if r18.1 = .ret then (u_i r18.2.1 fun n25 => some (.int .i64 n25, r18.2.2)) else none))

theorem heap_Heap_fits_is (k : Nat) (x0 : Option Addr) (x1 : Int) (x2 : Int) (x3 : Int) (σ : AMem) : heap_Heap_fits k x0 x1 x2 x3 σ = d_heap_Heap_fits k x0 x1 x2 x3 σ := by
  cases k with
  | zero => rfl
  | succ k => rw [heap_Heap_fits_eq, d_heap_Heap_fits]; simp only [heap_Heap_Find_is, heap_Heap_span_is, heap_Heap_fits_l0_is]

noncomputable def d_heap_number (k : Nat) (x0_0 : Int) (x0_1 : Int) (x0_2 : Int) (σ : AMem) : Option (Value × AMem) := match k with
  | 0 => none
  | k + 1 => (allocK σ (.cells [.int .i64 x0_0, .int .i64 x0_1, .int .i64 x0_2] 33 true) fun h1 s2 => (ldI .i64 s2 h1 (0 + 0)).bind fun n3 => (ldI .i64 s2 h1 (0 + 1)).bind fun n4 => (ldI .i64 s2 h1 (0 + 2)).bind fun n5 => some (.int .i64 (w64 ((w64 (n3 + (w64 ((16 : Int) * n4)))) + (w64 ((4096 : Int) * n5)))), s2))

theorem heap_number_is (k : Nat) (x0_0 : Int) (x0_1 : Int) (x0_2 : Int) (σ : AMem) : heap_number k x0_0 x0_1 x0_2 σ = d_heap_number k x0_0 x0_1 x0_2 σ := by
  cases k with
  | zero => rfl
  | succ k => rw [heap_number_eq, d_heap_number]

noncomputable def d_side_Table_there (k : Nat) (x0 : Option Addr) (x1 : Int) (σ : AMem) : Option (Value × AMem) := match k with
  | 0 => none
  | k + 1 => ((d_side_Table_made k x0 σ).bind fun r1 => (toB r1.1).bind fun b2 => (bif b2 then some (decide (x1 ≥ (0 : Int)), r1.2) else some (false, r1.2)).bind fun r3 => (bif r3.1 then x0.bind fun a4 => (ldI .i64 r3.2 a4.block (a4.off + 0)).bind fun n5 => some (decide (x1 < n5), r3.2) else some (false, r3.2)).bind fun r6 => some (.bool r6.1, r6.2))

theorem side_Table_there_is (k : Nat) (x0 : Option Addr) (x1 : Int) (σ : AMem) : side_Table_there k x0 x1 σ = d_side_Table_there k x0 x1 σ := by
  cases k with
  | zero => rfl
  | succ k => rw [side_Table_there_eq, d_side_Table_there]; simp only [side_Table_made_is]

noncomputable def d_slices_IndexFunc_int_l0 (k n : Nat) (p0 : Option Addr) (c1 : Nat) (c2 : Nat) (v3 : Value) (i4 : Int) (x8 : Int) (σ : AMem) : Option LOut := match n with
  | 0 => none
  | n + 1 => (bif decide (x8 < i4) then (if 0 ≤ x8 ∧ x8 < (c1 : Nat) then p0.bind fun a1 => (ldI .i64 σ a1.block (a1.off + x8.toNat * 1)).bind fun n2 => (callV k v3 [.int .i64 n2] σ).bind fun r3 => (toB r3.1).bind fun b4 => bif b4 then (some (.ret, [.int .i64 x8], r3.2)) else (d_slices_IndexFunc_int_l0 k n p0 c1 c2 v3 i4 (w64 (x8 + (1 : Int))) r3.2) else none) else (some (.exit 0, [], σ)))
termination_by structural n

theorem slices_IndexFunc_int_l0_is (k n : Nat) (p0 : Option Addr) (c1 : Nat) (c2 : Nat) (v3 : Value) (i4 : Int) (x8 : Int) (σ : AMem) : slices_IndexFunc_int_l0 k n p0 c1 c2 v3 i4 x8 σ = d_slices_IndexFunc_int_l0 k n p0 c1 c2 v3 i4 x8 σ := by
  induction n generalizing p0 c1 c2 v3 i4 x8 σ with
  | zero => rfl
  | succ n ih => rw [slices_IndexFunc_int_l0_eq, d_slices_IndexFunc_int_l0]; simp only [ih]

noncomputable def d_slices_IndexFunc_int (k : Nat) (x0 : Option Addr × Nat × Nat) (x1 : Value) (σ : AMem) : Option (Value × AMem) := match k with
  | 0 => none
  | k + 1 => ((d_slices_IndexFunc_int_l0 k k x0.1 x0.2.1 x0.2.2 x1 ((x0.2.1 : Nat) : Int) (0 : Int) σ).bind fun r5 => if r5.1 = .exit 0 then (some (.int .i64 (-1 : Int), r5.2.2)) else if r5.1 = .ret then (u_i r5.2.1 fun n6 => some (.int .i64 n6, r5.2.2)) else none)

theorem slices_IndexFunc_int_is (k : Nat) (x0 : Option Addr × Nat × Nat) (x1 : Value) (σ : AMem) : slices_IndexFunc_int k x0 x1 σ = d_slices_IndexFunc_int k x0 x1 σ := by
  cases k with
  | zero => rfl
  | succ k => rw [slices_IndexFunc_int_eq, d_slices_IndexFunc_int]; simp only [slices_IndexFunc_int_l0_is]

noncomputable def d_slices_ContainsFunc_int (k : Nat) (x0 : Option Addr × Nat × Nat) (x1 : Value) (σ : AMem) : Option (Value × AMem) := match k with
  | 0 => none
  | k + 1 => ((d_slices_IndexFunc_int k (x0.1, x0.2.1, x0.2.2) (x1) σ).bind fun r1 => (toI .i64 r1.1).bind fun n2 => some (.bool (decide (n2 ≥ (0 : Int))), r1.2))

theorem slices_ContainsFunc_int_is (k : Nat) (x0 : Option Addr × Nat × Nat) (x1 : Value) (σ : AMem) : slices_ContainsFunc_int k x0 x1 σ = d_slices_ContainsFunc_int k x0 x1 σ := by
  cases k with
  | zero => rfl
  | succ k => rw [slices_ContainsFunc_int_eq, d_slices_ContainsFunc_int]; simp only [slices_IndexFunc_int_is]

noncomputable def d_side_Table_check (k : Nat) (x0 : Option Addr) (x1 : Int) (x2 : Option Addr × Nat × Nat) (σ : AMem) : Option (Value × AMem) := match k with
  | 0 => none
  | k + 1 => (allocK σ (.cells [.pointer x0] 43 true) fun h1 s2 => (ldP s2 h1 0).bind fun p3 => (d_side_Table_made k p3 s2).bind fun r4 => (toB r4.1).bind fun b5 => bif !b5 then (some (.int .i64 (5 : Int), r4.2)) else ((ldP r4.2 h1 0).bind fun p6 => (d_side_Table_there k p6 x1 r4.2).bind fun r7 => (toB r7.1).bind fun b8 => (bif !b8 then some (true, r7.2) else (d_slices_ContainsFunc_int k (x2.1, x2.2.1, x2.2.2) (.func (.func 137) #[] #[.pointer (some ⟨h1, 0, none⟩)]) r7.2).bind fun r9 => (toB r9.1).bind fun b10 => some (b10, r9.2)).bind fun r11 => bif r11.1 then (some (.int .i64 (1 : Int), r11.2)) else (some (.int .i64 (0 : Int), r11.2))))

theorem side_Table_check_is (k : Nat) (x0 : Option Addr) (x1 : Int) (x2 : Option Addr × Nat × Nat) (σ : AMem) : side_Table_check k x0 x1 x2 σ = d_side_Table_check k x0 x1 x2 σ := by
  cases k with
  | zero => rfl
  | succ k => rw [side_Table_check_eq, d_side_Table_check]; simp only [side_Table_made_is, side_Table_there_is, slices_ContainsFunc_int_is]

noncomputable def d_side_Table_put (k : Nat) (x0 : Option Addr) (x1 : Int) (x2 : Int) (σ : AMem) : Option (Value × AMem) := match k with
  | 0 => none
  | k + 1 => (x0.bind fun a1 => (ldI .i64 σ a1.block (a1.off + 1)).bind fun n2 => x0.bind fun a3 => (ldS σ a3.block (a3.off + 2)).bind fun l4 => if (64 : Int) = 0 then none else if 0 ≤ (w64 ((w64 (x1 * n2)).tdiv (64 : Int))) ∧ (w64 ((w64 (x1 * n2)).tdiv (64 : Int))) < (l4.2.1 : Nat) then l4.1.bind fun a5 => (ldI .u64 σ a5.block (a5.off + (w64 ((w64 (x1 * n2)).tdiv (64 : Int))).toNat * 1)).bind fun n6 => (d_side_Table_most k x0 σ).bind fun r7 => quietly σ r7.2 ((toI .i64 r7.1).bind fun n8 => if (64 : Int) = 0 then none else if ((w64 (x1 * n2)).tmod (64 : Int)) < 0 then none else if (64 : Int) = 0 then none else if ((w64 (x1 * n2)).tmod (64 : Int)) < 0 then none else (st1 r7.2 a5.block (a5.off + (w64 ((w64 (x1 * n2)).tdiv (64 : Int))).toNat * 1) (.int .u64 (u64 ((BitVec.ofInt 64 (u64 ((BitVec.ofInt 64 n6 &&& ~~~ (BitVec.ofInt 64 (u64 ((u64 (n8)) * 2 ^ (min ((w64 (x1 * n2)).tmod (64 : Int)).toNat 64))))).toNat)) ||| BitVec.ofInt 64 (u64 ((u64 (x2)) * 2 ^ (min ((w64 (x1 * n2)).tmod (64 : Int)).toNat 64)))).toNat)))).bind fun s9 => some (.tuple #[], s9)) else none)

theorem side_Table_put_is (k : Nat) (x0 : Option Addr) (x1 : Int) (x2 : Int) (σ : AMem) : side_Table_put k x0 x1 x2 σ = d_side_Table_put k x0 x1 x2 σ := by
  cases k with
  | zero => rfl
  | succ k => rw [side_Table_put_eq, d_side_Table_put]; simp only [side_Table_most_is]

noncomputable def d_side_Table_Set (k : Nat) (x0 : Option Addr) (x1 : Int) (x2 : Int) (σ : AMem) : Option (Value × AMem) := match k with
  | 0 => none
  | k + 1 => (allocK σ (.cells [.int .i64 x2] 3 true) fun h1 s2 => (d_side_Table_check k x0 x1 (some ⟨h1, 0, none⟩, 1, 1) s2).bind fun r3 => (toI .i64 r3.1).bind fun n4 => bif n4 != (0 : Int) then (some (.int .i64 n4, r3.2)) else ((d_side_Table_put k x0 x1 x2 r3.2).bind fun r5 => r_0 r5.1 (some (.int .i64 (0 : Int), r5.2))))

theorem side_Table_Set_is (k : Nat) (x0 : Option Addr) (x1 : Int) (x2 : Int) (σ : AMem) : side_Table_Set k x0 x1 x2 σ = d_side_Table_Set k x0 x1 x2 σ := by
  cases k with
  | zero => rfl
  | succ k => rw [side_Table_Set_eq, d_side_Table_Set]; simp only [side_Table_check_is, side_Table_put_is]

noncomputable def d_heap_Heap_Place (k : Nat) (x0 : Option Addr) (x1 : Int) (x2_0 : Int) (x2_1 : Int) (x2_2 : Int) (σ : AMem) : Option (Value × AMem) := match k with
  | 0 => none
  | k + 1 => (allocK σ (.cells [.int .i64 x2_0, .int .i64 x2_1, .int .i64 x2_2] 33 true) fun h1 s2 => (d_heap_Heap_made k x0 s2).bind fun r3 => (toB r3.1).bind fun b4 => bif !b4 then (some (.tuple #[.int .i64 (0 : Int), .int .i64 (5 : Int)], r3.2)) else ((ldI .i64 r3.2 h1 0).bind fun n5 => (ldI .i64 r3.2 h1 (0 + 1)).bind fun n6 => (ldI .i64 r3.2 h1 (0 + 1 + 1)).bind fun n7 => (d_heap_Valid k n5 n6 n7 r3.2).bind fun r8 => (toB r8.1).bind fun b9 => bif !b9 then (some (.tuple #[.int .i64 (0 : Int), .int .i64 (2 : Int)], r8.2)) else ((ldI .i64 r8.2 h1 0).bind fun n10 => (ldI .i64 r8.2 h1 (0 + 1)).bind fun n11 => (ldI .i64 r8.2 h1 (0 + 1 + 1)).bind fun n12 => (d_heap_Words k n10 n11 n12 r8.2).bind fun r13 => (toI .i64 r13.1).bind fun n14 => (d_heap_Heap_fits k x0 x1 n14 (-1 : Int) r13.2).bind fun r15 => (toI .i64 r15.1).bind fun n16 => bif n16 != (0 : Int) then (some (.tuple #[.int .i64 (0 : Int), .int .i64 n16], r15.2)) else (x0.bind fun a17 => (ldI .i64 r15.2 a17.block (a17.off + 6)).bind fun n18 => x0.bind fun a19 => (st1 r15.2 a19.block (a19.off + 6) (.int .i64 (w64 (n18 + (1 : Int))))).bind fun s20 => x0.bind fun a21 => (ldS s20 a21.block (a21.off + 1)).bind fun l22 => x0.bind fun a23 => (ldS s20 a23.block (a23.off + 1)).bind fun l24 => x0.bind fun a25 => (ldI .i64 s20 a25.block (a25.off + 6)).bind fun n26 => (ldI .i64 s20 h1 0).bind fun n27 => (ldI .i64 s20 h1 (0 + 1)).bind fun n28 => (ldI .i64 s20 h1 (0 + 1 + 1)).bind fun n29 => (d_heap_number k n27 n28 n29 s20).bind fun r30 => quietly s20 r30.2 ((toI .i64 r30.1).bind fun n31 => if 0 ≤ x1 ∧ x1 < (l22.2.1 : Nat) then l22.1.bind fun a32 => (st1 r30.2 a32.block (a32.off + x1.toNat * 1) (.int .i64 n26)).bind fun s33 => if 0 ≤ (w64 (x1 + (1 : Int))) ∧ (w64 (x1 + (1 : Int))) < (l24.2.1 : Nat) then l24.1.bind fun a34 => (st1 s33 a34.block (a34.off + (w64 (x1 + (1 : Int))).toNat * 1) (.int .i64 n31)).bind fun s35 => x0.bind fun a36 => (ldP s35 a36.block (a36.off + 2)).bind fun p37 => if (2 : Int) = 0 then none else (d_side_Table_Set k p37 (w64 (x1.tdiv (2 : Int))) (1 : Int) s35).bind fun r38 => (toI .i64 r38.1).bind fun n39 => x0.bind fun a40 => (ldM r38.2 a40.block (a40.off + 4)).bind fun m41 => x0.bind fun a42 => (ldI .i64 r38.2 a42.block (a42.off + 6)).bind fun n43 => m41.bind fun h45 => (ldMap r38.2 h45).bind fun es44 => x0.bind fun a46 => (ldI .i64 (List.set r38.2 h45 (.map (mapSet n43 (.int .i64 x1) es44))) a46.block (a46.off + 6)).bind fun n47 => some (.tuple #[.int .i64 n47, .int .i64 (0 : Int)], (List.set r38.2 h45 (.map (mapSet n43 (.int .i64 x1) es44)))) else none else none)))))

theorem heap_Heap_Place_is (k : Nat) (x0 : Option Addr) (x1 : Int) (x2_0 : Int) (x2_1 : Int) (x2_2 : Int) (σ : AMem) : heap_Heap_Place k x0 x1 x2_0 x2_1 x2_2 σ = d_heap_Heap_Place k x0 x1 x2_0 x2_1 x2_2 σ := by
  cases k with
  | zero => rfl
  | succ k => rw [heap_Heap_Place_eq, d_heap_Heap_Place]; simp only [heap_Heap_made_is, heap_Valid_is, heap_Heap_fits_is, heap_Words_is, heap_number_is, side_Table_Set_is]

noncomputable def d_side_Table_Get (k : Nat) (x0 : Option Addr) (x1 : Int) (σ : AMem) : Option (Value × AMem) := match k with
  | 0 => none
  | k + 1 => ((d_side_Table_there k x0 x1 σ).bind fun r1 => (toB r1.1).bind fun b2 => bif !b2 then (some (.int .i64 (-1 : Int), r1.2)) else ((d_side_Table_get k x0 x1 r1.2).bind fun r3 => (toI .i64 r3.1).bind fun n4 => some (.int .i64 n4, r3.2)))

theorem side_Table_Get_is (k : Nat) (x0 : Option Addr) (x1 : Int) (σ : AMem) : side_Table_Get k x0 x1 σ = d_side_Table_Get k x0 x1 σ := by
  cases k with
  | zero => rfl
  | succ k => rw [side_Table_Get_eq, d_side_Table_Get]; simp only [side_Table_there_is, side_Table_get_is]

noncomputable def d_heap_Heap_Has (k : Nat) (x0 : Option Addr) (x1 : Int) (σ : AMem) : Option (Value × AMem) := match k with
  | 0 => none
  | k + 1 => ((d_heap_Heap_made k x0 σ).bind fun r1 => (toB r1.1).bind fun b2 => (bif b2 then some (decide (x1 ≥ (0 : Int)), r1.2) else some (false, r1.2)).bind fun r3 => (bif r3.1 then if (2 : Int) = 0 then none else some ((x1.tmod (2 : Int)) == (0 : Int), r3.2) else some (false, r3.2)).bind fun r4 => (bif r4.1 then x0.bind fun a5 => (ldP r4.2 a5.block (a5.off + 2)).bind fun p6 => if (2 : Int) = 0 then none else (d_side_Table_Get k p6 (w64 (x1.tdiv (2 : Int))) r4.2).bind fun r7 => (toI .i64 r7.1).bind fun n8 => some (n8 == (1 : Int), r7.2) else some (false, r4.2)).bind fun r9 => some (.bool r9.1, r9.2))

theorem heap_Heap_Has_is (k : Nat) (x0 : Option Addr) (x1 : Int) (σ : AMem) : heap_Heap_Has k x0 x1 σ = d_heap_Heap_Has k x0 x1 σ := by
  cases k with
  | zero => rfl
  | succ k => rw [heap_Heap_Has_eq, d_heap_Heap_Has]; simp only [heap_Heap_made_is, side_Table_Get_is]

noncomputable def d_heap_Heap_object (k : Nat) (x0 : Option Addr) (x1 : Int) (σ : AMem) : Option (Value × AMem) := match k with
  | 0 => none
  | k + 1 => ((d_heap_Heap_made k x0 σ).bind fun r1 => (toB r1.1).bind fun b2 => bif !b2 then (some (.int .i64 (5 : Int), r1.2)) else ((d_heap_Heap_Has k x0 x1 r1.2).bind fun r3 => (toB r3.1).bind fun b4 => bif !b4 then (some (.int .i64 (4 : Int), r3.2)) else (some (.int .i64 (0 : Int), r3.2))))

theorem heap_Heap_object_is (k : Nat) (x0 : Option Addr) (x1 : Int) (σ : AMem) : heap_Heap_object k x0 x1 σ = d_heap_Heap_object k x0 x1 σ := by
  cases k with
  | zero => rfl
  | succ k => rw [heap_Heap_object_eq, d_heap_Heap_object]; simp only [heap_Heap_made_is, heap_Heap_Has_is]

noncomputable def d_heap_Heap_wipe (k : Nat) (x0 : Option Addr) (x1 : Int) (x2 : Int) (σ : AMem) : Option (Value × AMem) := match k with
  | 0 => none
  | k + 1 => (x0.bind fun a1 => (ldS σ a1.block (a1.off + 1)).bind fun l2 => (sliceD 3 1 (l2.1, l2.2.1, l2.2.2) (some (.int .i64 x1)) (some (.int .i64 (w64 (x1 + x2)))) none σ).bind fun l3 => (if l3.2.1 = 0 then some σ else l3.1.bind fun a5 => stN σ a5.block a5.off (rep l3.2.1 [.int .i64 (0 : Int)])).bind fun s4 => some (.tuple #[], s4))

theorem heap_Heap_wipe_is (k : Nat) (x0 : Option Addr) (x1 : Int) (x2 : Int) (σ : AMem) : heap_Heap_wipe k x0 x1 x2 σ = d_heap_Heap_wipe k x0 x1 x2 σ := by
  cases k with
  | zero => rfl
  | succ k => rw [heap_Heap_wipe_eq, d_heap_Heap_wipe]

noncomputable def d_heap_Heap_Move (k : Nat) (x0 : Option Addr) (x1 : Int) (x2 : Int) (σ : AMem) : Option (Value × AMem) := match k with
  | 0 => none
  | k + 1 => ((d_heap_Heap_object k x0 x1 σ).bind fun r1 => (toI .i64 r1.1).bind fun n2 => bif n2 != (0 : Int) then (some (.int .i64 n2, r1.2)) else ((d_heap_Heap_size k x0 x1 r1.2).bind fun r3 => (toI .i64 r3.1).bind fun n4 => (d_heap_Heap_fits k x0 x2 n4 x1 r3.2).bind fun r5 => (toI .i64 r5.1).bind fun n6 => bif n6 != (0 : Int) then (some (.int .i64 n6, r5.2)) else (x0.bind fun a7 => (ldP r5.2 a7.block (a7.off + 3)).bind fun p8 => if (2 : Int) = 0 then none else (d_side_Table_Get k p8 (w64 (x1.tdiv (2 : Int))) r5.2).bind fun r9 => (toI .i64 r9.1).bind fun n10 => if 0 ≤ n4 ∧ n4 ≤ n4 ∧ n4 * (8 : Nat) ≤ 2 ^ 40 ∧ n4 ≤ 2 ^ 40 then allocK r9.2 (.cells (rep n4.toNat [.int .i64 (0 : Int)]) 3 true) fun h11 s12 => x0.bind fun a13 => (ldS s12 a13.block (a13.off + 1)).bind fun l14 => (sliceD 3 1 (l14.1, l14.2.1, l14.2.2) (some (.int .i64 x1)) (some (.int .i64 (w64 (x1 + n4)))) none s12).bind fun l15 => (firstA s12 1 l15.1 (Nat.min l15.2.1 n4.toNat)).bind fun w16 => (stO s12 (some ⟨h11, 0, none⟩) w16).bind fun s17 => x0.bind fun a18 => (ldP s17 a18.block (a18.off + 2)).bind fun p19 => if (2 : Int) = 0 then none else (d_side_Table_Set k p19 (w64 (x1.tdiv (2 : Int))) (0 : Int) s17).bind fun r20 => (toI .i64 r20.1).bind fun n21 => x0.bind fun a22 => (ldP r20.2 a22.block (a22.off + 3)).bind fun p23 => if (2 : Int) = 0 then none else (d_side_Table_Set k p23 (w64 (x1.tdiv (2 : Int))) (0 : Int) r20.2).bind fun r24 => (toI .i64 r24.1).bind fun n25 => (d_heap_Heap_wipe k x0 x1 n4 r24.2).bind fun r26 => r_0 r26.1 (x0.bind fun a27 => (ldS r26.2 a27.block (a27.off + 1)).bind fun l28 => (sliceD 3 1 (l28.1, l28.2.1, l28.2.2) (some (.int .i64 x2)) none none r26.2).bind fun l29 => (firstA r26.2 1 (some ⟨h11, 0, none⟩) (Nat.min n4.toNat l29.2.1)).bind fun w30 => (stO r26.2 l29.1 w30).bind fun s31 => x0.bind fun a32 => (ldP s31 a32.block (a32.off + 2)).bind fun p33 => if (2 : Int) = 0 then none else (d_side_Table_Set k p33 (w64 (x2.tdiv (2 : Int))) (1 : Int) s31).bind fun r34 => (toI .i64 r34.1).bind fun n35 => x0.bind fun a36 => (ldP r34.2 a36.block (a36.off + 3)).bind fun p37 => if (2 : Int) = 0 then none else (d_side_Table_Set k p37 (w64 (x2.tdiv (2 : Int))) n10 r34.2).bind fun r38 => (toI .i64 r38.1).bind fun n39 => x0.bind fun a40 => (ldM r38.2 a40.block (a40.off + 4)).bind fun m41 => if 0 ≤ (0 : Int) ∧ (0 : Int) < (n4.toNat : Nat) then (ldI .i64 r38.2 h11 (0 + (0 : Int).toNat * 1)).bind fun n42 => m41.bind fun h44 => (ldMap r38.2 h44).bind fun es43 => x0.bind fun a45 => (ldM (List.set r38.2 h44 (.map (mapSet n42 (.int .i64 x2) es43))) a45.block (a45.off + 5)).bind fun m46 => m46.bind fun h48 => (ldMap (List.set r38.2 h44 (.map (mapSet n42 (.int .i64 x2) es43))) h48).bind fun es47 => some (.int .i64 (0 : Int), (List.set (List.set r38.2 h44 (.map (mapSet n42 (.int .i64 x2) es43))) h48 (.map (mapSet x1 (.int .i64 x2) es47)))) else none) else none)))

theorem heap_Heap_Move_is (k : Nat) (x0 : Option Addr) (x1 : Int) (x2 : Int) (σ : AMem) : heap_Heap_Move k x0 x1 x2 σ = d_heap_Heap_Move k x0 x1 x2 σ := by
  cases k with
  | zero => rfl
  | succ k => rw [heap_Heap_Move_eq, d_heap_Heap_Move]; simp only [heap_Heap_size_is, heap_Heap_fits_is, side_Table_Set_is, heap_Heap_object_is, side_Table_Get_is, heap_Heap_wipe_is]

noncomputable def d_heap_Heap_ClaimLarge (k : Nat) (x0 : Option Addr) (x1 : Int) (x2 : Int) (x3 : Int) (σ : AMem) : Option (Value × AMem) := match k with
  | 0 => none
  | k + 1 => ((d_heap_Heap_claim k x0 x1 x2 (2 : Int) x3 (3 : Int) x3 σ).bind fun r1 => (toI .i64 r1.1).bind fun n2 => some (.int .i64 n2, r1.2))

theorem heap_Heap_ClaimLarge_is (k : Nat) (x0 : Option Addr) (x1 : Int) (x2 : Int) (x3 : Int) (σ : AMem) : heap_Heap_ClaimLarge k x0 x1 x2 x3 σ = d_heap_Heap_ClaimLarge k x0 x1 x2 x3 σ := by
  cases k with
  | zero => rfl
  | succ k => rw [heap_Heap_ClaimLarge_eq, d_heap_Heap_ClaimLarge]; simp only [heap_Heap_claim_is]

noncomputable def d_heap_Heap_Kill (k : Nat) (x0 : Option Addr) (x1 : Int) (σ : AMem) : Option (Value × AMem) := match k with
  | 0 => none
  | k + 1 => ((d_heap_Heap_object k x0 x1 σ).bind fun r1 => (toI .i64 r1.1).bind fun n2 => bif n2 != (0 : Int) then (some (.int .i64 n2, r1.2)) else (x0.bind fun a3 => (ldM r1.2 a3.block (a3.off + 4)).bind fun m4 => x0.bind fun a5 => (ldS r1.2 a5.block (a5.off + 1)).bind fun l6 => if 0 ≤ x1 ∧ x1 < (l6.2.1 : Nat) then l6.1.bind fun a7 => (ldI .i64 r1.2 a7.block (a7.off + x1.toNat * 1)).bind fun n8 => (ldMO r1.2 m4).bind fun es9 => x0.bind fun a10 => (ldP (stMO r1.2 m4 (mapDel n8 es9)) a10.block (a10.off + 2)).bind fun p11 => if (2 : Int) = 0 then none else (d_side_Table_Set k p11 (w64 (x1.tdiv (2 : Int))) (0 : Int) (stMO r1.2 m4 (mapDel n8 es9))).bind fun r12 => (toI .i64 r12.1).bind fun n13 => x0.bind fun a14 => (ldP r12.2 a14.block (a14.off + 3)).bind fun p15 => if (2 : Int) = 0 then none else (d_side_Table_Set k p15 (w64 (x1.tdiv (2 : Int))) (0 : Int) r12.2).bind fun r16 => (toI .i64 r16.1).bind fun n17 => (d_heap_Heap_size k x0 x1 r16.2).bind fun r18 => (toI .i64 r18.1).bind fun n19 => (d_heap_Heap_wipe k x0 x1 n19 r18.2).bind fun r20 => r_0 r20.1 (some (.int .i64 (0 : Int), r20.2)) else none))

theorem heap_Heap_Kill_is (k : Nat) (x0 : Option Addr) (x1 : Int) (σ : AMem) : heap_Heap_Kill k x0 x1 σ = d_heap_Heap_Kill k x0 x1 σ := by
  cases k with
  | zero => rfl
  | succ k => rw [heap_Heap_Kill_eq, d_heap_Heap_Kill]; simp only [heap_Heap_size_is, side_Table_Set_is, heap_Heap_object_is, heap_Heap_wipe_is]

noncomputable def d_side_Table_Next_l0 (k n : Nat) (p0 : Option Addr) (i1 : Int) (x8 : Int) (σ : AMem) : Option LOut := match n with
  | 0 => none
  | n + 1 => (p0.bind fun a3 => (ldI .i64 σ a3.block (a3.off + 0)).bind fun n4 => bif decide (x8 < n4) then ((d_side_Table_get k p0 x8 σ).bind fun r5 => (toI .i64 r5.1).bind fun n6 => bif n6 == i1 then (some (.ret, [.int .i64 x8, .int .i64 (0 : Int)], r5.2)) else (d_side_Table_Next_l0 k n p0 i1 (w64 (x8 + (1 : Int))) r5.2)) else (some (.exit 0, [], σ)))
termination_by structural n

theorem side_Table_Next_l0_is (k n : Nat) (p0 : Option Addr) (i1 : Int) (x8 : Int) (σ : AMem) : side_Table_Next_l0 k n p0 i1 x8 σ = d_side_Table_Next_l0 k n p0 i1 x8 σ := by
  induction n generalizing p0 i1 x8 σ with
  | zero => rfl
  | succ n ih => rw [side_Table_Next_l0_eq, d_side_Table_Next_l0]; simp only [side_Table_made_is, side_Table_get_is, ih]

noncomputable def d_side_Table_Next (k : Nat) (x0 : Option Addr) (x1 : Int) (x2 : Int) (σ : AMem) : Option (Value × AMem) := match k with
  | 0 => none
  | k + 1 => ((d_side_Table_made k x0 σ).bind fun r1 => (toB r1.1).bind fun b2 => bif !b2 then (some (.tuple #[.int .i64 (0 : Int), .int .i64 (5 : Int)], r1.2)) else ((d_side_Table_Next_l0 k k x0 x2 (if (0 : Int) > x1 then (0 : Int) else x1) r1.2).bind fun r7 => if r7.1 = .exit 0 then (some (.tuple #[.int .i64 (0 : Int), .int .i64 (4 : Int)], r7.2.2)) else if r7.1 = .ret then (u_ii r7.2.1 fun n8 n9 => some (.tuple #[.int .i64 n8, .int .i64 n9], r7.2.2)) else none))

theorem side_Table_Next_is (k : Nat) (x0 : Option Addr) (x1 : Int) (x2 : Int) (σ : AMem) : side_Table_Next k x0 x1 x2 σ = d_side_Table_Next k x0 x1 x2 σ := by
  cases k with
  | zero => rfl
  | succ k => rw [side_Table_Next_eq, d_side_Table_Next]; simp only [side_Table_made_is, side_Table_get_is, side_Table_Next_l0_is]

noncomputable def d_heap_Heap_between_l0 (k n : Nat) (p0 : Option Addr) (i1 : Int) (x7 : Option Addr × Nat × Nat) (x8 : Int) (x9 : Int) (σ : AMem) : Option LOut := match n with
  | 0 => none
  | n + 1 => ((bif x9 == (0 : Int) then some (decide ((w64 ((2 : Int) * x8)) < i1), σ) else some (false, σ)).bind fun r6 => bif r6.1 then (allocK r6.2 (.cells [.int .i64 (w64 ((2 : Int) * x8))] 3 true) fun h7 s8 => (appendD P 3 (x7.1, x7.2.1, x7.2.2) (some ⟨h7, 0, none⟩, 1, 1) s8).bind fun r9 => p0.bind fun a10 => (ldP r9.2 a10.block (a10.off + 2)).bind fun p11 => (d_side_Table_Next k p11 (w64 (x8 + (1 : Int))) (1 : Int) r9.2).bind fun r12 => r_ii r12.1 fun n13 n14 => d_heap_Heap_between_l0 k n p0 i1 (r9.1.1, r9.1.2.1, r9.1.2.2) n13 n14 r12.2) else (some (.exit 0, [.slice x7.1 x7.2.1 x7.2.2], r6.2)))
termination_by structural n

theorem heap_Heap_between_l0_is (k n : Nat) (p0 : Option Addr) (i1 : Int) (x7 : Option Addr × Nat × Nat) (x8 : Int) (x9 : Int) (σ : AMem) : heap_Heap_between_l0 k n p0 i1 x7 x8 x9 σ = d_heap_Heap_between_l0 k n p0 i1 x7 x8 x9 σ := by
  induction n generalizing p0 i1 x7 x8 x9 σ with
  | zero => rfl
  | succ n ih => rw [heap_Heap_between_l0_eq, d_heap_Heap_between_l0]; simp only [side_Table_Next_is, ih]

noncomputable def d_heap_Heap_between (k : Nat) (x0 : Option Addr) (x1 : Int) (x2 : Int) (σ : AMem) : Option (Value × AMem) := match k with
  | 0 => none
  | k + 1 => (x0.bind fun a1 => (ldP σ a1.block (a1.off + 2)).bind fun p2 => if (2 : Int) = 0 then none else (d_side_Table_Next k p2 (w64 (x1.tdiv (2 : Int))) (1 : Int) σ).bind fun r3 => r_ii r3.1 fun n4 n5 => (d_heap_Heap_between_l0 k k x0 x2 (none, 0, 0) n4 n5 r3.2).bind fun r15 => if r15.1 = .exit 0 then (u_l r15.2.1 fun l16 => some (.slice l16.1 l16.2.1 l16.2.2, r15.2.2)) else none)

theorem heap_Heap_between_is (k : Nat) (x0 : Option Addr) (x1 : Int) (x2 : Int) (σ : AMem) : heap_Heap_between k x0 x1 x2 σ = d_heap_Heap_between k x0 x1 x2 σ := by
  cases k with
  | zero => rfl
  | succ k => rw [heap_Heap_between_eq, d_heap_Heap_between]; simp only [side_Table_Next_is, heap_Heap_between_l0_is]

noncomputable def d_heap_Heap_Objects (k : Nat) (x0 : Option Addr) (x1 : Int) (σ : AMem) : Option (Value × AMem) := match k with
  | 0 => none
  | k + 1 => ((d_heap_Heap_made k x0 σ).bind fun r1 => (toB r1.1).bind fun b2 => (bif !b2 then some (true, r1.2) else some (decide (x1 < (0 : Int)), r1.2)).bind fun r3 => (bif r3.1 then some (true, r3.2) else x0.bind fun a4 => (ldS r3.2 a4.block (a4.off + 0)).bind fun l5 => some (decide (x1 ≥ ((l5.2.1 : Nat) : Int)), r3.2)).bind fun r6 => bif r6.1 then (some (.slice none 0 0, r6.2)) else ((d_heap_Heap_between k x0 (w64 (x1 * (64 : Int))) (w64 ((w64 (x1 + (1 : Int))) * (64 : Int))) r6.2).bind fun r7 => (toS r7.1).bind fun l8 => some (.slice l8.1 l8.2.1 l8.2.2, r7.2)))

theorem heap_Heap_Objects_is (k : Nat) (x0 : Option Addr) (x1 : Int) (σ : AMem) : heap_Heap_Objects k x0 x1 σ = d_heap_Heap_Objects k x0 x1 σ := by
  cases k with
  | zero => rfl
  | succ k => rw [heap_Heap_Objects_eq, d_heap_Heap_Objects]; simp only [heap_Heap_made_is, heap_Heap_between_is]

noncomputable def d_heap_Heap_held (k : Nat) (x0 : Option Addr) (x1 : Int) (x2 : Bool) (σ : AMem) : Option (Value × AMem) := match k with
  | 0 => none
  | k + 1 => ((d_heap_Heap_made k x0 σ).bind fun r1 => (toB r1.1).bind fun b2 => bif !b2 then (some (.int .i64 (5 : Int), r1.2)) else ((d_heap_Heap_there k x0 x1 r1.2).bind fun r3 => (toB r3.1).bind fun b4 => (bif !b4 then some (true, r3.2) else some (!x2, r3.2)).bind fun r5 => bif r5.1 then (some (.int .i64 (1 : Int), r5.2)) else (x0.bind fun a6 => (ldS r5.2 a6.block (a6.off + 0)).bind fun l7 => if 0 ≤ x1 ∧ x1 < (l7.2.1 : Nat) then l7.1.bind fun a8 => (ldI .i64 r5.2 a8.block (a8.off + x1.toNat * 2 + 0)).bind fun n9 => (bif n9 != (1 : Int) then x0.bind fun a10 => (ldS r5.2 a10.block (a10.off + 0)).bind fun l11 => if 0 ≤ x1 ∧ x1 < (l11.2.1 : Nat) then l11.1.bind fun a12 => (ldI .i64 r5.2 a12.block (a12.off + x1.toNat * 2 + 0)).bind fun n13 => some (n13 != (2 : Int), r5.2) else none else some (false, r5.2)).bind fun r14 => bif r14.1 then (some (.int .i64 (5 : Int), r14.2)) else (some (.int .i64 (0 : Int), r14.2)) else none)))

theorem heap_Heap_held_is (k : Nat) (x0 : Option Addr) (x1 : Int) (x2 : Bool) (σ : AMem) : heap_Heap_held k x0 x1 x2 σ = d_heap_Heap_held k x0 x1 x2 σ := by
  cases k with
  | zero => rfl
  | succ k => rw [heap_Heap_held_eq, d_heap_Heap_held]; simp only [heap_Heap_made_is, heap_Heap_there_is]

noncomputable def d_heap_Heap_Release_l0 (k n : Nat) (p0 : Option Addr) (i1 : Int) (x6 : Int) (σ : AMem) : Option LOut := match n with
  | 0 => none
  | n + 1 => (bif decide (x6 > (0 : Int)) then (p0.bind fun a7 => (ldS σ a7.block (a7.off + 0)).bind fun l8 => if 0 ≤ (w64 ((w64 (i1 + x6)) - (1 : Int))) ∧ (w64 ((w64 (i1 + x6)) - (1 : Int))) < (l8.2.1 : Nat) then l8.1.bind fun a9 => (stN σ a9.block (a9.off + (w64 ((w64 (i1 + x6)) - (1 : Int))).toNat * 2) [.int .i64 (0 : Int), .int .i64 (0 : Int)]).bind fun s10 => d_heap_Heap_Release_l0 k n p0 i1 (w64 (x6 - (1 : Int))) s10 else none) else (some (.exit 0, [], σ)))
termination_by structural n

theorem heap_Heap_Release_l0_is (k n : Nat) (p0 : Option Addr) (i1 : Int) (x6 : Int) (σ : AMem) : heap_Heap_Release_l0 k n p0 i1 x6 σ = d_heap_Heap_Release_l0 k n p0 i1 x6 σ := by
  induction n generalizing p0 i1 x6 σ with
  | zero => rfl
  | succ n ih => rw [heap_Heap_Release_l0_eq, d_heap_Heap_Release_l0]; simp only [heap_Heap_Objects_is, heap_Heap_held_is, heap_Heap_span_is, ih]

noncomputable def d_heap_Heap_Release (k : Nat) (x0 : Option Addr) (x1 : Int) (σ : AMem) : Option (Value × AMem) := match k with
  | 0 => none
  | k + 1 => ((d_heap_Heap_held k x0 x1 true σ).bind fun r1 => (toI .i64 r1.1).bind fun n2 => bif n2 != (0 : Int) then (some (.int .i64 n2, r1.2)) else ((d_heap_Heap_Objects k x0 x1 r1.2).bind fun r3 => (toS r3.1).bind fun l4 => bif decide (((l4.2.1 : Nat) : Int) > (0 : Int)) then (some (.int .i64 (8 : Int), r3.2)) else ((d_heap_Heap_span k x0 x1 r3.2).bind fun r5 => (toI .i64 r5.1).bind fun n6 => (d_heap_Heap_Release_l0 k k x0 x1 n6 r5.2).bind fun r11 => if r11.1 = .exit 0 then (some (.int .i64 (0 : Int), r11.2.2)) else none)))

theorem heap_Heap_Release_is (k : Nat) (x0 : Option Addr) (x1 : Int) (σ : AMem) : heap_Heap_Release k x0 x1 σ = d_heap_Heap_Release k x0 x1 σ := by
  cases k with
  | zero => rfl
  | succ k => rw [heap_Heap_Release_eq, d_heap_Heap_Release]; simp only [heap_Heap_Objects_is, heap_Heap_held_is, heap_Heap_span_is, heap_Heap_Release_l0_is]

noncomputable def d_ref02_Heap_Made (k : Nat) (x0 : Option Addr) (σ : AMem) : Option (Value × AMem) := match k with
  | 0 => none
  | k + 1 => ((eqA P 29 (.pointer x0) (.pointer none)).bind fun e1 => (bif !e1 then x0.bind fun a2 => (ldS σ a2.block (a2.off + 0)).bind fun l3 => some (decide (((l3.2.1 : Nat) : Int) > (0 : Int)), σ) else some (false, σ)).bind fun r4 => some (.bool r4.1, r4.2))

theorem ref02_Heap_Made_is (k : Nat) (x0 : Option Addr) (σ : AMem) : ref02_Heap_Made k x0 σ = d_ref02_Heap_Made k x0 σ := by
  cases k with
  | zero => rfl
  | succ k => rw [ref02_Heap_Made_eq, d_ref02_Heap_Made]

noncomputable def d_ref02_Heap_block (k : Nat) (x0 : Option Addr) (x1 : Int) (σ : AMem) : Option (Value × AMem) := match k with
  | 0 => none
  | k + 1 => ((bif decide (x1 ≥ (1 : Int)) then x0.bind fun a1 => (ldS σ a1.block (a1.off + 0)).bind fun l2 => some (decide (x1 < ((l2.2.1 : Nat) : Int)), σ) else some (false, σ)).bind fun r3 => some (.bool r3.1, r3.2))

theorem ref02_Heap_block_is (k : Nat) (x0 : Option Addr) (x1 : Int) (σ : AMem) : ref02_Heap_block k x0 x1 σ = d_ref02_Heap_block k x0 x1 σ := by
  cases k with
  | zero => rfl
  | succ k => rw [ref02_Heap_block_eq, d_ref02_Heap_block]

noncomputable def d_ref02_space (k : Nat) (x0 : Int) (σ : AMem) : Option (Value × AMem) := match k with
  | 0 => none
  | k + 1 => ((bif decide (x0 ≥ (0 : Int)) then some (decide (x0 < (8 : Int)), σ) else some (false, σ)).bind fun r1 => some (.bool r1.1, r1.2))

theorem ref02_space_is (k : Nat) (x0 : Int) (σ : AMem) : ref02_space k x0 σ = d_ref02_space k x0 σ := by
  cases k with
  | zero => rfl
  | succ k => rw [ref02_space_eq, d_ref02_space]

noncomputable def d_ref02_Heap_Claim (k : Nat) (x0 : Option Addr) (x1 : Int) (x2 : Int) (σ : AMem) : Option (Value × AMem) := match k with
  | 0 => none
  | k + 1 => ((d_ref02_Heap_Made k x0 σ).bind fun r1 => (toB r1.1).bind fun b2 => bif !b2 then (some (.int .i64 (5 : Int), r1.2)) else ((d_ref02_Heap_block k x0 x1 r1.2).bind fun r3 => (toB r3.1).bind fun b4 => (bif !b4 then some (true, r3.2) else (d_ref02_space k x2 r3.2).bind fun r5 => (toB r5.1).bind fun b6 => some (!b6, r5.2)).bind fun r7 => bif r7.1 then (some (.int .i64 (1 : Int), r7.2)) else (x0.bind fun a8 => (ldS r7.2 a8.block (a8.off + 0)).bind fun l9 => if 0 ≤ x1 ∧ x1 < (l9.2.1 : Nat) then l9.1.bind fun a10 => (ldI .i64 r7.2 a10.block (a10.off + x1.toNat * 2 + 0)).bind fun n11 => bif n11 != (0 : Int) then (some (.int .i64 (8 : Int), r7.2)) else (x0.bind fun a12 => (ldS r7.2 a12.block (a12.off + 0)).bind fun l13 => if 0 ≤ x1 ∧ x1 < (l13.2.1 : Nat) then l13.1.bind fun a14 => (stN r7.2 a14.block (a14.off + x1.toNat * 2) [.int .i64 (1 : Int), .int .i64 x2]).bind fun s15 => some (.int .i64 (0 : Int), s15) else none) else none)))

theorem ref02_Heap_Claim_is (k : Nat) (x0 : Option Addr) (x1 : Int) (x2 : Int) (σ : AMem) : ref02_Heap_Claim k x0 x1 x2 σ = d_ref02_Heap_Claim k x0 x1 x2 σ := by
  cases k with
  | zero => rfl
  | succ k => rw [ref02_Heap_Claim_eq, d_ref02_Heap_Claim]; simp only [ref02_Heap_Made_is, ref02_Heap_block_is, ref02_space_is]

noncomputable def d_ref02_Heap_ClaimLarge_l0 (k n : Nat) (p0 : Option Addr) (i1 : Int) (i2 : Int) (x9 : Int) (σ : AMem) : Option LOut := match n with
  | 0 => none
  | n + 1 => (bif decide (x9 < (w64 (i1 + i2))) then (p0.bind fun a12 => (ldS σ a12.block (a12.off + 0)).bind fun l13 => if 0 ≤ x9 ∧ x9 < (l13.2.1 : Nat) then l13.1.bind fun a14 => (ldI .i64 σ a14.block (a14.off + x9.toNat * 2 + 0)).bind fun n15 => bif n15 != (0 : Int) then (some (.ret, [.int .i64 (8 : Int)], σ)) else (d_ref02_Heap_ClaimLarge_l0 k n p0 i1 i2 (w64 (x9 + (1 : Int))) σ) else none) else (some (.exit 0, [], σ)))
termination_by structural n

theorem ref02_Heap_ClaimLarge_l0_is (k n : Nat) (p0 : Option Addr) (i1 : Int) (i2 : Int) (x9 : Int) (σ : AMem) : ref02_Heap_ClaimLarge_l0 k n p0 i1 i2 x9 σ = d_ref02_Heap_ClaimLarge_l0 k n p0 i1 i2 x9 σ := by
  induction n generalizing p0 i1 i2 x9 σ with
  | zero => rfl
  | succ n ih => rw [ref02_Heap_ClaimLarge_l0_eq, d_ref02_Heap_ClaimLarge_l0]; simp only [ref02_Heap_Made_is, ref02_Heap_block_is, ref02_space_is, ih]

noncomputable def d_ref02_Heap_ClaimLarge_l1 (k n : Nat) (p0 : Option Addr) (i1 : Int) (i2 : Int) (i3 : Int) (x10 : Int) (σ : AMem) : Option LOut := match n with
  | 0 => none
  | n + 1 => (bif decide (x10 < (w64 (i1 + i2))) then (p0.bind fun a17 => (ldS σ a17.block (a17.off + 0)).bind fun l18 => if 0 ≤ x10 ∧ x10 < (l18.2.1 : Nat) then l18.1.bind fun a19 => (stN σ a19.block (a19.off + x10.toNat * 2) [.int .i64 (3 : Int), .int .i64 i3]).bind fun s20 => d_ref02_Heap_ClaimLarge_l1 k n p0 i1 i2 i3 (w64 (x10 + (1 : Int))) s20 else none) else (some (.exit 2, [], σ)))
termination_by structural n

theorem ref02_Heap_ClaimLarge_l1_is (k n : Nat) (p0 : Option Addr) (i1 : Int) (i2 : Int) (i3 : Int) (x10 : Int) (σ : AMem) : ref02_Heap_ClaimLarge_l1 k n p0 i1 i2 i3 x10 σ = d_ref02_Heap_ClaimLarge_l1 k n p0 i1 i2 i3 x10 σ := by
  induction n generalizing p0 i1 i2 i3 x10 σ with
  | zero => rfl
  | succ n ih => rw [ref02_Heap_ClaimLarge_l1_eq, d_ref02_Heap_ClaimLarge_l1]; simp only [ref02_Heap_Made_is, ref02_Heap_block_is, ref02_space_is, ref02_Heap_ClaimLarge_l0_is, ih]

noncomputable def d_ref02_Heap_ClaimLarge (k : Nat) (x0 : Option Addr) (x1 : Int) (x2 : Int) (x3 : Int) (σ : AMem) : Option (Value × AMem) := match k with
  | 0 => none
  | k + 1 => ((d_ref02_Heap_Made k x0 σ).bind fun r1 => (toB r1.1).bind fun b2 => bif !b2 then (some (.int .i64 (5 : Int), r1.2)) else ((d_ref02_Heap_block k x0 x1 r1.2).bind fun r3 => (toB r3.1).bind fun b4 => (bif !b4 then some (true, r3.2) else some (decide (x2 < (1 : Int)), r3.2)).bind fun r5 => (bif r5.1 then some (true, r5.2) else x0.bind fun a6 => (ldS r5.2 a6.block (a6.off + 0)).bind fun l7 => some (decide (x2 > (w64 (((l7.2.1 : Nat) : Int) - x1))), r5.2)).bind fun r8 => (bif r8.1 then some (true, r8.2) else (d_ref02_space k x3 r8.2).bind fun r9 => (toB r9.1).bind fun b10 => some (!b10, r9.2)).bind fun r11 => bif r11.1 then (some (.int .i64 (1 : Int), r11.2)) else ((d_ref02_Heap_ClaimLarge_l0 k k x0 x1 x2 x1 r11.2).bind fun r16 => if r16.1 = .exit 0 then ((d_ref02_Heap_ClaimLarge_l1 k k x0 x1 x2 x3 x1 r16.2.2).bind fun r21 => if r21.1 = .exit 2 then (x0.bind fun a22 => (ldS r21.2.2 a22.block (a22.off + 0)).bind fun l23 => if 0 ≤ x1 ∧ x1 < (l23.2.1 : Nat) then l23.1.bind fun a24 => (st1 r21.2.2 a24.block (a24.off + x1.toNat * 2 + 0) (.int .i64 (2 : Int))).bind fun s25 => some (.int .i64 (0 : Int), s25) else none) else none) else if r16.1 = .ret then (u_i r16.2.1 fun n26 => some (.int .i64 n26, r16.2.2)) else none)))

theorem ref02_Heap_ClaimLarge_is (k : Nat) (x0 : Option Addr) (x1 : Int) (x2 : Int) (x3 : Int) (σ : AMem) : ref02_Heap_ClaimLarge k x0 x1 x2 x3 σ = d_ref02_Heap_ClaimLarge k x0 x1 x2 x3 σ := by
  cases k with
  | zero => rfl
  | succ k => rw [ref02_Heap_ClaimLarge_eq, d_ref02_Heap_ClaimLarge]; simp only [ref02_Heap_Made_is, ref02_Heap_block_is, ref02_space_is, ref02_Heap_ClaimLarge_l0_is, ref02_Heap_ClaimLarge_l1_is]

noncomputable def d_ref02_Heap_Objects_l0 (k n : Nat) (p0 : Option Addr) (i1 : Int) (x5 : Option Addr × Nat × Nat) (x6 : Int) (σ : AMem) : Option LOut := match n with
  | 0 => none
  | n + 1 => ((d_ref02_Heap_Made k p0 σ).bind fun r1 => (toB r1.1).bind fun b2 => (bif b2 then p0.bind fun a3 => (ldS r1.2 a3.block (a3.off + 1)).bind fun l4 => some (decide (x6 < ((l4.2.1 : Nat) : Int)), r1.2) else some (false, r1.2)).bind fun r5 => bif r5.1 then (p0.bind fun a6 => (ldS r5.2 a6.block (a6.off + 1)).bind fun l7 => if 0 ≤ x6 ∧ x6 < (l7.2.1 : Nat) then l7.1.bind fun a8 => (ldI .i64 r5.2 a8.block (a8.off + x6.toNat * 8 + 0)).bind fun n9 => if (64 : Int) = 0 then none else (bif (w64 (n9.tdiv (64 : Int))) == i1 then (p0.bind fun a10 => (ldS r5.2 a10.block (a10.off + 1)).bind fun l11 => if 0 ≤ x6 ∧ x6 < (l11.2.1 : Nat) then l11.1.bind fun a12 => (ldI .i64 r5.2 a12.block (a12.off + x6.toNat * 8 + 0)).bind fun n13 => allocK r5.2 (.cells [.int .i64 n13] 3 true) fun h14 s15 => (appendD P 3 (x5.1, x5.2.1, x5.2.2) (some ⟨h14, 0, none⟩, 1, 1) s15).bind fun r16 => some (.normal, [.slice r16.1.1 r16.1.2.1 r16.1.2.2], r16.2) else none) else (some (.normal, [.slice x5.1 x5.2.1 x5.2.2], r5.2)) : Option LOut).bind fun r17 => if r17.1 = .normal then (u_l r17.2.1 fun l18 => d_ref02_Heap_Objects_l0 k n p0 i1 (l18.1, l18.2.1, l18.2.2) (w64 (x6 + (1 : Int))) r17.2.2) else none else none) else (some (.exit 0, [.slice x5.1 x5.2.1 x5.2.2], r5.2)))
termination_by structural n

theorem ref02_Heap_Objects_l0_is (k n : Nat) (p0 : Option Addr) (i1 : Int) (x5 : Option Addr × Nat × Nat) (x6 : Int) (σ : AMem) : ref02_Heap_Objects_l0 k n p0 i1 x5 x6 σ = d_ref02_Heap_Objects_l0 k n p0 i1 x5 x6 σ := by
  induction n generalizing p0 i1 x5 x6 σ with
  | zero => rfl
  | succ n ih => rw [ref02_Heap_Objects_l0_eq, d_ref02_Heap_Objects_l0]; simp only [ref02_Heap_Made_is, ih]

noncomputable def d_ref02_Heap_Objects (k : Nat) (x0 : Option Addr) (x1 : Int) (σ : AMem) : Option (Value × AMem) := match k with
  | 0 => none
  | k + 1 => ((d_ref02_Heap_Objects_l0 k k x0 x1 (none, 0, 0) (0 : Int) σ).bind fun r19 => if r19.1 = .exit 0 then (u_l r19.2.1 fun l20 => some (.slice l20.1 l20.2.1 l20.2.2, r19.2.2)) else none)

theorem ref02_Heap_Objects_is (k : Nat) (x0 : Option Addr) (x1 : Int) (σ : AMem) : ref02_Heap_Objects k x0 x1 σ = d_ref02_Heap_Objects k x0 x1 σ := by
  cases k with
  | zero => rfl
  | succ k => rw [ref02_Heap_Objects_eq, d_ref02_Heap_Objects]; simp only [ref02_Heap_Made_is, ref02_Heap_Objects_l0_is]

noncomputable def d_ref02_Heap_Whole_l0 (k n : Nat) (p0 : Option Addr) (i1 : Int) (x5 : Int) (σ : AMem) : Option LOut := match n with
  | 0 => none
  | n + 1 => (p0.bind fun a9 => (ldS σ a9.block (a9.off + 0)).bind fun l10 => (bif decide ((w64 (i1 + x5)) < ((l10.2.1 : Nat) : Int)) then p0.bind fun a11 => (ldS σ a11.block (a11.off + 0)).bind fun l12 => if 0 ≤ (w64 (i1 + x5)) ∧ (w64 (i1 + x5)) < (l12.2.1 : Nat) then l12.1.bind fun a13 => (ldI .i64 σ a13.block (a13.off + (w64 (i1 + x5)).toNat * 2 + 0)).bind fun n14 => some (n14 == (3 : Int), σ) else none else some (false, σ)).bind fun r15 => bif r15.1 then (d_ref02_Heap_Whole_l0 k n p0 i1 (w64 (x5 + (1 : Int))) r15.2) else (some (.exit 0, [.int .i64 x5], r15.2)))
termination_by structural n

theorem ref02_Heap_Whole_l0_is (k n : Nat) (p0 : Option Addr) (i1 : Int) (x5 : Int) (σ : AMem) : ref02_Heap_Whole_l0 k n p0 i1 x5 σ = d_ref02_Heap_Whole_l0 k n p0 i1 x5 σ := by
  induction n generalizing p0 i1 x5 σ with
  | zero => rfl
  | succ n ih => rw [ref02_Heap_Whole_l0_eq, d_ref02_Heap_Whole_l0]; simp only [ih]

noncomputable def d_ref02_Heap_Whole (k : Nat) (x0 : Option Addr) (x1 : Int) (σ : AMem) : Option (Value × AMem) := match k with
  | 0 => none
  | k + 1 => (x0.bind fun a1 => (ldS σ a1.block (a1.off + 0)).bind fun l2 => if 0 ≤ x1 ∧ x1 < (l2.2.1 : Nat) then l2.1.bind fun a3 => (ldI .i64 σ a3.block (a3.off + x1.toNat * 2 + 0)).bind fun n4 => bif n4 == (1 : Int) then (some (.int .i64 (1 : Int), σ)) else (x0.bind fun a5 => (ldS σ a5.block (a5.off + 0)).bind fun l6 => if 0 ≤ x1 ∧ x1 < (l6.2.1 : Nat) then l6.1.bind fun a7 => (ldI .i64 σ a7.block (a7.off + x1.toNat * 2 + 0)).bind fun n8 => bif n8 != (2 : Int) then (some (.int .i64 (0 : Int), σ)) else ((d_ref02_Heap_Whole_l0 k k x0 x1 (1 : Int) σ).bind fun r16 => if r16.1 = .exit 0 then (u_i r16.2.1 fun n17 => some (.int .i64 n17, r16.2.2)) else none) else none) else none)

theorem ref02_Heap_Whole_is (k : Nat) (x0 : Option Addr) (x1 : Int) (σ : AMem) : ref02_Heap_Whole k x0 x1 σ = d_ref02_Heap_Whole k x0 x1 σ := by
  cases k with
  | zero => rfl
  | succ k => rw [ref02_Heap_Whole_eq, d_ref02_Heap_Whole]; simp only [ref02_Heap_Whole_l0_is]

noncomputable def d_ref02_Heap_Release_l0 (k n : Nat) (p0 : Option Addr) (i1 : Int) (i2 : Int) (x6 : Int) (σ : AMem) : Option LOut := match n with
  | 0 => none
  | n + 1 => (bif decide (x6 < (w64 (i1 + i2))) then (p0.bind fun a9 => (ldS σ a9.block (a9.off + 0)).bind fun l10 => if 0 ≤ x6 ∧ x6 < (l10.2.1 : Nat) then l10.1.bind fun a11 => (stN σ a11.block (a11.off + x6.toNat * 2) [.int .i64 (0 : Int), .int .i64 (0 : Int)]).bind fun s12 => d_ref02_Heap_Release_l0 k n p0 i1 i2 (w64 (x6 + (1 : Int))) s12 else none) else (some (.exit 0, [], σ)))
termination_by structural n

theorem ref02_Heap_Release_l0_is (k n : Nat) (p0 : Option Addr) (i1 : Int) (i2 : Int) (x6 : Int) (σ : AMem) : ref02_Heap_Release_l0 k n p0 i1 i2 x6 σ = d_ref02_Heap_Release_l0 k n p0 i1 i2 x6 σ := by
  induction n generalizing p0 i1 i2 x6 σ with
  | zero => rfl
  | succ n ih => rw [ref02_Heap_Release_l0_eq, d_ref02_Heap_Release_l0]; simp only [ref02_Heap_Made_is, ref02_Heap_Objects_is, ref02_Heap_block_is, ref02_Heap_Whole_is, ih]

noncomputable def d_ref02_Heap_Release (k : Nat) (x0 : Option Addr) (x1 : Int) (σ : AMem) : Option (Value × AMem) := match k with
  | 0 => none
  | k + 1 => ((d_ref02_Heap_Made k x0 σ).bind fun r1 => (toB r1.1).bind fun b2 => bif !b2 then (some (.int .i64 (5 : Int), r1.2)) else ((d_ref02_Heap_block k x0 x1 r1.2).bind fun r3 => (toB r3.1).bind fun b4 => bif !b4 then (some (.int .i64 (1 : Int), r3.2)) else ((d_ref02_Heap_Whole k x0 x1 r3.2).bind fun r5 => (toI .i64 r5.1).bind fun n6 => bif n6 == (0 : Int) then (some (.int .i64 (5 : Int), r5.2)) else ((d_ref02_Heap_Objects k x0 x1 r5.2).bind fun r7 => (toS r7.1).bind fun l8 => bif decide (((l8.2.1 : Nat) : Int) > (0 : Int)) then (some (.int .i64 (8 : Int), r7.2)) else ((d_ref02_Heap_Release_l0 k k x0 x1 n6 x1 r7.2).bind fun r13 => if r13.1 = .exit 0 then (some (.int .i64 (0 : Int), r13.2.2)) else none)))))

theorem ref02_Heap_Release_is (k : Nat) (x0 : Option Addr) (x1 : Int) (σ : AMem) : ref02_Heap_Release k x0 x1 σ = d_ref02_Heap_Release k x0 x1 σ := by
  cases k with
  | zero => rfl
  | succ k => rw [ref02_Heap_Release_eq, d_ref02_Heap_Release]; simp only [ref02_Heap_Made_is, ref02_Heap_Objects_is, ref02_Heap_block_is, ref02_Heap_Whole_is, ref02_Heap_Release_l0_is]

noncomputable def d_heap_Heap_Retag_l0 (k n : Nat) (p0 : Option Addr) (i1 : Int) (i2 : Int) (x8 : Int) (σ : AMem) : Option LOut := match n with
  | 0 => none
  | n + 1 => (bif decide (x8 > (0 : Int)) then (p0.bind fun a7 => (ldS σ a7.block (a7.off + 0)).bind fun l8 => if 0 ≤ (w64 ((w64 (i1 + x8)) - (1 : Int))) ∧ (w64 ((w64 (i1 + x8)) - (1 : Int))) < (l8.2.1 : Nat) then l8.1.bind fun a9 => (st1 σ a9.block (a9.off + (w64 ((w64 (i1 + x8)) - (1 : Int))).toNat * 2 + 1) (.int .i64 i2)).bind fun s10 => d_heap_Heap_Retag_l0 k n p0 i1 i2 (w64 (x8 - (1 : Int))) s10 else none) else (some (.exit 0, [], σ)))
termination_by structural n

theorem heap_Heap_Retag_l0_is (k n : Nat) (p0 : Option Addr) (i1 : Int) (i2 : Int) (x8 : Int) (σ : AMem) : heap_Heap_Retag_l0 k n p0 i1 i2 x8 σ = d_heap_Heap_Retag_l0 k n p0 i1 i2 x8 σ := by
  induction n generalizing p0 i1 i2 x8 σ with
  | zero => rfl
  | succ n ih => rw [heap_Heap_Retag_l0_eq, d_heap_Heap_Retag_l0]; simp only [heap_Heap_held_is, heap_Heap_span_is, heap_space_is, ih]

noncomputable def d_heap_Heap_Retag (k : Nat) (x0 : Option Addr) (x1 : Int) (x2 : Int) (σ : AMem) : Option (Value × AMem) := match k with
  | 0 => none
  | k + 1 => ((d_heap_space k x2 σ).bind fun r1 => (toB r1.1).bind fun b2 => (d_heap_Heap_held k x0 x1 b2 r1.2).bind fun r3 => (toI .i64 r3.1).bind fun n4 => bif n4 != (0 : Int) then (some (.int .i64 n4, r3.2)) else ((d_heap_Heap_span k x0 x1 r3.2).bind fun r5 => (toI .i64 r5.1).bind fun n6 => (d_heap_Heap_Retag_l0 k k x0 x1 x2 n6 r5.2).bind fun r11 => if r11.1 = .exit 0 then (some (.int .i64 (0 : Int), r11.2.2)) else none))

theorem heap_Heap_Retag_is (k : Nat) (x0 : Option Addr) (x1 : Int) (x2 : Int) (σ : AMem) : heap_Heap_Retag k x0 x1 x2 σ = d_heap_Heap_Retag k x0 x1 x2 σ := by
  cases k with
  | zero => rfl
  | succ k => rw [heap_Heap_Retag_eq, d_heap_Heap_Retag]; simp only [heap_Heap_held_is, heap_Heap_span_is, heap_space_is, heap_Heap_Retag_l0_is]

noncomputable def d_ref02_Heap_Retag_l0 (k n : Nat) (p0 : Option Addr) (i1 : Int) (i2 : Int) (i3 : Int) (x8 : Int) (σ : AMem) : Option LOut := match n with
  | 0 => none
  | n + 1 => (bif decide (x8 < (w64 (i1 + i3))) then (p0.bind fun a10 => (ldS σ a10.block (a10.off + 0)).bind fun l11 => if 0 ≤ x8 ∧ x8 < (l11.2.1 : Nat) then l11.1.bind fun a12 => (st1 σ a12.block (a12.off + x8.toNat * 2 + 1) (.int .i64 i2)).bind fun s13 => d_ref02_Heap_Retag_l0 k n p0 i1 i2 i3 (w64 (x8 + (1 : Int))) s13 else none) else (some (.exit 0, [], σ)))
termination_by structural n

theorem ref02_Heap_Retag_l0_is (k n : Nat) (p0 : Option Addr) (i1 : Int) (i2 : Int) (i3 : Int) (x8 : Int) (σ : AMem) : ref02_Heap_Retag_l0 k n p0 i1 i2 i3 x8 σ = d_ref02_Heap_Retag_l0 k n p0 i1 i2 i3 x8 σ := by
  induction n generalizing p0 i1 i2 i3 x8 σ with
  | zero => rfl
  | succ n ih => rw [ref02_Heap_Retag_l0_eq, d_ref02_Heap_Retag_l0]; simp only [ref02_Heap_Made_is, ref02_Heap_block_is, ref02_space_is, ref02_Heap_Whole_is, ih]

noncomputable def d_ref02_Heap_Retag (k : Nat) (x0 : Option Addr) (x1 : Int) (x2 : Int) (σ : AMem) : Option (Value × AMem) := match k with
  | 0 => none
  | k + 1 => ((d_ref02_Heap_Made k x0 σ).bind fun r1 => (toB r1.1).bind fun b2 => bif !b2 then (some (.int .i64 (5 : Int), r1.2)) else ((d_ref02_Heap_block k x0 x1 r1.2).bind fun r3 => (toB r3.1).bind fun b4 => (bif !b4 then some (true, r3.2) else (d_ref02_space k x2 r3.2).bind fun r5 => (toB r5.1).bind fun b6 => some (!b6, r5.2)).bind fun r7 => bif r7.1 then (some (.int .i64 (1 : Int), r7.2)) else ((d_ref02_Heap_Whole k x0 x1 r7.2).bind fun r8 => (toI .i64 r8.1).bind fun n9 => bif n9 == (0 : Int) then (some (.int .i64 (5 : Int), r8.2)) else ((d_ref02_Heap_Retag_l0 k k x0 x1 x2 n9 x1 r8.2).bind fun r14 => if r14.1 = .exit 0 then (some (.int .i64 (0 : Int), r14.2.2)) else none))))

theorem ref02_Heap_Retag_is (k : Nat) (x0 : Option Addr) (x1 : Int) (x2 : Int) (σ : AMem) : ref02_Heap_Retag k x0 x1 x2 σ = d_ref02_Heap_Retag k x0 x1 x2 σ := by
  cases k with
  | zero => rfl
  | succ k => rw [ref02_Heap_Retag_eq, d_ref02_Heap_Retag]; simp only [ref02_Heap_Made_is, ref02_Heap_block_is, ref02_space_is, ref02_Heap_Whole_is, ref02_Heap_Retag_l0_is]

noncomputable def d_ref02_Valid (k : Nat) (x0_0 : Int) (x0_1 : Int) (x0_2 : Int) (σ : AMem) : Option (Value × AMem) := match k with
  | 0 => none
  | k + 1 => (allocK σ (.cells [.int .i64 x0_0, .int .i64 x0_1, .int .i64 x0_2] 33 true) fun h1 s2 => (ldI .i64 s2 h1 (0 + 0)).bind fun n3 => (bif decide (n3 < (0 : Int)) then some (true, s2) else (ldI .i64 s2 h1 (0 + 0)).bind fun n4 => some (decide (n4 > (15 : Int)), s2)).bind fun r5 => (bif r5.1 then some (true, r5.2) else (ldI .i64 r5.2 h1 (0 + 1)).bind fun n6 => some (decide (n6 < (0 : Int)), r5.2)).bind fun r7 => (bif r7.1 then some (true, r7.2) else (ldI .i64 r7.2 h1 (0 + 1)).bind fun n8 => some (decide (n8 > (200 : Int)), r7.2)).bind fun r9 => bif r9.1 then (some (.bool false, r9.2)) else ((ldI .i64 r9.2 h1 (0 + 2)).bind fun n10 => (bif n10 == (0 : Int) then (some (.normal, [.bool (n10 == (0 : Int))], r9.2)) else (some (.normal, [.bool (n10 == (3 : Int))], r9.2)) : Option LOut).bind fun r11 => if r11.1 = .normal then (u_t r11.2.1 fun b12 => bif b12 then (some (.bool true, r11.2.2)) else (bif n10 == (1 : Int) then ((ldI .i64 r11.2.2 h1 (0 + 0)).bind fun n13 => some (.bool (decide (n13 ≥ (1 : Int))), r11.2.2)) else (bif n10 == (2 : Int) then ((ldI .i64 r11.2.2 h1 (0 + 0)).bind fun n14 => some (.bool (decide (n14 ≥ (2 : Int))), r11.2.2)) else (some (.bool false, r11.2.2))))) else none))

theorem ref02_Valid_is (k : Nat) (x0_0 : Int) (x0_1 : Int) (x0_2 : Int) (σ : AMem) : ref02_Valid k x0_0 x0_1 x0_2 σ = d_ref02_Valid k x0_0 x0_1 x0_2 σ := by
  cases k with
  | zero => rfl
  | succ k => rw [ref02_Valid_eq, d_ref02_Valid]

noncomputable def d_ref02_Words (k : Nat) (x0_0 : Int) (x0_1 : Int) (x0_2 : Int) (σ : AMem) : Option (Value × AMem) := match k with
  | 0 => none
  | k + 1 => (allocK σ (.cells [.int .i64 x0_0, .int .i64 x0_1, .int .i64 x0_2] 33 true) fun h1 s2 => (ldI .i64 s2 h1 0).bind fun n3 => (ldI .i64 s2 h1 (0 + 1)).bind fun n4 => (ldI .i64 s2 h1 (0 + 1 + 1)).bind fun n5 => (d_ref02_Valid k n3 n4 n5 s2).bind fun r6 => (toB r6.1).bind fun b7 => bif !b7 then (some (.int .i64 (0 : Int), r6.2)) else ((ldI .i64 r6.2 h1 (0 + 0)).bind fun n8 => (ldI .i64 r6.2 h1 (0 + 1)).bind fun n9 => if (2 : Int) = 0 then none else some (.int .i64 (w64 ((w64 ((w64 ((2 : Int) + n8)) + n9)) + ((w64 ((w64 ((2 : Int) + n8)) + n9)).tmod (2 : Int)))), r6.2)))

theorem ref02_Words_is (k : Nat) (x0_0 : Int) (x0_1 : Int) (x0_2 : Int) (σ : AMem) : ref02_Words k x0_0 x0_1 x0_2 σ = d_ref02_Words k x0_0 x0_1 x0_2 σ := by
  cases k with
  | zero => rfl
  | succ k => rw [ref02_Words_eq, d_ref02_Words]; simp only [ref02_Valid_is]

noncomputable def d_ref02_Large (k : Nat) (x0_0 : Int) (x0_1 : Int) (x0_2 : Int) (σ : AMem) : Option (Value × AMem) := match k with
  | 0 => none
  | k + 1 => (allocK σ (.cells [.int .i64 x0_0, .int .i64 x0_1, .int .i64 x0_2] 33 true) fun h1 s2 => (ldI .i64 s2 h1 0).bind fun n3 => (ldI .i64 s2 h1 (0 + 1)).bind fun n4 => (ldI .i64 s2 h1 (0 + 1 + 1)).bind fun n5 => (d_ref02_Words k n3 n4 n5 s2).bind fun r6 => (toI .i64 r6.1).bind fun n7 => some (.bool (decide (n7 > (32 : Int))), r6.2))

theorem ref02_Large_is (k : Nat) (x0_0 : Int) (x0_1 : Int) (x0_2 : Int) (σ : AMem) : ref02_Large k x0_0 x0_1 x0_2 σ = d_ref02_Large k x0_0 x0_1 x0_2 σ := by
  cases k with
  | zero => rfl
  | succ k => rw [ref02_Large_eq, d_ref02_Large]; simp only [ref02_Words_is]

noncomputable def d_ref02_Need (k : Nat) (x0_0 : Int) (x0_1 : Int) (x0_2 : Int) (σ : AMem) : Option (Value × AMem) := match k with
  | 0 => none
  | k + 1 => (allocK σ (.cells [.int .i64 x0_0, .int .i64 x0_1, .int .i64 x0_2] 33 true) fun h1 s2 => (ldI .i64 s2 h1 0).bind fun n3 => (ldI .i64 s2 h1 (0 + 1)).bind fun n4 => (ldI .i64 s2 h1 (0 + 1 + 1)).bind fun n5 => (d_ref02_Words k n3 n4 n5 s2).bind fun r6 => (toI .i64 r6.1).bind fun n7 => if (64 : Int) = 0 then none else some (.int .i64 (w64 ((w64 ((w64 (n7 + (64 : Int))) - (1 : Int))).tdiv (64 : Int))), r6.2))

theorem ref02_Need_is (k : Nat) (x0_0 : Int) (x0_1 : Int) (x0_2 : Int) (σ : AMem) : ref02_Need k x0_0 x0_1 x0_2 σ = d_ref02_Need k x0_0 x0_1 x0_2 σ := by
  cases k with
  | zero => rfl
  | succ k => rw [ref02_Need_eq, d_ref02_Need]; simp only [ref02_Words_is]

noncomputable def d_ref02_Heap_fits_l0 (k n : Nat) (p0 : Option Addr) (i1 : Int) (i2 : Int) (h3 : Nat) (x10 : Int) (σ : AMem) : Option LOut := match n with
  | 0 => none
  | n + 1 => (p0.bind fun a36 => (ldS σ a36.block (a36.off + 1)).bind fun l37 => bif decide (x10 < ((l37.2.1 : Nat) : Int)) then (p0.bind fun a38 => (ldS σ a38.block (a38.off + 1)).bind fun l39 => if 0 ≤ x10 ∧ x10 < (l39.2.1 : Nat) then l39.1.bind fun a40 => (ldI .i64 σ a40.block (a40.off + x10.toNat * 8)).bind fun n41 => (ldI .i64 σ a40.block (a40.off + x10.toNat * 8 + 1)).bind fun n42 => (ldI .i64 σ a40.block (a40.off + x10.toNat * 8 + 1 + 1)).bind fun n43 => (ldI .i64 σ a40.block (a40.off + x10.toNat * 8 + 1 + 1 + 1)).bind fun n44 => (ldI .i64 σ a40.block (a40.off + x10.toNat * 8 + 1 + 1 + 1 + 1)).bind fun n45 => (ldS σ a40.block (a40.off + x10.toNat * 8 + 1 + 1 + 1 + 1 + 1)).bind fun l46 => (ldS σ a40.block (a40.off + x10.toNat * 8 + 1 + 1 + 1 + 1 + 1 + 1)).bind fun l47 => (ldB σ a40.block (a40.off + x10.toNat * 8 + 1 + 1 + 1 + 1 + 1 + 1 + 1)).bind fun b48 => allocK σ (.cells [.int .i64 (0 : Int), .int .i64 (0 : Int), .int .i64 (0 : Int), .int .i64 (0 : Int), .int .i64 (0 : Int), .slice none 0 0, .slice none 0 0, .bool false] 79 true) fun h49 s50 => (stN s50 h49 0 [.int .i64 n41, .int .i64 n42, .int .i64 n43, .int .i64 n44, .int .i64 n45, .slice l46.1 l46.2.1 l46.2.2, .slice l47.1 l47.2.1 l47.2.2, .bool b48]).bind fun s51 => (ldI .i64 s51 h49 (0 + 1)).bind fun n52 => (bif n52 != i2 then (ldI .i64 s51 h49 (0 + 0)).bind fun n53 => (ldI .i64 s51 h3 0).bind fun n54 => (ldI .i64 s51 h3 (0 + 1)).bind fun n55 => (ldI .i64 s51 h3 (0 + 1 + 1)).bind fun n56 => (d_ref02_Words k n54 n55 n56 s51).bind fun r57 => quietly s51 r57.2 ((toI .i64 r57.1).bind fun n58 => some (decide (n53 < (w64 (i1 + n58))), r57.2)) else some (false, s51)).bind fun r59 => (bif r59.1 then (ldI .i64 r59.2 h49 (0 + 0)).bind fun n60 => (ldI .i64 r59.2 h49 (0 + 2)).bind fun n61 => (ldI .i64 r59.2 h49 (0 + 2 + 1)).bind fun n62 => (ldI .i64 r59.2 h49 (0 + 2 + 1 + 1)).bind fun n63 => (d_ref02_Words k n61 n62 n63 r59.2).bind fun r64 => quietly r59.2 r64.2 ((toI .i64 r64.1).bind fun n65 => some (decide (i1 < (w64 (n60 + n65))), r64.2)) else some (false, r59.2)).bind fun r66 => bif r66.1 then (some (.ret, [.int .i64 (8 : Int)], r66.2)) else (d_ref02_Heap_fits_l0 k n p0 i1 i2 h3 (w64 (x10 + (1 : Int))) r66.2) else none) else (some (.exit 0, [], σ)))
termination_by structural n

theorem ref02_Heap_fits_l0_is (k n : Nat) (p0 : Option Addr) (i1 : Int) (i2 : Int) (h3 : Nat) (x10 : Int) (σ : AMem) : ref02_Heap_fits_l0 k n p0 i1 i2 h3 x10 σ = d_ref02_Heap_fits_l0 k n p0 i1 i2 h3 x10 σ := by
  induction n generalizing p0 i1 i2 h3 x10 σ with
  | zero => rfl
  | succ n ih => rw [ref02_Heap_fits_l0_eq, d_ref02_Heap_fits_l0]; simp only [ref02_Heap_Whole_is, ref02_Words_is, ref02_Large_is, ref02_Need_is, ih]

noncomputable def d_ref02_Heap_fits (k : Nat) (x0 : Option Addr) (x1 : Int) (x2_0 : Int) (x2_1 : Int) (x2_2 : Int) (x3 : Int) (σ : AMem) : Option (Value × AMem) := match k with
  | 0 => none
  | k + 1 => (allocK σ (.cells [.int .i64 x2_0, .int .i64 x2_1, .int .i64 x2_2] 33 true) fun h1 s2 => (bif decide (x1 < (0 : Int)) then some (true, s2) else if (2 : Int) = 0 then none else some ((x1.tmod (2 : Int)) != (0 : Int), s2)).bind fun r3 => (bif r3.1 then some (true, r3.2) else x0.bind fun a4 => (ldS r3.2 a4.block (a4.off + 0)).bind fun l5 => some (decide (x1 ≥ (w64 (((l5.2.1 : Nat) : Int) * (64 : Int)))), r3.2)).bind fun r6 => bif r6.1 then (some (.int .i64 (1 : Int), r6.2)) else (if (64 : Int) = 0 then none else (ldI .i64 r6.2 h1 0).bind fun n7 => (ldI .i64 r6.2 h1 (0 + 1)).bind fun n8 => (ldI .i64 r6.2 h1 (0 + 1 + 1)).bind fun n9 => (d_ref02_Large k n7 n8 n9 r6.2).bind fun r10 => (toB r10.1).bind fun b11 => (bif b11 then (if (64 : Int) = 0 then none else (bif (x1.tmod (64 : Int)) != (0 : Int) then some (true, r10.2) else x0.bind fun a12 => (ldS r10.2 a12.block (a12.off + 0)).bind fun l13 => if 0 ≤ (w64 (x1.tdiv (64 : Int))) ∧ (w64 (x1.tdiv (64 : Int))) < (l13.2.1 : Nat) then l13.1.bind fun a14 => (ldI .i64 r10.2 a14.block (a14.off + (w64 (x1.tdiv (64 : Int))).toNat * 2 + 0)).bind fun n15 => some (n15 != (2 : Int), r10.2) else none).bind fun r16 => (bif r16.1 then some (true, r16.2) else (d_ref02_Heap_Whole k x0 (w64 (x1.tdiv (64 : Int))) r16.2).bind fun r17 => quietly r16.2 r17.2 ((toI .i64 r17.1).bind fun n18 => (ldI .i64 r17.2 h1 0).bind fun n19 => (ldI .i64 r17.2 h1 (0 + 1)).bind fun n20 => (ldI .i64 r17.2 h1 (0 + 1 + 1)).bind fun n21 => (d_ref02_Need k n19 n20 n21 r17.2).bind fun r22 => (toI .i64 r22.1).bind fun n23 => some (n18 != n23, r22.2))).bind fun r24 => bif r24.1 then (some (.ret, [.int .i64 (5 : Int)], r24.2)) else (some (.normal, [], r24.2))) else (x0.bind fun a25 => (ldS r10.2 a25.block (a25.off + 0)).bind fun l26 => if 0 ≤ (w64 (x1.tdiv (64 : Int))) ∧ (w64 (x1.tdiv (64 : Int))) < (l26.2.1 : Nat) then l26.1.bind fun a27 => (ldI .i64 r10.2 a27.block (a27.off + (w64 (x1.tdiv (64 : Int))).toNat * 2 + 0)).bind fun n28 => (bif n28 != (1 : Int) then some (true, r10.2) else (ldI .i64 r10.2 h1 0).bind fun n29 => (ldI .i64 r10.2 h1 (0 + 1)).bind fun n30 => (ldI .i64 r10.2 h1 (0 + 1 + 1)).bind fun n31 => (d_ref02_Words k n29 n30 n31 r10.2).bind fun r32 => (toI .i64 r32.1).bind fun n33 => if (64 : Int) = 0 then none else some ((w64 ((w64 ((w64 (x1 + n33)) - (1 : Int))).tdiv (64 : Int))) != (w64 (x1.tdiv (64 : Int))), r32.2)).bind fun r34 => bif r34.1 then (some (.ret, [.int .i64 (5 : Int)], r34.2)) else (some (.normal, [], r34.2)) else none) : Option LOut).bind fun r35 => if r35.1 = .normal then ((d_ref02_Heap_fits_l0 k k x0 x1 x3 h1 (0 : Int) r35.2.2).bind fun r67 => if r67.1 = .exit 0 then (some (.int .i64 (0 : Int), r67.2.2)) else if r67.1 = .ret then (u_i r67.2.1 fun n68 => some (.int .i64 n68, r67.2.2)) else none) else if r35.1 = .ret then (u_i r35.2.1 fun n69 => some (.int .i64 n69, r35.2.2)) else none))

theorem ref02_Heap_fits_is (k : Nat) (x0 : Option Addr) (x1 : Int) (x2_0 : Int) (x2_1 : Int) (x2_2 : Int) (x3 : Int) (σ : AMem) : ref02_Heap_fits k x0 x1 x2_0 x2_1 x2_2 x3 σ = d_ref02_Heap_fits k x0 x1 x2_0 x2_1 x2_2 x3 σ := by
  cases k with
  | zero => rfl
  | succ k => rw [ref02_Heap_fits_eq, d_ref02_Heap_fits]; simp only [ref02_Heap_Whole_is, ref02_Words_is, ref02_Large_is, ref02_Need_is, ref02_Heap_fits_l0_is]

noncomputable def d_ref02_Heap_put_l0 (k n : Nat) (p0 : Option Addr) (h1 : Nat) (x4 : Int) (σ : AMem) : Option LOut := match n with
  | 0 => none
  | n + 1 => (p0.bind fun a3 => (ldS σ a3.block (a3.off + 1)).bind fun l4 => (bif decide (x4 < ((l4.2.1 : Nat) : Int)) then p0.bind fun a5 => (ldS σ a5.block (a5.off + 1)).bind fun l6 => if 0 ≤ x4 ∧ x4 < (l6.2.1 : Nat) then l6.1.bind fun a7 => (ldI .i64 σ a7.block (a7.off + x4.toNat * 8 + 0)).bind fun n8 => (ldI .i64 σ h1 (0 + 0)).bind fun n9 => some (decide (n8 < n9), σ) else none else some (false, σ)).bind fun r10 => bif r10.1 then (d_ref02_Heap_put_l0 k n p0 h1 (w64 (x4 + (1 : Int))) r10.2) else (some (.exit 0, [.int .i64 x4], r10.2)))
termination_by structural n

theorem ref02_Heap_put_l0_is (k n : Nat) (p0 : Option Addr) (h1 : Nat) (x4 : Int) (σ : AMem) : ref02_Heap_put_l0 k n p0 h1 x4 σ = d_ref02_Heap_put_l0 k n p0 h1 x4 σ := by
  induction n generalizing p0 h1 x4 σ with
  | zero => rfl
  | succ n ih => rw [ref02_Heap_put_l0_eq, d_ref02_Heap_put_l0]; simp only [ih]

noncomputable def d_ref02_Heap_put (k : Nat) (x0 : Option Addr) (x1_0 : Int) (x1_1 : Int) (x1_2 : Int) (x1_3 : Int) (x1_4 : Int) (x1_5 : Option Addr × Nat × Nat) (x1_6 : Option Addr × Nat × Nat) (x1_7 : Bool) (σ : AMem) : Option (Value × AMem) := match k with
  | 0 => none
  | k + 1 => (allocK σ (.cells [.int .i64 x1_0, .int .i64 x1_1, .int .i64 x1_2, .int .i64 x1_3, .int .i64 x1_4, .slice x1_5.1 x1_5.2.1 x1_5.2.2, .slice x1_6.1 x1_6.2.1 x1_6.2.2, .bool x1_7] 79 true) fun h1 s2 => (d_ref02_Heap_put_l0 k k x0 h1 (0 : Int) s2).bind fun r11 => if r11.1 = .exit 0 then (u_i r11.2.1 fun n12 => x0.bind fun a13 => (ldS r11.2.2 a13.block (a13.off + 1)).bind fun l14 => (sliceD 79 8 (l14.1, l14.2.1, l14.2.2) none (some (.int .i64 n12)) none r11.2.2).bind fun l15 => (appendD P 79 (none, 0, 0) (l15.1, l15.2.1, l15.2.2) r11.2.2).bind fun r16 => (ldI .i64 r16.2 h1 0).bind fun n17 => (ldI .i64 r16.2 h1 (0 + 1)).bind fun n18 => (ldI .i64 r16.2 h1 (0 + 1 + 1)).bind fun n19 => (ldI .i64 r16.2 h1 (0 + 1 + 1 + 1)).bind fun n20 => (ldI .i64 r16.2 h1 (0 + 1 + 1 + 1 + 1)).bind fun n21 => (ldS r16.2 h1 (0 + 1 + 1 + 1 + 1 + 1)).bind fun l22 => (ldS r16.2 h1 (0 + 1 + 1 + 1 + 1 + 1 + 1)).bind fun l23 => (ldB r16.2 h1 (0 + 1 + 1 + 1 + 1 + 1 + 1 + 1)).bind fun b24 => allocK r16.2 (.cells [.int .i64 n17, .int .i64 n18, .int .i64 n19, .int .i64 n20, .int .i64 n21, .slice l22.1 l22.2.1 l22.2.2, .slice l23.1 l23.2.1 l23.2.2, .bool b24] 79 true) fun h25 s26 => (appendD P 79 (r16.1.1, r16.1.2.1, r16.1.2.2) (some ⟨h25, 0, none⟩, 1, 1) s26).bind fun r27 => x0.bind fun a28 => (ldS r27.2 a28.block (a28.off + 1)).bind fun l29 => (sliceD 79 8 (l29.1, l29.2.1, l29.2.2) (some (.int .i64 n12)) none none r27.2).bind fun l30 => (appendD P 79 (r27.1.1, r27.1.2.1, r27.1.2.2) (l30.1, l30.2.1, l30.2.2) r27.2).bind fun r31 => x0.bind fun a32 => (st1 r31.2 a32.block (a32.off + 1) (.slice r31.1.1 r31.1.2.1 r31.1.2.2)).bind fun s33 => some (.tuple #[], s33)) else none)

theorem ref02_Heap_put_is (k : Nat) (x0 : Option Addr) (x1_0 : Int) (x1_1 : Int) (x1_2 : Int) (x1_3 : Int) (x1_4 : Int) (x1_5 : Option Addr × Nat × Nat) (x1_6 : Option Addr × Nat × Nat) (x1_7 : Bool) (σ : AMem) : ref02_Heap_put k x0 x1_0 x1_1 x1_2 x1_3 x1_4 x1_5 x1_6 x1_7 σ = d_ref02_Heap_put k x0 x1_0 x1_1 x1_2 x1_3 x1_4 x1_5 x1_6 x1_7 σ := by
  cases k with
  | zero => rfl
  | succ k => rw [ref02_Heap_put_eq, d_ref02_Heap_put]; simp only [ref02_Heap_put_l0_is]

noncomputable def d_ref02_Heap_Place (k : Nat) (x0 : Option Addr) (x1 : Int) (x2_0 : Int) (x2_1 : Int) (x2_2 : Int) (σ : AMem) : Option (Value × AMem) := match k with
  | 0 => none
  | k + 1 => (allocK σ (.cells [.int .i64 x2_0, .int .i64 x2_1, .int .i64 x2_2] 33 true) fun h1 s2 => (d_ref02_Heap_Made k x0 s2).bind fun r3 => (toB r3.1).bind fun b4 => bif !b4 then (some (.tuple #[.int .i64 (0 : Int), .int .i64 (5 : Int)], r3.2)) else ((ldI .i64 r3.2 h1 0).bind fun n5 => (ldI .i64 r3.2 h1 (0 + 1)).bind fun n6 => (ldI .i64 r3.2 h1 (0 + 1 + 1)).bind fun n7 => (d_ref02_Valid k n5 n6 n7 r3.2).bind fun r8 => (toB r8.1).bind fun b9 => bif !b9 then (some (.tuple #[.int .i64 (0 : Int), .int .i64 (2 : Int)], r8.2)) else ((ldI .i64 r8.2 h1 0).bind fun n10 => (ldI .i64 r8.2 h1 (0 + 1)).bind fun n11 => (ldI .i64 r8.2 h1 (0 + 1 + 1)).bind fun n12 => (d_ref02_Heap_fits k x0 x1 n10 n11 n12 (0 : Int) r8.2).bind fun r13 => (toI .i64 r13.1).bind fun n14 => bif n14 != (0 : Int) then (some (.tuple #[.int .i64 (0 : Int), .int .i64 n14], r13.2)) else (x0.bind fun a15 => (ldI .i64 r13.2 a15.block (a15.off + 3)).bind fun n16 => x0.bind fun a17 => (st1 r13.2 a17.block (a17.off + 3) (.int .i64 (w64 (n16 + (1 : Int))))).bind fun s18 => x0.bind fun a19 => (ldI .i64 s18 a19.block (a19.off + 3)).bind fun n20 => (ldI .i64 s18 h1 0).bind fun n21 => (ldI .i64 s18 h1 (0 + 1)).bind fun n22 => (ldI .i64 s18 h1 (0 + 1 + 1)).bind fun n23 => (ldI .i64 s18 h1 (0 + 0)).bind fun n24 => if 0 ≤ n24 ∧ n24 ≤ n24 ∧ n24 * (8 : Nat) ≤ 2 ^ 40 ∧ n24 ≤ 2 ^ 40 then allocK s18 (.cells (rep n24.toNat [.int .i64 (0 : Int)]) 3 true) fun h25 s26 => (ldI .i64 s26 h1 (0 + 1)).bind fun n27 => if 0 ≤ n27 ∧ n27 ≤ n27 ∧ n27 * (8 : Nat) ≤ 2 ^ 40 ∧ n27 ≤ 2 ^ 40 then allocK s26 (.cells (rep n27.toNat [.int .i64 (0 : Int)]) 3 true) fun h28 s29 => (d_ref02_Heap_put k x0 x1 n20 n21 n22 n23 (some ⟨h25, 0, none⟩, n24.toNat, n24.toNat) (some ⟨h28, 0, none⟩, n27.toNat, n27.toNat) false s29).bind fun r30 => r_0 r30.1 (x0.bind fun a31 => (ldI .i64 r30.2 a31.block (a31.off + 3)).bind fun n32 => some (.tuple #[.int .i64 n32, .int .i64 (0 : Int)], r30.2)) else none else none))))

theorem ref02_Heap_Place_is (k : Nat) (x0 : Option Addr) (x1 : Int) (x2_0 : Int) (x2_1 : Int) (x2_2 : Int) (σ : AMem) : ref02_Heap_Place k x0 x1 x2_0 x2_1 x2_2 σ = d_ref02_Heap_Place k x0 x1 x2_0 x2_1 x2_2 σ := by
  cases k with
  | zero => rfl
  | succ k => rw [ref02_Heap_Place_eq, d_ref02_Heap_Place]; simp only [ref02_Heap_Made_is, ref02_Valid_is, ref02_Heap_fits_is, ref02_Heap_put_is]

noncomputable def d_ref02_Heap_Index_l0 (k n : Nat) (p0 : Option Addr) (i1 : Int) (x5 : Int) (σ : AMem) : Option LOut := match n with
  | 0 => none
  | n + 1 => (p0.bind fun a3 => (ldS σ a3.block (a3.off + 1)).bind fun l4 => bif decide (x5 < ((l4.2.1 : Nat) : Int)) then (p0.bind fun a5 => (ldS σ a5.block (a5.off + 1)).bind fun l6 => if 0 ≤ x5 ∧ x5 < (l6.2.1 : Nat) then l6.1.bind fun a7 => (ldI .i64 σ a7.block (a7.off + x5.toNat * 8 + 0)).bind fun n8 => bif n8 == i1 then (some (.ret, [.int .i64 x5], σ)) else (d_ref02_Heap_Index_l0 k n p0 i1 (w64 (x5 + (1 : Int))) σ) else none) else (some (.exit 0, [], σ)))
termination_by structural n

theorem ref02_Heap_Index_l0_is (k n : Nat) (p0 : Option Addr) (i1 : Int) (x5 : Int) (σ : AMem) : ref02_Heap_Index_l0 k n p0 i1 x5 σ = d_ref02_Heap_Index_l0 k n p0 i1 x5 σ := by
  induction n generalizing p0 i1 x5 σ with
  | zero => rfl
  | succ n ih => rw [ref02_Heap_Index_l0_eq, d_ref02_Heap_Index_l0]; simp only [ref02_Heap_Made_is, ih]

noncomputable def d_ref02_Heap_Index (k : Nat) (x0 : Option Addr) (x1 : Int) (σ : AMem) : Option (Value × AMem) := match k with
  | 0 => none
  | k + 1 => ((d_ref02_Heap_Made k x0 σ).bind fun r1 => (toB r1.1).bind fun b2 => bif !b2 then (some (.int .i64 (-1 : Int), r1.2)) else ((d_ref02_Heap_Index_l0 k k x0 x1 (0 : Int) r1.2).bind fun r9 => if r9.1 = .exit 0 then (some (.int .i64 (-1 : Int), r9.2.2)) else if r9.1 = .ret then (u_i r9.2.1 fun n10 => some (.int .i64 n10, r9.2.2)) else none))

theorem ref02_Heap_Index_is (k : Nat) (x0 : Option Addr) (x1 : Int) (σ : AMem) : ref02_Heap_Index k x0 x1 σ = d_ref02_Heap_Index k x0 x1 σ := by
  cases k with
  | zero => rfl
  | succ k => rw [ref02_Heap_Index_eq, d_ref02_Heap_Index]; simp only [ref02_Heap_Made_is, ref02_Heap_Index_l0_is]

noncomputable def d_ref02_Heap_lacks (k : Nat) (x0 : Option Addr) (x1 : Int) (σ : AMem) : Option (Value × AMem) := match k with
  | 0 => none
  | k + 1 => ((d_ref02_Heap_Made k x0 σ).bind fun r1 => (toB r1.1).bind fun b2 => bif !b2 then (some (.int .i64 (5 : Int), r1.2)) else ((d_ref02_Heap_Index k x0 x1 r1.2).bind fun r3 => (toI .i64 r3.1).bind fun n4 => bif decide (n4 < (0 : Int)) then (some (.int .i64 (4 : Int), r3.2)) else (some (.int .i64 (0 : Int), r3.2))))

theorem ref02_Heap_lacks_is (k : Nat) (x0 : Option Addr) (x1 : Int) (σ : AMem) : ref02_Heap_lacks k x0 x1 σ = d_ref02_Heap_lacks k x0 x1 σ := by
  cases k with
  | zero => rfl
  | succ k => rw [ref02_Heap_lacks_eq, d_ref02_Heap_lacks]; simp only [ref02_Heap_Made_is, ref02_Heap_Index_is]

noncomputable def d_ref02_Heap_cut (k : Nat) (x0 : Option Addr) (x1 : Int) (σ : AMem) : Option (Value × AMem) := match k with
  | 0 => none
  | k + 1 => (x0.bind fun a1 => (ldS σ a1.block (a1.off + 1)).bind fun l2 => (sliceD 79 8 (l2.1, l2.2.1, l2.2.2) none (some (.int .i64 x1)) none σ).bind fun l3 => (appendD P 79 (none, 0, 0) (l3.1, l3.2.1, l3.2.2) σ).bind fun r4 => x0.bind fun a5 => (ldS r4.2 a5.block (a5.off + 1)).bind fun l6 => (sliceD 79 8 (l6.1, l6.2.1, l6.2.2) (some (.int .i64 (w64 (x1 + (1 : Int))))) none none r4.2).bind fun l7 => (appendD P 79 (r4.1.1, r4.1.2.1, r4.1.2.2) (l7.1, l7.2.1, l7.2.2) r4.2).bind fun r8 => x0.bind fun a9 => (st1 r8.2 a9.block (a9.off + 1) (.slice r8.1.1 r8.1.2.1 r8.1.2.2)).bind fun s10 => some (.tuple #[], s10))

theorem ref02_Heap_cut_is (k : Nat) (x0 : Option Addr) (x1 : Int) (σ : AMem) : ref02_Heap_cut k x0 x1 σ = d_ref02_Heap_cut k x0 x1 σ := by
  cases k with
  | zero => rfl
  | succ k => rw [ref02_Heap_cut_eq, d_ref02_Heap_cut]

noncomputable def d_ref02_Heap_Kill (k : Nat) (x0 : Option Addr) (x1 : Int) (σ : AMem) : Option (Value × AMem) := match k with
  | 0 => none
  | k + 1 => ((d_ref02_Heap_lacks k x0 x1 σ).bind fun r1 => (toI .i64 r1.1).bind fun n2 => bif n2 != (0 : Int) then (some (.int .i64 n2, r1.2)) else ((d_ref02_Heap_Index k x0 x1 r1.2).bind fun r3 => (toI .i64 r3.1).bind fun n4 => (d_ref02_Heap_cut k x0 n4 r3.2).bind fun r5 => r_0 r5.1 (some (.int .i64 (0 : Int), r5.2))))

theorem ref02_Heap_Kill_is (k : Nat) (x0 : Option Addr) (x1 : Int) (σ : AMem) : ref02_Heap_Kill k x0 x1 σ = d_ref02_Heap_Kill k x0 x1 σ := by
  cases k with
  | zero => rfl
  | succ k => rw [ref02_Heap_Kill_eq, d_ref02_Heap_Kill]; simp only [ref02_Heap_lacks_is, ref02_Heap_cut_is, ref02_Heap_Index_is]

noncomputable def d_ref02_Heap_Move_l0 (k n : Nat) (p0 : Option Addr) (i1 : Int) (x11 : Option Addr × Nat × Nat) (x12 : Int) (σ : AMem) : Option LOut := match n with
  | 0 => none
  | n + 1 => (p0.bind fun a36 => (ldS σ a36.block (a36.off + 2)).bind fun l37 => bif decide (x12 < ((l37.2.1 : Nat) : Int)) then (p0.bind fun a38 => (ldS σ a38.block (a38.off + 2)).bind fun l39 => if 0 ≤ x12 ∧ x12 < (l39.2.1 : Nat) then l39.1.bind fun a40 => (ldI .i64 σ a40.block (a40.off + x12.toNat * 2 + 0)).bind fun n41 => (bif n41 != i1 then (p0.bind fun a42 => (ldS σ a42.block (a42.off + 2)).bind fun l43 => if 0 ≤ x12 ∧ x12 < (l43.2.1 : Nat) then l43.1.bind fun a44 => (ldI .i64 σ a44.block (a44.off + x12.toNat * 2)).bind fun n45 => (ldI .i64 σ a44.block (a44.off + x12.toNat * 2 + 1)).bind fun n46 => allocK σ (.cells [.int .i64 n45, .int .i64 n46] 107 true) fun h47 s48 => (appendD P 107 (x11.1, x11.2.1, x11.2.2) (some ⟨h47, 0, none⟩, 1, 1) s48).bind fun r49 => some (.normal, [.slice r49.1.1 r49.1.2.1 r49.1.2.2], r49.2) else none) else (some (.normal, [.slice x11.1 x11.2.1 x11.2.2], σ)) : Option LOut).bind fun r50 => if r50.1 = .normal then (u_l r50.2.1 fun l51 => d_ref02_Heap_Move_l0 k n p0 i1 (l51.1, l51.2.1, l51.2.2) (w64 (x12 + (1 : Int))) r50.2.2) else none else none) else (some (.exit 0, [.slice x11.1 x11.2.1 x11.2.2], σ)))
termination_by structural n

theorem ref02_Heap_Move_l0_is (k n : Nat) (p0 : Option Addr) (i1 : Int) (x11 : Option Addr × Nat × Nat) (x12 : Int) (σ : AMem) : ref02_Heap_Move_l0 k n p0 i1 x11 x12 σ = d_ref02_Heap_Move_l0 k n p0 i1 x11 x12 σ := by
  induction n generalizing p0 i1 x11 x12 σ with
  | zero => rfl
  | succ n ih => rw [ref02_Heap_Move_l0_eq, d_ref02_Heap_Move_l0]; simp only [ref02_Heap_fits_is, ref02_Heap_put_is, ref02_Heap_lacks_is, ref02_Heap_cut_is, ref02_Heap_Index_is, ih]

noncomputable def d_ref02_Heap_Move (k : Nat) (x0 : Option Addr) (x1 : Int) (x2 : Int) (σ : AMem) : Option (Value × AMem) := match k with
  | 0 => none
  | k + 1 => ((d_ref02_Heap_lacks k x0 x1 σ).bind fun r1 => (toI .i64 r1.1).bind fun n2 => bif n2 != (0 : Int) then (some (.int .i64 n2, r1.2)) else ((d_ref02_Heap_Index k x0 x1 r1.2).bind fun r3 => (toI .i64 r3.1).bind fun n4 => x0.bind fun a5 => (ldS r3.2 a5.block (a5.off + 1)).bind fun l6 => if 0 ≤ n4 ∧ n4 < (l6.2.1 : Nat) then l6.1.bind fun a7 => (ldI .i64 r3.2 a7.block (a7.off + n4.toNat * 8)).bind fun n8 => (ldI .i64 r3.2 a7.block (a7.off + n4.toNat * 8 + 1)).bind fun n9 => (ldI .i64 r3.2 a7.block (a7.off + n4.toNat * 8 + 1 + 1)).bind fun n10 => (ldI .i64 r3.2 a7.block (a7.off + n4.toNat * 8 + 1 + 1 + 1)).bind fun n11 => (ldI .i64 r3.2 a7.block (a7.off + n4.toNat * 8 + 1 + 1 + 1 + 1)).bind fun n12 => (ldS r3.2 a7.block (a7.off + n4.toNat * 8 + 1 + 1 + 1 + 1 + 1)).bind fun l13 => (ldS r3.2 a7.block (a7.off + n4.toNat * 8 + 1 + 1 + 1 + 1 + 1 + 1)).bind fun l14 => (ldB r3.2 a7.block (a7.off + n4.toNat * 8 + 1 + 1 + 1 + 1 + 1 + 1 + 1)).bind fun b15 => allocK r3.2 (.cells [.int .i64 (0 : Int), .int .i64 (0 : Int), .int .i64 (0 : Int), .int .i64 (0 : Int), .int .i64 (0 : Int), .slice none 0 0, .slice none 0 0, .bool false] 79 true) fun h16 s17 => (stN s17 h16 0 [.int .i64 n8, .int .i64 n9, .int .i64 n10, .int .i64 n11, .int .i64 n12, .slice l13.1 l13.2.1 l13.2.2, .slice l14.1 l14.2.1 l14.2.2, .bool b15]).bind fun s18 => (ldI .i64 s18 h16 (0 + 2)).bind fun n19 => (ldI .i64 s18 h16 (0 + 2 + 1)).bind fun n20 => (ldI .i64 s18 h16 (0 + 2 + 1 + 1)).bind fun n21 => (ldI .i64 s18 h16 (0 + 1)).bind fun n22 => (d_ref02_Heap_fits k x0 x2 n19 n20 n21 n22 s18).bind fun r23 => (toI .i64 r23.1).bind fun n24 => bif n24 != (0 : Int) then (some (.int .i64 n24, r23.2)) else ((d_ref02_Heap_cut k x0 n4 r23.2).bind fun r25 => r_0 r25.1 ((st1 r25.2 h16 (0 + 0) (.int .i64 x2)).bind fun s26 => (ldI .i64 s26 h16 0).bind fun n27 => (ldI .i64 s26 h16 (0 + 1)).bind fun n28 => (ldI .i64 s26 h16 (0 + 1 + 1)).bind fun n29 => (ldI .i64 s26 h16 (0 + 1 + 1 + 1)).bind fun n30 => (ldI .i64 s26 h16 (0 + 1 + 1 + 1 + 1)).bind fun n31 => (ldS s26 h16 (0 + 1 + 1 + 1 + 1 + 1)).bind fun l32 => (ldS s26 h16 (0 + 1 + 1 + 1 + 1 + 1 + 1)).bind fun l33 => (ldB s26 h16 (0 + 1 + 1 + 1 + 1 + 1 + 1 + 1)).bind fun b34 => (d_ref02_Heap_put k x0 n27 n28 n29 n30 n31 (l32.1, l32.2.1, l32.2.2) (l33.1, l33.2.1, l33.2.2) b34 s26).bind fun r35 => r_0 r35.1 ((d_ref02_Heap_Move_l0 k k x0 x1 (none, 0, 0) (0 : Int) r35.2).bind fun r52 => if r52.1 = .exit 0 then (u_l r52.2.1 fun l53 => allocK r52.2.2 (.cells [.int .i64 x1, .int .i64 x2] 107 true) fun h54 s55 => (appendD P 107 (l53.1, l53.2.1, l53.2.2) (some ⟨h54, 0, none⟩, 1, 1) s55).bind fun r56 => x0.bind fun a57 => (st1 r56.2 a57.block (a57.off + 2) (.slice r56.1.1 r56.1.2.1 r56.1.2.2)).bind fun s58 => some (.int .i64 (0 : Int), s58)) else none))) else none))

theorem ref02_Heap_Move_is (k : Nat) (x0 : Option Addr) (x1 : Int) (x2 : Int) (σ : AMem) : ref02_Heap_Move k x0 x1 x2 σ = d_ref02_Heap_Move k x0 x1 x2 σ := by
  cases k with
  | zero => rfl
  | succ k => rw [ref02_Heap_Move_eq, d_ref02_Heap_Move]; simp only [ref02_Heap_fits_is, ref02_Heap_put_is, ref02_Heap_lacks_is, ref02_Heap_cut_is, ref02_Heap_Index_is, ref02_Heap_Move_l0_is]

noncomputable def d_heap_Heap_field (k : Nat) (x0 : Option Addr) (x1 : Int) (x2 : Int) (x3 : Bool) (σ : AMem) : Option (Value × AMem) := match k with
  | 0 => none
  | k + 1 => ((d_heap_Heap_object k x0 x1 σ).bind fun r1 => (toI .i64 r1.1).bind fun n2 => bif n2 != (0 : Int) then (some (.tuple #[.int .i64 (0 : Int), .int .i64 n2], r1.2)) else (x0.bind fun a3 => (ldS r1.2 a3.block (a3.off + 1)).bind fun l4 => if 0 ≤ (w64 (x1 + (1 : Int))) ∧ (w64 (x1 + (1 : Int))) < (l4.2.1 : Nat) then l4.1.bind fun a5 => (ldI .i64 r1.2 a5.block (a5.off + (w64 (x1 + (1 : Int))).toNat * 1)).bind fun n6 => (d_heap_shape k n6 r1.2).bind fun r7 => a_iii r7.1 fun n8 n9 n10 => allocK r7.2 (.cells [.int .i64 (0 : Int), .int .i64 (0 : Int), .int .i64 (0 : Int)] 33 true) fun h11 s12 => (stN s12 h11 0 [.int .i64 n8, .int .i64 n9, .int .i64 n10]).bind fun s13 => (ldI .i64 s13 h11 (0 + 0)).bind fun n14 => (bif x3 then ((ldI .i64 s13 h11 (0 + 0)).bind fun n15 => (ldI .i64 s13 h11 (0 + 1)).bind fun n16 => some (.normal, [.int .i64 (w64 ((w64 (x1 + (2 : Int))) + n15)), .int .i64 n16], s13)) else (some (.normal, [.int .i64 (w64 (x1 + (2 : Int))), .int .i64 n14], s13)) : Option LOut).bind fun r17 => if r17.1 = .normal then (u_ii r17.2.1 fun n18 n19 => (bif decide (x2 < (0 : Int)) then some (true, r17.2.2) else some (decide (x2 ≥ n19), r17.2.2)).bind fun r20 => bif r20.1 then (some (.tuple #[.int .i64 (0 : Int), .int .i64 (1 : Int)], r20.2)) else (some (.tuple #[.int .i64 (w64 (n18 + x2)), .int .i64 (0 : Int)], r20.2))) else none else none))

theorem heap_Heap_field_is (k : Nat) (x0 : Option Addr) (x1 : Int) (x2 : Int) (x3 : Bool) (σ : AMem) : heap_Heap_field k x0 x1 x2 x3 σ = d_heap_Heap_field k x0 x1 x2 x3 σ := by
  cases k with
  | zero => rfl
  | succ k => rw [heap_Heap_field_eq, d_heap_Heap_field]; simp only [heap_Heap_object_is, heap_shape_is]

noncomputable def d_heap_Heap_SetRef (k : Nat) (x0 : Option Addr) (x1 : Int) (x2 : Int) (x3 : Int) (σ : AMem) : Option (Value × AMem) := match k with
  | 0 => none
  | k + 1 => ((d_heap_Heap_field k x0 x1 x2 false σ).bind fun r1 => r_ii r1.1 fun n2 n3 => bif n3 != (0 : Int) then (some (.int .i64 n3, r1.2)) else ((bif x3 != (0 : Int) then (d_heap_Heap_Has k x0 x3 r1.2).bind fun r4 => (toB r4.1).bind fun b5 => some (!b5, r4.2) else some (false, r1.2)).bind fun r6 => bif r6.1 then (some (.int .i64 (1 : Int), r6.2)) else (x0.bind fun a7 => (ldS r6.2 a7.block (a7.off + 1)).bind fun l8 => if 0 ≤ n2 ∧ n2 < (l8.2.1 : Nat) then l8.1.bind fun a9 => (st1 r6.2 a9.block (a9.off + n2.toNat * 1) (.int .i64 x3)).bind fun s10 => some (.int .i64 (0 : Int), s10) else none)))

theorem heap_Heap_SetRef_is (k : Nat) (x0 : Option Addr) (x1 : Int) (x2 : Int) (x3 : Int) (σ : AMem) : heap_Heap_SetRef k x0 x1 x2 x3 σ = d_heap_Heap_SetRef k x0 x1 x2 x3 σ := by
  cases k with
  | zero => rfl
  | succ k => rw [heap_Heap_SetRef_eq, d_heap_Heap_SetRef]; simp only [heap_Heap_Has_is, heap_Heap_field_is]

noncomputable def d_ref02_Heap_Has (k : Nat) (x0 : Option Addr) (x1 : Int) (σ : AMem) : Option (Value × AMem) := match k with
  | 0 => none
  | k + 1 => ((d_ref02_Heap_Index k x0 x1 σ).bind fun r1 => (toI .i64 r1.1).bind fun n2 => some (.bool (decide (n2 ≥ (0 : Int))), r1.2))

theorem ref02_Heap_Has_is (k : Nat) (x0 : Option Addr) (x1 : Int) (σ : AMem) : ref02_Heap_Has k x0 x1 σ = d_ref02_Heap_Has k x0 x1 σ := by
  cases k with
  | zero => rfl
  | succ k => rw [ref02_Heap_Has_eq, d_ref02_Heap_Has]; simp only [ref02_Heap_Index_is]

noncomputable def d_ref02_Heap_SetRef (k : Nat) (x0 : Option Addr) (x1 : Int) (x2 : Int) (x3 : Int) (σ : AMem) : Option (Value × AMem) := match k with
  | 0 => none
  | k + 1 => ((d_ref02_Heap_lacks k x0 x1 σ).bind fun r1 => (toI .i64 r1.1).bind fun n2 => bif n2 != (0 : Int) then (some (.int .i64 n2, r1.2)) else ((d_ref02_Heap_Index k x0 x1 r1.2).bind fun r3 => (toI .i64 r3.1).bind fun n4 => (bif decide (x2 < (0 : Int)) then some (true, r3.2) else x0.bind fun a5 => (ldS r3.2 a5.block (a5.off + 1)).bind fun l6 => if 0 ≤ n4 ∧ n4 < (l6.2.1 : Nat) then l6.1.bind fun a7 => (ldS r3.2 a7.block (a7.off + n4.toNat * 8 + 5)).bind fun l8 => some (decide (x2 ≥ ((l8.2.1 : Nat) : Int)), r3.2) else none).bind fun r9 => (bif r9.1 then some (true, r9.2) else (bif x3 != (0 : Int) then (d_ref02_Heap_Has k x0 x3 r9.2).bind fun r10 => (toB r10.1).bind fun b11 => some (!b11, r10.2) else some (false, r9.2)).bind fun r12 => some (r12.1, r12.2)).bind fun r13 => bif r13.1 then (some (.int .i64 (1 : Int), r13.2)) else (x0.bind fun a14 => (ldS r13.2 a14.block (a14.off + 1)).bind fun l15 => if 0 ≤ n4 ∧ n4 < (l15.2.1 : Nat) then l15.1.bind fun a16 => (ldS r13.2 a16.block (a16.off + n4.toNat * 8 + 5)).bind fun l17 => if 0 ≤ x2 ∧ x2 < (l17.2.1 : Nat) then l17.1.bind fun a18 => (st1 r13.2 a18.block (a18.off + x2.toNat * 1) (.int .i64 x3)).bind fun s19 => some (.int .i64 (0 : Int), s19) else none else none)))

theorem ref02_Heap_SetRef_is (k : Nat) (x0 : Option Addr) (x1 : Int) (x2 : Int) (x3 : Int) (σ : AMem) : ref02_Heap_SetRef k x0 x1 x2 x3 σ = d_ref02_Heap_SetRef k x0 x1 x2 x3 σ := by
  cases k with
  | zero => rfl
  | succ k => rw [ref02_Heap_SetRef_eq, d_ref02_Heap_SetRef]; simp only [ref02_Heap_Has_is, ref02_Heap_lacks_is, ref02_Heap_Index_is]

noncomputable def d_heap_Heap_SetData (k : Nat) (x0 : Option Addr) (x1 : Int) (x2 : Int) (x3 : Int) (σ : AMem) : Option (Value × AMem) := match k with
  | 0 => none
  | k + 1 => ((d_heap_Heap_field k x0 x1 x2 true σ).bind fun r1 => r_ii r1.1 fun n2 n3 => bif n3 != (0 : Int) then (some (.int .i64 n3, r1.2)) else (x0.bind fun a4 => (ldS r1.2 a4.block (a4.off + 1)).bind fun l5 => if 0 ≤ n2 ∧ n2 < (l5.2.1 : Nat) then l5.1.bind fun a6 => (st1 r1.2 a6.block (a6.off + n2.toNat * 1) (.int .i64 x3)).bind fun s7 => some (.int .i64 (0 : Int), s7) else none))

theorem heap_Heap_SetData_is (k : Nat) (x0 : Option Addr) (x1 : Int) (x2 : Int) (x3 : Int) (σ : AMem) : heap_Heap_SetData k x0 x1 x2 x3 σ = d_heap_Heap_SetData k x0 x1 x2 x3 σ := by
  cases k with
  | zero => rfl
  | succ k => rw [heap_Heap_SetData_eq, d_heap_Heap_SetData]; simp only [heap_Heap_field_is]

noncomputable def d_ref02_Heap_SetData (k : Nat) (x0 : Option Addr) (x1 : Int) (x2 : Int) (x3 : Int) (σ : AMem) : Option (Value × AMem) := match k with
  | 0 => none
  | k + 1 => ((d_ref02_Heap_lacks k x0 x1 σ).bind fun r1 => (toI .i64 r1.1).bind fun n2 => bif n2 != (0 : Int) then (some (.int .i64 n2, r1.2)) else ((d_ref02_Heap_Index k x0 x1 r1.2).bind fun r3 => (toI .i64 r3.1).bind fun n4 => (bif decide (x2 < (0 : Int)) then some (true, r3.2) else x0.bind fun a5 => (ldS r3.2 a5.block (a5.off + 1)).bind fun l6 => if 0 ≤ n4 ∧ n4 < (l6.2.1 : Nat) then l6.1.bind fun a7 => (ldS r3.2 a7.block (a7.off + n4.toNat * 8 + 6)).bind fun l8 => some (decide (x2 ≥ ((l8.2.1 : Nat) : Int)), r3.2) else none).bind fun r9 => bif r9.1 then (some (.int .i64 (1 : Int), r9.2)) else (x0.bind fun a10 => (ldS r9.2 a10.block (a10.off + 1)).bind fun l11 => if 0 ≤ n4 ∧ n4 < (l11.2.1 : Nat) then l11.1.bind fun a12 => (ldS r9.2 a12.block (a12.off + n4.toNat * 8 + 6)).bind fun l13 => if 0 ≤ x2 ∧ x2 < (l13.2.1 : Nat) then l13.1.bind fun a14 => (st1 r9.2 a14.block (a14.off + x2.toNat * 1) (.int .i64 x3)).bind fun s15 => some (.int .i64 (0 : Int), s15) else none else none)))

theorem ref02_Heap_SetData_is (k : Nat) (x0 : Option Addr) (x1 : Int) (x2 : Int) (x3 : Int) (σ : AMem) : ref02_Heap_SetData k x0 x1 x2 x3 σ = d_ref02_Heap_SetData k x0 x1 x2 x3 σ := by
  cases k with
  | zero => rfl
  | succ k => rw [ref02_Heap_SetData_eq, d_ref02_Heap_SetData]; simp only [ref02_Heap_lacks_is, ref02_Heap_Index_is]

noncomputable def d_heap_Heap_Word (k : Nat) (x0 : Option Addr) (x1 : Int) (σ : AMem) : Option (Value × AMem) := match k with
  | 0 => none
  | k + 1 => ((d_heap_Heap_made k x0 σ).bind fun r1 => (toB r1.1).bind fun b2 => bif !b2 then (some (.tuple #[.int .i64 (0 : Int), .int .i64 (5 : Int)], r1.2)) else ((bif decide (x1 < (0 : Int)) then some (true, r1.2) else x0.bind fun a3 => (ldS r1.2 a3.block (a3.off + 1)).bind fun l4 => some (decide (x1 ≥ ((l4.2.1 : Nat) : Int)), r1.2)).bind fun r5 => bif r5.1 then (some (.tuple #[.int .i64 (0 : Int), .int .i64 (1 : Int)], r5.2)) else (x0.bind fun a6 => (ldS r5.2 a6.block (a6.off + 1)).bind fun l7 => if 0 ≤ x1 ∧ x1 < (l7.2.1 : Nat) then l7.1.bind fun a8 => (ldI .i64 r5.2 a8.block (a8.off + x1.toNat * 1)).bind fun n9 => some (.tuple #[.int .i64 n9, .int .i64 (0 : Int)], r5.2) else none)))

theorem heap_Heap_Word_is (k : Nat) (x0 : Option Addr) (x1 : Int) (σ : AMem) : heap_Heap_Word k x0 x1 σ = d_heap_Heap_Word k x0 x1 σ := by
  cases k with
  | zero => rfl
  | succ k => rw [heap_Heap_Word_eq, d_heap_Heap_Word]; simp only [heap_Heap_made_is]

noncomputable def d_heap_Heap_Poke (k : Nat) (x0 : Option Addr) (x1 : Int) (x2 : Int) (σ : AMem) : Option (Value × AMem) := match k with
  | 0 => none
  | k + 1 => ((d_heap_Heap_Word k x0 x1 σ).bind fun r1 => r_ii r1.1 fun n2 n3 => bif n3 != (0 : Int) then (some (.int .i64 n3, r1.2)) else ((d_heap_Heap_Find k x0 x1 r1.2).bind fun r4 => r_ii r4.1 fun n5 n6 => bif n6 != (0 : Int) then (some (.int .i64 n6, r4.2)) else (x0.bind fun a7 => (ldS r4.2 a7.block (a7.off + 1)).bind fun l8 => if 0 ≤ (w64 (n5 + (1 : Int))) ∧ (w64 (n5 + (1 : Int))) < (l8.2.1 : Nat) then l8.1.bind fun a9 => (ldI .i64 r4.2 a9.block (a9.off + (w64 (n5 + (1 : Int))).toNat * 1)).bind fun n10 => (d_heap_shape k n10 r4.2).bind fun r11 => a_iii r11.1 fun n12 n13 n14 => allocK r11.2 (.cells [.int .i64 (0 : Int), .int .i64 (0 : Int), .int .i64 (0 : Int)] 33 true) fun h15 s16 => (stN s16 h15 0 [.int .i64 n12, .int .i64 n13, .int .i64 n14]).bind fun s17 => (bif decide (x1 < (w64 (n5 + (2 : Int)))) then some (true, s17) else (ldI .i64 s17 h15 (0 + 0)).bind fun n18 => (ldI .i64 s17 h15 (0 + 1)).bind fun n19 => some (decide (x1 ≥ (w64 ((w64 ((w64 (n5 + (2 : Int))) + n18)) + n19))), s17)).bind fun r20 => bif r20.1 then (some (.int .i64 (4 : Int), r20.2)) else (x0.bind fun a21 => (ldS r20.2 a21.block (a21.off + 1)).bind fun l22 => if 0 ≤ x1 ∧ x1 < (l22.2.1 : Nat) then l22.1.bind fun a23 => (st1 r20.2 a23.block (a23.off + x1.toNat * 1) (.int .i64 x2)).bind fun s24 => some (.int .i64 (0 : Int), s24) else none) else none)))

theorem heap_Heap_Poke_is (k : Nat) (x0 : Option Addr) (x1 : Int) (x2 : Int) (σ : AMem) : heap_Heap_Poke k x0 x1 x2 σ = d_heap_Heap_Poke k x0 x1 x2 σ := by
  cases k with
  | zero => rfl
  | succ k => rw [heap_Heap_Poke_eq, d_heap_Heap_Poke]; simp only [heap_Heap_Word_is, heap_Heap_Find_is, heap_shape_is]

noncomputable def d_ref02_Heap_Find_l0 (k n : Nat) (p0 : Option Addr) (i1 : Int) (x6 : Int) (σ : AMem) : Option LOut := match n with
  | 0 => none
  | n + 1 => (p0.bind fun a3 => (ldS σ a3.block (a3.off + 1)).bind fun l4 => bif decide (x6 < ((l4.2.1 : Nat) : Int)) then (p0.bind fun a5 => (ldS σ a5.block (a5.off + 1)).bind fun l6 => if 0 ≤ x6 ∧ x6 < (l6.2.1 : Nat) then l6.1.bind fun a7 => (ldI .i64 σ a7.block (a7.off + x6.toNat * 8 + 0)).bind fun n8 => (bif decide (i1 ≥ n8) then p0.bind fun a9 => (ldS σ a9.block (a9.off + 1)).bind fun l10 => if 0 ≤ x6 ∧ x6 < (l10.2.1 : Nat) then l10.1.bind fun a11 => (ldI .i64 σ a11.block (a11.off + x6.toNat * 8 + 0)).bind fun n12 => p0.bind fun a13 => (ldS σ a13.block (a13.off + 1)).bind fun l14 => if 0 ≤ x6 ∧ x6 < (l14.2.1 : Nat) then l14.1.bind fun a15 => (ldI .i64 σ a15.block (a15.off + x6.toNat * 8 + 2)).bind fun n16 => (ldI .i64 σ a15.block (a15.off + x6.toNat * 8 + 2 + 1)).bind fun n17 => (ldI .i64 σ a15.block (a15.off + x6.toNat * 8 + 2 + 1 + 1)).bind fun n18 => (d_ref02_Words k n16 n17 n18 σ).bind fun r19 => quietly σ r19.2 ((toI .i64 r19.1).bind fun n20 => some (decide (i1 < (w64 (n12 + n20))), r19.2)) else none else none else some (false, σ)).bind fun r21 => bif r21.1 then (p0.bind fun a22 => (ldS r21.2 a22.block (a22.off + 1)).bind fun l23 => if 0 ≤ x6 ∧ x6 < (l23.2.1 : Nat) then l23.1.bind fun a24 => (ldI .i64 r21.2 a24.block (a24.off + x6.toNat * 8 + 0)).bind fun n25 => some (.ret, [.int .i64 n25, .int .i64 (0 : Int)], r21.2) else none) else (d_ref02_Heap_Find_l0 k n p0 i1 (w64 (x6 + (1 : Int))) r21.2) else none) else (some (.exit 0, [], σ)))
termination_by structural n

theorem ref02_Heap_Find_l0_is (k n : Nat) (p0 : Option Addr) (i1 : Int) (x6 : Int) (σ : AMem) : ref02_Heap_Find_l0 k n p0 i1 x6 σ = d_ref02_Heap_Find_l0 k n p0 i1 x6 σ := by
  induction n generalizing p0 i1 x6 σ with
  | zero => rfl
  | succ n ih => rw [ref02_Heap_Find_l0_eq, d_ref02_Heap_Find_l0]; simp only [ref02_Heap_Made_is, ref02_Words_is, ih]

noncomputable def d_ref02_Heap_Find (k : Nat) (x0 : Option Addr) (x1 : Int) (σ : AMem) : Option (Value × AMem) := match k with
  | 0 => none
  | k + 1 => ((d_ref02_Heap_Made k x0 σ).bind fun r1 => (toB r1.1).bind fun b2 => bif !b2 then (some (.tuple #[.int .i64 (0 : Int), .int .i64 (5 : Int)], r1.2)) else ((d_ref02_Heap_Find_l0 k k x0 x1 (0 : Int) r1.2).bind fun r26 => if r26.1 = .exit 0 then (some (.tuple #[.int .i64 (0 : Int), .int .i64 (4 : Int)], r26.2.2)) else if r26.1 = .ret then (u_ii r26.2.1 fun n27 n28 => some (.tuple #[.int .i64 n27, .int .i64 n28], r26.2.2)) else none))

theorem ref02_Heap_Find_is (k : Nat) (x0 : Option Addr) (x1 : Int) (σ : AMem) : ref02_Heap_Find k x0 x1 σ = d_ref02_Heap_Find k x0 x1 σ := by
  cases k with
  | zero => rfl
  | succ k => rw [ref02_Heap_Find_eq, d_ref02_Heap_Find]; simp only [ref02_Heap_Made_is, ref02_Words_is, ref02_Heap_Find_l0_is]

noncomputable def d_ref02_Heap_word (k : Nat) (x0 : Option Addr) (x1 : Int) (σ : AMem) : Option (Value × AMem) := match k with
  | 0 => none
  | k + 1 => ((bif decide (x1 ≥ (0 : Int)) then x0.bind fun a1 => (ldS σ a1.block (a1.off + 0)).bind fun l2 => some (decide (x1 < (w64 (((l2.2.1 : Nat) : Int) * (64 : Int)))), σ) else some (false, σ)).bind fun r3 => some (.bool r3.1, r3.2))

theorem ref02_Heap_word_is (k : Nat) (x0 : Option Addr) (x1 : Int) (σ : AMem) : ref02_Heap_word k x0 x1 σ = d_ref02_Heap_word k x0 x1 σ := by
  cases k with
  | zero => rfl
  | succ k => rw [ref02_Heap_word_eq, d_ref02_Heap_word]

noncomputable def d_ref02_Heap_Poke (k : Nat) (x0 : Option Addr) (x1 : Int) (x2 : Int) (σ : AMem) : Option (Value × AMem) := match k with
  | 0 => none
  | k + 1 => ((d_ref02_Heap_Made k x0 σ).bind fun r1 => (toB r1.1).bind fun b2 => bif !b2 then (some (.int .i64 (5 : Int), r1.2)) else ((d_ref02_Heap_word k x0 x1 r1.2).bind fun r3 => (toB r3.1).bind fun b4 => bif !b4 then (some (.int .i64 (1 : Int), r3.2)) else ((d_ref02_Heap_Find k x0 x1 r3.2).bind fun r5 => r_ii r5.1 fun n6 n7 => bif n7 != (0 : Int) then (some (.int .i64 (4 : Int), r5.2)) else ((d_ref02_Heap_Index k x0 n6 r5.2).bind fun r8 => (toI .i64 r8.1).bind fun n9 => x0.bind fun a10 => (ldS r8.2 a10.block (a10.off + 1)).bind fun l11 => if 0 ≤ n9 ∧ n9 < (l11.2.1 : Nat) then l11.1.bind fun a12 => (ldS r8.2 a12.block (a12.off + n9.toNat * 8 + 5)).bind fun l13 => (bif decide ((w64 ((w64 (x1 - n6)) - (2 : Int))) < (0 : Int)) then some (true, r8.2) else x0.bind fun a14 => (ldS r8.2 a14.block (a14.off + 1)).bind fun l15 => if 0 ≤ n9 ∧ n9 < (l15.2.1 : Nat) then l15.1.bind fun a16 => (ldS r8.2 a16.block (a16.off + n9.toNat * 8 + 6)).bind fun l17 => some (decide ((w64 ((w64 (x1 - n6)) - (2 : Int))) ≥ (w64 (((l13.2.1 : Nat) : Int) + ((l17.2.1 : Nat) : Int)))), r8.2) else none).bind fun r18 => bif r18.1 then (some (.int .i64 (4 : Int), r18.2)) else ((bif decide ((w64 ((w64 (x1 - n6)) - (2 : Int))) < ((l13.2.1 : Nat) : Int)) then (x0.bind fun a19 => (ldS r18.2 a19.block (a19.off + 1)).bind fun l20 => if 0 ≤ n9 ∧ n9 < (l20.2.1 : Nat) then l20.1.bind fun a21 => (ldS r18.2 a21.block (a21.off + n9.toNat * 8 + 5)).bind fun l22 => if 0 ≤ (w64 ((w64 (x1 - n6)) - (2 : Int))) ∧ (w64 ((w64 (x1 - n6)) - (2 : Int))) < (l22.2.1 : Nat) then l22.1.bind fun a23 => (st1 r18.2 a23.block (a23.off + (w64 ((w64 (x1 - n6)) - (2 : Int))).toNat * 1) (.int .i64 x2)).bind fun s24 => some (.normal, [], s24) else none else none) else (x0.bind fun a25 => (ldS r18.2 a25.block (a25.off + 1)).bind fun l26 => if 0 ≤ n9 ∧ n9 < (l26.2.1 : Nat) then l26.1.bind fun a27 => (ldS r18.2 a27.block (a27.off + n9.toNat * 8 + 6)).bind fun l28 => if 0 ≤ (w64 ((w64 ((w64 (x1 - n6)) - (2 : Int))) - ((l13.2.1 : Nat) : Int))) ∧ (w64 ((w64 ((w64 (x1 - n6)) - (2 : Int))) - ((l13.2.1 : Nat) : Int))) < (l28.2.1 : Nat) then l28.1.bind fun a29 => (st1 r18.2 a29.block (a29.off + (w64 ((w64 ((w64 (x1 - n6)) - (2 : Int))) - ((l13.2.1 : Nat) : Int))).toNat * 1) (.int .i64 x2)).bind fun s30 => some (.normal, [], s30) else none else none) : Option LOut).bind fun r31 => if r31.1 = .normal then (some (.int .i64 (0 : Int), r31.2.2)) else none) else none))))

theorem ref02_Heap_Poke_is (k : Nat) (x0 : Option Addr) (x1 : Int) (x2 : Int) (σ : AMem) : ref02_Heap_Poke k x0 x1 x2 σ = d_ref02_Heap_Poke k x0 x1 x2 σ := by
  cases k with
  | zero => rfl
  | succ k => rw [ref02_Heap_Poke_eq, d_ref02_Heap_Poke]; simp only [ref02_Heap_Made_is, ref02_Heap_Find_is, ref02_Heap_Index_is, ref02_Heap_word_is]

noncomputable def d_heap_Heap_pin (k : Nat) (x0 : Option Addr) (x1 : Int) (x2 : Int) (σ : AMem) : Option (Value × AMem) := match k with
  | 0 => none
  | k + 1 => ((d_heap_Heap_object k x0 x1 σ).bind fun r1 => (toI .i64 r1.1).bind fun n2 => bif n2 != (0 : Int) then (some (.int .i64 n2, r1.2)) else (x0.bind fun a3 => (ldP r1.2 a3.block (a3.off + 3)).bind fun p4 => if (2 : Int) = 0 then none else (d_side_Table_Set k p4 (w64 (x1.tdiv (2 : Int))) x2 r1.2).bind fun r5 => (toI .i64 r5.1).bind fun n6 => some (.int .i64 (0 : Int), r5.2)))

theorem heap_Heap_pin_is (k : Nat) (x0 : Option Addr) (x1 : Int) (x2 : Int) (σ : AMem) : heap_Heap_pin k x0 x1 x2 σ = d_heap_Heap_pin k x0 x1 x2 σ := by
  cases k with
  | zero => rfl
  | succ k => rw [heap_Heap_pin_eq, d_heap_Heap_pin]; simp only [side_Table_Set_is, heap_Heap_object_is]

noncomputable def d_heap_Heap_Pin (k : Nat) (x0 : Option Addr) (x1 : Int) (σ : AMem) : Option (Value × AMem) := match k with
  | 0 => none
  | k + 1 => ((d_heap_Heap_pin k x0 x1 (1 : Int) σ).bind fun r1 => (toI .i64 r1.1).bind fun n2 => some (.int .i64 n2, r1.2))

theorem heap_Heap_Pin_is (k : Nat) (x0 : Option Addr) (x1 : Int) (σ : AMem) : heap_Heap_Pin k x0 x1 σ = d_heap_Heap_Pin k x0 x1 σ := by
  cases k with
  | zero => rfl
  | succ k => rw [heap_Heap_Pin_eq, d_heap_Heap_Pin]; simp only [heap_Heap_pin_is]

noncomputable def d_ref02_Heap_pin (k : Nat) (x0 : Option Addr) (x1 : Int) (x2 : Bool) (σ : AMem) : Option (Value × AMem) := match k with
  | 0 => none
  | k + 1 => ((d_ref02_Heap_lacks k x0 x1 σ).bind fun r1 => (toI .i64 r1.1).bind fun n2 => bif n2 != (0 : Int) then (some (.int .i64 n2, r1.2)) else (x0.bind fun a3 => (ldS r1.2 a3.block (a3.off + 1)).bind fun l4 => (d_ref02_Heap_Index k x0 x1 r1.2).bind fun r5 => quietly r1.2 r5.2 ((toI .i64 r5.1).bind fun n6 => if 0 ≤ n6 ∧ n6 < (l4.2.1 : Nat) then l4.1.bind fun a7 => (st1 r5.2 a7.block (a7.off + n6.toNat * 8 + 7) (.bool x2)).bind fun s8 => some (.int .i64 (0 : Int), s8) else none)))

theorem ref02_Heap_pin_is (k : Nat) (x0 : Option Addr) (x1 : Int) (x2 : Bool) (σ : AMem) : ref02_Heap_pin k x0 x1 x2 σ = d_ref02_Heap_pin k x0 x1 x2 σ := by
  cases k with
  | zero => rfl
  | succ k => rw [ref02_Heap_pin_eq, d_ref02_Heap_pin]; simp only [ref02_Heap_lacks_is, ref02_Heap_Index_is]

noncomputable def d_ref02_Heap_Pin (k : Nat) (x0 : Option Addr) (x1 : Int) (σ : AMem) : Option (Value × AMem) := match k with
  | 0 => none
  | k + 1 => ((d_ref02_Heap_pin k x0 x1 true σ).bind fun r1 => (toI .i64 r1.1).bind fun n2 => some (.int .i64 n2, r1.2))

theorem ref02_Heap_Pin_is (k : Nat) (x0 : Option Addr) (x1 : Int) (σ : AMem) : ref02_Heap_Pin k x0 x1 σ = d_ref02_Heap_Pin k x0 x1 σ := by
  cases k with
  | zero => rfl
  | succ k => rw [ref02_Heap_Pin_eq, d_ref02_Heap_Pin]; simp only [ref02_Heap_pin_is]

noncomputable def d_heap_Heap_Unpin (k : Nat) (x0 : Option Addr) (x1 : Int) (σ : AMem) : Option (Value × AMem) := match k with
  | 0 => none
  | k + 1 => ((d_heap_Heap_pin k x0 x1 (0 : Int) σ).bind fun r1 => (toI .i64 r1.1).bind fun n2 => some (.int .i64 n2, r1.2))

theorem heap_Heap_Unpin_is (k : Nat) (x0 : Option Addr) (x1 : Int) (σ : AMem) : heap_Heap_Unpin k x0 x1 σ = d_heap_Heap_Unpin k x0 x1 σ := by
  cases k with
  | zero => rfl
  | succ k => rw [heap_Heap_Unpin_eq, d_heap_Heap_Unpin]; simp only [heap_Heap_pin_is]

noncomputable def d_ref02_Heap_Unpin (k : Nat) (x0 : Option Addr) (x1 : Int) (σ : AMem) : Option (Value × AMem) := match k with
  | 0 => none
  | k + 1 => ((d_ref02_Heap_pin k x0 x1 false σ).bind fun r1 => (toI .i64 r1.1).bind fun n2 => some (.int .i64 n2, r1.2))

theorem ref02_Heap_Unpin_is (k : Nat) (x0 : Option Addr) (x1 : Int) (σ : AMem) : ref02_Heap_Unpin k x0 x1 σ = d_ref02_Heap_Unpin k x0 x1 σ := by
  cases k with
  | zero => rfl
  | succ k => rw [ref02_Heap_Unpin_eq, d_ref02_Heap_Unpin]; simp only [ref02_Heap_pin_is]

noncomputable def d_heap_Heap_Forget (k : Nat) (x0 : Option Addr) (σ : AMem) : Option (Value × AMem) := match k with
  | 0 => none
  | k + 1 => ((d_heap_Heap_made k x0 σ).bind fun r1 => (toB r1.1).bind fun b2 => bif !b2 then (some (.int .i64 (0 : Int), r1.2)) else (x0.bind fun a3 => (ldM r1.2 a3.block (a3.off + 5)).bind fun m4 => (ldMO r1.2 m4).bind fun es5 => x0.bind fun a6 => (ldM r1.2 a6.block (a6.off + 5)).bind fun m7 => (ldMO r1.2 m7).bind fun _ => some (.int .i64 ((es5.length : Nat) : Int), (stMO r1.2 m7 []))))

theorem heap_Heap_Forget_is (k : Nat) (x0 : Option Addr) (σ : AMem) : heap_Heap_Forget k x0 σ = d_heap_Heap_Forget k x0 σ := by
  cases k with
  | zero => rfl
  | succ k => rw [heap_Heap_Forget_eq, d_heap_Heap_Forget]; simp only [heap_Heap_made_is]

noncomputable def d_ref02_Heap_Forget (k : Nat) (x0 : Option Addr) (σ : AMem) : Option (Value × AMem) := match k with
  | 0 => none
  | k + 1 => ((d_ref02_Heap_Made k x0 σ).bind fun r1 => (toB r1.1).bind fun b2 => bif !b2 then (some (.int .i64 (0 : Int), r1.2)) else (x0.bind fun a3 => (ldS r1.2 a3.block (a3.off + 2)).bind fun l4 => x0.bind fun a5 => (st1 r1.2 a5.block (a5.off + 2) (.slice none 0 0)).bind fun s6 => some (.int .i64 ((l4.2.1 : Nat) : Int), s6)))

theorem ref02_Heap_Forget_is (k : Nat) (x0 : Option Addr) (σ : AMem) : ref02_Heap_Forget k x0 σ = d_ref02_Heap_Forget k x0 σ := by
  cases k with
  | zero => rfl
  | succ k => rw [ref02_Heap_Forget_eq, d_ref02_Heap_Forget]; simp only [ref02_Heap_Made_is]

noncomputable def d_law02_Play (k : Nat) (x0 : Option Addr) (x1 : Option Addr) (x2_0 : Int) (x2_1 : Int) (x2_2 : Int) (x2_3 : Int) (x2_4 : Int) (x2_5 : Int) (x2_6 : Int) (σ : AMem) : Option (Value × AMem) := match k with
  | 0 => none
  | k + 1 => (allocK σ (.cells [.int .i64 x2_0, .int .i64 x2_1, .int .i64 x2_2, .int .i64 x2_3, .int .i64 x2_4, .int .i64 x2_5, .int .i64 x2_6] 35 true) fun h1 s2 => (ldI .i64 s2 h1 (0 + 0)).bind fun n3 => bif n3 == (0 : Int) then ((ldI .i64 s2 h1 (0 + 1)).bind fun n4 => (ldI .i64 s2 h1 (0 + 2)).bind fun n5 => (d_heap_Heap_Claim k x0 n4 n5 s2).bind fun r6 => quietly s2 r6.2 ((toI .i64 r6.1).bind fun n7 => (ldI .i64 r6.2 h1 (0 + 1)).bind fun n8 => (ldI .i64 r6.2 h1 (0 + 2)).bind fun n9 => (d_ref02_Heap_Claim k x1 n8 n9 r6.2).bind fun r10 => (toI .i64 r10.1).bind fun n11 => some (.bool (n7 == n11), r10.2))) else (bif n3 == (1 : Int) then ((ldI .i64 s2 h1 (0 + 1)).bind fun n12 => (ldI .i64 s2 h1 (0 + 2)).bind fun n13 => (ldI .i64 s2 h1 (0 + 3)).bind fun n14 => (d_heap_Heap_ClaimLarge k x0 n12 n13 n14 s2).bind fun r15 => quietly s2 r15.2 ((toI .i64 r15.1).bind fun n16 => (ldI .i64 r15.2 h1 (0 + 1)).bind fun n17 => (ldI .i64 r15.2 h1 (0 + 2)).bind fun n18 => (ldI .i64 r15.2 h1 (0 + 3)).bind fun n19 => (d_ref02_Heap_ClaimLarge k x1 n17 n18 n19 r15.2).bind fun r20 => (toI .i64 r20.1).bind fun n21 => some (.bool (n16 == n21), r20.2))) else (bif n3 == (2 : Int) then ((ldI .i64 s2 h1 (0 + 1)).bind fun n22 => (d_heap_Heap_Release k x0 n22 s2).bind fun r23 => quietly s2 r23.2 ((toI .i64 r23.1).bind fun n24 => (ldI .i64 r23.2 h1 (0 + 1)).bind fun n25 => (d_ref02_Heap_Release k x1 n25 r23.2).bind fun r26 => (toI .i64 r26.1).bind fun n27 => some (.bool (n24 == n27), r26.2))) else (bif n3 == (3 : Int) then ((ldI .i64 s2 h1 (0 + 1)).bind fun n28 => (ldI .i64 s2 h1 (0 + 2)).bind fun n29 => (d_heap_Heap_Retag k x0 n28 n29 s2).bind fun r30 => quietly s2 r30.2 ((toI .i64 r30.1).bind fun n31 => (ldI .i64 r30.2 h1 (0 + 1)).bind fun n32 => (ldI .i64 r30.2 h1 (0 + 2)).bind fun n33 => (d_ref02_Heap_Retag k x1 n32 n33 r30.2).bind fun r34 => (toI .i64 r34.1).bind fun n35 => some (.bool (n31 == n35), r34.2))) else (bif n3 == (4 : Int) then ((ldI .i64 s2 h1 (0 + 1)).bind fun n36 => (ldI .i64 s2 h1 (0 + 4)).bind fun n37 => (ldI .i64 s2 h1 (0 + 4 + 1)).bind fun n38 => (ldI .i64 s2 h1 (0 + 4 + 1 + 1)).bind fun n39 => (d_heap_Heap_Place k x0 n36 n37 n38 n39 s2).bind fun r40 => r_ii r40.1 fun n41 n42 => (ldI .i64 r40.2 h1 (0 + 1)).bind fun n43 => (ldI .i64 r40.2 h1 (0 + 4)).bind fun n44 => (ldI .i64 r40.2 h1 (0 + 4 + 1)).bind fun n45 => (ldI .i64 r40.2 h1 (0 + 4 + 1 + 1)).bind fun n46 => (d_ref02_Heap_Place k x1 n43 n44 n45 n46 r40.2).bind fun r47 => r_ii r47.1 fun n48 n49 => (bif n41 == n48 then some (n42 == n49, r47.2) else some (false, r47.2)).bind fun r50 => some (.bool r50.1, r50.2)) else (bif n3 == (5 : Int) then ((ldI .i64 s2 h1 (0 + 1)).bind fun n51 => (d_heap_Heap_Kill k x0 n51 s2).bind fun r52 => quietly s2 r52.2 ((toI .i64 r52.1).bind fun n53 => (ldI .i64 r52.2 h1 (0 + 1)).bind fun n54 => (d_ref02_Heap_Kill k x1 n54 r52.2).bind fun r55 => (toI .i64 r55.1).bind fun n56 => some (.bool (n53 == n56), r55.2))) else (bif n3 == (6 : Int) then ((ldI .i64 s2 h1 (0 + 1)).bind fun n57 => (ldI .i64 s2 h1 (0 + 2)).bind fun n58 => (d_heap_Heap_Move k x0 n57 n58 s2).bind fun r59 => quietly s2 r59.2 ((toI .i64 r59.1).bind fun n60 => (ldI .i64 r59.2 h1 (0 + 1)).bind fun n61 => (ldI .i64 r59.2 h1 (0 + 2)).bind fun n62 => (d_ref02_Heap_Move k x1 n61 n62 r59.2).bind fun r63 => (toI .i64 r63.1).bind fun n64 => some (.bool (n60 == n64), r63.2))) else (bif n3 == (7 : Int) then ((ldI .i64 s2 h1 (0 + 1)).bind fun n65 => (ldI .i64 s2 h1 (0 + 2)).bind fun n66 => (ldI .i64 s2 h1 (0 + 3)).bind fun n67 => (d_heap_Heap_SetRef k x0 n65 n66 n67 s2).bind fun r68 => quietly s2 r68.2 ((toI .i64 r68.1).bind fun n69 => (ldI .i64 r68.2 h1 (0 + 1)).bind fun n70 => (ldI .i64 r68.2 h1 (0 + 2)).bind fun n71 => (ldI .i64 r68.2 h1 (0 + 3)).bind fun n72 => (d_ref02_Heap_SetRef k x1 n70 n71 n72 r68.2).bind fun r73 => (toI .i64 r73.1).bind fun n74 => some (.bool (n69 == n74), r73.2))) else (bif n3 == (8 : Int) then ((ldI .i64 s2 h1 (0 + 1)).bind fun n75 => (ldI .i64 s2 h1 (0 + 2)).bind fun n76 => (ldI .i64 s2 h1 (0 + 3)).bind fun n77 => (d_heap_Heap_SetData k x0 n75 n76 n77 s2).bind fun r78 => quietly s2 r78.2 ((toI .i64 r78.1).bind fun n79 => (ldI .i64 r78.2 h1 (0 + 1)).bind fun n80 => (ldI .i64 r78.2 h1 (0 + 2)).bind fun n81 => (ldI .i64 r78.2 h1 (0 + 3)).bind fun n82 => (d_ref02_Heap_SetData k x1 n80 n81 n82 r78.2).bind fun r83 => (toI .i64 r83.1).bind fun n84 => some (.bool (n79 == n84), r83.2))) else (bif n3 == (9 : Int) then ((ldI .i64 s2 h1 (0 + 1)).bind fun n85 => (ldI .i64 s2 h1 (0 + 2)).bind fun n86 => (d_heap_Heap_Poke k x0 n85 n86 s2).bind fun r87 => quietly s2 r87.2 ((toI .i64 r87.1).bind fun n88 => (ldI .i64 r87.2 h1 (0 + 1)).bind fun n89 => (ldI .i64 r87.2 h1 (0 + 2)).bind fun n90 => (d_ref02_Heap_Poke k x1 n89 n90 r87.2).bind fun r91 => (toI .i64 r91.1).bind fun n92 => some (.bool (n88 == n92), r91.2))) else (bif n3 == (10 : Int) then ((ldI .i64 s2 h1 (0 + 1)).bind fun n93 => (d_heap_Heap_Pin k x0 n93 s2).bind fun r94 => quietly s2 r94.2 ((toI .i64 r94.1).bind fun n95 => (ldI .i64 r94.2 h1 (0 + 1)).bind fun n96 => (d_ref02_Heap_Pin k x1 n96 r94.2).bind fun r97 => (toI .i64 r97.1).bind fun n98 => some (.bool (n95 == n98), r97.2))) else (bif n3 == (11 : Int) then ((ldI .i64 s2 h1 (0 + 1)).bind fun n99 => (d_heap_Heap_Unpin k x0 n99 s2).bind fun r100 => quietly s2 r100.2 ((toI .i64 r100.1).bind fun n101 => (ldI .i64 r100.2 h1 (0 + 1)).bind fun n102 => (d_ref02_Heap_Unpin k x1 n102 r100.2).bind fun r103 => (toI .i64 r103.1).bind fun n104 => some (.bool (n101 == n104), r103.2))) else (bif n3 == (12 : Int) then ((d_heap_Heap_Forget k x0 s2).bind fun r105 => (toI .i64 r105.1).bind fun n106 => (d_ref02_Heap_Forget k x1 r105.2).bind fun r107 => (toI .i64 r107.1).bind fun n108 => some (.bool (n106 == n108), r107.2)) else (some (.bool true, s2)))))))))))))))

theorem law02_Play_is (k : Nat) (x0 : Option Addr) (x1 : Option Addr) (x2_0 : Int) (x2_1 : Int) (x2_2 : Int) (x2_3 : Int) (x2_4 : Int) (x2_5 : Int) (x2_6 : Int) (σ : AMem) : law02_Play k x0 x1 x2_0 x2_1 x2_2 x2_3 x2_4 x2_5 x2_6 σ = d_law02_Play k x0 x1 x2_0 x2_1 x2_2 x2_3 x2_4 x2_5 x2_6 σ := by
  cases k with
  | zero => rfl
  | succ k => rw [law02_Play_eq, d_law02_Play]; simp only [heap_Heap_Claim_is, heap_Heap_Place_is, heap_Heap_Move_is, heap_Heap_ClaimLarge_is, heap_Heap_Kill_is, heap_Heap_Release_is, ref02_Heap_Claim_is, ref02_Heap_ClaimLarge_is, ref02_Heap_Release_is, heap_Heap_Retag_is, ref02_Heap_Retag_is, ref02_Heap_Place_is, ref02_Heap_Kill_is, ref02_Heap_Move_is, heap_Heap_SetRef_is, ref02_Heap_SetRef_is, heap_Heap_SetData_is, ref02_Heap_SetData_is, heap_Heap_Poke_is, ref02_Heap_Poke_is, heap_Heap_Pin_is, ref02_Heap_Pin_is, heap_Heap_Unpin_is, ref02_Heap_Unpin_is, heap_Heap_Forget_is, ref02_Heap_Forget_is]

noncomputable def d_heap_Heap_Forward (k : Nat) (x0 : Option Addr) (x1 : Int) (σ : AMem) : Option (Value × AMem) := match k with
  | 0 => none
  | k + 1 => ((d_heap_Heap_made k x0 σ).bind fun r1 => (toB r1.1).bind fun b2 => bif !b2 then (some (.tuple #[.int .i64 (0 : Int), .int .i64 (5 : Int)], r1.2)) else (x0.bind fun a3 => (ldM r1.2 a3.block (a3.off + 5)).bind fun m4 => (ldMO r1.2 m4).bind fun es5 => (toI .i64 ((mapGet es5 x1).getD (.int .i64 (0 : Int)))).bind fun n6 => bif !((mapGet es5 x1).isSome) then (some (.tuple #[.int .i64 (0 : Int), .int .i64 (4 : Int)], r1.2)) else (some (.tuple #[.int .i64 n6, .int .i64 (0 : Int)], r1.2))))

theorem heap_Heap_Forward_is (k : Nat) (x0 : Option Addr) (x1 : Int) (σ : AMem) : heap_Heap_Forward k x0 x1 σ = d_heap_Heap_Forward k x0 x1 σ := by
  cases k with
  | zero => rfl
  | succ k => rw [heap_Heap_Forward_eq, d_heap_Heap_Forward]; simp only [heap_Heap_made_is]

noncomputable def d_ref02_Heap_Word (k : Nat) (x0 : Option Addr) (x1 : Int) (σ : AMem) : Option (Value × AMem) := match k with
  | 0 => none
  | k + 1 => ((d_ref02_Heap_Made k x0 σ).bind fun r1 => (toB r1.1).bind fun b2 => bif !b2 then (some (.tuple #[.int .i64 (0 : Int), .int .i64 (5 : Int)], r1.2)) else ((d_ref02_Heap_word k x0 x1 r1.2).bind fun r3 => (toB r3.1).bind fun b4 => bif !b4 then (some (.tuple #[.int .i64 (0 : Int), .int .i64 (1 : Int)], r3.2)) else ((d_ref02_Heap_Find k x0 x1 r3.2).bind fun r5 => r_ii r5.1 fun n6 n7 => bif n7 != (0 : Int) then (some (.tuple #[.int .i64 (0 : Int), .int .i64 (0 : Int)], r5.2)) else (x0.bind fun a8 => (ldS r5.2 a8.block (a8.off + 1)).bind fun l9 => (d_ref02_Heap_Index k x0 n6 r5.2).bind fun r10 => quietly r5.2 r10.2 ((toI .i64 r10.1).bind fun n11 => if 0 ≤ n11 ∧ n11 < (l9.2.1 : Nat) then l9.1.bind fun a12 => (ldI .i64 r10.2 a12.block (a12.off + n11.toNat * 8)).bind fun n13 => (ldI .i64 r10.2 a12.block (a12.off + n11.toNat * 8 + 1)).bind fun n14 => (ldI .i64 r10.2 a12.block (a12.off + n11.toNat * 8 + 1 + 1)).bind fun n15 => (ldI .i64 r10.2 a12.block (a12.off + n11.toNat * 8 + 1 + 1 + 1)).bind fun n16 => (ldI .i64 r10.2 a12.block (a12.off + n11.toNat * 8 + 1 + 1 + 1 + 1)).bind fun n17 => (ldS r10.2 a12.block (a12.off + n11.toNat * 8 + 1 + 1 + 1 + 1 + 1)).bind fun l18 => (ldS r10.2 a12.block (a12.off + n11.toNat * 8 + 1 + 1 + 1 + 1 + 1 + 1)).bind fun l19 => (ldB r10.2 a12.block (a12.off + n11.toNat * 8 + 1 + 1 + 1 + 1 + 1 + 1 + 1)).bind fun b20 => allocK r10.2 (.cells [.int .i64 (0 : Int), .int .i64 (0 : Int), .int .i64 (0 : Int), .int .i64 (0 : Int), .int .i64 (0 : Int), .slice none 0 0, .slice none 0 0, .bool false] 79 true) fun h21 s22 => (stN s22 h21 0 [.int .i64 n13, .int .i64 n14, .int .i64 n15, .int .i64 n16, .int .i64 n17, .slice l18.1 l18.2.1 l18.2.2, .slice l19.1 l19.2.1 l19.2.2, .bool b20]).bind fun s23 => bif (w64 (x1 - n6)) == (0 : Int) then ((ldI .i64 s23 h21 (0 + 1)).bind fun n24 => some (.tuple #[.int .i64 n24, .int .i64 (0 : Int)], s23)) else (bif (w64 (x1 - n6)) == (1 : Int) then ((ldI .i64 s23 h21 (0 + 2 + 0)).bind fun n25 => (ldI .i64 s23 h21 (0 + 2 + 1)).bind fun n26 => (ldI .i64 s23 h21 (0 + 2 + 2)).bind fun n27 => some (.tuple #[.int .i64 (w64 ((w64 (n25 + (w64 ((16 : Int) * n26)))) + (w64 ((4096 : Int) * n27)))), .int .i64 (0 : Int)], s23)) else ((ldS s23 h21 (0 + 5)).bind fun l28 => bif decide ((w64 (x1 - n6)) < (w64 ((2 : Int) + ((l28.2.1 : Nat) : Int)))) then ((ldS s23 h21 (0 + 5)).bind fun l29 => if 0 ≤ (w64 ((w64 (x1 - n6)) - (2 : Int))) ∧ (w64 ((w64 (x1 - n6)) - (2 : Int))) < (l29.2.1 : Nat) then l29.1.bind fun a30 => (ldI .i64 s23 a30.block (a30.off + (w64 ((w64 (x1 - n6)) - (2 : Int))).toNat * 1)).bind fun n31 => some (.tuple #[.int .i64 n31, .int .i64 (0 : Int)], s23) else none) else ((ldS s23 h21 (0 + 5)).bind fun l32 => (ldS s23 h21 (0 + 6)).bind fun l33 => bif decide ((w64 (x1 - n6)) < (w64 ((w64 ((2 : Int) + ((l32.2.1 : Nat) : Int))) + ((l33.2.1 : Nat) : Int)))) then ((ldS s23 h21 (0 + 6)).bind fun l34 => (ldS s23 h21 (0 + 5)).bind fun l35 => if 0 ≤ (w64 ((w64 ((w64 (x1 - n6)) - (2 : Int))) - ((l35.2.1 : Nat) : Int))) ∧ (w64 ((w64 ((w64 (x1 - n6)) - (2 : Int))) - ((l35.2.1 : Nat) : Int))) < (l34.2.1 : Nat) then l34.1.bind fun a36 => (ldI .i64 s23 a36.block (a36.off + (w64 ((w64 ((w64 (x1 - n6)) - (2 : Int))) - ((l35.2.1 : Nat) : Int))).toNat * 1)).bind fun n37 => some (.tuple #[.int .i64 n37, .int .i64 (0 : Int)], s23) else none) else (some (.tuple #[.int .i64 (0 : Int), .int .i64 (0 : Int)], s23))))) else none)))))

theorem ref02_Heap_Word_is (k : Nat) (x0 : Option Addr) (x1 : Int) (σ : AMem) : ref02_Heap_Word k x0 x1 σ = d_ref02_Heap_Word k x0 x1 σ := by
  cases k with
  | zero => rfl
  | succ k => rw [ref02_Heap_Word_eq, d_ref02_Heap_Word]; simp only [ref02_Heap_Made_is, ref02_Heap_Find_is, ref02_Heap_Index_is, ref02_Heap_word_is]

noncomputable def d_heap_Heap_Pinned (k : Nat) (x0 : Option Addr) (x1 : Int) (σ : AMem) : Option (Value × AMem) := match k with
  | 0 => none
  | k + 1 => ((d_heap_Heap_Has k x0 x1 σ).bind fun r1 => (toB r1.1).bind fun b2 => (bif b2 then x0.bind fun a3 => (ldP r1.2 a3.block (a3.off + 3)).bind fun p4 => if (2 : Int) = 0 then none else (d_side_Table_Get k p4 (w64 (x1.tdiv (2 : Int))) r1.2).bind fun r5 => (toI .i64 r5.1).bind fun n6 => some (n6 == (1 : Int), r5.2) else some (false, r1.2)).bind fun r7 => some (.bool r7.1, r7.2))

theorem heap_Heap_Pinned_is (k : Nat) (x0 : Option Addr) (x1 : Int) (σ : AMem) : heap_Heap_Pinned k x0 x1 σ = d_heap_Heap_Pinned k x0 x1 σ := by
  cases k with
  | zero => rfl
  | succ k => rw [heap_Heap_Pinned_eq, d_heap_Heap_Pinned]; simp only [heap_Heap_Has_is, side_Table_Get_is]

noncomputable def d_ref02_Heap_Pinned (k : Nat) (x0 : Option Addr) (x1 : Int) (σ : AMem) : Option (Value × AMem) := match k with
  | 0 => none
  | k + 1 => ((d_ref02_Heap_Index k x0 x1 σ).bind fun r1 => (toI .i64 r1.1).bind fun n2 => (bif decide (n2 ≥ (0 : Int)) then x0.bind fun a3 => (ldS r1.2 a3.block (a3.off + 1)).bind fun l4 => if 0 ≤ n2 ∧ n2 < (l4.2.1 : Nat) then l4.1.bind fun a5 => (ldB r1.2 a5.block (a5.off + n2.toNat * 8 + 7)).bind fun b6 => some (b6, r1.2) else none else some (false, r1.2)).bind fun r7 => some (.bool r7.1, r7.2))

theorem ref02_Heap_Pinned_is (k : Nat) (x0 : Option Addr) (x1 : Int) (σ : AMem) : ref02_Heap_Pinned k x0 x1 σ = d_ref02_Heap_Pinned k x0 x1 σ := by
  cases k with
  | zero => rfl
  | succ k => rw [ref02_Heap_Pinned_eq, d_ref02_Heap_Pinned]; simp only [ref02_Heap_Index_is]

noncomputable def d_ref02_Heap_Forward_l0 (k n : Nat) (p0 : Option Addr) (i1 : Int) (x6 : Int) (σ : AMem) : Option LOut := match n with
  | 0 => none
  | n + 1 => (p0.bind fun a3 => (ldS σ a3.block (a3.off + 2)).bind fun l4 => bif decide (x6 < ((l4.2.1 : Nat) : Int)) then (p0.bind fun a5 => (ldS σ a5.block (a5.off + 2)).bind fun l6 => if 0 ≤ x6 ∧ x6 < (l6.2.1 : Nat) then l6.1.bind fun a7 => (ldI .i64 σ a7.block (a7.off + x6.toNat * 2 + 0)).bind fun n8 => bif n8 == i1 then (p0.bind fun a9 => (ldS σ a9.block (a9.off + 2)).bind fun l10 => if 0 ≤ x6 ∧ x6 < (l10.2.1 : Nat) then l10.1.bind fun a11 => (ldI .i64 σ a11.block (a11.off + x6.toNat * 2 + 1)).bind fun n12 => some (.ret, [.int .i64 n12, .int .i64 (0 : Int)], σ) else none) else (d_ref02_Heap_Forward_l0 k n p0 i1 (w64 (x6 + (1 : Int))) σ) else none) else (some (.exit 0, [], σ)))
termination_by structural n

theorem ref02_Heap_Forward_l0_is (k n : Nat) (p0 : Option Addr) (i1 : Int) (x6 : Int) (σ : AMem) : ref02_Heap_Forward_l0 k n p0 i1 x6 σ = d_ref02_Heap_Forward_l0 k n p0 i1 x6 σ := by
  induction n generalizing p0 i1 x6 σ with
  | zero => rfl
  | succ n ih => rw [ref02_Heap_Forward_l0_eq, d_ref02_Heap_Forward_l0]; simp only [ref02_Heap_Made_is, ih]

noncomputable def d_ref02_Heap_Forward (k : Nat) (x0 : Option Addr) (x1 : Int) (σ : AMem) : Option (Value × AMem) := match k with
  | 0 => none
  | k + 1 => ((d_ref02_Heap_Made k x0 σ).bind fun r1 => (toB r1.1).bind fun b2 => bif !b2 then (some (.tuple #[.int .i64 (0 : Int), .int .i64 (5 : Int)], r1.2)) else ((d_ref02_Heap_Forward_l0 k k x0 x1 (0 : Int) r1.2).bind fun r13 => if r13.1 = .exit 0 then (some (.tuple #[.int .i64 (0 : Int), .int .i64 (4 : Int)], r13.2.2)) else if r13.1 = .ret then (u_ii r13.2.1 fun n14 n15 => some (.tuple #[.int .i64 n14, .int .i64 n15], r13.2.2)) else none))

theorem ref02_Heap_Forward_is (k : Nat) (x0 : Option Addr) (x1 : Int) (σ : AMem) : ref02_Heap_Forward k x0 x1 σ = d_ref02_Heap_Forward k x0 x1 σ := by
  cases k with
  | zero => rfl
  | succ k => rw [ref02_Heap_Forward_eq, d_ref02_Heap_Forward]; simp only [ref02_Heap_Made_is, ref02_Heap_Forward_l0_is]

noncomputable def d_heap_Heap_Ident (k : Nat) (x0 : Option Addr) (x1 : Int) (σ : AMem) : Option (Value × AMem) := match k with
  | 0 => none
  | k + 1 => ((d_heap_Heap_object k x0 x1 σ).bind fun r1 => (toI .i64 r1.1).bind fun n2 => bif n2 != (0 : Int) then (some (.tuple #[.int .i64 (0 : Int), .int .i64 n2], r1.2)) else (x0.bind fun a3 => (ldS r1.2 a3.block (a3.off + 1)).bind fun l4 => if 0 ≤ x1 ∧ x1 < (l4.2.1 : Nat) then l4.1.bind fun a5 => (ldI .i64 r1.2 a5.block (a5.off + x1.toNat * 1)).bind fun n6 => some (.tuple #[.int .i64 n6, .int .i64 (0 : Int)], r1.2) else none))

theorem heap_Heap_Ident_is (k : Nat) (x0 : Option Addr) (x1 : Int) (σ : AMem) : heap_Heap_Ident k x0 x1 σ = d_heap_Heap_Ident k x0 x1 σ := by
  cases k with
  | zero => rfl
  | succ k => rw [heap_Heap_Ident_eq, d_heap_Heap_Ident]; simp only [heap_Heap_object_is]

noncomputable def d_ref02_Heap_Ident (k : Nat) (x0 : Option Addr) (x1 : Int) (σ : AMem) : Option (Value × AMem) := match k with
  | 0 => none
  | k + 1 => ((d_ref02_Heap_lacks k x0 x1 σ).bind fun r1 => (toI .i64 r1.1).bind fun n2 => bif n2 != (0 : Int) then (some (.tuple #[.int .i64 (0 : Int), .int .i64 n2], r1.2)) else (x0.bind fun a3 => (ldS r1.2 a3.block (a3.off + 1)).bind fun l4 => (d_ref02_Heap_Index k x0 x1 r1.2).bind fun r5 => quietly r1.2 r5.2 ((toI .i64 r5.1).bind fun n6 => if 0 ≤ n6 ∧ n6 < (l4.2.1 : Nat) then l4.1.bind fun a7 => (ldI .i64 r5.2 a7.block (a7.off + n6.toNat * 8 + 1)).bind fun n8 => some (.tuple #[.int .i64 n8, .int .i64 (0 : Int)], r5.2) else none)))

theorem ref02_Heap_Ident_is (k : Nat) (x0 : Option Addr) (x1 : Int) (σ : AMem) : ref02_Heap_Ident k x0 x1 σ = d_ref02_Heap_Ident k x0 x1 σ := by
  cases k with
  | zero => rfl
  | succ k => rw [ref02_Heap_Ident_eq, d_ref02_Heap_Ident]; simp only [ref02_Heap_lacks_is, ref02_Heap_Index_is]

noncomputable def d_heap_Heap_Shape (k : Nat) (x0 : Option Addr) (x1 : Int) (σ : AMem) : Option (Value × AMem) := match k with
  | 0 => none
  | k + 1 => (allocK σ (.cells [.int .i64 (0 : Int), .int .i64 (0 : Int), .int .i64 (0 : Int)] 33 true) fun h1 s2 => (d_heap_Heap_object k x0 x1 s2).bind fun r3 => (toI .i64 r3.1).bind fun n4 => bif n4 != (0 : Int) then ((stN r3.2 h1 0 [.int .i64 (0 : Int), .int .i64 (0 : Int), .int .i64 (0 : Int)]).bind fun s5 => (((ldN s5 h1 0 3).bind fun v6 => some (.agg v6.toArray)).bind fun v7 => some [v7, .int .i64 n4]).bind fun vs8 => some (resOf vs8, s5)) else (x0.bind fun a9 => (ldS r3.2 a9.block (a9.off + 1)).bind fun l10 => if 0 ≤ (w64 (x1 + (1 : Int))) ∧ (w64 (x1 + (1 : Int))) < (l10.2.1 : Nat) then l10.1.bind fun a11 => (ldI .i64 r3.2 a11.block (a11.off + (w64 (x1 + (1 : Int))).toNat * 1)).bind fun n12 => (d_heap_shape k n12 r3.2).bind fun r13 => a_iii r13.1 fun n14 n15 n16 => (stN r13.2 h1 0 [.int .i64 n14, .int .i64 n15, .int .i64 n16]).bind fun s17 => (((ldN s17 h1 0 3).bind fun v18 => some (.agg v18.toArray)).bind fun v19 => some [v19, .int .i64 (0 : Int)]).bind fun vs20 => some (resOf vs20, s17) else none))

theorem heap_Heap_Shape_is (k : Nat) (x0 : Option Addr) (x1 : Int) (σ : AMem) : heap_Heap_Shape k x0 x1 σ = d_heap_Heap_Shape k x0 x1 σ := by
  cases k with
  | zero => rfl
  | succ k => rw [heap_Heap_Shape_eq, d_heap_Heap_Shape]; simp only [heap_Heap_object_is, heap_shape_is]

noncomputable def d_ref02_Heap_Shape (k : Nat) (x0 : Option Addr) (x1 : Int) (σ : AMem) : Option (Value × AMem) := match k with
  | 0 => none
  | k + 1 => (allocK σ (.cells [.int .i64 (0 : Int), .int .i64 (0 : Int), .int .i64 (0 : Int)] 33 true) fun h1 s2 => (d_ref02_Heap_lacks k x0 x1 s2).bind fun r3 => (toI .i64 r3.1).bind fun n4 => bif n4 != (0 : Int) then ((stN r3.2 h1 0 [.int .i64 (0 : Int), .int .i64 (0 : Int), .int .i64 (0 : Int)]).bind fun s5 => (((ldN s5 h1 0 3).bind fun v6 => some (.agg v6.toArray)).bind fun v7 => some [v7, .int .i64 n4]).bind fun vs8 => some (resOf vs8, s5)) else (x0.bind fun a9 => (ldS r3.2 a9.block (a9.off + 1)).bind fun l10 => (d_ref02_Heap_Index k x0 x1 r3.2).bind fun r11 => quietly r3.2 r11.2 ((toI .i64 r11.1).bind fun n12 => if 0 ≤ n12 ∧ n12 < (l10.2.1 : Nat) then l10.1.bind fun a13 => (ldI .i64 r11.2 a13.block (a13.off + n12.toNat * 8 + 2)).bind fun n14 => (ldI .i64 r11.2 a13.block (a13.off + n12.toNat * 8 + 2 + 1)).bind fun n15 => (ldI .i64 r11.2 a13.block (a13.off + n12.toNat * 8 + 2 + 1 + 1)).bind fun n16 => (stN r11.2 h1 0 [.int .i64 n14, .int .i64 n15, .int .i64 n16]).bind fun s17 => (((ldN s17 h1 0 3).bind fun v18 => some (.agg v18.toArray)).bind fun v19 => some [v19, .int .i64 (0 : Int)]).bind fun vs20 => some (resOf vs20, s17) else none)))

theorem ref02_Heap_Shape_is (k : Nat) (x0 : Option Addr) (x1 : Int) (σ : AMem) : ref02_Heap_Shape k x0 x1 σ = d_ref02_Heap_Shape k x0 x1 σ := by
  cases k with
  | zero => rfl
  | succ k => rw [ref02_Heap_Shape_eq, d_ref02_Heap_Shape]; simp only [ref02_Heap_lacks_is, ref02_Heap_Index_is]

noncomputable def d_heap_Heap_Ref (k : Nat) (x0 : Option Addr) (x1 : Int) (x2 : Int) (σ : AMem) : Option (Value × AMem) := match k with
  | 0 => none
  | k + 1 => ((d_heap_Heap_field k x0 x1 x2 false σ).bind fun r1 => r_ii r1.1 fun n2 n3 => bif n3 != (0 : Int) then (some (.tuple #[.int .i64 (0 : Int), .int .i64 n3], r1.2)) else (x0.bind fun a4 => (ldS r1.2 a4.block (a4.off + 1)).bind fun l5 => if 0 ≤ n2 ∧ n2 < (l5.2.1 : Nat) then l5.1.bind fun a6 => (ldI .i64 r1.2 a6.block (a6.off + n2.toNat * 1)).bind fun n7 => some (.tuple #[.int .i64 n7, .int .i64 (0 : Int)], r1.2) else none))

theorem heap_Heap_Ref_is (k : Nat) (x0 : Option Addr) (x1 : Int) (x2 : Int) (σ : AMem) : heap_Heap_Ref k x0 x1 x2 σ = d_heap_Heap_Ref k x0 x1 x2 σ := by
  cases k with
  | zero => rfl
  | succ k => rw [heap_Heap_Ref_eq, d_heap_Heap_Ref]; simp only [heap_Heap_field_is]

noncomputable def d_ref02_Heap_Ref (k : Nat) (x0 : Option Addr) (x1 : Int) (x2 : Int) (σ : AMem) : Option (Value × AMem) := match k with
  | 0 => none
  | k + 1 => ((d_ref02_Heap_lacks k x0 x1 σ).bind fun r1 => (toI .i64 r1.1).bind fun n2 => bif n2 != (0 : Int) then (some (.tuple #[.int .i64 (0 : Int), .int .i64 n2], r1.2)) else (x0.bind fun a3 => (ldS r1.2 a3.block (a3.off + 1)).bind fun l4 => (d_ref02_Heap_Index k x0 x1 r1.2).bind fun r5 => quietly r1.2 r5.2 ((toI .i64 r5.1).bind fun n6 => if 0 ≤ n6 ∧ n6 < (l4.2.1 : Nat) then l4.1.bind fun a7 => (ldI .i64 r5.2 a7.block (a7.off + n6.toNat * 8)).bind fun n8 => (ldI .i64 r5.2 a7.block (a7.off + n6.toNat * 8 + 1)).bind fun n9 => (ldI .i64 r5.2 a7.block (a7.off + n6.toNat * 8 + 1 + 1)).bind fun n10 => (ldI .i64 r5.2 a7.block (a7.off + n6.toNat * 8 + 1 + 1 + 1)).bind fun n11 => (ldI .i64 r5.2 a7.block (a7.off + n6.toNat * 8 + 1 + 1 + 1 + 1)).bind fun n12 => (ldS r5.2 a7.block (a7.off + n6.toNat * 8 + 1 + 1 + 1 + 1 + 1)).bind fun l13 => (ldS r5.2 a7.block (a7.off + n6.toNat * 8 + 1 + 1 + 1 + 1 + 1 + 1)).bind fun l14 => (ldB r5.2 a7.block (a7.off + n6.toNat * 8 + 1 + 1 + 1 + 1 + 1 + 1 + 1)).bind fun b15 => allocK r5.2 (.cells [.int .i64 (0 : Int), .int .i64 (0 : Int), .int .i64 (0 : Int), .int .i64 (0 : Int), .int .i64 (0 : Int), .slice none 0 0, .slice none 0 0, .bool false] 79 true) fun h16 s17 => (stN s17 h16 0 [.int .i64 n8, .int .i64 n9, .int .i64 n10, .int .i64 n11, .int .i64 n12, .slice l13.1 l13.2.1 l13.2.2, .slice l14.1 l14.2.1 l14.2.2, .bool b15]).bind fun s18 => (bif decide (x2 < (0 : Int)) then some (true, s18) else (ldS s18 h16 (0 + 5)).bind fun l19 => some (decide (x2 ≥ ((l19.2.1 : Nat) : Int)), s18)).bind fun r20 => bif r20.1 then (some (.tuple #[.int .i64 (0 : Int), .int .i64 (1 : Int)], r20.2)) else ((ldS r20.2 h16 (0 + 5)).bind fun l21 => if 0 ≤ x2 ∧ x2 < (l21.2.1 : Nat) then l21.1.bind fun a22 => (ldI .i64 r20.2 a22.block (a22.off + x2.toNat * 1)).bind fun n23 => some (.tuple #[.int .i64 n23, .int .i64 (0 : Int)], r20.2) else none) else none)))

theorem ref02_Heap_Ref_is (k : Nat) (x0 : Option Addr) (x1 : Int) (x2 : Int) (σ : AMem) : ref02_Heap_Ref k x0 x1 x2 σ = d_ref02_Heap_Ref k x0 x1 x2 σ := by
  cases k with
  | zero => rfl
  | succ k => rw [ref02_Heap_Ref_eq, d_ref02_Heap_Ref]; simp only [ref02_Heap_lacks_is, ref02_Heap_Index_is]

noncomputable def d_heap_Heap_Data (k : Nat) (x0 : Option Addr) (x1 : Int) (x2 : Int) (σ : AMem) : Option (Value × AMem) := match k with
  | 0 => none
  | k + 1 => ((d_heap_Heap_field k x0 x1 x2 true σ).bind fun r1 => r_ii r1.1 fun n2 n3 => bif n3 != (0 : Int) then (some (.tuple #[.int .i64 (0 : Int), .int .i64 n3], r1.2)) else (x0.bind fun a4 => (ldS r1.2 a4.block (a4.off + 1)).bind fun l5 => if 0 ≤ n2 ∧ n2 < (l5.2.1 : Nat) then l5.1.bind fun a6 => (ldI .i64 r1.2 a6.block (a6.off + n2.toNat * 1)).bind fun n7 => some (.tuple #[.int .i64 n7, .int .i64 (0 : Int)], r1.2) else none))

theorem heap_Heap_Data_is (k : Nat) (x0 : Option Addr) (x1 : Int) (x2 : Int) (σ : AMem) : heap_Heap_Data k x0 x1 x2 σ = d_heap_Heap_Data k x0 x1 x2 σ := by
  cases k with
  | zero => rfl
  | succ k => rw [heap_Heap_Data_eq, d_heap_Heap_Data]; simp only [heap_Heap_field_is]

noncomputable def d_ref02_Heap_Data (k : Nat) (x0 : Option Addr) (x1 : Int) (x2 : Int) (σ : AMem) : Option (Value × AMem) := match k with
  | 0 => none
  | k + 1 => ((d_ref02_Heap_lacks k x0 x1 σ).bind fun r1 => (toI .i64 r1.1).bind fun n2 => bif n2 != (0 : Int) then (some (.tuple #[.int .i64 (0 : Int), .int .i64 n2], r1.2)) else (x0.bind fun a3 => (ldS r1.2 a3.block (a3.off + 1)).bind fun l4 => (d_ref02_Heap_Index k x0 x1 r1.2).bind fun r5 => quietly r1.2 r5.2 ((toI .i64 r5.1).bind fun n6 => if 0 ≤ n6 ∧ n6 < (l4.2.1 : Nat) then l4.1.bind fun a7 => (ldI .i64 r5.2 a7.block (a7.off + n6.toNat * 8)).bind fun n8 => (ldI .i64 r5.2 a7.block (a7.off + n6.toNat * 8 + 1)).bind fun n9 => (ldI .i64 r5.2 a7.block (a7.off + n6.toNat * 8 + 1 + 1)).bind fun n10 => (ldI .i64 r5.2 a7.block (a7.off + n6.toNat * 8 + 1 + 1 + 1)).bind fun n11 => (ldI .i64 r5.2 a7.block (a7.off + n6.toNat * 8 + 1 + 1 + 1 + 1)).bind fun n12 => (ldS r5.2 a7.block (a7.off + n6.toNat * 8 + 1 + 1 + 1 + 1 + 1)).bind fun l13 => (ldS r5.2 a7.block (a7.off + n6.toNat * 8 + 1 + 1 + 1 + 1 + 1 + 1)).bind fun l14 => (ldB r5.2 a7.block (a7.off + n6.toNat * 8 + 1 + 1 + 1 + 1 + 1 + 1 + 1)).bind fun b15 => allocK r5.2 (.cells [.int .i64 (0 : Int), .int .i64 (0 : Int), .int .i64 (0 : Int), .int .i64 (0 : Int), .int .i64 (0 : Int), .slice none 0 0, .slice none 0 0, .bool false] 79 true) fun h16 s17 => (stN s17 h16 0 [.int .i64 n8, .int .i64 n9, .int .i64 n10, .int .i64 n11, .int .i64 n12, .slice l13.1 l13.2.1 l13.2.2, .slice l14.1 l14.2.1 l14.2.2, .bool b15]).bind fun s18 => (bif decide (x2 < (0 : Int)) then some (true, s18) else (ldS s18 h16 (0 + 6)).bind fun l19 => some (decide (x2 ≥ ((l19.2.1 : Nat) : Int)), s18)).bind fun r20 => bif r20.1 then (some (.tuple #[.int .i64 (0 : Int), .int .i64 (1 : Int)], r20.2)) else ((ldS r20.2 h16 (0 + 6)).bind fun l21 => if 0 ≤ x2 ∧ x2 < (l21.2.1 : Nat) then l21.1.bind fun a22 => (ldI .i64 r20.2 a22.block (a22.off + x2.toNat * 1)).bind fun n23 => some (.tuple #[.int .i64 n23, .int .i64 (0 : Int)], r20.2) else none) else none)))

theorem ref02_Heap_Data_is (k : Nat) (x0 : Option Addr) (x1 : Int) (x2 : Int) (σ : AMem) : ref02_Heap_Data k x0 x1 x2 σ = d_ref02_Heap_Data k x0 x1 x2 σ := by
  cases k with
  | zero => rfl
  | succ k => rw [ref02_Heap_Data_eq, d_ref02_Heap_Data]; simp only [ref02_Heap_lacks_is, ref02_Heap_Index_is]

noncomputable def d_law02_Looks_l0 (k n : Nat) (p0 : Option Addr) (p1 : Option Addr) (i2 : Int) (h3 : Nat) (x13 : Int) (σ : AMem) : Option LOut := match n with
  | 0 => none
  | n + 1 => ((ldI .i64 σ h3 (0 + 0)).bind fun n69 => bif decide (x13 ≤ n69) then ((d_heap_Heap_Ref k p0 i2 x13 σ).bind fun r70 => r_ii r70.1 fun n71 n72 => (d_ref02_Heap_Ref k p1 i2 x13 r70.2).bind fun r73 => r_ii r73.1 fun n74 n75 => (bif n71 != n74 then some (true, r73.2) else some (n72 != n75, r73.2)).bind fun r76 => bif r76.1 then (some (.ret, [.bool false], r76.2)) else (d_law02_Looks_l0 k n p0 p1 i2 h3 (w64 (x13 + (1 : Int))) r76.2)) else (some (.exit 0, [], σ)))
termination_by structural n

theorem law02_Looks_l0_is (k n : Nat) (p0 : Option Addr) (p1 : Option Addr) (i2 : Int) (h3 : Nat) (x13 : Int) (σ : AMem) : law02_Looks_l0 k n p0 p1 i2 h3 x13 σ = d_law02_Looks_l0 k n p0 p1 i2 h3 x13 σ := by
  induction n generalizing p0 p1 i2 h3 x13 σ with
  | zero => rfl
  | succ n ih => rw [law02_Looks_l0_eq, d_law02_Looks_l0]; simp only [heap_Heap_Word_is, heap_Heap_Forward_is, ref02_Heap_Word_is, heap_Heap_Has_is, ref02_Heap_Has_is, heap_Heap_Pinned_is, ref02_Heap_Pinned_is, heap_Heap_Find_is, ref02_Heap_Find_is, ref02_Heap_Forward_is, heap_Heap_Ident_is, ref02_Heap_Ident_is, heap_Heap_Shape_is, ref02_Heap_Shape_is, heap_Heap_Ref_is, ref02_Heap_Ref_is, heap_Heap_Data_is, ref02_Heap_Data_is, ih]

noncomputable def d_law02_Looks_l1 (k n : Nat) (p0 : Option Addr) (p1 : Option Addr) (i2 : Int) (h3 : Nat) (x14 : Int) (σ : AMem) : Option LOut := match n with
  | 0 => none
  | n + 1 => ((ldI .i64 σ h3 (0 + 1)).bind fun n78 => bif decide (x14 ≤ n78) then ((d_heap_Heap_Data k p0 i2 x14 σ).bind fun r79 => r_ii r79.1 fun n80 n81 => (d_ref02_Heap_Data k p1 i2 x14 r79.2).bind fun r82 => r_ii r82.1 fun n83 n84 => (bif n80 != n83 then some (true, r82.2) else some (n81 != n84, r82.2)).bind fun r85 => bif r85.1 then (some (.ret, [.bool false], r85.2)) else (d_law02_Looks_l1 k n p0 p1 i2 h3 (w64 (x14 + (1 : Int))) r85.2)) else (some (.exit 2, [], σ)))
termination_by structural n

theorem law02_Looks_l1_is (k n : Nat) (p0 : Option Addr) (p1 : Option Addr) (i2 : Int) (h3 : Nat) (x14 : Int) (σ : AMem) : law02_Looks_l1 k n p0 p1 i2 h3 x14 σ = d_law02_Looks_l1 k n p0 p1 i2 h3 x14 σ := by
  induction n generalizing p0 p1 i2 h3 x14 σ with
  | zero => rfl
  | succ n ih => rw [law02_Looks_l1_eq, d_law02_Looks_l1]; simp only [heap_Heap_Word_is, heap_Heap_Forward_is, ref02_Heap_Word_is, heap_Heap_Has_is, ref02_Heap_Has_is, heap_Heap_Pinned_is, ref02_Heap_Pinned_is, heap_Heap_Find_is, ref02_Heap_Find_is, ref02_Heap_Forward_is, heap_Heap_Ident_is, ref02_Heap_Ident_is, heap_Heap_Shape_is, ref02_Heap_Shape_is, heap_Heap_Ref_is, ref02_Heap_Ref_is, heap_Heap_Data_is, ref02_Heap_Data_is, law02_Looks_l0_is, ih]

noncomputable def d_law02_Looks (k : Nat) (x0 : Option Addr) (x1 : Option Addr) (x2 : Int) (σ : AMem) : Option (Value × AMem) := match k with
  | 0 => none
  | k + 1 => ((d_heap_Heap_Word k x0 x2 σ).bind fun r1 => r_ii r1.1 fun n2 n3 => (d_ref02_Heap_Word k x1 x2 r1.2).bind fun r4 => r_ii r4.1 fun n5 n6 => (bif n2 != n5 then some (true, r4.2) else some (n3 != n6, r4.2)).bind fun r7 => (bif r7.1 then some (true, r7.2) else (d_heap_Heap_Has k x0 x2 r7.2).bind fun r8 => (toB r8.1).bind fun b9 => (d_ref02_Heap_Has k x1 x2 r8.2).bind fun r10 => (toB r10.1).bind fun b11 => some (!(b9 == b11), r10.2)).bind fun r12 => (bif r12.1 then some (true, r12.2) else (d_heap_Heap_Pinned k x0 x2 r12.2).bind fun r13 => (toB r13.1).bind fun b14 => (d_ref02_Heap_Pinned k x1 x2 r13.2).bind fun r15 => (toB r15.1).bind fun b16 => some (!(b14 == b16), r15.2)).bind fun r17 => bif r17.1 then (some (.bool false, r17.2)) else ((d_heap_Heap_Find k x0 x2 r17.2).bind fun r18 => r_ii r18.1 fun n19 n20 => (d_ref02_Heap_Find k x1 x2 r18.2).bind fun r21 => r_ii r21.1 fun n22 n23 => (bif n19 != n22 then some (true, r21.2) else some (n20 != n23, r21.2)).bind fun r24 => bif r24.1 then (some (.bool false, r24.2)) else ((d_heap_Heap_Forward k x0 x2 r24.2).bind fun r25 => r_ii r25.1 fun n26 n27 => (d_ref02_Heap_Forward k x1 x2 r25.2).bind fun r28 => r_ii r28.1 fun n29 n30 => (bif n26 != n29 then some (true, r28.2) else some (n27 != n30, r28.2)).bind fun r31 => bif r31.1 then (some (.bool false, r31.2)) else ((d_heap_Heap_Ident k x0 x2 r31.2).bind fun r32 => r_ii r32.1 fun n33 n34 => (d_ref02_Heap_Ident k x1 x2 r32.2).bind fun r35 => r_ii r35.1 fun n36 n37 => (bif n33 != n36 then some (true, r35.2) else some (n34 != n37, r35.2)).bind fun r38 => bif r38.1 then (some (.bool false, r38.2)) else ((d_heap_Heap_Shape k x0 x2 r38.2).bind fun r39 => (toT r39.1).bind fun q40 => if q40.length = 2 then q40.head?.bind fun v41 => a_iii v41 fun n42 n43 n44 => q40.tail.head?.bind fun v45 => (toI .i64 v45).bind fun n46 => allocK r39.2 (.cells [.int .i64 (0 : Int), .int .i64 (0 : Int), .int .i64 (0 : Int)] 33 true) fun h47 s48 => (stN s48 h47 0 [.int .i64 n42, .int .i64 n43, .int .i64 n44]).bind fun s49 => (d_ref02_Heap_Shape k x1 x2 s49).bind fun r50 => (toT r50.1).bind fun q51 => if q51.length = 2 then q51.head?.bind fun v52 => a_iii v52 fun n53 n54 n55 => q51.tail.head?.bind fun v56 => (toI .i64 v56).bind fun n57 => allocK r50.2 (.cells [.int .i64 (0 : Int), .int .i64 (0 : Int), .int .i64 (0 : Int)] 33 true) fun h58 s59 => (stN s59 h58 0 [.int .i64 n53, .int .i64 n54, .int .i64 n55]).bind fun s60 => (ldI .i64 s60 h47 0).bind fun n61 => (ldI .i64 s60 h47 (0 + 1)).bind fun n62 => (ldI .i64 s60 h47 (0 + 1 + 1)).bind fun n63 => (ldI .i64 s60 h58 0).bind fun n64 => (ldI .i64 s60 h58 (0 + 1)).bind fun n65 => (ldI .i64 s60 h58 (0 + 1 + 1)).bind fun n66 => (eqA P 33 (.agg #[.int .i64 n61, .int .i64 n62, .int .i64 n63]) (.agg #[.int .i64 n64, .int .i64 n65, .int .i64 n66])).bind fun e67 => (bif !e67 then some (true, s60) else some (n46 != n57, s60)).bind fun r68 => bif r68.1 then (some (.bool false, r68.2)) else ((d_law02_Looks_l0 k k x0 x1 x2 h58 (-1 : Int) r68.2).bind fun r77 => if r77.1 = .exit 0 then ((d_law02_Looks_l1 k k x0 x1 x2 h58 (-1 : Int) r77.2.2).bind fun r86 => if r86.1 = .exit 2 then (some (.bool true, r86.2.2)) else if r86.1 = .ret then (u_t r86.2.1 fun b87 => some (.bool b87, r86.2.2)) else none) else if r77.1 = .ret then (u_t r77.2.1 fun b88 => some (.bool b88, r77.2.2)) else none) else none else none)))))

theorem law02_Looks_is (k : Nat) (x0 : Option Addr) (x1 : Option Addr) (x2 : Int) (σ : AMem) : law02_Looks k x0 x1 x2 σ = d_law02_Looks k x0 x1 x2 σ := by
  cases k with
  | zero => rfl
  | succ k => rw [law02_Looks_eq, d_law02_Looks]; simp only [heap_Heap_Word_is, heap_Heap_Forward_is, ref02_Heap_Word_is, heap_Heap_Has_is, ref02_Heap_Has_is, heap_Heap_Pinned_is, ref02_Heap_Pinned_is, heap_Heap_Find_is, ref02_Heap_Find_is, ref02_Heap_Forward_is, heap_Heap_Ident_is, ref02_Heap_Ident_is, heap_Heap_Shape_is, ref02_Heap_Shape_is, heap_Heap_Ref_is, ref02_Heap_Ref_is, heap_Heap_Data_is, ref02_Heap_Data_is, law02_Looks_l0_is, law02_Looks_l1_is]

noncomputable def d_heap_Heap_Blocks (k : Nat) (x0 : Option Addr) (σ : AMem) : Option (Value × AMem) := match k with
  | 0 => none
  | k + 1 => ((d_heap_Heap_made k x0 σ).bind fun r1 => (toB r1.1).bind fun b2 => bif !b2 then (some (.int .i64 (0 : Int), r1.2)) else (x0.bind fun a3 => (ldS r1.2 a3.block (a3.off + 0)).bind fun l4 => some (.int .i64 ((l4.2.1 : Nat) : Int), r1.2)))

theorem heap_Heap_Blocks_is (k : Nat) (x0 : Option Addr) (σ : AMem) : heap_Heap_Blocks k x0 σ = d_heap_Heap_Blocks k x0 σ := by
  cases k with
  | zero => rfl
  | succ k => rw [heap_Heap_Blocks_eq, d_heap_Heap_Blocks]; simp only [heap_Heap_made_is]

noncomputable def d_heap_Heap_State (k : Nat) (x0 : Option Addr) (x1 : Int) (σ : AMem) : Option (Value × AMem) := match k with
  | 0 => none
  | k + 1 => ((bif decide (x1 < (0 : Int)) then some (true, σ) else (d_heap_Heap_Blocks k x0 σ).bind fun r1 => (toI .i64 r1.1).bind fun n2 => some (decide (x1 ≥ n2), r1.2)).bind fun r3 => bif r3.1 then (some (.int .i64 (-1 : Int), r3.2)) else (x0.bind fun a4 => (ldS r3.2 a4.block (a4.off + 0)).bind fun l5 => if 0 ≤ x1 ∧ x1 < (l5.2.1 : Nat) then l5.1.bind fun a6 => (ldI .i64 r3.2 a6.block (a6.off + x1.toNat * 2 + 0)).bind fun n7 => some (.int .i64 n7, r3.2) else none))

theorem heap_Heap_State_is (k : Nat) (x0 : Option Addr) (x1 : Int) (σ : AMem) : heap_Heap_State k x0 x1 σ = d_heap_Heap_State k x0 x1 σ := by
  cases k with
  | zero => rfl
  | succ k => rw [heap_Heap_State_eq, d_heap_Heap_State]; simp only [heap_Heap_Blocks_is]

noncomputable def d_heap_Heap_Space (k : Nat) (x0 : Option Addr) (x1 : Int) (σ : AMem) : Option (Value × AMem) := match k with
  | 0 => none
  | k + 1 => ((bif decide (x1 < (0 : Int)) then some (true, σ) else (d_heap_Heap_Blocks k x0 σ).bind fun r1 => (toI .i64 r1.1).bind fun n2 => some (decide (x1 ≥ n2), r1.2)).bind fun r3 => bif r3.1 then (some (.int .i64 (-1 : Int), r3.2)) else (x0.bind fun a4 => (ldS r3.2 a4.block (a4.off + 0)).bind fun l5 => if 0 ≤ x1 ∧ x1 < (l5.2.1 : Nat) then l5.1.bind fun a6 => (ldI .i64 r3.2 a6.block (a6.off + x1.toNat * 2 + 1)).bind fun n7 => some (.int .i64 n7, r3.2) else none))

theorem heap_Heap_Space_is (k : Nat) (x0 : Option Addr) (x1 : Int) (σ : AMem) : heap_Heap_Space k x0 x1 σ = d_heap_Heap_Space k x0 x1 σ := by
  cases k with
  | zero => rfl
  | succ k => rw [heap_Heap_Space_eq, d_heap_Heap_Space]; simp only [heap_Heap_Blocks_is]

noncomputable def d_heap_Heap_All (k : Nat) (x0 : Option Addr) (σ : AMem) : Option (Value × AMem) := match k with
  | 0 => none
  | k + 1 => ((d_heap_Heap_made k x0 σ).bind fun r1 => (toB r1.1).bind fun b2 => bif !b2 then (some (.slice none 0 0, r1.2)) else (x0.bind fun a3 => (ldS r1.2 a3.block (a3.off + 1)).bind fun l4 => (d_heap_Heap_between k x0 (0 : Int) ((l4.2.1 : Nat) : Int) r1.2).bind fun r5 => (toS r5.1).bind fun l6 => some (.slice l6.1 l6.2.1 l6.2.2, r5.2)))

theorem heap_Heap_All_is (k : Nat) (x0 : Option Addr) (σ : AMem) : heap_Heap_All k x0 σ = d_heap_Heap_All k x0 σ := by
  cases k with
  | zero => rfl
  | succ k => rw [heap_Heap_All_eq, d_heap_Heap_All]; simp only [heap_Heap_made_is, heap_Heap_between_is]

noncomputable def d_heap_Heap_used (k : Nat) (x0 : Option Addr) (x1 : Int) (σ : AMem) : Option (Value × AMem) := match k with
  | 0 => none
  | k + 1 => ((d_heap_Heap_there k x0 x1 σ).bind fun r1 => (toB r1.1).bind fun b2 => (bif b2 then x0.bind fun a3 => (ldS r1.2 a3.block (a3.off + 0)).bind fun l4 => if 0 ≤ x1 ∧ x1 < (l4.2.1 : Nat) then l4.1.bind fun a5 => (ldI .i64 r1.2 a5.block (a5.off + x1.toNat * 2 + 0)).bind fun n6 => some (n6 == (1 : Int), r1.2) else none else some (false, r1.2)).bind fun r7 => some (.bool r7.1, r7.2))

theorem heap_Heap_used_is (k : Nat) (x0 : Option Addr) (x1 : Int) (σ : AMem) : heap_Heap_used k x0 x1 σ = d_heap_Heap_used k x0 x1 σ := by
  cases k with
  | zero => rfl
  | succ k => rw [heap_Heap_used_eq, d_heap_Heap_used]; simp only [heap_Heap_there_is]

noncomputable def d_heap_Heap_Gaps_c1 (k : Nat) (x0 : Int) (c0 : Option Addr) (c1 : Option Addr) (σ : AMem) : Option (Value × AMem) := match k with
  | 0 => none
  | k + 1 => (c0.bind fun a1 => (ldI .i64 σ a1.block a1.off).bind fun n2 => (bif decide (x0 > n2) then (c1.bind fun a3 => (ldS σ a3.block a3.off).bind fun l4 => c0.bind fun a5 => (ldI .i64 σ a5.block a5.off).bind fun n6 => c0.bind fun a7 => (ldI .i64 σ a7.block a7.off).bind fun n8 => allocK σ (.cells [.int .i64 n6, .int .i64 (w64 (x0 - n8))] 64 true) fun h9 s10 => (appendD P 64 (l4.1, l4.2.1, l4.2.2) (some ⟨h9, 0, none⟩, 1, 1) s10).bind fun r11 => c1.bind fun a12 => (st1 r11.2 a12.block a12.off (.slice r11.1.1 r11.1.2.1 r11.1.2.2)).bind fun s13 => some (.normal, [], s13)) else (some (.normal, [], σ)) : Option LOut).bind fun r14 => if r14.1 = .normal then (some (.tuple #[], r14.2.2)) else none)

theorem heap_Heap_Gaps_c1_is (k : Nat) (x0 : Int) (c0 : Option Addr) (c1 : Option Addr) (σ : AMem) : heap_Heap_Gaps_c1 k x0 c0 c1 σ = d_heap_Heap_Gaps_c1 k x0 c0 c1 σ := by
  cases k with
  | zero => rfl
  | succ k => rw [heap_Heap_Gaps_c1_eq, d_heap_Heap_Gaps_c1]

noncomputable def d_heap_Heap_Gaps_l0 (k n : Nat) (p0 : Option Addr) (h1 : Nat) (h2 : Nat) (p3 : Option Addr) (c4 : Nat) (c5 : Nat) (i6 : Int) (x21 : Int) (σ : AMem) : Option LOut := match n with
  | 0 => none
  | n + 1 => (bif decide (x21 < i6) then (if 0 ≤ x21 ∧ x21 < (c4 : Nat) then p3.bind fun a10 => (ldI .i64 σ a10.block (a10.off + x21.toNat * 1)).bind fun n11 => (d_heap_Heap_Gaps_c1 k n11 (some ⟨h1, 0, none⟩) (some ⟨h2, 0, none⟩) σ).bind fun r12 => r_0 r12.1 ((d_heap_Heap_size k p0 n11 r12.2).bind fun r13 => (toI .i64 r13.1).bind fun n14 => (st1 r13.2 h1 0 (.int .i64 (w64 (n11 + n14)))).bind fun s15 => d_heap_Heap_Gaps_l0 k n p0 h1 h2 p3 c4 c5 i6 (w64 (x21 + (1 : Int))) s15) else none) else (some (.exit 0, [], σ)))
termination_by structural n

theorem heap_Heap_Gaps_l0_is (k n : Nat) (p0 : Option Addr) (h1 : Nat) (h2 : Nat) (p3 : Option Addr) (c4 : Nat) (c5 : Nat) (i6 : Int) (x21 : Int) (σ : AMem) : heap_Heap_Gaps_l0 k n p0 h1 h2 p3 c4 c5 i6 x21 σ = d_heap_Heap_Gaps_l0 k n p0 h1 h2 p3 c4 c5 i6 x21 σ := by
  induction n generalizing p0 h1 h2 p3 c4 c5 i6 x21 σ with
  | zero => rfl
  | succ n ih => rw [heap_Heap_Gaps_l0_eq, d_heap_Heap_Gaps_l0]; simp only [heap_Heap_Objects_is, heap_Heap_used_is, heap_Heap_Gaps_c1_is, heap_Heap_size_is, ih]

noncomputable def d_heap_Heap_Gaps (k : Nat) (x0 : Option Addr) (x1 : Int) (σ : AMem) : Option (Value × AMem) := match k with
  | 0 => none
  | k + 1 => ((d_heap_Heap_used k x0 x1 σ).bind fun r1 => (toB r1.1).bind fun b2 => bif !b2 then (some (.slice none 0 0, r1.2)) else (allocK r1.2 (.cells [.slice none 0 0] 50 true) fun h3 s4 => allocK s4 (.cells [.int .i64 (0 : Int)] 3 true) fun h5 s6 => (st1 s6 h5 0 (.int .i64 (w64 (x1 * (64 : Int))))).bind fun s7 => (d_heap_Heap_Objects k x0 x1 s7).bind fun r8 => (toS r8.1).bind fun l9 => (d_heap_Heap_Gaps_l0 k k x0 h5 h3 l9.1 l9.2.1 l9.2.2 ((l9.2.1 : Nat) : Int) (0 : Int) r8.2).bind fun r16 => if r16.1 = .exit 0 then ((d_heap_Heap_Gaps_c1 k (w64 ((w64 (x1 + (1 : Int))) * (64 : Int))) (some ⟨h5, 0, none⟩) (some ⟨h3, 0, none⟩) r16.2.2).bind fun r17 => r_0 r17.1 ((ldS r17.2 h3 0).bind fun l18 => some (.slice l18.1 l18.2.1 l18.2.2, r17.2))) else none))

theorem heap_Heap_Gaps_is (k : Nat) (x0 : Option Addr) (x1 : Int) (σ : AMem) : heap_Heap_Gaps k x0 x1 σ = d_heap_Heap_Gaps k x0 x1 σ := by
  cases k with
  | zero => rfl
  | succ k => rw [heap_Heap_Gaps_eq, d_heap_Heap_Gaps]; simp only [heap_Heap_Objects_is, heap_Heap_used_is, heap_Heap_Gaps_c1_is, heap_Heap_size_is, heap_Heap_Gaps_l0_is]

noncomputable def d_heap_Heap_Lines_l1 (k n : Nat) (h0 : Nat) (c1 : Nat) (i2 : Int) (x10 : Int) (σ : AMem) : Option LOut := match n with
  | 0 => none
  | n + 1 => (if (8 : Int) = 0 then none else bif decide (x10 ≤ (w64 (i2.tdiv (8 : Int)))) then (if 0 ≤ x10 ∧ x10 < (c1 : Nat) then (st1 σ h0 (0 + x10.toNat * 1) (.bool true)).bind fun s11 => d_heap_Heap_Lines_l1 k n h0 c1 i2 (w64 (x10 + (1 : Int))) s11 else none) else (some (.exit 2, [], σ)))
termination_by structural n

theorem heap_Heap_Lines_l1_is (k n : Nat) (h0 : Nat) (c1 : Nat) (i2 : Int) (x10 : Int) (σ : AMem) : heap_Heap_Lines_l1 k n h0 c1 i2 x10 σ = d_heap_Heap_Lines_l1 k n h0 c1 i2 x10 σ := by
  induction n generalizing h0 c1 i2 x10 σ with
  | zero => rfl
  | succ n ih => rw [heap_Heap_Lines_l1_eq, d_heap_Heap_Lines_l1]; simp only [heap_Heap_Objects_is, heap_Heap_used_is, heap_Heap_size_is, ih]

noncomputable def d_heap_Heap_Lines_l0 (k n : Nat) (p0 : Option Addr) (h1 : Nat) (c2 : Nat) (p3 : Option Addr) (c4 : Nat) (c5 : Nat) (i6 : Int) (x20 : Int) (σ : AMem) : Option LOut := match n with
  | 0 => none
  | n + 1 => (bif decide (x20 < i6) then (if 0 ≤ x20 ∧ x20 < (c4 : Nat) then p3.bind fun a7 => (ldI .i64 σ a7.block (a7.off + x20.toNat * 1)).bind fun n8 => if (64 : Int) = 0 then none else if (64 : Int) = 0 then none else (d_heap_Heap_size k p0 n8 σ).bind fun r9 => (toI .i64 r9.1).bind fun n10 => if (8 : Int) = 0 then none else (d_heap_Heap_Lines_l1 k k h1 c2 (w64 ((w64 ((n8.tmod (64 : Int)) + n10)) - (1 : Int))) (w64 ((n8.tmod (64 : Int)).tdiv (8 : Int))) r9.2).bind fun r12 => if r12.1 = .exit 2 then (d_heap_Heap_Lines_l0 k n p0 h1 c2 p3 c4 c5 i6 (w64 (x20 + (1 : Int))) r12.2.2) else none else none) else (some (.exit 0, [], σ)))
termination_by structural n

theorem heap_Heap_Lines_l0_is (k n : Nat) (p0 : Option Addr) (h1 : Nat) (c2 : Nat) (p3 : Option Addr) (c4 : Nat) (c5 : Nat) (i6 : Int) (x20 : Int) (σ : AMem) : heap_Heap_Lines_l0 k n p0 h1 c2 p3 c4 c5 i6 x20 σ = d_heap_Heap_Lines_l0 k n p0 h1 c2 p3 c4 c5 i6 x20 σ := by
  induction n generalizing p0 h1 c2 p3 c4 c5 i6 x20 σ with
  | zero => rfl
  | succ n ih => rw [heap_Heap_Lines_l0_eq, d_heap_Heap_Lines_l0]; simp only [heap_Heap_Objects_is, heap_Heap_used_is, heap_Heap_size_is, heap_Heap_Lines_l1_is, ih]

noncomputable def d_heap_Heap_Lines (k : Nat) (x0 : Option Addr) (x1 : Int) (σ : AMem) : Option (Value × AMem) := match k with
  | 0 => none
  | k + 1 => ((d_heap_Heap_used k x0 x1 σ).bind fun r1 => (toB r1.1).bind fun b2 => bif !b2 then (some (.slice none 0 0, r1.2)) else (if 0 ≤ (8 : Int) ∧ (8 : Int) ≤ (8 : Int) ∧ (8 : Int) * (1 : Nat) ≤ 2 ^ 40 ∧ (8 : Int) ≤ 2 ^ 40 then allocK r1.2 (.cells (rep (8 : Int).toNat [.bool false]) 4 true) fun h3 s4 => (d_heap_Heap_Objects k x0 x1 s4).bind fun r5 => (toS r5.1).bind fun l6 => (d_heap_Heap_Lines_l0 k k x0 h3 ((8 : Int).toNat) l6.1 l6.2.1 l6.2.2 ((l6.2.1 : Nat) : Int) (0 : Int) r5.2).bind fun r13 => if r13.1 = .exit 0 then (some (.slice (some ⟨h3, 0, none⟩) ((8 : Int).toNat) ((8 : Int).toNat), r13.2.2)) else none else none))

theorem heap_Heap_Lines_is (k : Nat) (x0 : Option Addr) (x1 : Int) (σ : AMem) : heap_Heap_Lines k x0 x1 σ = d_heap_Heap_Lines k x0 x1 σ := by
  cases k with
  | zero => rfl
  | succ k => rw [heap_Heap_Lines_eq, d_heap_Heap_Lines]; simp only [heap_Heap_Objects_is, heap_Heap_used_is, heap_Heap_size_is, heap_Heap_Lines_l1_is, heap_Heap_Lines_l0_is]

noncomputable def d_heap_Heap_Births (k : Nat) (x0 : Option Addr) (σ : AMem) : Option (Value × AMem) := match k with
  | 0 => none
  | k + 1 => ((d_heap_Heap_made k x0 σ).bind fun r1 => (toB r1.1).bind fun b2 => bif !b2 then (some (.int .i64 (0 : Int), r1.2)) else (x0.bind fun a3 => (ldI .i64 r1.2 a3.block (a3.off + 6)).bind fun n4 => some (.int .i64 n4, r1.2)))

theorem heap_Heap_Births_is (k : Nat) (x0 : Option Addr) (σ : AMem) : heap_Heap_Births k x0 σ = d_heap_Heap_Births k x0 σ := by
  cases k with
  | zero => rfl
  | succ k => rw [heap_Heap_Births_eq, d_heap_Heap_Births]; simp only [heap_Heap_made_is]

noncomputable def d_heap_Heap_Used_l0 (k n : Nat) (p0 : Option Addr) (p1 : Option Addr) (c2 : Nat) (c3 : Nat) (i4 : Int) (x3 : Int) (x9 : Int) (σ : AMem) : Option LOut := match n with
  | 0 => none
  | n + 1 => (bif decide (x9 < i4) then (if 0 ≤ x9 ∧ x9 < (c2 : Nat) then p1.bind fun a3 => (ldI .i64 σ a3.block (a3.off + x9.toNat * 1)).bind fun n4 => (d_heap_Heap_size k p0 n4 σ).bind fun r5 => (toI .i64 r5.1).bind fun n6 => d_heap_Heap_Used_l0 k n p0 p1 c2 c3 i4 (w64 (x3 + n6)) (w64 (x9 + (1 : Int))) r5.2 else none) else (some (.exit 0, [.int .i64 x3], σ)))
termination_by structural n

theorem heap_Heap_Used_l0_is (k n : Nat) (p0 : Option Addr) (p1 : Option Addr) (c2 : Nat) (c3 : Nat) (i4 : Int) (x3 : Int) (x9 : Int) (σ : AMem) : heap_Heap_Used_l0 k n p0 p1 c2 c3 i4 x3 x9 σ = d_heap_Heap_Used_l0 k n p0 p1 c2 c3 i4 x3 x9 σ := by
  induction n generalizing p0 p1 c2 c3 i4 x3 x9 σ with
  | zero => rfl
  | succ n ih => rw [heap_Heap_Used_l0_eq, d_heap_Heap_Used_l0]; simp only [heap_Heap_All_is, heap_Heap_size_is, ih]

noncomputable def d_heap_Heap_Used (k : Nat) (x0 : Option Addr) (σ : AMem) : Option (Value × AMem) := match k with
  | 0 => none
  | k + 1 => ((d_heap_Heap_All k x0 σ).bind fun r1 => (toS r1.1).bind fun l2 => (d_heap_Heap_Used_l0 k k x0 l2.1 l2.2.1 l2.2.2 ((l2.2.1 : Nat) : Int) (0 : Int) (0 : Int) r1.2).bind fun r7 => if r7.1 = .exit 0 then (u_i r7.2.1 fun n8 => some (.int .i64 n8, r7.2.2)) else none)

theorem heap_Heap_Used_is (k : Nat) (x0 : Option Addr) (σ : AMem) : heap_Heap_Used k x0 σ = d_heap_Heap_Used k x0 σ := by
  cases k with
  | zero => rfl
  | succ k => rw [heap_Heap_Used_eq, d_heap_Heap_Used]; simp only [heap_Heap_All_is, heap_Heap_size_is, heap_Heap_Used_l0_is]

noncomputable def d_law02_HeapNone (k : Nat) (x0_0 : Int) (x0_1 : Int) (x0_2 : Int) (x0_3 : Int) (x0_4 : Int) (x0_5 : Int) (x0_6 : Int) (σ : AMem) : Option (Value × AMem) := match k with
  | 0 => none
  | k + 1 => (allocK σ (.cells [.int .i64 x0_0, .int .i64 x0_1, .int .i64 x0_2, .int .i64 x0_3, .int .i64 x0_4, .int .i64 x0_5, .int .i64 x0_6] 35 true) fun h1 s2 => allocK s2 (.cells [.slice none 0 0, .slice none 0 0, .pointer none, .pointer none, .map none, .map none, .int .i64 (0 : Int)] 46 true) fun h3 s4 => (ldI .i64 s4 h1 0).bind fun n5 => (ldI .i64 s4 h1 (0 + 1)).bind fun n6 => (ldI .i64 s4 h1 (0 + 1 + 1)).bind fun n7 => (ldI .i64 s4 h1 (0 + 1 + 1 + 1)).bind fun n8 => (ldI .i64 s4 h1 (0 + 1 + 1 + 1 + 1)).bind fun n9 => (ldI .i64 s4 h1 (0 + 1 + 1 + 1 + 1 + 1)).bind fun n10 => (ldI .i64 s4 h1 (0 + 1 + 1 + 1 + 1 + 1 + 1)).bind fun n11 => (d_law02_Play k none none n5 n6 n7 n8 n9 n10 n11 s4).bind fun r12 => (toB r12.1).bind fun b13 => (bif b13 then (ldI .i64 r12.2 h1 0).bind fun n14 => (ldI .i64 r12.2 h1 (0 + 1)).bind fun n15 => (ldI .i64 r12.2 h1 (0 + 1 + 1)).bind fun n16 => (ldI .i64 r12.2 h1 (0 + 1 + 1 + 1)).bind fun n17 => (ldI .i64 r12.2 h1 (0 + 1 + 1 + 1 + 1)).bind fun n18 => (ldI .i64 r12.2 h1 (0 + 1 + 1 + 1 + 1 + 1)).bind fun n19 => (ldI .i64 r12.2 h1 (0 + 1 + 1 + 1 + 1 + 1 + 1)).bind fun n20 => (d_law02_Play k (some ⟨h3, 0, none⟩) none n14 n15 n16 n17 n18 n19 n20 r12.2).bind fun r21 => (toB r21.1).bind fun b22 => some (b22, r21.2) else some (false, r12.2)).bind fun r23 => (bif r23.1 then (ldI .i64 r23.2 h1 (0 + 1)).bind fun n24 => (d_law02_Looks k none none n24 r23.2).bind fun r25 => (toB r25.1).bind fun b26 => some (b26, r25.2) else some (false, r23.2)).bind fun r27 => (bif r27.1 then (ldI .i64 r27.2 h1 (0 + 1)).bind fun n28 => (d_law02_Looks k (some ⟨h3, 0, none⟩) none n28 r27.2).bind fun r29 => (toB r29.1).bind fun b30 => some (b30, r29.2) else some (false, r27.2)).bind fun r31 => (bif r31.1 then (ldI .i64 r31.2 h1 (0 + 1)).bind fun n32 => (d_heap_Heap_State k none n32 r31.2).bind fun r33 => (toI .i64 r33.1).bind fun n34 => some (n34 == (-1 : Int), r33.2) else some (false, r31.2)).bind fun r35 => (bif r35.1 then (ldI .i64 r35.2 h1 (0 + 1)).bind fun n36 => (d_heap_Heap_State k (some ⟨h3, 0, none⟩) n36 r35.2).bind fun r37 => (toI .i64 r37.1).bind fun n38 => some (n38 == (-1 : Int), r37.2) else some (false, r35.2)).bind fun r39 => (bif r39.1 then (ldI .i64 r39.2 h1 (0 + 1)).bind fun n40 => (d_heap_Heap_Space k none n40 r39.2).bind fun r41 => (toI .i64 r41.1).bind fun n42 => some (n42 == (-1 : Int), r41.2) else some (false, r39.2)).bind fun r43 => (bif r43.1 then (ldI .i64 r43.2 h1 (0 + 1)).bind fun n44 => (d_heap_Heap_Space k (some ⟨h3, 0, none⟩) n44 r43.2).bind fun r45 => (toI .i64 r45.1).bind fun n46 => some (n46 == (-1 : Int), r45.2) else some (false, r43.2)).bind fun r47 => (bif r47.1 then (d_heap_Heap_All k none r47.2).bind fun r48 => (toS r48.1).bind fun l49 => some (((l49.2.1 : Nat) : Int) == (0 : Int), r48.2) else some (false, r47.2)).bind fun r50 => (bif r50.1 then (d_heap_Heap_All k (some ⟨h3, 0, none⟩) r50.2).bind fun r51 => (toS r51.1).bind fun l52 => some (((l52.2.1 : Nat) : Int) == (0 : Int), r51.2) else some (false, r50.2)).bind fun r53 => (bif r53.1 then (ldI .i64 r53.2 h1 (0 + 1)).bind fun n54 => (d_heap_Heap_Gaps k none n54 r53.2).bind fun r55 => (toS r55.1).bind fun l56 => some (((l56.2.1 : Nat) : Int) == (0 : Int), r55.2) else some (false, r53.2)).bind fun r57 => (bif r57.1 then (ldI .i64 r57.2 h1 (0 + 1)).bind fun n58 => (d_heap_Heap_Lines k (some ⟨h3, 0, none⟩) n58 r57.2).bind fun r59 => (toS r59.1).bind fun l60 => some (((l60.2.1 : Nat) : Int) == (0 : Int), r59.2) else some (false, r57.2)).bind fun r61 => (bif r61.1 then (d_heap_Heap_Blocks k none r61.2).bind fun r62 => (toI .i64 r62.1).bind fun n63 => some (n63 == (0 : Int), r62.2) else some (false, r61.2)).bind fun r64 => (bif r64.1 then (d_heap_Heap_Births k (some ⟨h3, 0, none⟩) r64.2).bind fun r65 => (toI .i64 r65.1).bind fun n66 => some (n66 == (0 : Int), r65.2) else some (false, r64.2)).bind fun r67 => (bif r67.1 then (d_heap_Heap_Used k (some ⟨h3, 0, none⟩) r67.2).bind fun r68 => (toI .i64 r68.1).bind fun n69 => some (n69 == (0 : Int), r68.2) else some (false, r67.2)).bind fun r70 => (bif r70.1 then (d_heap_Heap_Clone k none r70.2).bind fun r71 => (toP r71.1).bind fun p72 => (eqA P 25 (.pointer p72) (.pointer none)).bind fun e73 => some (e73, r71.2) else some (false, r70.2)).bind fun r74 => (bif r74.1 then (d_heap_Heap_Clone k (some ⟨h3, 0, none⟩) r74.2).bind fun r75 => (toP r75.1).bind fun p76 => (eqA P 25 (.pointer p76) (.pointer none)).bind fun e77 => some (e77, r75.2) else some (false, r74.2)).bind fun r78 => (bif r78.1 then (d_law02_alive k  r78.2).bind fun r79 => (toB r79.1).bind fun b80 => some (b80, r79.2) else some (false, r78.2)).bind fun r81 => some (.bool r81.1, r81.2))

theorem law02_HeapNone_is (k : Nat) (x0_0 : Int) (x0_1 : Int) (x0_2 : Int) (x0_3 : Int) (x0_4 : Int) (x0_5 : Int) (x0_6 : Int) (σ : AMem) : law02_HeapNone k x0_0 x0_1 x0_2 x0_3 x0_4 x0_5 x0_6 σ = d_law02_HeapNone k x0_0 x0_1 x0_2 x0_3 x0_4 x0_5 x0_6 σ := by
  cases k with
  | zero => rfl
  | succ k => rw [law02_HeapNone_eq, d_law02_HeapNone]; simp only [law02_alive_is, heap_Heap_Clone_is, law02_Play_is, law02_Looks_is, heap_Heap_State_is, heap_Heap_Space_is, heap_Heap_All_is, heap_Heap_Gaps_is, heap_Heap_Lines_is, heap_Heap_Blocks_is, heap_Heap_Births_is, heap_Heap_Used_is]

noncomputable def d_heap_Heap_claim_c1 (k : Nat) (x0_0 : Int) (x0_1 : Int) (σ : AMem) : Option (Value × AMem) := match k with
  | 0 => none
  | k + 1 => (allocK σ (.cells [.int .i64 x0_0, .int .i64 x0_1] 74 true) fun h1 s2 => (ldI .i64 s2 h1 0).bind fun n3 => (ldI .i64 s2 h1 (0 + 1)).bind fun n4 => (eqA P 74 (.agg #[.int .i64 n3, .int .i64 n4]) (.agg #[.int .i64 (0 : Int), .int .i64 (0 : Int)])).bind fun e5 => some (.bool (!e5), s2))

theorem heap_Heap_claim_c1_is (k : Nat) (x0_0 : Int) (x0_1 : Int) (σ : AMem) : heap_Heap_claim_c1 k x0_0 x0_1 σ = d_heap_Heap_claim_c1 k x0_0 x0_1 σ := by
  cases k with
  | zero => rfl
  | succ k => rw [heap_Heap_claim_c1_eq, d_heap_Heap_claim_c1]

noncomputable def d_side_Table_value (k : Nat) (x0 : Option Addr) (x1 : Int) (σ : AMem) : Option (Value × AMem) := match k with
  | 0 => none
  | k + 1 => ((bif decide (x1 ≥ (0 : Int)) then (d_side_Table_most k x0 σ).bind fun r1 => (toI .i64 r1.1).bind fun n2 => some (decide (x1 ≤ n2), r1.2) else some (false, σ)).bind fun r3 => some (.bool r3.1, r3.2))

theorem side_Table_value_is (k : Nat) (x0 : Option Addr) (x1 : Int) (σ : AMem) : side_Table_value k x0 x1 σ = d_side_Table_value k x0 x1 σ := by
  cases k with
  | zero => rfl
  | succ k => rw [side_Table_value_eq, d_side_Table_value]; simp only [side_Table_most_is]

noncomputable def d_side_Table_check_c1 (k : Nat) (x0 : Int) (c0 : Option Addr) (σ : AMem) : Option (Value × AMem) := match k with
  | 0 => none
  | k + 1 => (c0.bind fun a1 => (ldP σ a1.block a1.off).bind fun p2 => (d_side_Table_value k p2 x0 σ).bind fun r3 => (toB r3.1).bind fun b4 => some (.bool (!b4), r3.2))

theorem side_Table_check_c1_is (k : Nat) (x0 : Int) (c0 : Option Addr) (σ : AMem) : side_Table_check_c1 k x0 c0 σ = d_side_Table_check_c1 k x0 c0 σ := by
  cases k with
  | zero => rfl
  | succ k => rw [side_Table_check_c1_eq, d_side_Table_check_c1]; simp only [side_Table_value_is]

end Go.Proofs.YtdlihdgoobcoaaaGreat
