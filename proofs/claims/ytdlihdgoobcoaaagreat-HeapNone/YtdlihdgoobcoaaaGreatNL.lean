/-
  Looks, of heaps that nobody made.
-/
import Derived.Test.YtdlihdgoobcoaaaGreatNS2
set_option linter.unusedVariables false
set_option linter.unusedSimpArgs false
set_option maxRecDepth 10000
namespace Go.Proofs.YtdlihdgoobcoaaaGreat
open Go Go.AX
noncomputable local instance : Quiet := fullQuiet

theorem bne0 (n : Int) : (n != n) = false := by simp
theorem toT_mk (l : List Value) : toT (.tuple l.toArray) = some l := rfl

theorem Looks_l0_no {σ : AMem} {p : Option Addr} (h : NoH σ p) (k n : Nat) (x : Int) (b : Nat) (hl : ldI .i64 σ b (0 + 0) = some 0) : d_law02_Looks_l0 (k + 4) (n + 3) p none x b (-1) σ = some (.exit 0, [], σ) := by
  have e1 : w64 (-1 + 1) = 0 := by rfl
  have e2 : w64 (0 + 1) = 1 := by rfl
  rw [d_law02_Looks_l0]
  simp only [hl, Option.bind_some, heap_Heap_Ref_no h, ref02_Heap_Ref_no, r_ii_eq, bne0, cond_false, cond_true, show decide ((-1 : Int) ≤ 0) = true from rfl, e1]
  rw [d_law02_Looks_l0]
  simp only [hl, Option.bind_some, heap_Heap_Ref_no h, ref02_Heap_Ref_no, r_ii_eq, bne0, cond_false, cond_true, show decide ((0 : Int) ≤ 0) = true from rfl, e2]
  rw [d_law02_Looks_l0]
  simp only [hl, Option.bind_some, cond_false, show decide ((1 : Int) ≤ 0) = false from rfl]

theorem Looks_l1_no {σ : AMem} {p : Option Addr} (h : NoH σ p) (k n : Nat) (x : Int) (b : Nat) (hl : ldI .i64 σ b (0 + 1) = some 0) : d_law02_Looks_l1 (k + 4) (n + 3) p none x b (-1) σ = some (.exit 2, [], σ) := by
  have e1 : w64 (-1 + 1) = 0 := by rfl
  have e2 : w64 (0 + 1) = 1 := by rfl
  rw [d_law02_Looks_l1]
  simp only [hl, Option.bind_some, heap_Heap_Data_no h, ref02_Heap_Data_no, r_ii_eq, bne0, cond_false, cond_true, show decide ((-1 : Int) ≤ 0) = true from rfl, e1]
  rw [d_law02_Looks_l1]
  simp only [hl, Option.bind_some, heap_Heap_Data_no h, ref02_Heap_Data_no, r_ii_eq, bne0, cond_false, cond_true, show decide ((0 : Int) ≤ 0) = true from rfl, e2]
  rw [d_law02_Looks_l1]
  simp only [hl, Option.bind_some, cond_false, show decide ((1 : Int) ≤ 0) = false from rfl]

theorem Looks_no {σ : AMem} {p : Option Addr} (h : NoH σ p) (k : Nat) (x : Int) : Adds (d_law02_Looks (k + 8) p none x σ) σ (.bool true) := by
  unfold Adds
  rw [d_law02_Looks]
  simp only [heap_Heap_Word_no h, ref02_Heap_Word_no, heap_Heap_Has_no h, ref02_Heap_Has_no, heap_Heap_Pinned_no h, ref02_Heap_Pinned_no, heap_Heap_Find_no h, ref02_Heap_Find_no, heap_Heap_Forward_no h, ref02_Heap_Forward_no,
    heap_Heap_Ident_no h, ref02_Heap_Ident_no, Option.bind_some, r_ii_eq, toB_bool, bne0, cond_false, cond_true, BEq.rfl, Bool.not_true]
  obtain ⟨τ1, e1⟩ := heap_Heap_Shape_no h (k + 4) x
  rw [e1]
  have h1 := h.app τ1
  generalize hσ1 : σ ++ τ1 = σ1 at h1 ⊢
  simp only [Option.bind_some, toT_mk, List.length_cons, List.length_nil, Nat.reduceAdd, if_true, List.head?_cons, List.tail_cons, a_iii_eq, toI_int, allocK]
  rw [stN_new _ _ _ _ rfl]
  simp only [Option.bind_some]
  obtain ⟨τ2, e2⟩ := ref02_Heap_Shape_no (σ := σ1 ++ [AObj.cells [.int .i64 0, .int .i64 0, .int .i64 0] 33 true]) (k + 4) x
  rw [e2]
  simp only [Option.bind_some, toT_mk, List.length_cons, List.length_nil, Nat.reduceAdd, if_true, List.head?_cons, List.tail_cons, a_iii_eq, toI_int]
  rw [stN_new _ _ _ _ rfl]
  simp only [Option.bind_some, ldI_new]
  simp only [List.append_assoc, List.cons_append, List.nil_append, ldI_mid, List.getElem?_cons_zero, List.getElem?_cons_succ, Option.bind_some, toI_int]
  have e3 : eqA P 33 (.agg #[.int .i64 0, .int .i64 0, .int .i64 0]) (.agg #[.int .i64 0, .int .i64 0, .int .i64 0]) = some true := by kernel_rfl
  rw [e3]
  simp only [Option.bind_some, Bool.not_true, cond_false, bne0]
  have hl : ∀ o, ldI .i64 (σ1 ++ AObj.cells [.int .i64 0, .int .i64 0, .int .i64 0] 33 true :: (τ2 ++ [AObj.cells [.int .i64 0, .int .i64 0, .int .i64 0] 33 true])) (σ1 ++ AObj.cells [.int .i64 0, .int .i64 0, .int .i64 0] 33 true :: τ2).length o = ([Value.int .i64 0, .int .i64 0, .int .i64 0][o]?).bind (toI .i64) := by
    intro o
    rw [show σ1 ++ AObj.cells [.int .i64 0, .int .i64 0, .int .i64 0] 33 true :: (τ2 ++ [AObj.cells [.int .i64 0, .int .i64 0, .int .i64 0] 33 true]) = (σ1 ++ AObj.cells [.int .i64 0, .int .i64 0, .int .i64 0] 33 true :: τ2) ++ [AObj.cells [.int .i64 0, .int .i64 0, .int .i64 0] 33 true] by simp, ldI_new]
  rw [Looks_l0_no (h1.app _) (k + 3) (k + 4) x _ (hl 0)]
  simp only [Option.bind_some, if_true]
  rw [Looks_l1_no (h1.app _) (k + 3) (k + 4) x _ (hl 1)]
  simp only [Option.bind_some, if_true]
  rw [← hσ1]
  simp only [List.append_assoc]
  exact ⟨_, rfl⟩
end Go.Proofs.YtdlihdgoobcoaaaGreat
