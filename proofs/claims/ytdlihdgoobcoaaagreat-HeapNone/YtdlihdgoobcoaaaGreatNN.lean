/-
  HeapNone: what the law's function comes to.
-/
import Derived.Test.YtdlihdgoobcoaaaGreatNP
set_option linter.unusedVariables false
set_option linter.unusedSimpArgs false
set_option maxRecDepth 10000
namespace Go.Proofs.YtdlihdgoobcoaaaGreat
open Go Go.AX
noncomputable local instance : Quiet := fullQuiet

structure Inv (cs : List Value) (σ : AMem) : Prop where
  ld : ∀ o, ldI .i64 σ 0 o = (cs[o]?).bind (toI .i64)
  no : NoH σ (some ⟨1, 0, none⟩)
  pos : 0 < σ.length
theorem Inv.app {cs : List Value} {σ : AMem} (h : Inv cs σ) (τ : AMem) : Inv cs (σ ++ τ) :=
  ⟨fun o => by rw [ldI_app _ _ _ h.pos]; exact h.ld o, h.no.app τ, by have := h.pos; simp; omega⟩
theorem nilNo (σ : AMem) : NoH σ none := .inl rfl

theorem HeapNone_to (x0 x1 x2 x3 x4 x5 x6 : Int) : ∃ σ', law02_HeapNone 12 x0 x1 x2 x3 x4 x5 x6 [] = some (.bool true, σ') := by
  rw [law02_HeapNone_is, d_law02_HeapNone]
  simp only [allocK]
  have I0 : Inv [.int .i64 x0, .int .i64 x1, .int .i64 x2, .int .i64 x3, .int .i64 x4, .int .i64 x5, .int .i64 x6] (([] ++ [.cells [.int .i64 x0, .int .i64 x1, .int .i64 x2, .int .i64 x3, .int .i64 x4, .int .i64 x5, .int .i64 x6] 35 true]) ++ [AObj.cells [.slice none 0 0, .slice none 0 0, .pointer none, .pointer none, .map none, .map none, .int .i64 (0 : Int)] 46 true]) :=
    ⟨fun o => by rw [ldI_app _ _ _ (by simp)]; exact ldI_new .i64 [] _ _ _ o, .inr ⟨1, 46, true, rfl, rfl⟩, by simp⟩
  have l0 : ([] : AMem).length = 0 := rfl
  have l1 : ([] ++ [AObj.cells [.int .i64 x0, .int .i64 x1, .int .i64 x2, .int .i64 x3, .int .i64 x4, .int .i64 x5, .int .i64 x6] 35 true]).length = 1 := rfl
  rw [l0, l1]
  generalize (([] ++ [AObj.cells [.int .i64 x0, .int .i64 x1, .int .i64 x2, .int .i64 x3, .int .i64 x4, .int .i64 x5, .int .i64 x6] 35 true]) ++ [AObj.cells [.slice none 0 0, .slice none 0 0, .pointer none, .pointer none, .map none, .map none, .int .i64 (0 : Int)] 46 true] : AMem) = σ0 at I0 ⊢
  simp only [I0.ld, List.getElem?_cons_zero, List.getElem?_cons_succ, Option.bind_some, toI_int, Nat.zero_add, Nat.reduceAdd]
  obtain ⟨τ, e⟩ := Play_no (nilNo σ0) 3 x0 x1 x2 x3 x4 x5 x6
  rw [e]
  have I1 := I0.app τ
  generalize σ0 ++ τ = σ1 at I1 ⊢
  simp only [I1.ld, List.getElem?_cons_zero, List.getElem?_cons_succ, Option.bind_some, toI_int, toB_bool, cond_true, Nat.reduceAdd]
  obtain ⟨τ, e⟩ := Play_no I1.no 3 x0 x1 x2 x3 x4 x5 x6
  rw [e]
  have I2 := I1.app τ
  generalize σ1 ++ τ = σ2 at I2 ⊢
  simp only [I2.ld, List.getElem?_cons_zero, List.getElem?_cons_succ, Option.bind_some, toI_int, toB_bool, cond_true, Nat.reduceAdd]
  obtain ⟨τ, e⟩ := Looks_no (nilNo σ2) 3 x1
  rw [e]
  have I3 := I2.app τ
  generalize σ2 ++ τ = σ3 at I3 ⊢
  simp only [I3.ld, List.getElem?_cons_zero, List.getElem?_cons_succ, Option.bind_some, toI_int, toB_bool, cond_true, Nat.reduceAdd]
  obtain ⟨τ, e⟩ := Looks_no I3.no 3 x1
  rw [e]
  have I4 := I3.app τ
  generalize σ3 ++ τ = σ4 at I4 ⊢
  have ep : eqA P 25 (.pointer none) (.pointer none) = some true := by kernel_rfl
  simp only [I4.ld, List.getElem?_cons_zero, List.getElem?_cons_succ, Option.bind_some, toI_int, toB_bool, cond_true, Nat.reduceAdd, heap_Heap_State_no (nilNo _), heap_Heap_State_no I4.no, heap_Heap_Space_no (nilNo _), heap_Heap_Space_no I4.no,
    heap_Heap_All_no (nilNo _), heap_Heap_All_no I4.no, heap_Heap_Gaps_no (nilNo _), heap_Heap_Lines_no I4.no, heap_Heap_Blocks_no (nilNo _), heap_Heap_Births_no I4.no, heap_Heap_Used_no I4.no, heap_Heap_Clone_no (nilNo _), heap_Heap_Clone_no I4.no, BEq.rfl, toS_nil,
    show toP (.pointer none) = some none from rfl, ep, d_law02_alive, show (((0 : Nat) : Int) == 0) = true from rfl]
  exact ⟨_, rfl⟩
end Go.Proofs.YtdlihdgoobcoaaaGreat
