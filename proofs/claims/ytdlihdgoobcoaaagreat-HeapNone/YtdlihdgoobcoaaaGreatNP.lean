/-
  Play, of heaps that nobody made.
-/
import Derived.Test.YtdlihdgoobcoaaaGreatNL
set_option linter.unusedVariables false
set_option linter.unusedSimpArgs false
set_option maxRecDepth 10000
namespace Go.Proofs.YtdlihdgoobcoaaaGreat
open Go Go.AX
noncomputable local instance : Quiet := fullQuiet

theorem quietly_same {ρ : Type} (σ : AMem) (m : Option ρ) : quietly σ σ m = m := by
  have := quietly_full σ [] m
  rwa [List.append_nil] at this
theorem bif_ex {α : Type} {b : Bool} {X Y : Option α} {f : AMem → Option α} (h1 : ∃ τ, X = f τ) (h2 : ∃ τ, Y = f τ) : ∃ τ, (bif b then X else Y) = f τ := by
  cases b
  · exact h2
  · exact h1

theorem Play_no {σ : AMem} {p : Option Addr} (h : NoH σ p) (k : Nat) (x0 x1 x2 x3 x4 x5 x6 : Int) : Adds (d_law02_Play (k + 8) p none x0 x1 x2 x3 x4 x5 x6 σ) σ (.bool true) := by
  unfold Adds
  rw [d_law02_Play]
  simp only [allocK, ldI_new, Nat.zero_add, List.getElem?_cons_zero, List.getElem?_cons_succ, Option.bind_some, toI_int]
  have g := h.app [AObj.cells [.int .i64 x0, .int .i64 x1, .int .i64 x2, .int .i64 x3, .int .i64 x4, .int .i64 x5, .int .i64 x6] 35 true]
  refine bif_ex ?_ (bif_ex ?_ (bif_ex ?_ (bif_ex ?_ (bif_ex ?_ (bif_ex ?_ (bif_ex ?_ (bif_ex ?_ (bif_ex ?_ (bif_ex ?_ (bif_ex ?_ (bif_ex ?_ (bif_ex ?_ ?_))))))))))))
  · rw [(heap_Heap_Claim_no g _ _ _).eq]
    simp only [Option.bind_some, quietly_full, toI_int, ldI_newapp, List.getElem?_cons_zero, List.getElem?_cons_succ, ref02_Heap_Claim_no, BEq.rfl]
    simp only [List.append_assoc]
    exact ⟨_, rfl⟩
  · rw [(heap_Heap_ClaimLarge_no g _ _ _ _).eq]
    simp only [Option.bind_some, quietly_full, toI_int, ldI_newapp, List.getElem?_cons_zero, List.getElem?_cons_succ, ref02_Heap_ClaimLarge_no, BEq.rfl]
    simp only [List.append_assoc]
    exact ⟨_, rfl⟩
  · simp only [heap_Heap_Release_no g, Option.bind_some, quietly_same, toI_int, ldI_new, List.getElem?_cons_zero, List.getElem?_cons_succ, ref02_Heap_Release_no, BEq.rfl]
    exact ⟨_, rfl⟩
  · simp only [heap_Heap_Retag_no g, Option.bind_some, quietly_same, toI_int, ldI_new, List.getElem?_cons_zero, List.getElem?_cons_succ, ref02_Heap_Retag_no, BEq.rfl]
    exact ⟨_, rfl⟩
  · rw [(heap_Heap_Place_no g _ _ _ _ _).eq]
    simp only [Option.bind_some, r_ii_eq, ldI_newapp, List.getElem?_cons_zero, List.getElem?_cons_succ, toI_int]
    rw [(ref02_Heap_Place_no _ _ _ _ _).eq]
    simp only [Option.bind_some, r_ii_eq, BEq.rfl, cond_true, List.append_assoc]
    exact ⟨_, rfl⟩
  · simp only [heap_Heap_Kill_no g, Option.bind_some, quietly_same, toI_int, ldI_new, List.getElem?_cons_zero, List.getElem?_cons_succ, ref02_Heap_Kill_no, BEq.rfl]
    exact ⟨_, rfl⟩
  · simp only [heap_Heap_Move_no g, Option.bind_some, quietly_same, toI_int, ldI_new, List.getElem?_cons_zero, List.getElem?_cons_succ, ref02_Heap_Move_no, BEq.rfl]
    exact ⟨_, rfl⟩
  · simp only [heap_Heap_SetRef_no g, Option.bind_some, quietly_same, toI_int, ldI_new, List.getElem?_cons_zero, List.getElem?_cons_succ, ref02_Heap_SetRef_no, BEq.rfl]
    exact ⟨_, rfl⟩
  · simp only [heap_Heap_SetData_no g, Option.bind_some, quietly_same, toI_int, ldI_new, List.getElem?_cons_zero, List.getElem?_cons_succ, ref02_Heap_SetData_no, BEq.rfl]
    exact ⟨_, rfl⟩
  · simp only [heap_Heap_Poke_no g, Option.bind_some, quietly_same, toI_int, ldI_new, List.getElem?_cons_zero, List.getElem?_cons_succ, ref02_Heap_Poke_no, BEq.rfl]
    exact ⟨_, rfl⟩
  · simp only [heap_Heap_Pin_no g, Option.bind_some, quietly_same, toI_int, ldI_new, List.getElem?_cons_zero, List.getElem?_cons_succ, ref02_Heap_Pin_no, BEq.rfl]
    exact ⟨_, rfl⟩
  · simp only [heap_Heap_Unpin_no g, Option.bind_some, quietly_same, toI_int, ldI_new, List.getElem?_cons_zero, List.getElem?_cons_succ, ref02_Heap_Unpin_no, BEq.rfl]
    exact ⟨_, rfl⟩
  · simp only [heap_Heap_Forget_no g, Option.bind_some, toI_int, ref02_Heap_Forget_no, BEq.rfl]
    exact ⟨_, rfl⟩
  · exact ⟨_, rfl⟩
end Go.Proofs.YtdlihdgoobcoaaaGreat
