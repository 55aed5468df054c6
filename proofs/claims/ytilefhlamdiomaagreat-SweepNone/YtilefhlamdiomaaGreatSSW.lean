/-
  SweepNone: what the methods of sweepers that nobody made come to.
-/
import Derived.Test.YtilefhlamdiomaaGreatSAXL
import Derived.Test.YtilefhlamdiomaaGreatAXM
set_option linter.unusedVariables false
set_option linter.unusedSimpArgs false
namespace Go.Proofs.YtilefhlamdiomaaGreat
open Go Go.AX
local instance kSW : Kn := ⟨true⟩
local instance qSW : Quiet := boolQuiet

theorem smade_nil (k : Nat) (σ : AMem) : d_sweep_Sweeper_made (k + 1) none σ = some (.bool false, σ) := by
  rw [d_sweep_Sweeper_made_eq, b_sweep_Sweeper_made]
  simp only [sw, strA, strR, str0, Option.bind_some, show eqA P pt_sweep_Sweeper (.pointer none) (.pointer none) = some true from by kernel_rfl, Bool.not_true, cond_false]

theorem rmade_nil (k : Nat) (σ : AMem) : d_ref08_Sweeper_Made (k + 1) none σ = some (.bool false, σ) := by
  rw [d_ref08_Sweeper_Made_eq, b_ref08_Sweeper_Made]
  simp only [sw, strA, strR, str0, Option.bind_some, show eqA P pt_dustcartref08_Sweeper (.pointer none) (.pointer none) = some true from by kernel_rfl, Bool.not_true, cond_false]

theorem hmade_nil (k : Nat) (σ : AMem) : d_ref02_Heap_Made (k + 1) none σ = some (.bool false, σ) := by
  rw [d_ref02_Heap_Made_eq, b_ref02_Heap_Made]
  simp only [sw, strA, strR, str0, Option.bind_some, show eqA P pt_dustcartref02_Heap (.pointer none) (.pointer none) = some true from by kernel_rfl, Bool.not_true, cond_false]

/-- A sweeper that nobody made, with any memory behind. -/
def Unmade (x : Option Addr) (σ : AMem) : Prop := ∀ (k : Nat) (τ : AMem), d_sweep_Sweeper_made (k + 1) x (σ ++ τ) = some (.bool false, σ ++ τ)

theorem unmade_nil (σ : AMem) : Unmade none σ := fun k τ => smade_nil k _
theorem unmade_zero {σ : AMem} {h : Nat} (hz : σ[h]? = some (.cells [.pointer none, .pointer none, .slice none 0 0] ty_sweep_Sweeper true)) : Unmade (some ⟨h, 0, none⟩) σ := by
  intro k τ
  have hl : h < σ.length := (List.getElem?_eq_some_iff.1 hz).1
  have e : ldP (σ ++ τ) h (0 + 0) = some none := by simp [ldP, ld1, List.getElem?_append_left hl, hz, toP]
  rw [d_sweep_Sweeper_made_eq, b_sweep_Sweeper_made]
  simp only [sw, strA, strR, str0, Option.bind_some, show eqA P pt_sweep_Sweeper (.pointer (some ⟨h, 0, none⟩)) (.pointer none) = some false from by kernel_rfl, Bool.not_false, cond_true, e, show eqA P pt_heap_Heap (.pointer none) (.pointer none) = some true from by kernel_rfl, Bool.not_true]

variable {σ : AMem} {x : Option Addr}
theorem Unmade.app (h : Unmade x σ) (τ : AMem) : Unmade x (σ ++ τ) := fun k τ' => by rw [List.append_assoc]; exact h k (τ ++ τ')
theorem Unmade.at (h : Unmade x σ) (k : Nat) : d_sweep_Sweeper_made (k + 1) x σ = some (.bool false, σ) := by have := h k []; rwa [List.append_nil] at this

theorem Block_un (k : Nat) (h : Unmade x σ) (b : Int) : d_sweep_Sweeper_Block (k + 2) x b σ = some (.tuple #[.int .i64 0, .int .i64 5], σ) := by
  rw [d_sweep_Sweeper_Block_eq, b_sweep_Sweeper_Block]
  simp only [sw, strA, strR, str0, h.at, Option.bind_some, toB_bool, Bool.not_false, cond_true]
theorem Need_un (k : Nat) (h : Unmade x σ) (b : Int) : d_sweep_Sweeper_Need (k + 2) x b σ = some (.tuple #[.int .i64 0, .int .i64 5], σ) := by
  rw [d_sweep_Sweeper_Need_eq, b_sweep_Sweeper_Need]
  simp only [sw, strA, strR, str0, h.at, Option.bind_some, toB_bool, Bool.not_false, cond_true]
theorem Born_un (k : Nat) (h : Unmade x σ) (b : Int) : d_sweep_Sweeper_Born (k + 2) x b σ = some (.int .i64 5, σ) := by
  rw [d_sweep_Sweeper_Born_eq, b_sweep_Sweeper_Born]
  simp only [sw, strA, strR, str0, h.at, Option.bind_some, toB_bool, Bool.not_false, cond_true]
theorem Finish_un (k : Nat) (h : Unmade x σ) : d_sweep_Sweeper_Finish (k + 2) x σ = some (.tuple #[.int .i64 0, .int .i64 5], σ) := by
  rw [d_sweep_Sweeper_Finish_eq, b_sweep_Sweeper_Finish]
  simp only [sw, strA, strR, str0, h.at, Option.bind_some, toB_bool, Bool.not_false, cond_true]
theorem rBlock_un (k : Nat) (b : Int) (σ : AMem) : d_ref08_Sweeper_Block (k + 2) none b σ = some (.tuple #[.int .i64 0, .int .i64 5], σ) := by
  rw [d_ref08_Sweeper_Block_eq, b_ref08_Sweeper_Block]
  simp only [sw, strA, strR, str0, rmade_nil, Option.bind_some, toB_bool, Bool.not_false, cond_true]
theorem rNeed_un (k : Nat) (b : Int) (σ : AMem) : d_ref08_Sweeper_Need (k + 2) none b σ = some (.tuple #[.int .i64 0, .int .i64 5], σ) := by
  rw [d_ref08_Sweeper_Need_eq, b_ref08_Sweeper_Need]
  simp only [sw, strA, strR, str0, rmade_nil, Option.bind_some, toB_bool, Bool.not_false, cond_true]
theorem rBorn_un (k : Nat) (b : Int) (σ : AMem) : d_ref08_Sweeper_Born (k + 2) none b σ = some (.int .i64 5, σ) := by
  rw [d_ref08_Sweeper_Born_eq, b_ref08_Sweeper_Born]
  simp only [sw, strA, strR, str0, rmade_nil, Option.bind_some, toB_bool, Bool.not_false, cond_true]
theorem rFinish_un (k : Nat) (σ : AMem) : d_ref08_Sweeper_Finish (k + 2) none σ = some (.tuple #[.int .i64 0, .int .i64 5], σ) := by
  rw [d_ref08_Sweeper_Finish_eq, b_ref08_Sweeper_Finish]
  simp only [sw, strA, strR, str0, rmade_nil, Option.bind_some, toB_bool, Bool.not_false, cond_true]
theorem rAll_un (k : Nat) (σ : AMem) : d_ref02_Heap_All (k + 2) none σ = some (.slice none 0 0, σ) := by
  rw [d_ref02_Heap_All_eq, b_ref02_Heap_All, show d_ref02_Heap_All_l0 (k + 1) (k + 1) = _ from d_ref02_Heap_All_l0_eq (k + 1) k, b_ref02_Heap_All_l0]
  simp only [sw, strA, strR, str0, hmade_nil, Option.bind_some, toB_bool, cond_false, if_true]
  rfl

theorem play_un (k : Nat) (h : Unmade x σ) (c a b r d e : Int) (hc : c ≠ 5) : ∃ o1 o2 o3, (sameO o1 o1 = true ∧ sameO o2 o2 = true ∧ sameO o3 o3 = true) ∧ d_law08_play (k + 3) x none none none none none none none none none none none c a b r d e σ = some (.bool true, σ ++ [o1, o2, o3]) := by
  refine ⟨.cells [.pointer none, .pointer none, .pointer none, .pointer none, .pointer none] ty_dustcartlaw06_World true, .cells [.pointer none, .pointer none, .pointer none, .pointer none, .pointer none] ty_dustcartlaw06_Paper true, .cells [.int .i64 c, .int .i64 a, .int .i64 b, .int .i64 r, .int .i64 d, .int .i64 e] ty_dustcartlaw08_Act true, ⟨by simp [sameO, sameVs, sameV, sameL, sameA], by simp [sameO, sameVs, sameV, sameL, sameA], by simp [sameO, sameVs, sameV, sameL, sameA]⟩, ?_⟩
  have hm : σ ++ [AObj.cells [.pointer none, .pointer none, .pointer none, .pointer none, .pointer none] ty_dustcartlaw06_World true] ++ [.cells [.pointer none, .pointer none, .pointer none, .pointer none, .pointer none] ty_dustcartlaw06_Paper true] ++ [.cells [.int .i64 c, .int .i64 a, .int .i64 b, .int .i64 r, .int .i64 d, .int .i64 e] ty_dustcartlaw08_Act true] =
    σ ++ [.cells [.pointer none, .pointer none, .pointer none, .pointer none, .pointer none] ty_dustcartlaw06_World true, .cells [.pointer none, .pointer none, .pointer none, .pointer none, .pointer none] ty_dustcartlaw06_Paper true, .cells [.int .i64 c, .int .i64 a, .int .i64 b, .int .i64 r, .int .i64 d, .int .i64 e] ty_dustcartlaw08_Act true] := by simp
  have hp : ldP (σ ++ [AObj.cells [.pointer none, .pointer none, .pointer none, .pointer none, .pointer none] ty_dustcartlaw06_World true] ++ [.cells [.pointer none, .pointer none, .pointer none, .pointer none, .pointer none] ty_dustcartlaw06_Paper true] ++ [.cells [.int .i64 c, .int .i64 a, .int .i64 b, .int .i64 r, .int .i64 d, .int .i64 e] ty_dustcartlaw08_Act true]) (σ ++ [AObj.cells [.pointer none, .pointer none, .pointer none, .pointer none, .pointer none] ty_dustcartlaw06_World true]).length (0 + 0) = some none := by
    simp [ldP, ld1, toP]
  have h' := ((h.app [AObj.cells [.pointer none, .pointer none, .pointer none, .pointer none, .pointer none] ty_dustcartlaw06_World true]).app [.cells [.pointer none, .pointer none, .pointer none, .pointer none, .pointer none] ty_dustcartlaw06_Paper true]).app [.cells [.int .i64 c, .int .i64 a, .int .i64 b, .int .i64 r, .int .i64 d, .int .i64 e] ty_dustcartlaw08_Act true]
  rw [d_law08_play_eq, b_law08_play]
  simp only [sw, strA, strR, str0, allocK, ldI_new, Nat.zero_add, List.getElem?_cons_zero, List.getElem?_cons_succ, Option.bind_some, toI_int, hp]
  rw [← hm]
  generalize hμ : σ ++ [AObj.cells [.pointer none, .pointer none, .pointer none, .pointer none, .pointer none] ty_dustcartlaw06_World true] ++ [.cells [.pointer none, .pointer none, .pointer none, .pointer none, .pointer none] ty_dustcartlaw06_Paper true] ++ [.cells [.int .i64 c, .int .i64 a, .int .i64 b, .int .i64 r, .int .i64 d, .int .i64 e] ty_dustcartlaw08_Act true] = μ at h' hp
  have hA : ldI .i64 μ (σ ++ [AObj.cells [.pointer none, .pointer none, .pointer none, .pointer none, .pointer none] ty_dustcartlaw06_World true] ++ [AObj.cells [.pointer none, .pointer none, .pointer none, .pointer none, .pointer none] ty_dustcartlaw06_Paper true]).length 1 = some a := by
    rw [← hμ, ldI_new]; rfl
  have c5 : (c == 5) = false := by simpa using hc
  cases h0 : c == 0 with
  | true => simp only [cond_true, Block_un (k + 0) h', rBlock_un, r_ii_eq, Option.bind_some, hA, BEq.rfl]
  | false =>
  cases h1 : c == 1 with
  | true => simp only [cond_true, cond_false, Need_un (k + 0) h', rNeed_un, r_ii_eq, Option.bind_some, hA, BEq.rfl]
  | false =>
  cases h2 : c == 2 with
  | true =>
    simp only [cond_true, cond_false, rAll_un, toS, Option.bind_some, show decide (((0 : Nat) : Int) > 0) = false from rfl, hA, if_true, u_i_eq, Born_un (k + 0) h', rBorn_un, toI_int, BEq.rfl]
  | false =>
  cases h3 : c == 3 with
  | true => simp only [cond_true, cond_false, Finish_un (k + 0) h', rFinish_un, r_ii_eq, Option.bind_some, BEq.rfl]
  | false => simp only [cond_false, c5, Option.bind_some, if_true]

end Go.Proofs.YtilefhlamdiomaaGreat
