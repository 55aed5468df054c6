/-
  SweepNone: the law's function returns true at every argument.
-/
import Derived.Test.YtilefhlamdiomaaGreatSSV
set_option linter.unusedVariables false
set_option linter.unusedSimpArgs false
set_option maxRecDepth 100000
namespace Go.Proofs.YtilefhlamdiomaaGreat
open Go Go.AX
local instance kSU : Kn := ⟨true⟩
local instance qSU : Quiet := boolQuiet

/-- What heap.New and roots.New leave behind four objects. -/
noncomputable def t9 : AMem := match s_heap_New 299 2 [.dead, .dead, .dead, .dead] with | some r => r.2.drop 4 | none => []
noncomputable def p9 : Option Addr := match s_heap_New 299 2 [.dead, .dead, .dead, .dead] with | some (.tuple ⟨[.pointer p, _]⟩, _) => p | _ => none
noncomputable def t12 : AMem := match s_roots_New 299 1 (.dead :: .dead :: .dead :: .dead :: t9) with | some r => r.2.drop 4 | none => []
noncomputable def p12 : Option Addr := match s_roots_New 299 1 (.dead :: .dead :: .dead :: .dead :: t9) with | some (.tuple ⟨[.pointer p, _]⟩, _) => p | _ => none

theorem hn (o0 o1 o2 o3 : AObj) : d_heap_New 299 2 [o0, o1, o2, o3] = some (.tuple #[.pointer p9, .int .i64 0], o0 :: o1 :: o2 :: o3 :: t9) := by
  rw [heap_New_is]; kernel_rfl
theorem rn (o0 o1 o2 o3 : AObj) : d_roots_New 299 1 (o0 :: o1 :: o2 :: o3 :: t9) = some (.tuple #[.pointer p12, .int .i64 0], o0 :: o1 :: o2 :: o3 :: t12) := by
  rw [roots_New_is]; kernel_rfl

def allB (f : Nat → Bool) : Nat → Bool
  | 0 => true
  | n + 1 => bif f n then allB f n else false
theorem allB_lt (f : Nat → Bool) : ∀ n, allB f n = true → ∀ k < n, f k = true
  | 0, _, k, hk => by omega
  | n + 1, h, k, hk => by
    simp only [allB] at h
    cases hf : f n with
    | false => rw [hf] at h; cases h
    | true =>
      rw [hf] at h
      rcases Nat.lt_succ_iff_lt_or_eq.1 hk with h1 | rfl
      · exact allB_lt f n h k h1
      · exact hf

theorem tm4 (x : Int) : x.tmod 4 ≠ 5 := by
  have := Int.tmod_lt_of_pos x (show (0 : Int) < 4 by decide)
  omega

theorem alive8 (k : Nat) (σ : AMem) : d_law08_alive (k + 1) σ = some (.bool true, σ) := d_law08_alive_eq k σ

set_option maxHeartbeats 4000000 in
set_option maxHeartbeats 4000000 in
set_option maxHeartbeats 4000000 in
set_option maxHeartbeats 4000000 in
set_option maxHeartbeats 4000000 in
theorem law_tf_odd (x0 x1 x2 x3 x4 x5 : Int) (e w : Int) (h1 : 1 ≤ e) (h2 : e ≤ 4096) (h : ¬ (w = 1 ∨ w = 2 ∨ w = 4 ∨ w = 8)) (h6 : (e == 64) = true) (h7 : (w == 1) = false) : ∃ σ', d_law08_SweepNone 300 x0 x1 x2 x3 x4 x5 e w [] = some (.bool true, σ') := by
  have hs : ∀ o0 o1 o2 o3, d_side_New 299 e w (o0 :: o1 :: o2 :: o3 :: t12) = some (.tuple #[.pointer none, .int .i64 1], o0 :: o1 :: o2 :: o3 :: (t12 ++ [four])) := fun o0 o1 o2 o3 => by rw [side_odd 291 e w _ h1 h2 h]; simp only [List.cons_append]
  rw [show d_law08_SweepNone 300 = _ from d_law08_SweepNone_eq 299, b_law08_SweepNone]
  simp only [sw, strA, strR, str0, allocK, List.nil_append, List.cons_append, List.length_nil, List.length_cons, Nat.zero_add, Nat.reduceAdd, hn, rn, hs, r_pi_eq, Option.bind_some]
  have l0 : ∀ (v : Int) (σ : AMem), ldI .i64 (AObj.cells [.int .i64 v, .int .i64 x1, .int .i64 x2, .int .i64 x3, .int .i64 x4, .int .i64 x5] ty_dustcartlaw08_Act true :: σ) 0 0 = some v := fun _ _ => by simp [ldI, ld1, toI]
  have l1 : ∀ (v : Int) (σ : AMem), ldI .i64 (AObj.cells [.int .i64 v, .int .i64 x1, .int .i64 x2, .int .i64 x3, .int .i64 x4, .int .i64 x5] ty_dustcartlaw08_Act true :: σ) 0 1 = some x1 := fun _ _ => by simp [ldI, ld1, toI]
  have l2 : ∀ (v : Int) (σ : AMem), ldI .i64 (AObj.cells [.int .i64 v, .int .i64 x1, .int .i64 x2, .int .i64 x3, .int .i64 x4, .int .i64 x5] ty_dustcartlaw08_Act true :: σ) 0 2 = some x2 := fun _ _ => by simp [ldI, ld1, toI]
  have l3 : ∀ (v : Int) (σ : AMem), ldI .i64 (AObj.cells [.int .i64 v, .int .i64 x1, .int .i64 x2, .int .i64 x3, .int .i64 x4, .int .i64 x5] ty_dustcartlaw08_Act true :: σ) 0 3 = some x3 := fun _ _ => by simp [ldI, ld1, toI]
  have l4 : ∀ (v : Int) (σ : AMem), ldI .i64 (AObj.cells [.int .i64 v, .int .i64 x1, .int .i64 x2, .int .i64 x3, .int .i64 x4, .int .i64 x5] ty_dustcartlaw08_Act true :: σ) 0 4 = some x4 := fun _ _ => by simp [ldI, ld1, toI]
  have l5 : ∀ (v : Int) (σ : AMem), ldI .i64 (AObj.cells [.int .i64 v, .int .i64 x1, .int .i64 x2, .int .i64 x3, .int .i64 x4, .int .i64 x5] ty_dustcartlaw08_Act true :: σ) 0 5 = some x5 := fun _ _ => by simp [ldI, ld1, toI]
  have s0 : ∀ (v : Int) (σ : AMem), st1 (AObj.cells [.int .i64 x0, .int .i64 x1, .int .i64 x2, .int .i64 x3, .int .i64 x4, .int .i64 x5] ty_dustcartlaw08_Act true :: σ) 0 0 (.int .i64 v) = some (AObj.cells [.int .i64 v, .int .i64 x1, .int .i64 x2, .int .i64 x3, .int .i64 x4, .int .i64 x5] ty_dustcartlaw08_Act true :: σ) := fun _ _ => by simp [st1]
  simp only [l0, l1, l2, l3, l4, l5, s0, show ((4 : Int) = 0) = False from by simp, if_false, Option.bind_some, Nat.reduceAdd]
  obtain ⟨a1, a2, a3, ⟨qa1, qa2, qa3⟩, hp⟩ := play_un 296 (unmade_nil (AObj.cells [.int .i64 (x0.tmod 4), .int .i64 x1, .int .i64 x2, .int .i64 x3, .int .i64 x4, .int .i64 x5] ty_dustcartlaw08_Act true :: AObj.cells [.pointer none, .pointer none, .slice none 0 0] ty_sweep_Sweeper true :: AObj.cells [.slice none 0 0, .slice none 0 0, .pointer none, .pointer none, .map none, .map none, .int .i64 0] ty_heap_Heap true :: AObj.cells [.int .i64 0, .int .i64 0, .slice none 0 0] ty_side_Table true :: (t12 ++ [four]))) (x0.tmod 4) x1 x2 x3 x4 x5 (tm4 x0)
  simp only [hp, Option.bind_some, toB_bool, Bool.not_true, cond_false, List.cons_append, l0, l1, l2, l3, l4, l5]
  obtain ⟨b1, b2, b3, ⟨qb1, qb2, qb3⟩, hp2⟩ := play_un 296 (unmade_zero (σ := AObj.cells [.int .i64 (x0.tmod 4), .int .i64 x1, .int .i64 x2, .int .i64 x3, .int .i64 x4, .int .i64 x5] ty_dustcartlaw08_Act true :: AObj.cells [.pointer none, .pointer none, .slice none 0 0] ty_sweep_Sweeper true :: AObj.cells [.slice none 0 0, .slice none 0 0, .pointer none, .pointer none, .map none, .map none, .int .i64 0] ty_heap_Heap true :: AObj.cells [.int .i64 0, .int .i64 0, .slice none 0 0] ty_side_Table true :: ((t12 ++ [four]) ++ [a1, a2, a3])) (h := 1) rfl) (x0.tmod 4) x1 x2 x3 x4 x5 (tm4 x0)
  simp only [hp2, Option.bind_some, toB_bool, Bool.not_true, cond_false, List.cons_append]
  have q0 : sameO (AObj.cells [.int .i64 (x0.tmod 4), .int .i64 x1, .int .i64 x2, .int .i64 x3, .int .i64 x4, .int .i64 x5] ty_dustcartlaw08_Act true) (AObj.cells [.int .i64 (x0.tmod 4), .int .i64 x1, .int .i64 x2, .int .i64 x3, .int .i64 x4, .int .i64 x5] ty_dustcartlaw08_Act true) = true := by simp [sameO, sameVs, sameV, sameL]
  generalize AObj.cells [.int .i64 (x0.tmod 4), .int .i64 x1, .int .i64 x2, .int .i64 x3, .int .i64 x4, .int .i64 x5] ty_dustcartlaw08_Act true = o0 at q0 ⊢
  have ha : ∀ σ, d_law08_alive 299 σ = some (.bool true, σ) := fun σ => alive8 298 σ
  simp only [ha, sweep_Sweeper_Left_is, sweep_Sweeper_Clone_is, sweep_New_is, sweep_Collect_is, h6, h7]
  exact isTrue1_spec (by kernel_rfl)

set_option maxHeartbeats 4000000 in
theorem law_ft_bad (x0 x1 x2 x3 x4 x5 : Int) (e w : Int) (h : e < 1 ∨ 4096 < e) (h6 : (e == 64) = false) (h7 : (w == 1) = true) : ∃ σ', d_law08_SweepNone 300 x0 x1 x2 x3 x4 x5 e w [] = some (.bool true, σ') := by
  have hs : ∀ o0 o1 o2 o3, d_side_New 299 e w (o0 :: o1 :: o2 :: o3 :: t12) = some (.tuple #[.pointer none, .int .i64 1], o0 :: o1 :: o2 :: o3 :: t12) := fun o0 o1 o2 o3 => side_bad 298 e w _ h
  rw [show d_law08_SweepNone 300 = _ from d_law08_SweepNone_eq 299, b_law08_SweepNone]
  simp only [sw, strA, strR, str0, allocK, List.nil_append, List.cons_append, List.length_nil, List.length_cons, Nat.zero_add, Nat.reduceAdd, hn, rn, hs, r_pi_eq, Option.bind_some]
  have l0 : ∀ (v : Int) (σ : AMem), ldI .i64 (AObj.cells [.int .i64 v, .int .i64 x1, .int .i64 x2, .int .i64 x3, .int .i64 x4, .int .i64 x5] ty_dustcartlaw08_Act true :: σ) 0 0 = some v := fun _ _ => by simp [ldI, ld1, toI]
  have l1 : ∀ (v : Int) (σ : AMem), ldI .i64 (AObj.cells [.int .i64 v, .int .i64 x1, .int .i64 x2, .int .i64 x3, .int .i64 x4, .int .i64 x5] ty_dustcartlaw08_Act true :: σ) 0 1 = some x1 := fun _ _ => by simp [ldI, ld1, toI]
  have l2 : ∀ (v : Int) (σ : AMem), ldI .i64 (AObj.cells [.int .i64 v, .int .i64 x1, .int .i64 x2, .int .i64 x3, .int .i64 x4, .int .i64 x5] ty_dustcartlaw08_Act true :: σ) 0 2 = some x2 := fun _ _ => by simp [ldI, ld1, toI]
  have l3 : ∀ (v : Int) (σ : AMem), ldI .i64 (AObj.cells [.int .i64 v, .int .i64 x1, .int .i64 x2, .int .i64 x3, .int .i64 x4, .int .i64 x5] ty_dustcartlaw08_Act true :: σ) 0 3 = some x3 := fun _ _ => by simp [ldI, ld1, toI]
  have l4 : ∀ (v : Int) (σ : AMem), ldI .i64 (AObj.cells [.int .i64 v, .int .i64 x1, .int .i64 x2, .int .i64 x3, .int .i64 x4, .int .i64 x5] ty_dustcartlaw08_Act true :: σ) 0 4 = some x4 := fun _ _ => by simp [ldI, ld1, toI]
  have l5 : ∀ (v : Int) (σ : AMem), ldI .i64 (AObj.cells [.int .i64 v, .int .i64 x1, .int .i64 x2, .int .i64 x3, .int .i64 x4, .int .i64 x5] ty_dustcartlaw08_Act true :: σ) 0 5 = some x5 := fun _ _ => by simp [ldI, ld1, toI]
  have s0 : ∀ (v : Int) (σ : AMem), st1 (AObj.cells [.int .i64 x0, .int .i64 x1, .int .i64 x2, .int .i64 x3, .int .i64 x4, .int .i64 x5] ty_dustcartlaw08_Act true :: σ) 0 0 (.int .i64 v) = some (AObj.cells [.int .i64 v, .int .i64 x1, .int .i64 x2, .int .i64 x3, .int .i64 x4, .int .i64 x5] ty_dustcartlaw08_Act true :: σ) := fun _ _ => by simp [st1]
  simp only [l0, l1, l2, l3, l4, l5, s0, show ((4 : Int) = 0) = False from by simp, if_false, Option.bind_some, Nat.reduceAdd]
  obtain ⟨a1, a2, a3, ⟨qa1, qa2, qa3⟩, hp⟩ := play_un 296 (unmade_nil (AObj.cells [.int .i64 (x0.tmod 4), .int .i64 x1, .int .i64 x2, .int .i64 x3, .int .i64 x4, .int .i64 x5] ty_dustcartlaw08_Act true :: AObj.cells [.pointer none, .pointer none, .slice none 0 0] ty_sweep_Sweeper true :: AObj.cells [.slice none 0 0, .slice none 0 0, .pointer none, .pointer none, .map none, .map none, .int .i64 0] ty_heap_Heap true :: AObj.cells [.int .i64 0, .int .i64 0, .slice none 0 0] ty_side_Table true :: t12)) (x0.tmod 4) x1 x2 x3 x4 x5 (tm4 x0)
  simp only [hp, Option.bind_some, toB_bool, Bool.not_true, cond_false, List.cons_append, l0, l1, l2, l3, l4, l5]
  obtain ⟨b1, b2, b3, ⟨qb1, qb2, qb3⟩, hp2⟩ := play_un 296 (unmade_zero (σ := AObj.cells [.int .i64 (x0.tmod 4), .int .i64 x1, .int .i64 x2, .int .i64 x3, .int .i64 x4, .int .i64 x5] ty_dustcartlaw08_Act true :: AObj.cells [.pointer none, .pointer none, .slice none 0 0] ty_sweep_Sweeper true :: AObj.cells [.slice none 0 0, .slice none 0 0, .pointer none, .pointer none, .map none, .map none, .int .i64 0] ty_heap_Heap true :: AObj.cells [.int .i64 0, .int .i64 0, .slice none 0 0] ty_side_Table true :: (t12 ++ [a1, a2, a3])) (h := 1) rfl) (x0.tmod 4) x1 x2 x3 x4 x5 (tm4 x0)
  simp only [hp2, Option.bind_some, toB_bool, Bool.not_true, cond_false, List.cons_append]
  have q0 : sameO (AObj.cells [.int .i64 (x0.tmod 4), .int .i64 x1, .int .i64 x2, .int .i64 x3, .int .i64 x4, .int .i64 x5] ty_dustcartlaw08_Act true) (AObj.cells [.int .i64 (x0.tmod 4), .int .i64 x1, .int .i64 x2, .int .i64 x3, .int .i64 x4, .int .i64 x5] ty_dustcartlaw08_Act true) = true := by simp [sameO, sameVs, sameV, sameL]
  generalize AObj.cells [.int .i64 (x0.tmod 4), .int .i64 x1, .int .i64 x2, .int .i64 x3, .int .i64 x4, .int .i64 x5] ty_dustcartlaw08_Act true = o0 at q0 ⊢
  have ha : ∀ σ, d_law08_alive 299 σ = some (.bool true, σ) := fun σ => alive8 298 σ
  simp only [ha, sweep_Sweeper_Left_is, sweep_Sweeper_Clone_is, sweep_New_is, sweep_Collect_is, h6, h7]
  exact isTrue1_spec (by kernel_rfl)

set_option maxHeartbeats 4000000 in
theorem law_ff_bad (x0 x1 x2 x3 x4 x5 : Int) (e w : Int) (h : e < 1 ∨ 4096 < e) (h6 : (e == 64) = false) (h7 : (w == 1) = false) : ∃ σ', d_law08_SweepNone 300 x0 x1 x2 x3 x4 x5 e w [] = some (.bool true, σ') := by
  have hs : ∀ o0 o1 o2 o3, d_side_New 299 e w (o0 :: o1 :: o2 :: o3 :: t12) = some (.tuple #[.pointer none, .int .i64 1], o0 :: o1 :: o2 :: o3 :: t12) := fun o0 o1 o2 o3 => side_bad 298 e w _ h
  rw [show d_law08_SweepNone 300 = _ from d_law08_SweepNone_eq 299, b_law08_SweepNone]
  simp only [sw, strA, strR, str0, allocK, List.nil_append, List.cons_append, List.length_nil, List.length_cons, Nat.zero_add, Nat.reduceAdd, hn, rn, hs, r_pi_eq, Option.bind_some]
  have l0 : ∀ (v : Int) (σ : AMem), ldI .i64 (AObj.cells [.int .i64 v, .int .i64 x1, .int .i64 x2, .int .i64 x3, .int .i64 x4, .int .i64 x5] ty_dustcartlaw08_Act true :: σ) 0 0 = some v := fun _ _ => by simp [ldI, ld1, toI]
  have l1 : ∀ (v : Int) (σ : AMem), ldI .i64 (AObj.cells [.int .i64 v, .int .i64 x1, .int .i64 x2, .int .i64 x3, .int .i64 x4, .int .i64 x5] ty_dustcartlaw08_Act true :: σ) 0 1 = some x1 := fun _ _ => by simp [ldI, ld1, toI]
  have l2 : ∀ (v : Int) (σ : AMem), ldI .i64 (AObj.cells [.int .i64 v, .int .i64 x1, .int .i64 x2, .int .i64 x3, .int .i64 x4, .int .i64 x5] ty_dustcartlaw08_Act true :: σ) 0 2 = some x2 := fun _ _ => by simp [ldI, ld1, toI]
  have l3 : ∀ (v : Int) (σ : AMem), ldI .i64 (AObj.cells [.int .i64 v, .int .i64 x1, .int .i64 x2, .int .i64 x3, .int .i64 x4, .int .i64 x5] ty_dustcartlaw08_Act true :: σ) 0 3 = some x3 := fun _ _ => by simp [ldI, ld1, toI]
  have l4 : ∀ (v : Int) (σ : AMem), ldI .i64 (AObj.cells [.int .i64 v, .int .i64 x1, .int .i64 x2, .int .i64 x3, .int .i64 x4, .int .i64 x5] ty_dustcartlaw08_Act true :: σ) 0 4 = some x4 := fun _ _ => by simp [ldI, ld1, toI]
  have l5 : ∀ (v : Int) (σ : AMem), ldI .i64 (AObj.cells [.int .i64 v, .int .i64 x1, .int .i64 x2, .int .i64 x3, .int .i64 x4, .int .i64 x5] ty_dustcartlaw08_Act true :: σ) 0 5 = some x5 := fun _ _ => by simp [ldI, ld1, toI]
  have s0 : ∀ (v : Int) (σ : AMem), st1 (AObj.cells [.int .i64 x0, .int .i64 x1, .int .i64 x2, .int .i64 x3, .int .i64 x4, .int .i64 x5] ty_dustcartlaw08_Act true :: σ) 0 0 (.int .i64 v) = some (AObj.cells [.int .i64 v, .int .i64 x1, .int .i64 x2, .int .i64 x3, .int .i64 x4, .int .i64 x5] ty_dustcartlaw08_Act true :: σ) := fun _ _ => by simp [st1]
  simp only [l0, l1, l2, l3, l4, l5, s0, show ((4 : Int) = 0) = False from by simp, if_false, Option.bind_some, Nat.reduceAdd]
  obtain ⟨a1, a2, a3, ⟨qa1, qa2, qa3⟩, hp⟩ := play_un 296 (unmade_nil (AObj.cells [.int .i64 (x0.tmod 4), .int .i64 x1, .int .i64 x2, .int .i64 x3, .int .i64 x4, .int .i64 x5] ty_dustcartlaw08_Act true :: AObj.cells [.pointer none, .pointer none, .slice none 0 0] ty_sweep_Sweeper true :: AObj.cells [.slice none 0 0, .slice none 0 0, .pointer none, .pointer none, .map none, .map none, .int .i64 0] ty_heap_Heap true :: AObj.cells [.int .i64 0, .int .i64 0, .slice none 0 0] ty_side_Table true :: t12)) (x0.tmod 4) x1 x2 x3 x4 x5 (tm4 x0)
  simp only [hp, Option.bind_some, toB_bool, Bool.not_true, cond_false, List.cons_append, l0, l1, l2, l3, l4, l5]
  obtain ⟨b1, b2, b3, ⟨qb1, qb2, qb3⟩, hp2⟩ := play_un 296 (unmade_zero (σ := AObj.cells [.int .i64 (x0.tmod 4), .int .i64 x1, .int .i64 x2, .int .i64 x3, .int .i64 x4, .int .i64 x5] ty_dustcartlaw08_Act true :: AObj.cells [.pointer none, .pointer none, .slice none 0 0] ty_sweep_Sweeper true :: AObj.cells [.slice none 0 0, .slice none 0 0, .pointer none, .pointer none, .map none, .map none, .int .i64 0] ty_heap_Heap true :: AObj.cells [.int .i64 0, .int .i64 0, .slice none 0 0] ty_side_Table true :: (t12 ++ [a1, a2, a3])) (h := 1) rfl) (x0.tmod 4) x1 x2 x3 x4 x5 (tm4 x0)
  simp only [hp2, Option.bind_some, toB_bool, Bool.not_true, cond_false, List.cons_append]
  have q0 : sameO (AObj.cells [.int .i64 (x0.tmod 4), .int .i64 x1, .int .i64 x2, .int .i64 x3, .int .i64 x4, .int .i64 x5] ty_dustcartlaw08_Act true) (AObj.cells [.int .i64 (x0.tmod 4), .int .i64 x1, .int .i64 x2, .int .i64 x3, .int .i64 x4, .int .i64 x5] ty_dustcartlaw08_Act true) = true := by simp [sameO, sameVs, sameV, sameL]
  generalize AObj.cells [.int .i64 (x0.tmod 4), .int .i64 x1, .int .i64 x2, .int .i64 x3, .int .i64 x4, .int .i64 x5] ty_dustcartlaw08_Act true = o0 at q0 ⊢
  have ha : ∀ σ, d_law08_alive 299 σ = some (.bool true, σ) := fun σ => alive8 298 σ
  simp only [ha, sweep_Sweeper_Left_is, sweep_Sweeper_Clone_is, sweep_New_is, sweep_Collect_is, h6, h7]
  exact isTrue1_spec (by kernel_rfl)

set_option maxHeartbeats 4000000 in
theorem law_ff_odd (x0 x1 x2 x3 x4 x5 : Int) (e w : Int) (h1 : 1 ≤ e) (h2 : e ≤ 4096) (h : ¬ (w = 1 ∨ w = 2 ∨ w = 4 ∨ w = 8)) (h6 : (e == 64) = false) (h7 : (w == 1) = false) : ∃ σ', d_law08_SweepNone 300 x0 x1 x2 x3 x4 x5 e w [] = some (.bool true, σ') := by
  have hs : ∀ o0 o1 o2 o3, d_side_New 299 e w (o0 :: o1 :: o2 :: o3 :: t12) = some (.tuple #[.pointer none, .int .i64 1], o0 :: o1 :: o2 :: o3 :: (t12 ++ [four])) := fun o0 o1 o2 o3 => by rw [side_odd 291 e w _ h1 h2 h]; simp only [List.cons_append]
  rw [show d_law08_SweepNone 300 = _ from d_law08_SweepNone_eq 299, b_law08_SweepNone]
  simp only [sw, strA, strR, str0, allocK, List.nil_append, List.cons_append, List.length_nil, List.length_cons, Nat.zero_add, Nat.reduceAdd, hn, rn, hs, r_pi_eq, Option.bind_some]
  have l0 : ∀ (v : Int) (σ : AMem), ldI .i64 (AObj.cells [.int .i64 v, .int .i64 x1, .int .i64 x2, .int .i64 x3, .int .i64 x4, .int .i64 x5] ty_dustcartlaw08_Act true :: σ) 0 0 = some v := fun _ _ => by simp [ldI, ld1, toI]
  have l1 : ∀ (v : Int) (σ : AMem), ldI .i64 (AObj.cells [.int .i64 v, .int .i64 x1, .int .i64 x2, .int .i64 x3, .int .i64 x4, .int .i64 x5] ty_dustcartlaw08_Act true :: σ) 0 1 = some x1 := fun _ _ => by simp [ldI, ld1, toI]
  have l2 : ∀ (v : Int) (σ : AMem), ldI .i64 (AObj.cells [.int .i64 v, .int .i64 x1, .int .i64 x2, .int .i64 x3, .int .i64 x4, .int .i64 x5] ty_dustcartlaw08_Act true :: σ) 0 2 = some x2 := fun _ _ => by simp [ldI, ld1, toI]
  have l3 : ∀ (v : Int) (σ : AMem), ldI .i64 (AObj.cells [.int .i64 v, .int .i64 x1, .int .i64 x2, .int .i64 x3, .int .i64 x4, .int .i64 x5] ty_dustcartlaw08_Act true :: σ) 0 3 = some x3 := fun _ _ => by simp [ldI, ld1, toI]
  have l4 : ∀ (v : Int) (σ : AMem), ldI .i64 (AObj.cells [.int .i64 v, .int .i64 x1, .int .i64 x2, .int .i64 x3, .int .i64 x4, .int .i64 x5] ty_dustcartlaw08_Act true :: σ) 0 4 = some x4 := fun _ _ => by simp [ldI, ld1, toI]
  have l5 : ∀ (v : Int) (σ : AMem), ldI .i64 (AObj.cells [.int .i64 v, .int .i64 x1, .int .i64 x2, .int .i64 x3, .int .i64 x4, .int .i64 x5] ty_dustcartlaw08_Act true :: σ) 0 5 = some x5 := fun _ _ => by simp [ldI, ld1, toI]
  have s0 : ∀ (v : Int) (σ : AMem), st1 (AObj.cells [.int .i64 x0, .int .i64 x1, .int .i64 x2, .int .i64 x3, .int .i64 x4, .int .i64 x5] ty_dustcartlaw08_Act true :: σ) 0 0 (.int .i64 v) = some (AObj.cells [.int .i64 v, .int .i64 x1, .int .i64 x2, .int .i64 x3, .int .i64 x4, .int .i64 x5] ty_dustcartlaw08_Act true :: σ) := fun _ _ => by simp [st1]
  simp only [l0, l1, l2, l3, l4, l5, s0, show ((4 : Int) = 0) = False from by simp, if_false, Option.bind_some, Nat.reduceAdd]
  obtain ⟨a1, a2, a3, ⟨qa1, qa2, qa3⟩, hp⟩ := play_un 296 (unmade_nil (AObj.cells [.int .i64 (x0.tmod 4), .int .i64 x1, .int .i64 x2, .int .i64 x3, .int .i64 x4, .int .i64 x5] ty_dustcartlaw08_Act true :: AObj.cells [.pointer none, .pointer none, .slice none 0 0] ty_sweep_Sweeper true :: AObj.cells [.slice none 0 0, .slice none 0 0, .pointer none, .pointer none, .map none, .map none, .int .i64 0] ty_heap_Heap true :: AObj.cells [.int .i64 0, .int .i64 0, .slice none 0 0] ty_side_Table true :: (t12 ++ [four]))) (x0.tmod 4) x1 x2 x3 x4 x5 (tm4 x0)
  simp only [hp, Option.bind_some, toB_bool, Bool.not_true, cond_false, List.cons_append, l0, l1, l2, l3, l4, l5]
  obtain ⟨b1, b2, b3, ⟨qb1, qb2, qb3⟩, hp2⟩ := play_un 296 (unmade_zero (σ := AObj.cells [.int .i64 (x0.tmod 4), .int .i64 x1, .int .i64 x2, .int .i64 x3, .int .i64 x4, .int .i64 x5] ty_dustcartlaw08_Act true :: AObj.cells [.pointer none, .pointer none, .slice none 0 0] ty_sweep_Sweeper true :: AObj.cells [.slice none 0 0, .slice none 0 0, .pointer none, .pointer none, .map none, .map none, .int .i64 0] ty_heap_Heap true :: AObj.cells [.int .i64 0, .int .i64 0, .slice none 0 0] ty_side_Table true :: ((t12 ++ [four]) ++ [a1, a2, a3])) (h := 1) rfl) (x0.tmod 4) x1 x2 x3 x4 x5 (tm4 x0)
  simp only [hp2, Option.bind_some, toB_bool, Bool.not_true, cond_false, List.cons_append]
  have q0 : sameO (AObj.cells [.int .i64 (x0.tmod 4), .int .i64 x1, .int .i64 x2, .int .i64 x3, .int .i64 x4, .int .i64 x5] ty_dustcartlaw08_Act true) (AObj.cells [.int .i64 (x0.tmod 4), .int .i64 x1, .int .i64 x2, .int .i64 x3, .int .i64 x4, .int .i64 x5] ty_dustcartlaw08_Act true) = true := by simp [sameO, sameVs, sameV, sameL]
  generalize AObj.cells [.int .i64 (x0.tmod 4), .int .i64 x1, .int .i64 x2, .int .i64 x3, .int .i64 x4, .int .i64 x5] ty_dustcartlaw08_Act true = o0 at q0 ⊢
  have ha : ∀ σ, d_law08_alive 299 σ = some (.bool true, σ) := fun σ => alive8 298 σ
  simp only [ha, sweep_Sweeper_Left_is, sweep_Sweeper_Clone_is, sweep_New_is, sweep_Collect_is, h6, h7]
  exact isTrue1_spec (by kernel_rfl)

theorem side_here (e w : Int) (h1 : 1 ≤ e) (h2 : e ≤ 4096) (h : w = 1 ∨ w = 2 ∨ w = 4 ∨ w = 8) : ∃ r n, ∀ o0 o1 o2 o3, d_side_New 299 e w (o0 :: o1 :: o2 :: o3 :: t12) =
    some (.tuple #[.pointer (some ⟨(t12.length + 4) + 2, 0, none⟩), .int .i64 0], o0 :: o1 :: o2 :: o3 :: (t12 ++ [four, .cells r ty_uint64 true, .cells [.int .i64 e, .int .i64 w, .slice (some ⟨(t12.length + 4) + 1, 0, none⟩) n n] ty_side_Table true])) := by
  refine ⟨rep (side_n e w) [.int .u64 0], side_n e w, fun o0 o1 o2 o3 => ?_⟩
  rw [side_good' 291 e w _ h1 h2 h]
  simp only [List.cons_append, List.length_cons]

theorem Tmade_to (k : Nat) {σ : AMem} {tb n : Nat} {e w : Int} {wb : Option Addr} (ht : σ[tb]? = some (.cells [.int .i64 e, .int .i64 w, .slice wb n n] ty_side_Table true)) (he : 1 ≤ e) : d_side_Table_made (k + 1) (some ⟨tb, 0, none⟩) σ = some (.bool true, σ) := by
  have l0 : ldI .i64 σ tb (0 + 0) = some e := by simp [ldI, ld1, ht, toI]
  rw [d_side_Table_made_eq, b_side_Table_made]
  simp only [sw, strA, strR, str0, Option.bind_some, show eqA P pt_side_Table (.pointer (some ⟨tb, 0, none⟩)) (.pointer none) = some false from by kernel_rfl, Bool.not_false, cond_true, l0, show decide (e > 0) = true from by simp; omega]
theorem Width_to (k : Nat) {σ : AMem} {tb n : Nat} {e w : Int} {wb : Option Addr} (ht : σ[tb]? = some (.cells [.int .i64 e, .int .i64 w, .slice wb n n] ty_side_Table true)) (he : 1 ≤ e) : d_side_Table_Width (k + 2) (some ⟨tb, 0, none⟩) σ = some (.int .i64 w, σ) := by
  have l1 : ldI .i64 σ tb (0 + 1) = some w := by simp [ldI, ld1, ht, toI]
  rw [d_side_Table_Width_eq, b_side_Table_Width]
  simp only [sw, strA, strR, str0, Tmade_to k ht he, Option.bind_some, toB_bool, Bool.not_true, cond_false, l1]
theorem Entries_to (k : Nat) {σ : AMem} {tb n : Nat} {e w : Int} {wb : Option Addr} (ht : σ[tb]? = some (.cells [.int .i64 e, .int .i64 w, .slice wb n n] ty_side_Table true)) (he : 1 ≤ e) : d_side_Table_Entries (k + 2) (some ⟨tb, 0, none⟩) σ = some (.int .i64 e, σ) := by
  have l1 : ldI .i64 σ tb (0 + 0) = some e := by simp [ldI, ld1, ht, toI]
  rw [d_side_Table_Entries_eq, b_side_Table_Entries]
  simp only [sw, strA, strR, str0, Tmade_to k ht he, Option.bind_some, toB_bool, Bool.not_true, cond_false, l1]
theorem blocks9 (o0 o1 o2 o3 : AObj) (τ : AMem) : d_heap_Heap_Blocks 298 p9 (o0 :: o1 :: o2 :: o3 :: (t12 ++ τ)) = some (.int .i64 2, o0 :: o1 :: o2 :: o3 :: (t12 ++ τ)) := by
  rw [heap_Heap_Blocks_is]; kernel_rfl

theorem new_bad {o0 o1 o2 o3 : AObj} {τ σ : AMem} (hσ : σ = o0 :: o1 :: o2 :: o3 :: (t12 ++ τ)) {tb n : Nat} {e w : Int} {wb : Option Addr} (ht : σ[tb]? = some (.cells [.int .i64 e, .int .i64 w, .slice wb n n] ty_side_Table true)) (he : 1 ≤ e) (hb : ¬ (e = 64 ∧ w = 1)) :
    d_sweep_New 299 p9 (some ⟨tb, 0, none⟩) σ = some (.tuple #[.pointer none, .int .i64 1], σ) := by
  have hB : d_heap_Heap_Blocks 298 p9 σ = some (.int .i64 2, σ) := by rw [hσ]; exact blocks9 o0 o1 o2 o3 τ
  have hW : d_side_Table_Width 298 (some ⟨tb, 0, none⟩) σ = some (.int .i64 w, σ) := Width_to 296 ht he
  have hE : d_side_Table_Entries 298 (some ⟨tb, 0, none⟩) σ = some (.int .i64 e, σ) := Entries_to 296 ht he
  rw [show d_sweep_New 299 = _ from d_sweep_New_eq 298, b_sweep_New]
  simp only [sw, strA, strR, str0, hB, hW, Option.bind_some, toI_int, show ((2 : Int) == 0) = false from rfl, cond_false]
  by_cases hw : w = 1
  · have h2 : (e != 64) = true := by simp; omega
    simp only [show (w != 1) = false from by simp [hw], cond_false, hE, hB, Option.bind_some, toI_int, show ((2 : Int) = 0) = False from by simp, if_false, show w64 ((w64 (2 * 64)).tdiv 2) = 64 from by decide, h2, cond_true]
  · simp only [show (w != 1) = true from by simp [hw], cond_true, Option.bind_some]

theorem Left_un (k : Nat) {x : Option Addr} {σ : AMem} (h : Unmade x σ) : d_sweep_Sweeper_Left (k + 2) x σ = some (.slice none 0 0, σ) := by
  rw [d_sweep_Sweeper_Left_eq, b_sweep_Sweeper_Left]
  simp only [sw, strA, strR, str0, h.at, Option.bind_some, toB_bool, Bool.not_false, cond_true]
theorem Clone_un (k : Nat) {x : Option Addr} {σ : AMem} (h : Unmade x σ) (y : Option Addr) : d_sweep_Sweeper_Clone (k + 2) x y σ = some (.pointer none, σ) := by
  rw [d_sweep_Sweeper_Clone_eq, b_sweep_Sweeper_Clone]
  simp only [sw, strA, strR, str0, h.at, Option.bind_some, toB_bool, Bool.not_false, cond_true]

set_option maxHeartbeats 4000000 in
theorem law_tf_new (x0 x1 x2 x3 x4 x5 : Int) (e w : Int) (h1 : 1 ≤ e) (h2 : e ≤ 4096) (hw : w = 1 ∨ w = 2 ∨ w = 4 ∨ w = 8) (hb : ¬ (e = 64 ∧ w = 1)) (h6 : (e == 64) = true) (h7 : (w == 1) = false) : ∃ σ', d_law08_SweepNone 300 x0 x1 x2 x3 x4 x5 e w [] = some (.bool true, σ') := by
  obtain ⟨r, n, hg⟩ : ∃ r n, ∀ o0 o1 o2 o3, d_side_New 299 e w (o0 :: o1 :: o2 :: o3 :: t12) = some (.tuple #[.pointer (some ⟨(t12.length + 4) + 2, 0, none⟩), .int .i64 0], o0 :: o1 :: o2 :: o3 :: (t12 ++ [four, .cells r ty_uint64 true, .cells [.int .i64 e, .int .i64 w, .slice (some ⟨(t12.length + 4) + 1, 0, none⟩) n n] ty_side_Table true])) := side_here e w (by omega) (by omega) hw
  have hs := hg
  rw [show d_law08_SweepNone 300 = _ from d_law08_SweepNone_eq 299, b_law08_SweepNone]
  simp only [sw, strA, strR, str0, allocK, List.nil_append, List.cons_append, List.length_nil, List.length_cons, Nat.zero_add, Nat.reduceAdd, hn, rn, hs, r_pi_eq, Option.bind_some]
  have l0 : ∀ (v : Int) (σ : AMem), ldI .i64 (AObj.cells [.int .i64 v, .int .i64 x1, .int .i64 x2, .int .i64 x3, .int .i64 x4, .int .i64 x5] ty_dustcartlaw08_Act true :: σ) 0 0 = some v := fun _ _ => by simp [ldI, ld1, toI]
  have l1 : ∀ (v : Int) (σ : AMem), ldI .i64 (AObj.cells [.int .i64 v, .int .i64 x1, .int .i64 x2, .int .i64 x3, .int .i64 x4, .int .i64 x5] ty_dustcartlaw08_Act true :: σ) 0 1 = some x1 := fun _ _ => by simp [ldI, ld1, toI]
  have l2 : ∀ (v : Int) (σ : AMem), ldI .i64 (AObj.cells [.int .i64 v, .int .i64 x1, .int .i64 x2, .int .i64 x3, .int .i64 x4, .int .i64 x5] ty_dustcartlaw08_Act true :: σ) 0 2 = some x2 := fun _ _ => by simp [ldI, ld1, toI]
  have l3 : ∀ (v : Int) (σ : AMem), ldI .i64 (AObj.cells [.int .i64 v, .int .i64 x1, .int .i64 x2, .int .i64 x3, .int .i64 x4, .int .i64 x5] ty_dustcartlaw08_Act true :: σ) 0 3 = some x3 := fun _ _ => by simp [ldI, ld1, toI]
  have l4 : ∀ (v : Int) (σ : AMem), ldI .i64 (AObj.cells [.int .i64 v, .int .i64 x1, .int .i64 x2, .int .i64 x3, .int .i64 x4, .int .i64 x5] ty_dustcartlaw08_Act true :: σ) 0 4 = some x4 := fun _ _ => by simp [ldI, ld1, toI]
  have l5 : ∀ (v : Int) (σ : AMem), ldI .i64 (AObj.cells [.int .i64 v, .int .i64 x1, .int .i64 x2, .int .i64 x3, .int .i64 x4, .int .i64 x5] ty_dustcartlaw08_Act true :: σ) 0 5 = some x5 := fun _ _ => by simp [ldI, ld1, toI]
  have s0 : ∀ (v : Int) (σ : AMem), st1 (AObj.cells [.int .i64 x0, .int .i64 x1, .int .i64 x2, .int .i64 x3, .int .i64 x4, .int .i64 x5] ty_dustcartlaw08_Act true :: σ) 0 0 (.int .i64 v) = some (AObj.cells [.int .i64 v, .int .i64 x1, .int .i64 x2, .int .i64 x3, .int .i64 x4, .int .i64 x5] ty_dustcartlaw08_Act true :: σ) := fun _ _ => by simp [st1]
  simp only [l0, l1, l2, l3, l4, l5, s0, show ((4 : Int) = 0) = False from by simp, if_false, Option.bind_some, Nat.reduceAdd]
  obtain ⟨a1, a2, a3, ⟨qa1, qa2, qa3⟩, hp⟩ := play_un 296 (unmade_nil (AObj.cells [.int .i64 (x0.tmod 4), .int .i64 x1, .int .i64 x2, .int .i64 x3, .int .i64 x4, .int .i64 x5] ty_dustcartlaw08_Act true :: AObj.cells [.pointer none, .pointer none, .slice none 0 0] ty_sweep_Sweeper true :: AObj.cells [.slice none 0 0, .slice none 0 0, .pointer none, .pointer none, .map none, .map none, .int .i64 0] ty_heap_Heap true :: AObj.cells [.int .i64 0, .int .i64 0, .slice none 0 0] ty_side_Table true :: (t12 ++ [four, .cells r ty_uint64 true, .cells [.int .i64 e, .int .i64 w, .slice (some ⟨(t12.length + 4) + 1, 0, none⟩) n n] ty_side_Table true]))) (x0.tmod 4) x1 x2 x3 x4 x5 (tm4 x0)
  simp only [hp, Option.bind_some, toB_bool, Bool.not_true, cond_false, List.cons_append, l0, l1, l2, l3, l4, l5]
  obtain ⟨b1, b2, b3, ⟨qb1, qb2, qb3⟩, hp2⟩ := play_un 296 (unmade_zero (σ := AObj.cells [.int .i64 (x0.tmod 4), .int .i64 x1, .int .i64 x2, .int .i64 x3, .int .i64 x4, .int .i64 x5] ty_dustcartlaw08_Act true :: AObj.cells [.pointer none, .pointer none, .slice none 0 0] ty_sweep_Sweeper true :: AObj.cells [.slice none 0 0, .slice none 0 0, .pointer none, .pointer none, .map none, .map none, .int .i64 0] ty_heap_Heap true :: AObj.cells [.int .i64 0, .int .i64 0, .slice none 0 0] ty_side_Table true :: ((t12 ++ [four, .cells r ty_uint64 true, .cells [.int .i64 e, .int .i64 w, .slice (some ⟨(t12.length + 4) + 1, 0, none⟩) n n] ty_side_Table true]) ++ [a1, a2, a3])) (h := 1) rfl) (x0.tmod 4) x1 x2 x3 x4 x5 (tm4 x0)
  simp only [hp2, Option.bind_some, toB_bool, Bool.not_true, cond_false, List.cons_append]
  have q0 : sameO (AObj.cells [.int .i64 (x0.tmod 4), .int .i64 x1, .int .i64 x2, .int .i64 x3, .int .i64 x4, .int .i64 x5] ty_dustcartlaw08_Act true) (AObj.cells [.int .i64 (x0.tmod 4), .int .i64 x1, .int .i64 x2, .int .i64 x3, .int .i64 x4, .int .i64 x5] ty_dustcartlaw08_Act true) = true := by simp [sameO, sameVs, sameV, sameL]
  generalize AObj.cells [.int .i64 (x0.tmod 4), .int .i64 x1, .int .i64 x2, .int .i64 x3, .int .i64 x4, .int .i64 x5] ty_dustcartlaw08_Act true = o0 at q0 ⊢
  have ha : ∀ σ, d_law08_alive 299 σ = some (.bool true, σ) := fun σ => alive8 298 σ
  simp only [ha]
  generalize hS : (o0 :: AObj.cells [.pointer none, .pointer none, .slice none 0 0] ty_sweep_Sweeper true :: AObj.cells [.slice none 0 0, .slice none 0 0, .pointer none, .pointer none, .map none, .map none, .int .i64 0] ty_heap_Heap true :: AObj.cells [.int .i64 0, .int .i64 0, .slice none 0 0] ty_side_Table true :: ((t12 ++ [four, .cells r ty_uint64 true, .cells [.int .i64 e, .int .i64 w, .slice (some ⟨(t12.length + 4) + 1, 0, none⟩) n n] ty_side_Table true]) ++ [a1, a2, a3] ++ [b1, b2, b3])) = S
  have u0 : Unmade none S := unmade_nil S
  have u1 : Unmade (some ⟨1, 0, none⟩) S := unmade_zero (by rw [← hS]; rfl)
  have ht : S[(t12.length + 4) + 2]? = some (.cells [.int .i64 e, .int .i64 w, .slice (some ⟨(t12.length + 4) + 1, 0, none⟩) n n] ty_side_Table true) := by rw [← hS]; simp [List.append_assoc]
  have hN := new_bad (hS.symm.trans (by simp only [List.append_assoc]; rfl)) ht (by omega) (by omega)
  have eP : eqA P pt_sweep_Sweeper (.pointer none) (.pointer none) = some true := by kernel_rfl
  have L0 : d_sweep_Sweeper_Left 299 none S = _ := Left_un 297 u0
  have L1 : d_sweep_Sweeper_Left 299 (some ⟨1, 0, none⟩) S = _ := Left_un 297 u1
  have C0 : d_sweep_Sweeper_Clone 299 none p9 S = _ := Clone_un 297 u0 p9
  have C1 : d_sweep_Sweeper_Clone 299 (some ⟨1, 0, none⟩) p9 S = _ := Clone_un 297 u1 p9
  have z0 : (((0 : Nat) : Int) != 0) = false := rfl
  have t0 : toS (.slice none 0 0) = some (none, 0, 0) := rfl
  have t1 : toP (.pointer none) = some none := rfl
  rw [L0, Option.bind_some]; dsimp only
  rw [t0, Option.bind_some]; dsimp only
  rw [z0, Option.bind_some]; dsimp only
  rw [cond_false, L1, Option.bind_some]; dsimp only
  rw [t0, Option.bind_some]; dsimp only
  rw [z0, Option.bind_some]; dsimp only
  rw [cond_false, C0, Option.bind_some]; dsimp only
  rw [t1, Option.bind_some, eP, Option.bind_some, Bool.not_true, Option.bind_some]; dsimp only
  rw [cond_false, C1, Option.bind_some]; dsimp only
  rw [t1, Option.bind_some, eP, Option.bind_some, Bool.not_true, Option.bind_some]; dsimp only
  rw [cond_false, hN, Option.bind_some]; dsimp only
  rw [r_pi_eq]
  rw [← hS]
  simp only [sweep_New_is, sweep_Sweeper_Clone_is, sweep_Collect_is, h6, h7]
  exact isTrue1_spec (by kernel_rfl)

set_option maxHeartbeats 4000000 in
theorem law_ft_new (x0 x1 x2 x3 x4 x5 : Int) (e w : Int) (h1 : 1 ≤ e) (h2 : e ≤ 4096) (hw : w = 1 ∨ w = 2 ∨ w = 4 ∨ w = 8) (hb : ¬ (e = 64 ∧ w = 1)) (h6 : (e == 64) = false) (h7 : (w == 1) = true) : ∃ σ', d_law08_SweepNone 300 x0 x1 x2 x3 x4 x5 e w [] = some (.bool true, σ') := by
  obtain ⟨r, n, hg⟩ : ∃ r n, ∀ o0 o1 o2 o3, d_side_New 299 e w (o0 :: o1 :: o2 :: o3 :: t12) = some (.tuple #[.pointer (some ⟨(t12.length + 4) + 2, 0, none⟩), .int .i64 0], o0 :: o1 :: o2 :: o3 :: (t12 ++ [four, .cells r ty_uint64 true, .cells [.int .i64 e, .int .i64 w, .slice (some ⟨(t12.length + 4) + 1, 0, none⟩) n n] ty_side_Table true])) := side_here e w (by omega) (by omega) hw
  have hs := hg
  rw [show d_law08_SweepNone 300 = _ from d_law08_SweepNone_eq 299, b_law08_SweepNone]
  simp only [sw, strA, strR, str0, allocK, List.nil_append, List.cons_append, List.length_nil, List.length_cons, Nat.zero_add, Nat.reduceAdd, hn, rn, hs, r_pi_eq, Option.bind_some]
  have l0 : ∀ (v : Int) (σ : AMem), ldI .i64 (AObj.cells [.int .i64 v, .int .i64 x1, .int .i64 x2, .int .i64 x3, .int .i64 x4, .int .i64 x5] ty_dustcartlaw08_Act true :: σ) 0 0 = some v := fun _ _ => by simp [ldI, ld1, toI]
  have l1 : ∀ (v : Int) (σ : AMem), ldI .i64 (AObj.cells [.int .i64 v, .int .i64 x1, .int .i64 x2, .int .i64 x3, .int .i64 x4, .int .i64 x5] ty_dustcartlaw08_Act true :: σ) 0 1 = some x1 := fun _ _ => by simp [ldI, ld1, toI]
  have l2 : ∀ (v : Int) (σ : AMem), ldI .i64 (AObj.cells [.int .i64 v, .int .i64 x1, .int .i64 x2, .int .i64 x3, .int .i64 x4, .int .i64 x5] ty_dustcartlaw08_Act true :: σ) 0 2 = some x2 := fun _ _ => by simp [ldI, ld1, toI]
  have l3 : ∀ (v : Int) (σ : AMem), ldI .i64 (AObj.cells [.int .i64 v, .int .i64 x1, .int .i64 x2, .int .i64 x3, .int .i64 x4, .int .i64 x5] ty_dustcartlaw08_Act true :: σ) 0 3 = some x3 := fun _ _ => by simp [ldI, ld1, toI]
  have l4 : ∀ (v : Int) (σ : AMem), ldI .i64 (AObj.cells [.int .i64 v, .int .i64 x1, .int .i64 x2, .int .i64 x3, .int .i64 x4, .int .i64 x5] ty_dustcartlaw08_Act true :: σ) 0 4 = some x4 := fun _ _ => by simp [ldI, ld1, toI]
  have l5 : ∀ (v : Int) (σ : AMem), ldI .i64 (AObj.cells [.int .i64 v, .int .i64 x1, .int .i64 x2, .int .i64 x3, .int .i64 x4, .int .i64 x5] ty_dustcartlaw08_Act true :: σ) 0 5 = some x5 := fun _ _ => by simp [ldI, ld1, toI]
  have s0 : ∀ (v : Int) (σ : AMem), st1 (AObj.cells [.int .i64 x0, .int .i64 x1, .int .i64 x2, .int .i64 x3, .int .i64 x4, .int .i64 x5] ty_dustcartlaw08_Act true :: σ) 0 0 (.int .i64 v) = some (AObj.cells [.int .i64 v, .int .i64 x1, .int .i64 x2, .int .i64 x3, .int .i64 x4, .int .i64 x5] ty_dustcartlaw08_Act true :: σ) := fun _ _ => by simp [st1]
  simp only [l0, l1, l2, l3, l4, l5, s0, show ((4 : Int) = 0) = False from by simp, if_false, Option.bind_some, Nat.reduceAdd]
  obtain ⟨a1, a2, a3, ⟨qa1, qa2, qa3⟩, hp⟩ := play_un 296 (unmade_nil (AObj.cells [.int .i64 (x0.tmod 4), .int .i64 x1, .int .i64 x2, .int .i64 x3, .int .i64 x4, .int .i64 x5] ty_dustcartlaw08_Act true :: AObj.cells [.pointer none, .pointer none, .slice none 0 0] ty_sweep_Sweeper true :: AObj.cells [.slice none 0 0, .slice none 0 0, .pointer none, .pointer none, .map none, .map none, .int .i64 0] ty_heap_Heap true :: AObj.cells [.int .i64 0, .int .i64 0, .slice none 0 0] ty_side_Table true :: (t12 ++ [four, .cells r ty_uint64 true, .cells [.int .i64 e, .int .i64 w, .slice (some ⟨(t12.length + 4) + 1, 0, none⟩) n n] ty_side_Table true]))) (x0.tmod 4) x1 x2 x3 x4 x5 (tm4 x0)
  simp only [hp, Option.bind_some, toB_bool, Bool.not_true, cond_false, List.cons_append, l0, l1, l2, l3, l4, l5]
  obtain ⟨b1, b2, b3, ⟨qb1, qb2, qb3⟩, hp2⟩ := play_un 296 (unmade_zero (σ := AObj.cells [.int .i64 (x0.tmod 4), .int .i64 x1, .int .i64 x2, .int .i64 x3, .int .i64 x4, .int .i64 x5] ty_dustcartlaw08_Act true :: AObj.cells [.pointer none, .pointer none, .slice none 0 0] ty_sweep_Sweeper true :: AObj.cells [.slice none 0 0, .slice none 0 0, .pointer none, .pointer none, .map none, .map none, .int .i64 0] ty_heap_Heap true :: AObj.cells [.int .i64 0, .int .i64 0, .slice none 0 0] ty_side_Table true :: ((t12 ++ [four, .cells r ty_uint64 true, .cells [.int .i64 e, .int .i64 w, .slice (some ⟨(t12.length + 4) + 1, 0, none⟩) n n] ty_side_Table true]) ++ [a1, a2, a3])) (h := 1) rfl) (x0.tmod 4) x1 x2 x3 x4 x5 (tm4 x0)
  simp only [hp2, Option.bind_some, toB_bool, Bool.not_true, cond_false, List.cons_append]
  have q0 : sameO (AObj.cells [.int .i64 (x0.tmod 4), .int .i64 x1, .int .i64 x2, .int .i64 x3, .int .i64 x4, .int .i64 x5] ty_dustcartlaw08_Act true) (AObj.cells [.int .i64 (x0.tmod 4), .int .i64 x1, .int .i64 x2, .int .i64 x3, .int .i64 x4, .int .i64 x5] ty_dustcartlaw08_Act true) = true := by simp [sameO, sameVs, sameV, sameL]
  generalize AObj.cells [.int .i64 (x0.tmod 4), .int .i64 x1, .int .i64 x2, .int .i64 x3, .int .i64 x4, .int .i64 x5] ty_dustcartlaw08_Act true = o0 at q0 ⊢
  have ha : ∀ σ, d_law08_alive 299 σ = some (.bool true, σ) := fun σ => alive8 298 σ
  simp only [ha]
  generalize hS : (o0 :: AObj.cells [.pointer none, .pointer none, .slice none 0 0] ty_sweep_Sweeper true :: AObj.cells [.slice none 0 0, .slice none 0 0, .pointer none, .pointer none, .map none, .map none, .int .i64 0] ty_heap_Heap true :: AObj.cells [.int .i64 0, .int .i64 0, .slice none 0 0] ty_side_Table true :: ((t12 ++ [four, .cells r ty_uint64 true, .cells [.int .i64 e, .int .i64 w, .slice (some ⟨(t12.length + 4) + 1, 0, none⟩) n n] ty_side_Table true]) ++ [a1, a2, a3] ++ [b1, b2, b3])) = S
  have u0 : Unmade none S := unmade_nil S
  have u1 : Unmade (some ⟨1, 0, none⟩) S := unmade_zero (by rw [← hS]; rfl)
  have ht : S[(t12.length + 4) + 2]? = some (.cells [.int .i64 e, .int .i64 w, .slice (some ⟨(t12.length + 4) + 1, 0, none⟩) n n] ty_side_Table true) := by rw [← hS]; simp [List.append_assoc]
  have hN := new_bad (hS.symm.trans (by simp only [List.append_assoc]; rfl)) ht (by omega) (by omega)
  have eP : eqA P pt_sweep_Sweeper (.pointer none) (.pointer none) = some true := by kernel_rfl
  have L0 : d_sweep_Sweeper_Left 299 none S = _ := Left_un 297 u0
  have L1 : d_sweep_Sweeper_Left 299 (some ⟨1, 0, none⟩) S = _ := Left_un 297 u1
  have C0 : d_sweep_Sweeper_Clone 299 none p9 S = _ := Clone_un 297 u0 p9
  have C1 : d_sweep_Sweeper_Clone 299 (some ⟨1, 0, none⟩) p9 S = _ := Clone_un 297 u1 p9
  have z0 : (((0 : Nat) : Int) != 0) = false := rfl
  have t0 : toS (.slice none 0 0) = some (none, 0, 0) := rfl
  have t1 : toP (.pointer none) = some none := rfl
  rw [L0, Option.bind_some]; dsimp only
  rw [t0, Option.bind_some]; dsimp only
  rw [z0, Option.bind_some]; dsimp only
  rw [cond_false, L1, Option.bind_some]; dsimp only
  rw [t0, Option.bind_some]; dsimp only
  rw [z0, Option.bind_some]; dsimp only
  rw [cond_false, C0, Option.bind_some]; dsimp only
  rw [t1, Option.bind_some, eP, Option.bind_some, Bool.not_true, Option.bind_some]; dsimp only
  rw [cond_false, C1, Option.bind_some]; dsimp only
  rw [t1, Option.bind_some, eP, Option.bind_some, Bool.not_true, Option.bind_some]; dsimp only
  rw [cond_false, hN, Option.bind_some]; dsimp only
  rw [r_pi_eq]
  rw [← hS]
  simp only [sweep_New_is, sweep_Sweeper_Clone_is, sweep_Collect_is, h6, h7]
  exact isTrue1_spec (by kernel_rfl)

set_option maxHeartbeats 4000000 in
theorem law_ff_new (x0 x1 x2 x3 x4 x5 : Int) (e w : Int) (h1 : 1 ≤ e) (h2 : e ≤ 4096) (hw : w = 1 ∨ w = 2 ∨ w = 4 ∨ w = 8) (hb : ¬ (e = 64 ∧ w = 1)) (h6 : (e == 64) = false) (h7 : (w == 1) = false) : ∃ σ', d_law08_SweepNone 300 x0 x1 x2 x3 x4 x5 e w [] = some (.bool true, σ') := by
  obtain ⟨r, n, hg⟩ : ∃ r n, ∀ o0 o1 o2 o3, d_side_New 299 e w (o0 :: o1 :: o2 :: o3 :: t12) = some (.tuple #[.pointer (some ⟨(t12.length + 4) + 2, 0, none⟩), .int .i64 0], o0 :: o1 :: o2 :: o3 :: (t12 ++ [four, .cells r ty_uint64 true, .cells [.int .i64 e, .int .i64 w, .slice (some ⟨(t12.length + 4) + 1, 0, none⟩) n n] ty_side_Table true])) := side_here e w (by omega) (by omega) hw
  have hs := hg
  rw [show d_law08_SweepNone 300 = _ from d_law08_SweepNone_eq 299, b_law08_SweepNone]
  simp only [sw, strA, strR, str0, allocK, List.nil_append, List.cons_append, List.length_nil, List.length_cons, Nat.zero_add, Nat.reduceAdd, hn, rn, hs, r_pi_eq, Option.bind_some]
  have l0 : ∀ (v : Int) (σ : AMem), ldI .i64 (AObj.cells [.int .i64 v, .int .i64 x1, .int .i64 x2, .int .i64 x3, .int .i64 x4, .int .i64 x5] ty_dustcartlaw08_Act true :: σ) 0 0 = some v := fun _ _ => by simp [ldI, ld1, toI]
  have l1 : ∀ (v : Int) (σ : AMem), ldI .i64 (AObj.cells [.int .i64 v, .int .i64 x1, .int .i64 x2, .int .i64 x3, .int .i64 x4, .int .i64 x5] ty_dustcartlaw08_Act true :: σ) 0 1 = some x1 := fun _ _ => by simp [ldI, ld1, toI]
  have l2 : ∀ (v : Int) (σ : AMem), ldI .i64 (AObj.cells [.int .i64 v, .int .i64 x1, .int .i64 x2, .int .i64 x3, .int .i64 x4, .int .i64 x5] ty_dustcartlaw08_Act true :: σ) 0 2 = some x2 := fun _ _ => by simp [ldI, ld1, toI]
  have l3 : ∀ (v : Int) (σ : AMem), ldI .i64 (AObj.cells [.int .i64 v, .int .i64 x1, .int .i64 x2, .int .i64 x3, .int .i64 x4, .int .i64 x5] ty_dustcartlaw08_Act true :: σ) 0 3 = some x3 := fun _ _ => by simp [ldI, ld1, toI]
  have l4 : ∀ (v : Int) (σ : AMem), ldI .i64 (AObj.cells [.int .i64 v, .int .i64 x1, .int .i64 x2, .int .i64 x3, .int .i64 x4, .int .i64 x5] ty_dustcartlaw08_Act true :: σ) 0 4 = some x4 := fun _ _ => by simp [ldI, ld1, toI]
  have l5 : ∀ (v : Int) (σ : AMem), ldI .i64 (AObj.cells [.int .i64 v, .int .i64 x1, .int .i64 x2, .int .i64 x3, .int .i64 x4, .int .i64 x5] ty_dustcartlaw08_Act true :: σ) 0 5 = some x5 := fun _ _ => by simp [ldI, ld1, toI]
  have s0 : ∀ (v : Int) (σ : AMem), st1 (AObj.cells [.int .i64 x0, .int .i64 x1, .int .i64 x2, .int .i64 x3, .int .i64 x4, .int .i64 x5] ty_dustcartlaw08_Act true :: σ) 0 0 (.int .i64 v) = some (AObj.cells [.int .i64 v, .int .i64 x1, .int .i64 x2, .int .i64 x3, .int .i64 x4, .int .i64 x5] ty_dustcartlaw08_Act true :: σ) := fun _ _ => by simp [st1]
  simp only [l0, l1, l2, l3, l4, l5, s0, show ((4 : Int) = 0) = False from by simp, if_false, Option.bind_some, Nat.reduceAdd]
  obtain ⟨a1, a2, a3, ⟨qa1, qa2, qa3⟩, hp⟩ := play_un 296 (unmade_nil (AObj.cells [.int .i64 (x0.tmod 4), .int .i64 x1, .int .i64 x2, .int .i64 x3, .int .i64 x4, .int .i64 x5] ty_dustcartlaw08_Act true :: AObj.cells [.pointer none, .pointer none, .slice none 0 0] ty_sweep_Sweeper true :: AObj.cells [.slice none 0 0, .slice none 0 0, .pointer none, .pointer none, .map none, .map none, .int .i64 0] ty_heap_Heap true :: AObj.cells [.int .i64 0, .int .i64 0, .slice none 0 0] ty_side_Table true :: (t12 ++ [four, .cells r ty_uint64 true, .cells [.int .i64 e, .int .i64 w, .slice (some ⟨(t12.length + 4) + 1, 0, none⟩) n n] ty_side_Table true]))) (x0.tmod 4) x1 x2 x3 x4 x5 (tm4 x0)
  simp only [hp, Option.bind_some, toB_bool, Bool.not_true, cond_false, List.cons_append, l0, l1, l2, l3, l4, l5]
  obtain ⟨b1, b2, b3, ⟨qb1, qb2, qb3⟩, hp2⟩ := play_un 296 (unmade_zero (σ := AObj.cells [.int .i64 (x0.tmod 4), .int .i64 x1, .int .i64 x2, .int .i64 x3, .int .i64 x4, .int .i64 x5] ty_dustcartlaw08_Act true :: AObj.cells [.pointer none, .pointer none, .slice none 0 0] ty_sweep_Sweeper true :: AObj.cells [.slice none 0 0, .slice none 0 0, .pointer none, .pointer none, .map none, .map none, .int .i64 0] ty_heap_Heap true :: AObj.cells [.int .i64 0, .int .i64 0, .slice none 0 0] ty_side_Table true :: ((t12 ++ [four, .cells r ty_uint64 true, .cells [.int .i64 e, .int .i64 w, .slice (some ⟨(t12.length + 4) + 1, 0, none⟩) n n] ty_side_Table true]) ++ [a1, a2, a3])) (h := 1) rfl) (x0.tmod 4) x1 x2 x3 x4 x5 (tm4 x0)
  simp only [hp2, Option.bind_some, toB_bool, Bool.not_true, cond_false, List.cons_append]
  have q0 : sameO (AObj.cells [.int .i64 (x0.tmod 4), .int .i64 x1, .int .i64 x2, .int .i64 x3, .int .i64 x4, .int .i64 x5] ty_dustcartlaw08_Act true) (AObj.cells [.int .i64 (x0.tmod 4), .int .i64 x1, .int .i64 x2, .int .i64 x3, .int .i64 x4, .int .i64 x5] ty_dustcartlaw08_Act true) = true := by simp [sameO, sameVs, sameV, sameL]
  generalize AObj.cells [.int .i64 (x0.tmod 4), .int .i64 x1, .int .i64 x2, .int .i64 x3, .int .i64 x4, .int .i64 x5] ty_dustcartlaw08_Act true = o0 at q0 ⊢
  have ha : ∀ σ, d_law08_alive 299 σ = some (.bool true, σ) := fun σ => alive8 298 σ
  simp only [ha]
  generalize hS : (o0 :: AObj.cells [.pointer none, .pointer none, .slice none 0 0] ty_sweep_Sweeper true :: AObj.cells [.slice none 0 0, .slice none 0 0, .pointer none, .pointer none, .map none, .map none, .int .i64 0] ty_heap_Heap true :: AObj.cells [.int .i64 0, .int .i64 0, .slice none 0 0] ty_side_Table true :: ((t12 ++ [four, .cells r ty_uint64 true, .cells [.int .i64 e, .int .i64 w, .slice (some ⟨(t12.length + 4) + 1, 0, none⟩) n n] ty_side_Table true]) ++ [a1, a2, a3] ++ [b1, b2, b3])) = S
  have u0 : Unmade none S := unmade_nil S
  have u1 : Unmade (some ⟨1, 0, none⟩) S := unmade_zero (by rw [← hS]; rfl)
  have ht : S[(t12.length + 4) + 2]? = some (.cells [.int .i64 e, .int .i64 w, .slice (some ⟨(t12.length + 4) + 1, 0, none⟩) n n] ty_side_Table true) := by rw [← hS]; simp [List.append_assoc]
  have hN := new_bad (hS.symm.trans (by simp only [List.append_assoc]; rfl)) ht (by omega) (by omega)
  have eP : eqA P pt_sweep_Sweeper (.pointer none) (.pointer none) = some true := by kernel_rfl
  have L0 : d_sweep_Sweeper_Left 299 none S = _ := Left_un 297 u0
  have L1 : d_sweep_Sweeper_Left 299 (some ⟨1, 0, none⟩) S = _ := Left_un 297 u1
  have C0 : d_sweep_Sweeper_Clone 299 none p9 S = _ := Clone_un 297 u0 p9
  have C1 : d_sweep_Sweeper_Clone 299 (some ⟨1, 0, none⟩) p9 S = _ := Clone_un 297 u1 p9
  have z0 : (((0 : Nat) : Int) != 0) = false := rfl
  have t0 : toS (.slice none 0 0) = some (none, 0, 0) := rfl
  have t1 : toP (.pointer none) = some none := rfl
  rw [L0, Option.bind_some]; dsimp only
  rw [t0, Option.bind_some]; dsimp only
  rw [z0, Option.bind_some]; dsimp only
  rw [cond_false, L1, Option.bind_some]; dsimp only
  rw [t0, Option.bind_some]; dsimp only
  rw [z0, Option.bind_some]; dsimp only
  rw [cond_false, C0, Option.bind_some]; dsimp only
  rw [t1, Option.bind_some, eP, Option.bind_some, Bool.not_true, Option.bind_some]; dsimp only
  rw [cond_false, C1, Option.bind_some]; dsimp only
  rw [t1, Option.bind_some, eP, Option.bind_some, Bool.not_true, Option.bind_some]; dsimp only
  rw [cond_false, hN, Option.bind_some]; dsimp only
  rw [r_pi_eq]
  rw [← hS]
  simp only [sweep_New_is, sweep_Sweeper_Clone_is, sweep_Collect_is, h6, h7]
  exact isTrue1_spec (by kernel_rfl)

theorem sameM_self : ∀ (σ τ : AMem), (∀ o ∈ σ, sameO o o = true) → sameM σ (σ ++ τ) = true
  | [], _, _ => rfl
  | x :: xs, τ, h => by
    show (sameO x x && sameM xs (xs ++ τ)) = true
    rw [h x (by simp), sameM_self xs τ fun o ho => h o (by simp [ho])]
    rfl
theorem quietly_self {ρ : Type} {σ τ : AMem} (h : ∀ o ∈ σ, sameO o o = true) (m : Option ρ) : quietly σ (σ ++ τ) m = m := by
  have : @Quiet.q qSU σ (σ ++ τ) = true := sameM_self σ τ h
  unfold quietly; rw [this]; rfl
theorem same12 : ∀ o ∈ t12, sameO o o = true := by
  have h : (t12.all fun o => sameO o o) = true := by kernel_rfl
  simpa using h

theorem app1 {σ : AMem} {h2 wb : Nat} {v : Value} {T : TypeId} {rw' : Bool} (hr : σ[wb]? = some (.cells [v] T rw')) : appendD P ty_uint64 (some ⟨h2, 0, some 0⟩, 0, 0) (some ⟨wb, 0, none⟩, 1, 1) σ = some ((some ⟨σ.length, 0, none⟩, 1, 1), σ ++ [.cells [v] ty_uint64 true]) := by
  have e1 : szOf P ty_uint64 = some 1 := by kernel_rfl
  have e2 : bytesOf P ty_uint64 = some 8 := by kernel_rfl
  have e3 : zerosOf P ty_uint64 = some (.int .u64 0) := by kernel_rfl
  have e4 : firstA σ 1 (some ⟨wb, 0, none⟩) 1 = some [v] := by simp [firstA, ldN, hr]
  unfold appendD appendA
  simp only [e1, e2, e3, e4, Option.bind_some]
  have hz : (¬ (isTup (.int .u64 0) = false ∧ some 1 = some (Value.cells (.int .u64 0)).size ∧ 0 < (Value.cells (.int .u64 0)).size)) = False := by simp [isTup, Value.cells]
  have r : (roomOk (0 + 1) 8 ∧ 0 < 8) = True := by simp; unfold roomOk; decide
  simp only [hz, if_false, show ¬ (0 + 1 ≤ 0) from by decide, r, if_true, fixedB, Option.isSome_some, cond_true, slK]

theorem Tclone_to (k : Nat) {σ : AMem} {tb wb : Nat} {v : Value} (ht : σ[tb]? = some (.cells [.int .i64 64, .int .i64 1, .slice (some ⟨wb, 0, none⟩) 1 1] ty_side_Table true)) (hr : σ[wb]? = some (.cells [v] ty_uint64 true)) (hs : ∀ o ∈ σ, sameO o o = true) :
    d_side_Table_Clone (k + 2) (some ⟨tb, 0, none⟩) σ = some (.pointer (some ⟨σ.length + 2, 0, none⟩), σ ++ [.cells [] ty_uint64 true, .cells [v] ty_uint64 true, .cells [.int .i64 64, .int .i64 1, .slice (some ⟨σ.length + 1, 0, none⟩) 1 1] ty_side_Table true]) := by
  have l0 : ldI .i64 σ tb (0 + 0) = some 64 := by simp [ldI, ld1, ht, toI]
  have l1 : ldI .i64 σ tb (0 + 1) = some 1 := by simp [ldI, ld1, ht, toI]
  have l2 : ldS σ tb (0 + 2) = some (some ⟨wb, 0, none⟩, 1, 1) := by simp [ldS, ld1, ht, toS]
  have hlt : wb < σ.length := (List.getElem?_eq_some_iff.1 hr).1
  have hC : d_slices_Clone_uint64 (k + 1) (some ⟨wb, 0, none⟩, 1, 1) σ = some (.slice (some ⟨σ.length + 1, 0, none⟩) 1 1, σ ++ [.cells [] ty_uint64 true, .cells [v] ty_uint64 true]) := by
    rw [d_slices_Clone_uint64_eq, b_slices_Clone_uint64]
    simp only [sw, strA, strR, str0, show eqA P sl_uint64 (.slice (some ⟨wb, 0, none⟩) 1 1) (.slice none 0 0) = some false from by kernel_rfl, Option.bind_some, cond_false, allocK]
    have hr2 : (σ ++ [AObj.cells [] ty_uint64 true])[wb]? = some (.cells [v] ty_uint64 true) := by rw [List.getElem?_append_left hlt]; exact hr
    rw [show appendD P ty_uint64 (some ⟨σ.length, 0, some 0⟩, 0, 0) (some ⟨wb, 0, none⟩, 1, 1) (σ ++ [.cells [] ty_uint64 true]) = _ from app1 hr2]
    simp
  rw [d_side_Table_Clone_eq, b_side_Table_Clone]
  simp only [sw, strA, strR, str0, Tmade_to k ht (by decide), Option.bind_some, toB_bool, Bool.not_true, cond_false, l0, l1, l2, hC, quietly_self hs, toS, allocK]
  simp

set_option maxHeartbeats 4000000 in
theorem law_right (x0 x1 x2 x3 x4 x5 : Int)   : ∃ σ', d_law08_SweepNone 300 x0 x1 x2 x3 x4 x5 64 1 [] = some (.bool true, σ') := by
  have hs : ∀ o0 o1 o2 o3, d_side_New 299 64 1 (o0 :: o1 :: o2 :: o3 :: t12) = some (.tuple #[.pointer (some ⟨(t12.length + 4) + 2, 0, none⟩), .int .i64 0], o0 :: o1 :: o2 :: o3 :: (t12 ++ [four, .cells [.int .u64 0] ty_uint64 true, .cells [.int .i64 64, .int .i64 1, .slice (some ⟨(t12.length + 4) + 1, 0, none⟩) 1 1] ty_side_Table true])) := fun o0 o1 o2 o3 => by rw [side_good' 291 64 1 _ (by decide) (by decide) (by decide), show side_n 64 1 = 1 from by kernel_rfl]; rfl
  rw [show d_law08_SweepNone 300 = _ from d_law08_SweepNone_eq 299, b_law08_SweepNone]
  simp only [sw, strA, strR, str0, allocK, List.nil_append, List.cons_append, List.length_nil, List.length_cons, Nat.zero_add, Nat.reduceAdd, hn, rn, hs, r_pi_eq, Option.bind_some]
  have l0 : ∀ (v : Int) (σ : AMem), ldI .i64 (AObj.cells [.int .i64 v, .int .i64 x1, .int .i64 x2, .int .i64 x3, .int .i64 x4, .int .i64 x5] ty_dustcartlaw08_Act true :: σ) 0 0 = some v := fun _ _ => by simp [ldI, ld1, toI]
  have l1 : ∀ (v : Int) (σ : AMem), ldI .i64 (AObj.cells [.int .i64 v, .int .i64 x1, .int .i64 x2, .int .i64 x3, .int .i64 x4, .int .i64 x5] ty_dustcartlaw08_Act true :: σ) 0 1 = some x1 := fun _ _ => by simp [ldI, ld1, toI]
  have l2 : ∀ (v : Int) (σ : AMem), ldI .i64 (AObj.cells [.int .i64 v, .int .i64 x1, .int .i64 x2, .int .i64 x3, .int .i64 x4, .int .i64 x5] ty_dustcartlaw08_Act true :: σ) 0 2 = some x2 := fun _ _ => by simp [ldI, ld1, toI]
  have l3 : ∀ (v : Int) (σ : AMem), ldI .i64 (AObj.cells [.int .i64 v, .int .i64 x1, .int .i64 x2, .int .i64 x3, .int .i64 x4, .int .i64 x5] ty_dustcartlaw08_Act true :: σ) 0 3 = some x3 := fun _ _ => by simp [ldI, ld1, toI]
  have l4 : ∀ (v : Int) (σ : AMem), ldI .i64 (AObj.cells [.int .i64 v, .int .i64 x1, .int .i64 x2, .int .i64 x3, .int .i64 x4, .int .i64 x5] ty_dustcartlaw08_Act true :: σ) 0 4 = some x4 := fun _ _ => by simp [ldI, ld1, toI]
  have l5 : ∀ (v : Int) (σ : AMem), ldI .i64 (AObj.cells [.int .i64 v, .int .i64 x1, .int .i64 x2, .int .i64 x3, .int .i64 x4, .int .i64 x5] ty_dustcartlaw08_Act true :: σ) 0 5 = some x5 := fun _ _ => by simp [ldI, ld1, toI]
  have s0 : ∀ (v : Int) (σ : AMem), st1 (AObj.cells [.int .i64 x0, .int .i64 x1, .int .i64 x2, .int .i64 x3, .int .i64 x4, .int .i64 x5] ty_dustcartlaw08_Act true :: σ) 0 0 (.int .i64 v) = some (AObj.cells [.int .i64 v, .int .i64 x1, .int .i64 x2, .int .i64 x3, .int .i64 x4, .int .i64 x5] ty_dustcartlaw08_Act true :: σ) := fun _ _ => by simp [st1]
  simp only [l0, l1, l2, l3, l4, l5, s0, show ((4 : Int) = 0) = False from by simp, if_false, Option.bind_some, Nat.reduceAdd]
  obtain ⟨a1, a2, a3, ⟨qa1, qa2, qa3⟩, hp⟩ := play_un 296 (unmade_nil (AObj.cells [.int .i64 (x0.tmod 4), .int .i64 x1, .int .i64 x2, .int .i64 x3, .int .i64 x4, .int .i64 x5] ty_dustcartlaw08_Act true :: AObj.cells [.pointer none, .pointer none, .slice none 0 0] ty_sweep_Sweeper true :: AObj.cells [.slice none 0 0, .slice none 0 0, .pointer none, .pointer none, .map none, .map none, .int .i64 0] ty_heap_Heap true :: AObj.cells [.int .i64 0, .int .i64 0, .slice none 0 0] ty_side_Table true :: (t12 ++ [four, .cells [.int .u64 0] ty_uint64 true, .cells [.int .i64 64, .int .i64 1, .slice (some ⟨(t12.length + 4) + 1, 0, none⟩) 1 1] ty_side_Table true]))) (x0.tmod 4) x1 x2 x3 x4 x5 (tm4 x0)
  simp only [hp, Option.bind_some, toB_bool, Bool.not_true, cond_false, List.cons_append, l0, l1, l2, l3, l4, l5]
  obtain ⟨b1, b2, b3, ⟨qb1, qb2, qb3⟩, hp2⟩ := play_un 296 (unmade_zero (σ := AObj.cells [.int .i64 (x0.tmod 4), .int .i64 x1, .int .i64 x2, .int .i64 x3, .int .i64 x4, .int .i64 x5] ty_dustcartlaw08_Act true :: AObj.cells [.pointer none, .pointer none, .slice none 0 0] ty_sweep_Sweeper true :: AObj.cells [.slice none 0 0, .slice none 0 0, .pointer none, .pointer none, .map none, .map none, .int .i64 0] ty_heap_Heap true :: AObj.cells [.int .i64 0, .int .i64 0, .slice none 0 0] ty_side_Table true :: ((t12 ++ [four, .cells [.int .u64 0] ty_uint64 true, .cells [.int .i64 64, .int .i64 1, .slice (some ⟨(t12.length + 4) + 1, 0, none⟩) 1 1] ty_side_Table true]) ++ [a1, a2, a3])) (h := 1) rfl) (x0.tmod 4) x1 x2 x3 x4 x5 (tm4 x0)
  simp only [hp2, Option.bind_some, toB_bool, Bool.not_true, cond_false, List.cons_append]
  have q0 : sameO (AObj.cells [.int .i64 (x0.tmod 4), .int .i64 x1, .int .i64 x2, .int .i64 x3, .int .i64 x4, .int .i64 x5] ty_dustcartlaw08_Act true) (AObj.cells [.int .i64 (x0.tmod 4), .int .i64 x1, .int .i64 x2, .int .i64 x3, .int .i64 x4, .int .i64 x5] ty_dustcartlaw08_Act true) = true := by simp [sameO, sameVs, sameV, sameL]
  generalize AObj.cells [.int .i64 (x0.tmod 4), .int .i64 x1, .int .i64 x2, .int .i64 x3, .int .i64 x4, .int .i64 x5] ty_dustcartlaw08_Act true = o0 at q0 ⊢
  have ha : ∀ σ, d_law08_alive 299 σ = some (.bool true, σ) := fun σ => alive8 298 σ
  simp only [ha]
  generalize hS : (o0 :: AObj.cells [.pointer none, .pointer none, .slice none 0 0] ty_sweep_Sweeper true :: AObj.cells [.slice none 0 0, .slice none 0 0, .pointer none, .pointer none, .map none, .map none, .int .i64 0] ty_heap_Heap true :: AObj.cells [.int .i64 0, .int .i64 0, .slice none 0 0] ty_side_Table true :: ((t12 ++ [four, .cells [.int .u64 0] ty_uint64 true, .cells [.int .i64 64, .int .i64 1, .slice (some ⟨(t12.length + 4) + 1, 0, none⟩) 1 1] ty_side_Table true]) ++ [a1, a2, a3] ++ [b1, b2, b3])) = S
  have u0 : Unmade none S := unmade_nil S
  have u1 : Unmade (some ⟨1, 0, none⟩) S := unmade_zero (by rw [← hS]; rfl)
  have ht : S[(t12.length + 4) + 2]? = some (.cells [.int .i64 64, .int .i64 1, .slice (some ⟨(t12.length + 4) + 1, 0, none⟩) 1 1] ty_side_Table true) := by rw [← hS]; simp [List.append_assoc]
  have hr : S[(t12.length + 4) + 1]? = some (.cells [.int .u64 0] ty_uint64 true) := by rw [← hS]; simp [List.append_assoc]
  have hq : ∀ o ∈ S, sameO o o = true := by
    rw [← hS]
    intro o ho
    simp only [List.mem_cons, List.mem_append, List.not_mem_nil, or_false] at ho
    rcases ho with rfl | rfl | rfl | rfl | ((h | rfl | rfl | rfl) | rfl | rfl | rfl) | rfl | rfl | rfl
    · exact q0
    · rfl
    · rfl
    · rfl
    · exact same12 o h
    · rfl
    · rfl
    · simp [sameO, sameVs, sameV, sameL, sameA]
    · exact qa1
    · exact qa2
    · exact qa3
    · exact qb1
    · exact qb2
    · exact qb3
  have hC := Tclone_to 296 ht hr hq
  have hB : d_heap_Heap_Blocks 298 p9 S = some (.int .i64 2, S) := by rw [← hS]; simp only [List.append_assoc]; exact blocks9 _ _ _ _ _
  have hW : d_side_Table_Width 298 (some ⟨(t12.length + 4) + 2, 0, none⟩) S = some (.int .i64 1, S) := Width_to 296 ht (by decide)
  have hE : d_side_Table_Entries 298 (some ⟨(t12.length + 4) + 2, 0, none⟩) S = some (.int .i64 64, S) := Entries_to 296 ht (by decide)
  have hC' : d_side_Table_Clone 298 (some ⟨(t12.length + 4) + 2, 0, none⟩) S = _ := hC
  have hN : d_sweep_New 299 p9 (some ⟨(t12.length + 4) + 2, 0, none⟩) S = some (.tuple #[.pointer (some ⟨S.length + 3, 0, none⟩), .int .i64 0], S ++ [.cells [] ty_uint64 true, .cells [.int .u64 0] ty_uint64 true, .cells [.int .i64 64, .int .i64 1, .slice (some ⟨S.length + 1, 0, none⟩) 1 1] ty_side_Table true, .cells [.pointer p9, .pointer (some ⟨S.length + 2, 0, none⟩), .slice none 0 0] ty_sweep_Sweeper true]) := by
    rw [show d_sweep_New 299 = _ from d_sweep_New_eq 298, b_sweep_New, hB, Option.bind_some]
    dsimp only
    rw [str0.2.2.2.2.2.2.2.2.2.2.2.2 .i64 (.int .i64 2), toI_int, Option.bind_some, show ((2 : Int) == 0) = false from rfl, cond_false, hW, Option.bind_some]
    dsimp only
    rw [str0.2.2.2.2.2.2.2.2.2.2.2.2 .i64 (.int .i64 1), toI_int, Option.bind_some, Option.bind_some]
    dsimp only
    rw [show ((1 : Int) != 1) = false from rfl, cond_false, hE, Option.bind_some]
    dsimp only
    rw [str0.2.2.2.2.2.2.2.2.2.2.2.2 .i64 (.int .i64 64), toI_int, Option.bind_some, hB, Option.bind_some]
    dsimp only
    rw [str0.2.2.2.2.2.2.2.2.2.2.2.2 .i64 (.int .i64 2), toI_int, Option.bind_some, if_neg (by decide), Option.bind_some]
    dsimp only
    rw [show ((64 : Int) != w64S ((w64S (2 * 64)).tdiv 2)) = false from by kernel_rfl, cond_false, hC']
    rw [← hS]
    simp only [heap_Heap_Blocks_is, sweep_New_l0_is]
    kernel_rfl
  have eP : eqA P pt_sweep_Sweeper (.pointer none) (.pointer none) = some true := by kernel_rfl
  have L0 : d_sweep_Sweeper_Left 299 none S = _ := Left_un 297 u0
  have L1 : d_sweep_Sweeper_Left 299 (some ⟨1, 0, none⟩) S = _ := Left_un 297 u1
  have C0 : d_sweep_Sweeper_Clone 299 none p9 S = _ := Clone_un 297 u0 p9
  have C1 : d_sweep_Sweeper_Clone 299 (some ⟨1, 0, none⟩) p9 S = _ := Clone_un 297 u1 p9
  have z0 : (((0 : Nat) : Int) != 0) = false := rfl
  have t0 : toS (.slice none 0 0) = some (none, 0, 0) := rfl
  have t1 : toP (.pointer none) = some none := rfl
  rw [L0, Option.bind_some]; dsimp only
  rw [t0, Option.bind_some]; dsimp only
  rw [z0, Option.bind_some]; dsimp only
  rw [cond_false, L1, Option.bind_some]; dsimp only
  rw [t0, Option.bind_some]; dsimp only
  rw [z0, Option.bind_some]; dsimp only
  rw [cond_false, C0, Option.bind_some]; dsimp only
  rw [t1, Option.bind_some, eP, Option.bind_some, Bool.not_true, Option.bind_some]; dsimp only
  rw [cond_false, C1, Option.bind_some]; dsimp only
  rw [t1, Option.bind_some, eP, Option.bind_some, Bool.not_true, Option.bind_some]; dsimp only
  rw [cond_false, hN, Option.bind_some]; dsimp only
  rw [r_pi_eq]
  rw [← hS]
  simp only [sweep_New_is, sweep_Sweeper_Clone_is, sweep_Collect_is]
  exact isTrue1_spec (by kernel_rfl)

theorem law_to (x0 x1 x2 x3 x4 x5 e w : Int) : ∃ σ', d_law08_SweepNone 300 x0 x1 x2 x3 x4 x5 e w [] = some (.bool true, σ') := by
  by_cases hb : e < 1 ∨ 4096 < e
  · have h6 : (e == 64) = false := by simp; omega
    cases h7 : (w == 1) with
    | true => exact law_ft_bad x0 x1 x2 x3 x4 x5 e w hb h6 h7
    | false => exact law_ff_bad x0 x1 x2 x3 x4 x5 e w hb h6 h7
  · have h1 : 1 ≤ e := by omega
    have h2 : e ≤ 4096 := by omega
    by_cases hw : w = 1 ∨ w = 2 ∨ w = 4 ∨ w = 8
    · by_cases hb : e = 64 ∧ w = 1
      · obtain ⟨rfl, rfl⟩ := hb; exact law_right x0 x1 x2 x3 x4 x5
      · cases h6 : (e == 64) with
        | true =>
          cases h7 : (w == 1) with
          | true => exact absurd ⟨eq_of_beq h6, eq_of_beq h7⟩ hb
          | false => exact law_tf_new x0 x1 x2 x3 x4 x5 e w h1 h2 hw hb h6 h7
        | false =>
          cases h7 : (w == 1) with
          | true => exact law_ft_new x0 x1 x2 x3 x4 x5 e w h1 h2 hw hb h6 h7
          | false => exact law_ff_new x0 x1 x2 x3 x4 x5 e w h1 h2 hw hb h6 h7
    · have h7 : (w == 1) = false := by simp; omega
      cases h6 : (e == 64) with
      | true => exact law_tf_odd x0 x1 x2 x3 x4 x5 e w h1 h2 hw h6 h7
      | false => exact law_ff_odd x0 x1 x2 x3 x4 x5 e w h1 h2 hw h6 h7

theorem SweepNone_to (a b c d e f g h : Int) : ∃ σ', @fn boolQuiet P X2 H 300 4 [.agg #[.int .i64 a, .int .i64 b, .int .i64 c, .int .i64 d, .int .i64 e, .int .i64 f], .int .i64 g, .int .i64 h] [] = some (.bool true, σ') := by
  have h := law_to a b c d e f g h
  simp only [d_law08_SweepNone, hide_eq] at h
  exact h

end Go.Proofs.YtilefhlamdiomaaGreat
