/-
  New.
-/
import Derived.Test.YtlaplcglpnlieaaCJ
set_option linter.unusedVariables false
set_option linter.unusedSimpArgs false
namespace Go.Proofs.Ytlaplcglpnlieaa
open Go Go.AX
noncomputable local instance qCW : Quiet := fullQuiet
local instance nCW : Kn := ⟨true⟩
variable {σ : AMem} {i : HIds} {m : HM}

theorem rep_u64 (n : Nat) : rep n [Value.int .u64 0] = rowOf (List.replicate n 0#64) := by
  simp only [rep, rowOf, List.map_replicate]
  induction n with
  | zero => rfl
  | succ n ih => rw [List.replicate_succ, List.flatten_cons, ih, List.replicate_succ]; rfl
theorem rep_blk (n : Nat) : rep n [Value.int .i64 0, .int .i64 0] = blRow (List.replicate n (0, 0)) := by
  simp only [rep]
  induction n with
  | zero => rfl
  | succ n ih => rw [List.replicate_succ, List.flatten_cons, ih, List.replicate_succ]; rfl

/-- New of a table of one bit an entry. -/
theorem side_New_to (k : Nat) {e : Nat} (h0 : 0 < e) (h1 : e ≤ 4096) (σ : AMem) : ∃ τ tb wb, d_side_New (k + 4) (e : Int) 1 σ = some (.tuple #[.pointer (some ⟨tb, 0, none⟩), .int .i64 0], σ ++ τ) ∧
    TabAt (σ ++ τ) tb wb e 1 (List.replicate ((e + 63) / 64) 0#64) ∧ σ.length ≤ tb ∧ σ.length ≤ wb ∧ tb ≠ wb := by
  rw [d_side_New_eq, b_side_New]
  simp only [show decide ((e : Int) < 1) = false from decide_eq_false (by omega), cond_false, show decide ((e : Int) > 4096) = false from decide_eq_false (by omega), Option.bind_some, allocK]
  rw [d_slices_Contains_int_eq, b_slices_Contains_int, d_slices_Index_int_eq, b_slices_Index_int, d_slices_Index_int_l0_eq, b_slices_Index_int_l0]
  simp only [show decide ((0 : Int) < ((4 : Nat) : Int)) = true from rfl, cond_true, show ((0 : Int) ≤ 0 ∧ (0 : Int) < ((4 : Nat) : Int)) = True from by simp, if_true, Option.bind_some, Int.toNat_zero, Nat.zero_mul, Nat.add_zero, ldI_new, List.getElem?_cons_zero, toI_int, BEq.rfl, u_i_eq, reduceCtorEq, if_false, toB_bool, show decide ((0 : Int) ≥ 0) = true from rfl, Bool.not_true, cond_false]
  have e1 : w64 ((e : Int) * 1) = (e : Int) := by rw [w64_in (by unfold inI; omega)]; omega
  have e2 : w64 ((e : Int) + 64) = ((e + 64 : Nat) : Int) := w64_in (by unfold inI; omega)
  have e3 : w64 (((e + 64 : Nat) : Int) - 1) = ((e + 63 : Nat) : Int) := by rw [w64_in (by unfold inI; omega)]; omega
  have e4 : ((e + 63 : Nat) : Int).tdiv 64 = (((e + 63) / 64 : Nat) : Int) := rfl
  have e5 : w64 (((e + 63) / 64 : Nat) : Int) = (((e + 63) / 64 : Nat) : Int) := w64_in (by unfold inI; omega)
  simp only [e1, e2, e3, e4, e5, show ((64 : Int) = 0) = False from by simp, if_false]
  rw [if_pos (by omega)]
  simp only [Int.toNat_natCast, rep_u64]
  obtain ⟨μ, hμ⟩ : ∃ μ, σ ++ [AObj.cells [Value.int .i64 1, .int .i64 2, .int .i64 4, .int .i64 8] ty_int true] = μ := ⟨_, rfl⟩
  have hl : μ.length = σ.length + 1 := by rw [← hμ]; simp
  rw [hμ]
  refine ⟨[AObj.cells [Value.int .i64 1, .int .i64 2, .int .i64 4, .int .i64 8] ty_int true, .cells (rowOf (List.replicate ((e + 63) / 64) 0#64)) el_side_Table_words true, .cells [.int .i64 (e : Int), .int .i64 1, .slice (some ⟨σ.length + 1, 0, none⟩) ((e + 63) / 64) ((e + 63) / 64)] ty_side_Table true], σ.length + 2, σ.length + 1, ?_, ?_, by omega, by omega, by omega⟩
  · rw [← hμ]; simp
  · refine ⟨?_, ?_, by simp, h0, h1, .inl rfl⟩
    · rw [List.length_replicate, List.getElem?_append_right (by omega), show σ.length + 2 - σ.length = 2 from by omega]; rfl
    · rw [List.getElem?_append_right (by omega), show σ.length + 1 - σ.length = 1 from by omega]; rfl

/-- A new heap. -/
def newM (n : Nat) : HM := { bls := List.replicate n (0, 0), wds := List.replicate (64 * n) 0, stw := List.replicate ((32 * n + 63) / 64) 0#64, pnw := List.replicate ((32 * n + 63) / 64) 0#64, pl := [], fw := [], births := 0 }

theorem Inv.new (n : Nat) : Inv (newM n) := by
  have hs : ∀ j, ¬ Start (newM n) j := by
    rintro j ⟨_, h⟩
    have : tget 1 (newM n).stw j = 0 := tget_zeros _ _ _
    omega
  exact ⟨fun j h => absurd h (hs j), fun j h => absurd h (hs j), fun j _ h => absurd h (hs j), fun j h => absurd h (hs j), fun id a h => by simp [newM, getM] at h, Int.le_refl _, trivial⟩

theorem Inv2.new (n : Nat) : Inv2 (newM n) := by
  have hs : ∀ j, ¬ Start (newM n) j := by
    rintro j ⟨_, h⟩
    have : tget 1 (newM n).stw j = 0 := tget_zeros _ _ _
    omega
  refine ⟨fun j h => absurd h (hs j), fun a _ => ?_⟩
  show (List.replicate (64 * n) (0 : Int)).getD a 0 = 0
  rw [List.getD_eq_getElem?_getD, List.getElem?_replicate]
  split <;> rfl

theorem New_bad (k : Nat) (b : Int) (hb : ¬ (2 ≤ b ∧ b ≤ 64)) (σ : AMem) : d_heap_New (k + 1) b σ = some (.tuple #[.pointer none, .int .i64 1], σ) := by
  rw [d_heap_New_eq, b_heap_New]
  by_cases h0 : b < 2
  · simp only [decide_eq_true h0, cond_true, Option.bind_some]
  · simp only [decide_eq_false h0, cond_false, Option.bind_some, show decide (b > 64) = true from decide_eq_true (by omega), cond_true]

theorem New_to (k : Nat) {n : Nat} (h2 : 2 ≤ n) (h64 : n ≤ 64) (σ : AMem) : ∃ σ' i, d_heap_New (k + 5) (n : Int) σ = some (.tuple #[.pointer (hptr i), .int .i64 0], σ') ∧ HeapAt σ' i (newM n) ∧ (∀ j ∈ i.l, σ.length ≤ j) ∧ Keeps i σ σ' := by
  rw [d_heap_New_eq, b_heap_New]
  have e1 : w64 ((n : Int) * 64) = ((64 * n : Nat) : Int) := by rw [w64_in (by unfold inI; omega)]; omega
  simp only [show decide ((n : Int) < 2) = false from decide_eq_false (by omega), cond_false, show decide ((n : Int) > 64) = false from decide_eq_false (by omega), Option.bind_some, allocK, e1]
  rw [if_pos (by omega), if_pos (by omega)]
  simp only [Int.toNat_natCast, rep_blk, rep_zero]
  -- the parts
  obtain ⟨o, ho⟩ : ∃ o : List AObj, [AObj.cells (blRow (List.replicate n (0, 0))) ty_heap_block true, .cells (inRow (List.replicate (64 * n) 0)) ty_int true, .map [], .map [],
    .cells [.slice (some ⟨σ.length, 0, none⟩) n n, .slice (some ⟨σ.length + 1, 0, none⟩) (64 * n) (64 * n), .pointer none, .pointer none, .map (some (σ.length + 2)), .map (some (σ.length + 3)), .int .i64 0] ty_heap_Heap true] = o := ⟨_, rfl⟩
  have hmem : (σ ++ [AObj.cells (blRow (List.replicate n (0, 0))) ty_heap_block true] ++ [AObj.cells (inRow (List.replicate (64 * n) 0)) ty_int true] ++ [AObj.map []] ++ [AObj.map []] ++
      [AObj.cells [.slice (some ⟨σ.length, 0, none⟩) n n, .slice (some ⟨(σ ++ [AObj.cells (blRow (List.replicate n (0, 0))) ty_heap_block true]).length, 0, none⟩) (64 * n) (64 * n), .pointer none, .pointer none, .map (some (σ ++ [AObj.cells (blRow (List.replicate n (0, 0))) ty_heap_block true] ++ [AObj.cells (inRow (List.replicate (64 * n) 0)) ty_int true]).length), .map (some (σ ++ [AObj.cells (blRow (List.replicate n (0, 0))) ty_heap_block true] ++ [AObj.cells (inRow (List.replicate (64 * n) 0)) ty_int true] ++ [AObj.map []]).length), .int .i64 0] ty_heap_Heap true]) = σ ++ o := by
    rw [← ho]; simp
  have hh : (σ ++ [AObj.cells (blRow (List.replicate n (0, 0))) ty_heap_block true] ++ [AObj.cells (inRow (List.replicate (64 * n) 0)) ty_int true] ++ [AObj.map []] ++ [AObj.map []]).length = σ.length + 4 := by simp
  rw [hmem, hh]
  have hol : o.length = 5 := by rw [← ho]; rfl
  have g : ∀ q, q < 5 → (σ ++ o)[σ.length + q]? = o[q]? := fun q _ => by rw [List.getElem?_append_right (by omega)]; congr 1; omega
  have gd : ∀ (τ : AMem) q, q < 5 → (σ ++ o ++ τ)[σ.length + q]? = o[q]? := fun τ q hq => by rw [List.getElem?_append_left (by simp; omega)]; exact g q hq
  have l1 : ldS (σ ++ o) (σ.length + 4) 1 = some (some ⟨σ.length + 1, 0, none⟩, 64 * n, 64 * n) := by
    simp only [ldS, ld1, g 4 (by omega)]; rw [← ho]; rfl
  have e2 : ((64 * n : Nat) : Int).tdiv 2 = ((32 * n : Nat) : Int) := by
    rw [show ((64 * n : Nat) : Int).tdiv 2 = (((64 * n) / 2 : Nat) : Int) from rfl]; omega
  have e3 : w64 ((32 * n : Nat) : Int) = ((32 * n : Nat) : Int) := w64_in (by unfold inI; omega)
  obtain ⟨τ1, st, sw, hN1, hT1, a1, a2, a3⟩ := side_New_to k (e := 32 * n) (by omega) (by omega) (σ ++ o)
  simp only [Nat.zero_add, l1, Option.bind_some, show ((2 : Int) = 0) = False from by simp, if_false, e2, e3, hN1, r_pi_eq]
  have lo : (σ ++ o).length = σ.length + 5 := by simp [hol]
  rw [lo] at a1 a2
  obtain ⟨c, hc⟩ : ∃ c, [Value.slice (some ⟨σ.length, 0, none⟩) n n, .slice (some ⟨σ.length + 1, 0, none⟩) (64 * n) (64 * n), .pointer none, .pointer none, .map (some (σ.length + 2)), .map (some (σ.length + 3)), .int .i64 0] = c := ⟨_, rfl⟩
  have o4 : o[4]? = some (.cells c ty_heap_Heap true) := by rw [← ho, ← hc]; rfl
  obtain ⟨μ1, hμ1⟩ : ∃ μ1, σ ++ o ++ τ1 = μ1 := ⟨_, rfl⟩
  have b1 : ∀ q, q < 5 → μ1[σ.length + q]? = o[q]? := fun q hq => hμ1 ▸ gd τ1 q hq
  have L1 : σ.length + 5 ≤ μ1.length := by rw [← hμ1, List.length_append, lo]; omega
  rw [hμ1] at hT1 ⊢
  have s1 : st1 μ1 (σ.length + 4) 2 (.pointer (some ⟨st, 0, none⟩)) = some (μ1.set (σ.length + 4) (.cells (c.set 2 (.pointer (some ⟨st, 0, none⟩))) ty_heap_Heap true)) := by
    simp only [st1, b1 4 (by omega), o4]
    rw [if_pos (by rw [← hc]; simp)]
  obtain ⟨μ2, hμ2⟩ : ∃ μ2, μ1.set (σ.length + 4) (.cells (c.set 2 (.pointer (some ⟨st, 0, none⟩))) ty_heap_Heap true) = μ2 := ⟨_, rfl⟩
  rw [hμ2] at s1
  have b2 : ∀ q, q ≠ σ.length + 4 → μ2[q]? = μ1[q]? := fun q hq => by rw [← hμ2]; exact List.getElem?_set_ne (Ne.symm hq)
  have b2h : μ2[σ.length + 4]? = some (.cells (c.set 2 (.pointer (some ⟨st, 0, none⟩))) ty_heap_Heap true) := by rw [← hμ2]; exact List.getElem?_set_self (by omega)
  have L2 : μ2.length = μ1.length := by rw [← hμ2]; simp
  have l2 : ldS μ2 (σ.length + 4) 1 = some (some ⟨σ.length + 1, 0, none⟩, 64 * n, 64 * n) := by
    simp only [ldS, ld1, b2h]; rw [← hc]; rfl
  obtain ⟨τ2, pn, pw, hN2, hT2, p1, p2, p3⟩ := side_New_to k (e := 32 * n) (by omega) (by omega) μ2
  have t1 := hT1.lt
  obtain ⟨μ3, hμ3⟩ : ∃ μ3, μ2 ++ τ2 = μ3 := ⟨_, rfl⟩
  have b3 : ∀ q, q < μ2.length → μ3[q]? = μ2[q]? := fun q hq => by rw [← hμ3]; exact List.getElem?_append_left hq
  have L3 : μ2.length ≤ μ3.length := by rw [← hμ3]; simp
  rw [hμ3] at hN2 hT2
  have s3 : st1 μ3 (σ.length + 4) 3 (.pointer (some ⟨pn, 0, none⟩)) = some (μ3.set (σ.length + 4) (.cells ((c.set 2 (.pointer (some ⟨st, 0, none⟩))).set 3 (.pointer (some ⟨pn, 0, none⟩))) ty_heap_Heap true)) := by
    simp only [st1, b3 (σ.length + 4) (by omega), b2h]
    rw [if_pos (by rw [← hc]; simp)]
  obtain ⟨μ4, hμ4⟩ : ∃ μ4, μ3.set (σ.length + 4) (.cells ((c.set 2 (.pointer (some ⟨st, 0, none⟩))).set 3 (.pointer (some ⟨pn, 0, none⟩))) ty_heap_Heap true) = μ4 := ⟨_, rfl⟩
  rw [hμ4] at s3
  have b4 : ∀ q, q ≠ σ.length + 4 → μ4[q]? = μ3[q]? := fun q hq => by rw [← hμ4]; exact List.getElem?_set_ne (Ne.symm hq)
  have b4h : μ4[σ.length + 4]? = some (.cells ((c.set 2 (.pointer (some ⟨st, 0, none⟩))).set 3 (.pointer (some ⟨pn, 0, none⟩))) ty_heap_Heap true) := by rw [← hμ4]; exact List.getElem?_set_self (by omega)
  have L4 : μ4.length = μ3.length := by rw [← hμ4]; simp
  have b : ∀ q, q < μ2.length → q ≠ σ.length + 4 → μ4[q]? = μ1[q]? := fun q h1 h2 => (b4 q h2).trans ((b3 q h1).trans (b2 q h2))
  have bo : ∀ q, q < 4 → μ4[σ.length + q]? = o[q]? := fun q hq => (b _ (by omega) (by omega)).trans (b1 q (by omega))
  simp only [s1, Option.bind_some, l2, e2, e3, hN2, r_pi_eq, s3]
  refine ⟨μ4, ⟨σ.length + 4, σ.length, σ.length + 1, st, sw, pn, pw, σ.length + 2, σ.length + 3⟩, rfl, ?_, ?_, ?_⟩
  · refine ⟨?_, ?_, ?_, ?_, ?_, ?_, ?_, ?_, ?_, ?_, ?_, ?_⟩
    · rw [b4h, ← hc]
      simp [newM]
    · show μ4[σ.length]? = _
      have := bo 0 (by omega)
      rw [Nat.add_zero] at this
      rw [this, ← ho]; rfl
    · show μ4[σ.length + 1]? = _
      rw [bo 1 (by omega), ← ho]; rfl
    · show TabAt μ4 st sw (32 * (List.replicate n ((0 : Int), (0 : Int))).length) 1 _
      rw [List.length_replicate]
      exact hT1.same (b _ (by omega) (by omega)) (b _ (by omega) (by omega))
    · show TabAt μ4 pn pw (32 * (List.replicate n ((0 : Int), (0 : Int))).length) 1 _
      rw [List.length_replicate]
      exact hT2.same (b4 _ (by omega)) (b4 _ (by omega))
    · show μ4[σ.length + 2]? = _
      rw [bo 2 (by omega), ← ho]; rfl
    · show μ4[σ.length + 3]? = _
      rw [bo 3 (by omega), ← ho]; rfl
    · simpa [newM] using h2
    · simpa [newM] using h64
    · simp [newM]
    · simp only [HIds.l, List.nodup_cons, List.mem_cons, List.not_mem_nil, or_false, not_or, List.nodup_nil, not_false_eq_true, and_true]
      have := hT2.lt
      refine ⟨⟨?_, ?_, ?_, ?_, ?_, ?_, ?_, ?_⟩, ⟨?_, ?_, ?_, ?_, ?_, ?_, ?_⟩, ⟨?_, ?_, ?_, ?_, ?_, ?_⟩, ⟨?_, ?_, ?_, ?_, ?_⟩, ⟨?_, ?_, ?_, ?_⟩, ⟨?_, ?_, ?_⟩, ⟨?_, ?_⟩, ?_⟩ <;> omega
    · intro a
      show inI ((List.replicate (64 * n) (0 : Int)).getD a 0)
      rw [List.getD_eq_getElem?_getD, List.getElem?_replicate]
      split <;> (unfold inI; decide)
  · intro j hj
    simp only [HIds.l, List.mem_cons, List.not_mem_nil, or_false] at hj
    omega
  · refine ⟨by omega, fun j hj hne => ?_⟩
    rw [b j (by omega) (by omega), ← hμ1, List.append_assoc, List.getElem?_append_left hj]

end Go.Proofs.Ytlaplcglpnlieaa
