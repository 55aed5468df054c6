/-
  What the functions of side tables come to, on a table that was made.
-/
import Derived.Test.YtlaplcglpnlieaaAXL
import Derived.Test.YtlaplcglpnlieaaTB
set_option linter.unusedVariables false
set_option linter.unusedSimpArgs false
namespace Go.Proofs.Ytlaplcglpnlieaa
open Go Go.AX
noncomputable local instance qCT : Quiet := fullQuiet
local instance nCT : Kn := ⟨true⟩

/-- The words of a table in a memory. -/
def rowOf (ws : List (BitVec 64)) : List Value := ws.map fun x => .int .u64 (x.toNat : Int)

/-- A table in memory. -/
structure TabAt (σ : AMem) (tb wb e w : Nat) (ws : List (BitVec 64)) : Prop where
  tab : σ[tb]? = some (.cells [.int .i64 (e : Int), .int .i64 (w : Int), .slice (some ⟨wb, 0, none⟩) ws.length ws.length] ty_side_Table true)
  row : σ[wb]? = some (.cells (rowOf ws) el_side_Table_words true)
  len : ws.length = (e * w + 63) / 64
  pos : 0 < e
  top : e ≤ 4096
  okw : okW w

variable {σ : AMem} {tb wb e w : Nat} {ws : List (BitVec 64)}

theorem TabAt.ldE (h : TabAt σ tb wb e w ws) : ldI .i64 σ tb 0 = some (e : Int) := by
  simp [ldI, ld1, h.tab, toI]
theorem TabAt.ldW (h : TabAt σ tb wb e w ws) : ldI .i64 σ tb 1 = some (w : Int) := by
  simp [ldI, ld1, h.tab, toI]
theorem TabAt.ldR (h : TabAt σ tb wb e w ws) : ldS σ tb 2 = some (some ⟨wb, 0, none⟩, ws.length, ws.length) := by
  simp [ldS, ld1, h.tab, toS]
theorem TabAt.ldX (h : TabAt σ tb wb e w ws) {j : Nat} (hj : j < ws.length) : ldI .u64 σ wb j = some ((ws.getD j 0).toNat : Int) := by
  simp [ldI, ld1, h.row, rowOf, toI, List.getElem?_eq_getElem hj]

theorem TabAt.same {σ' : AMem} (h : TabAt σ tb wb e w ws) (h1 : σ'[tb]? = σ[tb]?) (h2 : σ'[wb]? = σ[wb]?) : TabAt σ' tb wb e w ws :=
  ⟨by rw [h1]; exact h.tab, by rw [h2]; exact h.row, h.len, h.pos, h.top, h.okw⟩
theorem getElem?_lt {α : Type} {l : List α} {i : Nat} {x : α} (h : l[i]? = some x) : i < l.length := by
  rcases Nat.lt_or_ge i l.length with h' | h'
  · exact h'
  · rw [List.getElem?_eq_none h'] at h; cases h
theorem TabAt.lt (h : TabAt σ tb wb e w ws) : tb < σ.length ∧ wb < σ.length := by
  exact ⟨getElem?_lt h.tab, getElem?_lt h.row⟩
theorem TabAt.app (τ : AMem) (h : TabAt σ tb wb e w ws) : TabAt (σ ++ τ) tb wb e w ws :=
  h.same (List.getElem?_append_left h.lt.1) (List.getElem?_append_left h.lt.2)

theorem made_to (k : Nat) (h : TabAt σ tb wb e w ws) : d_side_Table_made (k + 1) (some ⟨tb, 0, none⟩) σ = some (.bool true, σ) := by
  have hp := h.pos
  rw [d_side_Table_made_eq, b_side_Table_made]
  simp only [eqA_ptrs, Option.bind_some, h.ldE, Nat.add_zero, Nat.zero_add, Option.isNone_some, Bool.not_false, cond_true]
  simp only [show decide ((e : Int) > 0) = true from by simp; omega]

theorem there_to (k : Nat) (h : TabAt σ tb wb e w ws) (i : Int) : d_side_Table_there (k + 2) (some ⟨tb, 0, none⟩) i σ = some (.bool (decide (0 ≤ i ∧ i < (e : Int))), σ) := by
  rw [d_side_Table_there_eq, b_side_Table_there, made_to _ h]
  simp only [Option.bind_some, toB_bool, cond_true, h.ldE, Nat.add_zero]
  by_cases h0 : 0 ≤ i
  · simp [h0]
  · simp [h0]

theorem most_to (k : Nat) (h : TabAt σ tb wb e w ws) : d_side_Table_most (k + 1) (some ⟨tb, 0, none⟩) σ = some (.int .i64 ((2 ^ w - 1 : Nat) : Int), σ) := by
  rw [d_side_Table_most_eq, b_side_Table_most]
  simp only [Option.bind_some, h.ldW, Nat.zero_add]
  rcases h.okw with rfl | rfl | rfl | rfl <;> rfl

theorem TabAt.fit (h : TabAt σ tb wb e w ws) {j : Nat} (hj : j < e) : j * w / 64 < ws.length ∧ j * w < 32768 := by
  have hl := h.len; have ht := h.top
  rcases h.okw with rfl | rfl | rfl | rfl <;> omega

theorem get_to (k : Nat) (h : TabAt σ tb wb e w ws) {j : Nat} (hj : j < e) : d_side_Table_get (k + 2) (some ⟨tb, 0, none⟩) (j : Int) σ = some (.int .i64 (tget w ws j : Int), σ) := by
  obtain ⟨h1, h2⟩ := h.fit hj
  have e1 : w64 ((j : Int) * (w : Int)) = ((j * w : Nat) : Int) := by rw [← Int.natCast_mul]; exact w64_nat (by omega)
  have e2 : ((j * w : Nat) : Int).tdiv 64 = ((j * w / 64 : Nat) : Int) := rfl
  have e3 : ((j * w : Nat) : Int).tmod 64 = ((j * w % 64 : Nat) : Int) := rfl
  have e4 : w64 ((j * w / 64 : Nat) : Int) = ((j * w / 64 : Nat) : Int) := w64_nat (by omega)
  rw [d_side_Table_get_eq, b_side_Table_get]
  simp only [Option.bind_some, Nat.zero_add, h.ldW, h.ldR, e1, e2, e3, e4, Int.toNat_natCast, Nat.mul_one]
  rw [if_neg (by decide), if_pos (by omega)]
  simp only [h.ldX h1, Option.bind_some]
  rw [if_neg (by decide), if_neg (by omega)]
  simp only [Option.bind_some, most_to _ h, toI_int, get_word _ _ _ (Nat.mod_lt _ (by decide : 0 < 64)) h.okw]
  rfl

theorem Get_to (k : Nat) (h : TabAt σ tb wb e w ws) (i : Int) : d_side_Table_Get (k + 3) (some ⟨tb, 0, none⟩) i σ = some (.int .i64 (if 0 ≤ i ∧ i < (e : Int) then (tget w ws i.toNat : Int) else -1), σ) := by
  rw [d_side_Table_Get_eq, b_side_Table_Get, there_to _ h]
  simp only [Option.bind_some, toB_bool]
  by_cases hi : 0 ≤ i ∧ i < (e : Int)
  · obtain ⟨j, rfl⟩ : ∃ j : Nat, i = (j : Int) := ⟨i.toNat, by omega⟩
    simp only [hi, decide_true, and_self, Bool.not_true, cond_false, if_true, get_to _ h (show j < e by omega), Option.bind_some, toI_int, Int.toNat_natCast]
  · simp only [hi, decide_false, Bool.not_false, cond_true, if_false]

theorem put_to (k : Nat) (h : TabAt σ tb wb e w ws) {j v : Nat} (hj : j < e) : d_side_Table_put (k + 2) (some ⟨tb, 0, none⟩) (j : Int) (v : Int) σ = some (.tuple #[], σ.set wb (.cells (rowOf (tput w ws j v)) el_side_Table_words true)) := by
  obtain ⟨h1, h2⟩ := h.fit hj
  have hrow := h.row
  have e1 : w64 ((j : Int) * (w : Int)) = ((j * w : Nat) : Int) := by rw [← Int.natCast_mul]; exact w64_nat (by omega)
  have e2 : ((j * w : Nat) : Int).tdiv 64 = ((j * w / 64 : Nat) : Int) := rfl
  have e3 : ((j * w : Nat) : Int).tmod 64 = ((j * w % 64 : Nat) : Int) := rfl
  have e4 : w64 ((j * w / 64 : Nat) : Int) = ((j * w / 64 : Nat) : Int) := w64_nat (by omega)
  rw [d_side_Table_put_eq, b_side_Table_put]
  simp only [Option.bind_some, Nat.zero_add, h.ldW, h.ldR, e1, e2, e3, e4, Int.toNat_natCast, Nat.mul_one]
  rw [if_neg (by decide), if_pos (by omega)]
  simp only [h.ldX h1, Option.bind_some, most_to _ h, toI_int]
  rw [if_neg (by decide), if_neg (by omega), if_neg (by decide), if_neg (by omega), put_word _ _ _ _ (Nat.mod_lt _ (by decide : 0 < 64))]
  simp only [st1, hrow]
  rw [if_pos (by simpa [rowOf] using h1)]
  simp only [Option.bind_some, rowOf, tput, List.map_set]

theorem TabAt.put (h : TabAt σ tb wb e w ws) (hne : tb ≠ wb) (j v : Nat) : TabAt (σ.set wb (.cells (rowOf (tput w ws j v)) el_side_Table_words true)) tb wb e w (tput w ws j v) where
  tab := by
    rw [List.getElem?_set_ne (Ne.symm hne), h.tab, tput_length]
  row := by rw [List.getElem?_set_self h.lt.2]
  len := by rw [tput_length]; exact h.len
  pos := h.pos
  top := h.top
  okw := h.okw

theorem Next_l0_to (k : Nat) (h : TabAt σ tb wb e w ws) (v : Nat) : ∀ (n j : Nat), e < n + j → 0 < n → d_side_Table_Next_l0 (k + 2) n (some ⟨tb, 0, none⟩) (v : Int) (j : Int) σ =
    some (match nextT (tget w ws) e v j with | some i => (.ret, [.int .i64 (i : Int), .int .i64 0], σ) | none => (.exit 0, [], σ))
  | 0, j, hn, h0 => by omega
  | n + 1, j, hn, h0 => by
    rw [d_side_Table_Next_l0_eq, b_side_Table_Next_l0, nextT]
    simp only [Option.bind_some, h.ldE, Nat.zero_add, Nat.add_zero]
    by_cases hj : j < e
    · have ht := h.top
      simp only [show decide ((j : Int) < (e : Int)) = true from by simpa using hj, cond_true, get_to _ h hj, Option.bind_some, toI_int, hj, dif_pos]
      by_cases hv : tget w ws j = v
      · simp [hv]
      · have hv' : ((tget w ws j : Int) == (v : Int)) = false := by simp; omega
        have e1 : w64 ((j : Int) + 1) = ((j + 1 : Nat) : Int) := w64_in (by unfold inI; omega)
        simp only [hv', cond_false, hv, if_false, e1]
        exact Next_l0_to k h v n (j + 1) (by omega) (by omega)
    · simp only [show decide ((j : Int) < (e : Int)) = false from by simpa using hj, cond_false, hj, dif_neg, not_false_iff]

theorem Next_to (k : Nat) (hk : 5000 ≤ k) (h : TabAt σ tb wb e w ws) (i : Int) (v : Nat) (hi : i < 4294967296) : d_side_Table_Next (k + 3) (some ⟨tb, 0, none⟩) i (v : Int) σ =
    some (match nextT (tget w ws) e v i.toNat with | some j => .tuple #[.int .i64 (j : Int), .int .i64 0] | none => .tuple #[.int .i64 0, .int .i64 4], σ) := by
  have ht := h.top
  have e0 : (if (0 : Int) > i then (0 : Int) else i) = (i.toNat : Int) := by split <;> omega
  rw [d_side_Table_Next_eq, b_side_Table_Next, made_to _ h]
  simp only [Option.bind_some, toB_bool, Bool.not_true, cond_false, e0]
  rw [Next_l0_to k h v (k + 2) i.toNat (by omega) (by omega)]
  cases nextT (tget w ws) e v i.toNat with
  | none => simp
  | some j => simp [u_ii_eq]

theorem Last_l0_to (k : Nat) (h : TabAt σ tb wb e w ws) (v : Nat) : ∀ (n j : Nat), j ≤ e → j < n → d_side_Table_Last_l0 (k + 2) n (some ⟨tb, 0, none⟩) (v : Int) ((j : Int) - 1) σ =
    some (match lastT (tget w ws) v j with | some i => (.ret, [.int .i64 (i : Int), .int .i64 0], σ) | none => (.exit 0, [], σ))
  | 0, j, hj, hn => by omega
  | n + 1, 0, hj, hn => by
    rw [d_side_Table_Last_l0_eq, b_side_Table_Last_l0, lastT]
    rfl
  | n + 1, j + 1, hj, hn => by
    have ht := h.top
    rw [d_side_Table_Last_l0_eq, b_side_Table_Last_l0, lastT]
    have e1 : ((j + 1 : Nat) : Int) - 1 = (j : Int) := by omega
    simp only [e1, show decide ((j : Int) ≥ 0) = true from by simp, cond_true, get_to _ h (show j < e by omega), Option.bind_some, toI_int]
    by_cases hv : tget w ws j = v
    · simp [hv]
    · have hv' : ((tget w ws j : Int) == (v : Int)) = false := by simp; omega
      have e2 : w64 ((j : Int) - 1) = (j : Int) - 1 := w64_in (by unfold inI; omega)
      simp only [hv', cond_false, hv, if_false, e2]
      exact Last_l0_to k h v n j (by omega) (by omega)

theorem Last_to (k : Nat) (hk : 5000 ≤ k) (h : TabAt σ tb wb e w ws) (i : Int) (v : Nat) : d_side_Table_Last (k + 3) (some ⟨tb, 0, none⟩) i (v : Int) σ =
    some (match lastT (tget w ws) v (min i.toNat e) with | some j => .tuple #[.int .i64 (j : Int), .int .i64 0] | none => .tuple #[.int .i64 0, .int .i64 4], σ) := by
  have ht := h.top
  have e0 : w64 ((if (e : Int) < (if (0 : Int) > i then (0 : Int) else i) then (e : Int) else (if (0 : Int) > i then (0 : Int) else i)) - 1) = ((min i.toNat e : Nat) : Int) - 1 := by
    rw [w64_in (by unfold inI; split <;> split <;> omega)]
    split <;> split <;> omega
  rw [d_side_Table_Last_eq, b_side_Table_Last, made_to _ h]
  simp only [Option.bind_some, toB_bool, Bool.not_true, cond_false, Nat.zero_add, h.ldE, Nat.add_zero, e0]
  rw [Last_l0_to k h v (k + 2) (min i.toNat e) (Nat.min_le_right _ _) (by omega)]
  cases lastT (tget w ws) v (min i.toNat e) with
  | none => simp
  | some j => simp [u_ii_eq]

theorem value_to (k : Nat) (h : TabAt σ tb wb e w ws) (v : Int) : d_side_Table_value (k + 2) (some ⟨tb, 0, none⟩) v σ = some (.bool (decide (0 ≤ v ∧ v ≤ ((2 ^ w - 1 : Nat) : Int))), σ) := by
  rw [d_side_Table_value_eq, b_side_Table_value]
  by_cases h0 : 0 ≤ v
  · simp only [show decide (v ≥ 0) = true from by simpa using h0, cond_true, most_to _ h, Option.bind_some, toI_int]
    simp [h0]
  · simp only [show decide (v ≥ 0) = false from by simpa using h0, cond_false, Option.bind_some]
    simp [h0]

/-- The closure of check: whether a value may not be an entry. -/
theorem check_c1_to (k : Nat) (h : TabAt σ tb wb e w ws) (v : Int) (c : Nat) (hc : ldP σ c 0 = some (some ⟨tb, 0, none⟩)) : d_side_Table_check_c1 (k + 3) v (some ⟨c, 0, none⟩) σ = some (.bool (!decide (0 ≤ v ∧ v ≤ ((2 ^ w - 1 : Nat) : Int))), σ) := by
  rw [d_side_Table_check_c1_eq, b_side_Table_check_c1]
  simp only [Option.bind_some, hc, value_to _ h, toB_bool]

/-- check of an entry and one value. -/
theorem check_to (k : Nat) (h : TabAt σ tb wb e w ws) (i v : Int) (vb : Nat) (hv : ldI .i64 σ vb 0 = some v) (hvb : vb < σ.length) : ∃ τ, d_side_Table_check (k + 8) (some ⟨tb, 0, none⟩) i (some ⟨vb, 0, none⟩, 1, 1) σ =
    some (.int .i64 (if (0 ≤ i ∧ i < (e : Int)) ∧ (0 ≤ v ∧ v ≤ ((2 ^ w - 1 : Nat) : Int)) then 0 else 1), σ ++ τ) := by
  rw [d_side_Table_check_eq, b_side_Table_check]
  simp only [allocK]
  refine ⟨[.cells [.pointer (some ⟨tb, 0, none⟩)] pt_side_Table true], ?_⟩
  · have e1 : ∀ T, ldP (σ ++ [.cells [.pointer (some ⟨tb, 0, none⟩)] T true]) σ.length 0 = some (some ⟨tb, 0, none⟩) := by intro T; simp [ldP, ld1, toP]
    have h1 := fun o => h.app [o]
    have e2 : ∀ o, ldI .i64 (σ ++ [o]) vb 0 = some v := by intro o; rw [ldI_app _ _ _ hvb, hv]
    simp only [e1, Option.bind_some, made_to _ (h1 _), there_to _ (h1 _), toB_bool, Bool.not_true, cond_false]
    by_cases hi : 0 ≤ i ∧ i < (e : Int)
    · simp only [hi, decide_true, and_self, true_and, Bool.not_true, cond_false]
      rw [d_slices_ContainsFunc_int_eq, b_slices_ContainsFunc_int, d_slices_IndexFunc_int_eq, b_slices_IndexFunc_int, d_slices_IndexFunc_int_l0_eq, b_slices_IndexFunc_int_l0]
      simp only [show decide ((0 : Int) < ((1 : Nat) : Int)) = true from rfl, cond_true, show ((0 : Int) ≤ 0 ∧ (0 : Int) < ((1 : Nat) : Int)) = True from by simp, if_true, Option.bind_some, Int.toNat_zero, Nat.zero_mul, Nat.add_zero, e2]
      simp only [callV_i_t_side_Table_check_c1, if_true, check_c1_to _ (h1 _) v σ.length (e1 _), Option.bind_some, toB_bool]
      by_cases hv2 : 0 ≤ v ∧ v ≤ ((2 ^ w - 1 : Nat) : Int)
      · simp only [hv2, decide_true, and_self, Bool.not_true, cond_false, if_true]
        rw [d_slices_IndexFunc_int_l0_eq, b_slices_IndexFunc_int_l0]
        rfl
      · simp only [hv2, decide_false, Bool.not_false, cond_true, if_false]
        rfl
    · simp only [hi, decide_false, Bool.not_false, cond_true, false_and, if_false, Option.bind_some]

theorem Set_to (k : Nat) (h : TabAt σ tb wb e w ws) {j v : Nat} (hj : j < e) (hv : v < 2 ^ w) : ∃ τ, d_side_Table_Set (k + 9) (some ⟨tb, 0, none⟩) (j : Int) (v : Int) σ =
    some (.int .i64 0, (σ ++ τ).set wb (.cells (rowOf (tput w ws j v)) el_side_Table_words true)) := by
  have h1 := h.app [.cells [.int .i64 (v : Int)] ty_int true]
  obtain ⟨τ, hc⟩ := check_to k h1 (j : Int) (v : Int) σ.length (by simp [ldI, ld1, toI]) (by simp)
  refine ⟨[.cells [.int .i64 (v : Int)] ty_int true] ++ τ, ?_⟩
  rw [d_side_Table_Set_eq, b_side_Table_Set]
  simp only [allocK]
  rw [hc, if_pos (by have := Nat.two_pow_pos w; omega)]
  simp only [Option.bind_some, toI_int]
  rw [put_to (k + 6) (h1.app τ) hj]
  simp only [bne_self_eq_false, cond_false, Option.bind_some, r_0_eq, List.append_assoc]

end Go.Proofs.Ytlaplcglpnlieaa
