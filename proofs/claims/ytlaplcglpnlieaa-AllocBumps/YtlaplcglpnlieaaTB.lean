/-
  Bit tables, as lists of words: an entry is what was put there last.
-/
import Derived.Test.YtlaplcglpnlieaaAXM
set_option linter.unusedVariables false
set_option linter.unusedSimpArgs false
namespace Go.AX
open Go

def okW (w : Nat) : Prop := w = 1 ∨ w = 2 ∨ w = 4 ∨ w = 8

def tget (w : Nat) (ws : List (BitVec 64)) (i : Nat) : Nat := ((ws.getD (i * w / 64) 0) >>> (i * w % 64)).toNat % 2 ^ w
def wput (w : Nat) (x : BitVec 64) (s v : Nat) : BitVec 64 := (x &&& ~~~ (BitVec.ofNat 64 (2 ^ w - 1) <<< s)) ||| (BitVec.ofNat 64 v <<< s)
def tput (w : Nat) (ws : List (BitVec 64)) (i v : Nat) : List (BitVec 64) := ws.set (i * w / 64) (wput w (ws.getD (i * w / 64) 0) (i * w % 64) v)

theorem tput_length (w ws i v) : (tput w ws i v).length = ws.length := by simp [tput]

theorem okW_pos {w} (h : okW w) : 0 < w := by rcases h with rfl | rfl | rfl | rfl <;> decide
theorem okW_fit {w i : Nat} (h : okW w) : i * w % 64 + w ≤ 64 := by rcases h with rfl | rfl | rfl | rfl <;> omega
theorem okW_apart {w i j : Nat} (h : okW w) (hij : i ≠ j) (hs : i * w / 64 = j * w / 64) : i * w % 64 + w ≤ j * w % 64 ∨ j * w % 64 + w ≤ i * w % 64 := by
  rcases h with rfl | rfl | rfl | rfl <;> omega

theorem wget_bit (w : Nat) (x : BitVec 64) (s t : Nat) : ((x >>> s).toNat % 2 ^ w).testBit t = (decide (t < w) && x.getLsbD (s + t)) := by
  rw [Nat.testBit_mod_two_pow]
  congr 1
  rw [← BitVec.getLsbD]
  simp [BitVec.getLsbD_ushiftRight]

theorem wput_bit (w : Nat) (x : BitVec 64) (s v p : Nat) (hp : p < 64) : (wput w x s v).getLsbD p = ((x.getLsbD p && !(decide (s ≤ p) && decide (p - s < w))) || (decide (s ≤ p) && v.testBit (p - s))) := by
  unfold wput
  simp only [BitVec.getLsbD_or, BitVec.getLsbD_and, BitVec.getLsbD_not, BitVec.getLsbD_shiftLeft, BitVec.getLsbD_ofNat, Nat.testBit_two_pow_sub_one, hp, decide_true, Bool.true_and]
  have h2 : p - s < 64 := by omega
  by_cases h : s ≤ p
  · have h1 : ¬ p < s := by omega
    simp [h, h1, h2]
  · have h1 : p < s := by omega
    simp [h, h1]

theorem tget_tput_same {w : Nat} {ws : List (BitVec 64)} {i v : Nat} (h : okW w) (hv : v < 2 ^ w) (hi : i * w / 64 < ws.length) : tget w (tput w ws i v) i = v := by
  have hf := okW_fit (i := i) h
  apply Nat.eq_of_testBit_eq
  intro t
  unfold tget tput
  rw [wget_bit, List.getD_eq_getElem?_getD, List.getElem?_set_self (by simpa using hi), Option.getD_some]
  by_cases ht : t < w
  · rw [wput_bit _ _ _ _ _ (by omega)]
    have e : i * w % 64 + t - i * w % 64 = t := by omega
    simp [ht, e]
  · have : v.testBit t = false := Nat.testBit_lt_two_pow (Nat.lt_of_lt_of_le hv (Nat.pow_le_pow_right (by decide) (by omega)))
    simp [ht, this]

theorem tget_tput_other {w : Nat} {ws : List (BitVec 64)} {i j v : Nat} (h : okW w) (hv : v < 2 ^ w) (hij : i ≠ j) : tget w (tput w ws i v) j = tget w ws j := by
  have hf := okW_fit (i := i) h
  have hf' := okW_fit (i := j) h
  unfold tget tput
  by_cases hs : i * w / 64 = j * w / 64
  · by_cases hl : j * w / 64 < ws.length
    · apply Nat.eq_of_testBit_eq
      intro t
      rw [wget_bit, wget_bit, hs, List.getD_eq_getElem?_getD, List.getElem?_set_self (by simpa using hl), Option.getD_some]
      by_cases ht : t < w
      · rw [wput_bit _ _ _ _ _ (by omega)]
        rcases okW_apart h hij hs with h1 | h1
        · have e1 : ¬ (j * w % 64 + t - i * w % 64 < w) := by omega
          have e2 : v.testBit (j * w % 64 + t - i * w % 64) = false := Nat.testBit_lt_two_pow (Nat.lt_of_lt_of_le hv (Nat.pow_le_pow_right (by decide) (by omega)))
          simp [e1, e2]
        · have e1 : ¬ (i * w % 64 ≤ j * w % 64 + t) := by omega
          simp [e1]
      · simp [ht]
    · rw [List.set_eq_of_length_le (by rw [hs]; omega)]
  · rw [List.getD_eq_getElem?_getD, List.getElem?_set_ne hs, ← List.getD_eq_getElem?_getD]

theorem tget_lt (w ws i) : tget w ws i < 2 ^ w := Nat.mod_lt _ (Nat.two_pow_pos w)

theorem tget_zeros (w n i : Nat) : tget w (List.replicate n 0#64) i = 0 := by
  unfold tget
  have : (List.replicate n 0#64).getD (i * w / 64) 0 = 0#64 := by
    rw [List.getD_eq_getElem?_getD, List.getElem?_replicate]
    split <;> rfl
  rw [this]; simp

theorem toNat_ofInt64 (n : Int) : (BitVec.ofInt 64 n).toNat = (n % 18446744073709551616).toNat := by
  rw [BitVec.toNat_ofInt]; rfl
theorem ofInt_w64 (n : Int) : BitVec.ofInt 64 (w64 n) = BitVec.ofInt 64 n := by
  apply BitVec.eq_of_toNat_eq
  rw [toNat_ofInt64, toNat_ofInt64, w64, IntKind.wrap_i64]
  congr 1
  omega
theorem u64_def (n : Int) : u64 n = n % 18446744073709551616 := by
  simp [u64, IntKind.wrap, IntKind.bits, IntKind.signed]
theorem ofInt_u64 (n : Int) : BitVec.ofInt 64 (u64 n) = BitVec.ofInt 64 n := by
  apply BitVec.eq_of_toNat_eq
  rw [toNat_ofInt64, toNat_ofInt64, u64_def]
  congr 1
  omega
theorem ofInt_nat (n : Nat) : BitVec.ofInt 64 (n : Int) = BitVec.ofNat 64 n := by
  apply BitVec.eq_of_toNat_eq
  rw [toNat_ofInt64, BitVec.toNat_ofNat]
  omega
theorem ofInt_toNat (x : BitVec 64) : BitVec.ofInt 64 (x.toNat : Int) = x := by
  rw [ofInt_nat, BitVec.ofNat_toNat, BitVec.setWidth_eq]
theorem u64_toNat (x : BitVec 64) : u64 (x.toNat : Int) = (x.toNat : Int) := by
  have := x.isLt
  rw [u64_def]; omega
theorem w64_nat {n : Nat} (h : n < 9223372036854775808) : w64 (n : Int) = (n : Int) := w64_in (by unfold inI; omega)

theorem fdiv_word (x : BitVec 64) (s : Nat) (hs : s < 64) : (x.toNat : Int).fdiv (2 ^ (min s 64)) = ((x >>> s).toNat : Int) := by
  rw [Nat.min_eq_left (by omega), Int.fdiv_eq_ediv_of_nonneg _ (Int.pow_nonneg (by decide)), BitVec.toNat_ushiftRight, Nat.shiftRight_eq_div_pow]
  norm_cast

theorem get_word (x : BitVec 64) (s w : Nat) (hs : s < 64) (hw : okW w) :
    w64 ((BitVec.ofInt 64 (w64 ((x.toNat : Int).fdiv (2 ^ (min s 64)))) &&& BitVec.ofInt 64 ((2 ^ w - 1 : Nat) : Int)).toNat : Int) = (((x >>> s).toNat % 2 ^ w : Nat) : Int) := by
  rw [fdiv_word x s hs, ofInt_w64, ofInt_toNat, ofInt_nat, BitVec.toNat_and, BitVec.toNat_ofNat]
  have h1 : (2 ^ w - 1) % 2 ^ 64 = 2 ^ w - 1 := by rcases hw with rfl | rfl | rfl | rfl <;> rfl
  rw [h1, Nat.and_two_pow_sub_one_eq_mod]
  have h2 : (x >>> s).toNat % 2 ^ w < 2 ^ w := Nat.mod_lt _ (Nat.two_pow_pos w)
  have h3 : 2 ^ w ≤ 256 := by rcases hw with rfl | rfl | rfl | rfl <;> decide
  exact w64_nat (by omega)

theorem shl_word (a s : Nat) (hs : s < 64) : BitVec.ofInt 64 (u64 ((u64 (a : Int)) * 2 ^ (min s 64))) = BitVec.ofNat 64 a <<< s := by
  rw [ofInt_u64, Nat.min_eq_left (by omega)]
  apply BitVec.eq_of_toNat_eq
  rw [toNat_ofInt64, u64_def, BitVec.toNat_shiftLeft, BitVec.toNat_ofNat, Nat.shiftLeft_eq]
  have h64 : ((2 ^ 64 : Nat) : Int) = 18446744073709551616 := by decide
  have : ((a : Int) % 18446744073709551616 * 2 ^ s) = ((a % 2 ^ 64 * 2 ^ s : Nat) : Int) := by
    rw [Int.natCast_mul, Int.natCast_emod, h64, Int.natCast_pow]; rfl
  rw [this]
  generalize a % 2 ^ 64 * 2 ^ s = y
  omega

theorem put_word (x : BitVec 64) (s w v : Nat) (hs : s < 64) :
    u64 ((BitVec.ofInt 64 (u64 ((BitVec.ofInt 64 (x.toNat : Int) &&& ~~~ (BitVec.ofInt 64 (u64 ((u64 ((2 ^ w - 1 : Nat) : Int)) * 2 ^ (min s 64))))).toNat : Int)) ||| BitVec.ofInt 64 (u64 ((u64 (v : Int)) * 2 ^ (min s 64)))).toNat : Int) = ((wput w x s v).toNat : Int) := by
  rw [shl_word _ _ hs, shl_word _ _ hs, u64_toNat, ofInt_u64, ofInt_toNat, ofInt_toNat]
  rfl

/-- The first entry from i on that is v. -/
def nextT (g : Nat → Nat) (e v : Nat) (i : Nat) : Option Nat := if h : i < e then (if g i = v then some i else nextT g e v (i + 1)) else none
termination_by e - i
/-- The last entry before i that is v. -/
def lastT (g : Nat → Nat) (v : Nat) : Nat → Option Nat
  | 0 => none
  | i + 1 => if g i = v then some i else lastT g v i

theorem nextT_some {g : Nat → Nat} {e v i j : Nat} (h : nextT g e v i = some j) : i ≤ j ∧ j < e ∧ g j = v ∧ ∀ t, i ≤ t → t < j → g t ≠ v := by
  unfold nextT at h
  split at h
  · split at h
    · cases h; exact ⟨Nat.le_refl _, by assumption, by assumption, fun t h1 h2 => by omega⟩
    · rename_i hne
      obtain ⟨h1, h2, h3, h4⟩ := nextT_some h
      refine ⟨by omega, h2, h3, fun t ht1 ht2 => ?_⟩
      rcases Nat.eq_or_lt_of_le ht1 with rfl | ht
      · exact hne
      · exact h4 t ht ht2
  · cases h
termination_by e - i
theorem nextT_none {g : Nat → Nat} {e v i : Nat} (h : nextT g e v i = none) : ∀ t, i ≤ t → t < e → g t ≠ v := by
  unfold nextT at h
  split at h
  · split at h
    · cases h
    · rename_i hne
      intro t ht1 ht2
      rcases Nat.eq_or_lt_of_le ht1 with rfl | ht
      · exact hne
      · exact nextT_none h t ht ht2
  · intro t h1 h2; omega
termination_by e - i
theorem lastT_some {g : Nat → Nat} {v : Nat} : ∀ {i j : Nat}, lastT g v i = some j → j < i ∧ g j = v ∧ ∀ t, j < t → t < i → g t ≠ v
  | 0, _, h => by cases h
  | i + 1, j, h => by
    simp only [lastT] at h
    split at h
    · cases h; exact ⟨by omega, by assumption, fun t h1 h2 => by omega⟩
    · rename_i hne
      obtain ⟨h1, h2, h3⟩ := lastT_some h
      refine ⟨by omega, h2, fun t ht1 ht2 => ?_⟩
      rcases Nat.lt_or_ge t i with ht | ht
      · exact h3 t ht1 ht
      · obtain rfl : t = i := by omega
        exact hne
theorem lastT_none {g : Nat → Nat} {v : Nat} : ∀ {i : Nat}, lastT g v i = none → ∀ t, t < i → g t ≠ v
  | 0, _, t, ht => by omega
  | i + 1, h, t, ht => by
    simp only [lastT] at h
    split at h
    · cases h
    · rename_i hne
      rcases Nat.lt_or_ge t i with ht' | ht'
      · exact lastT_none h t ht'
      · obtain rfl : t = i := by omega
        exact hne

end Go.AX
