/-
  What holds of every heap that was made by calls; plain laws.
-/
import Derived.Test.YtlaplcglpnlieaaCB
set_option linter.unusedVariables false
set_option linter.unusedSimpArgs false
namespace Go.Proofs.Ytlaplcglpnlieaa
open Go Go.AX

/-- A shape as a number. -/
def num (r d k : Int) : Int := r + 16 * d + 4096 * k

theorem num_parts {r d k : Int} (h : valid r d k = true) : (num r d k).tmod 16 = r ∧ ((num r d k).tmod 4096).tdiv 16 = d ∧ (num r d k).tdiv 4096 = k ∧ inI (num r d k) := by
  simp [valid] at h
  unfold num inI
  have h0 : 0 ≤ r + 16 * d + 4096 * k := by omega
  rw [Int.tmod_eq_emod_of_nonneg h0, Int.tmod_eq_emod_of_nonneg h0, Int.tdiv_eq_ediv_of_nonneg h0, Int.tdiv_eq_ediv_of_nonneg (by omega)]
  omega

theorem szN_num {r d k : Int} (h : valid r d k = true) : szN (num r d k) = ((2 + r + d + 1) / 2 * 2).toNat := by
  obtain ⟨h1, h2, h3, _⟩ := num_parts h
  unfold szN words
  rw [h1, h2, h3, h]; rfl

/-- An object's shape, as its words say it. -/
def refsAt (m : HM) (j : Nat) : Int := (m.wds.getD (2 * j + 1) 0).tmod 16
def dataAt (m : HM) (j : Nat) : Int := ((m.wds.getD (2 * j + 1) 0).tmod 4096).tdiv 16

def setM (k v : Int) : List (Int × Int) → List (Int × Int)
  | [] => [(k, v)]
  | e :: es => if k == e.1 then (k, v) :: es else e :: setM k v es
def delM (k : Int) : List (Int × Int) → List (Int × Int)
  | [] => []
  | e :: es => if k == e.1 then es else e :: delM k es
theorem mapSet_mp (k v : Int) : ∀ l, mapSet k (.int .i64 v) (mpRow l) = mpRow (setM k v l)
  | [] => rfl
  | e :: es => by
    have := mapSet_mp k v es
    simp only [mpRow, List.map_cons, mapSet, setM] at this ⊢
    split
    · rfl
    · rw [this]; rfl
theorem mapDel_mp (k : Int) : ∀ l, mapDel k (mpRow l) = mpRow (delM k l)
  | [] => rfl
  | e :: es => by
    have := mapDel_mp k es
    simp only [mpRow, List.map_cons, mapDel, delM] at this ⊢
    split
    · rfl
    · rw [this]; rfl
theorem getM_set (k v k' : Int) : ∀ l, getM (setM k v l) k' = if k' = k then some v else getM l k'
  | [] => by simp [getM, setM]
  | e :: es => by
    have ih := getM_set k v k' es
    unfold setM
    by_cases h : k = e.1
    · have hb : (k == e.1) = true := by simpa using h
      simp only [hb, if_true, getM, List.find?_cons]
      by_cases hk : k' = k
      · simp [hk]
      · have h1 : (k' == k) = false := by simpa using hk
        have h2 : (k' == e.1) = false := by rw [← h]; exact h1
        simp [h1, h2, hk]
    · have hb : (k == e.1) = false := by simpa using h
      simp only [hb, Bool.false_eq_true, if_false, getM, List.find?_cons] at ih ⊢
      by_cases hk : k' = e.1
      · have h1 : (k' == e.1) = true := by simpa using hk
        have h2 : ¬ k' = k := by rw [hk]; exact fun e => h e.symm
        simp [h1, h2]
      · have h1 : (k' == e.1) = false := by simpa using hk
        simp only [h1]
        exact ih

/-- A map from ints in which no key stands twice. -/
def Once : List (Int × Int) → Prop
  | [] => True
  | e :: es => getM es e.1 = none ∧ Once es
theorem once_set (k v : Int) : ∀ l, Once l → Once (setM k v l)
  | [], _ => ⟨rfl, trivial⟩
  | e :: es, h => by
    unfold setM
    by_cases hk : k = e.1
    · have hb : (k == e.1) = true := by simpa using hk
      simp only [hb, if_true]
      exact ⟨by simp only; rw [hk]; exact h.1, h.2⟩
    · have hb : (k == e.1) = false := by simpa using hk
      simp only [hb, Bool.false_eq_true, if_false]
      refine ⟨?_, once_set k v es h.2⟩
      rw [getM_set, if_neg (fun e => hk e.symm)]
      exact h.1
theorem getM_del (k k' : Int) : ∀ l, Once l → getM (delM k l) k' = if k' = k then none else getM l k'
  | [], _ => by simp [getM, delM]
  | e :: es, h => by
    have ih := getM_del k k' es h.2
    unfold delM
    by_cases hk : k = e.1
    · have hb : (k == e.1) = true := by simpa using hk
      simp only [hb, if_true]
      by_cases hq : k' = k
      · rw [if_pos hq, hq, hk]; exact h.1
      · have h2 : (k' == e.1) = false := by rw [← hk]; simpa using hq
        rw [if_neg hq]
        simp only [getM, List.find?_cons, h2]
    · have hb : (k == e.1) = false := by simpa using hk
      simp only [hb, Bool.false_eq_true, if_false, getM, List.find?_cons] at ih ⊢
      by_cases hq : k' = e.1
      · have h1 : (k' == e.1) = true := by simpa using hq
        have h2 : ¬ k' = k := by rw [hq]; exact fun e => hk e.symm
        simp [h1, h2]
      · have h1 : (k' == e.1) = false := by simpa using hq
        simp only [h1]
        exact ih
theorem once_del (k : Int) : ∀ l, Once l → Once (delM k l)
  | [], _ => trivial
  | e :: es, h => by
    unfold delM
    by_cases hk : k = e.1
    · have hb : (k == e.1) = true := by simpa using hk
      simp only [hb, if_true]
      exact h.2
    · have hb : (k == e.1) = false := by simpa using hk
      simp only [hb, Bool.false_eq_true, if_false]
      refine ⟨?_, once_del k es h.2⟩
      rw [getM_del k _ es h.2, if_neg (fun e => hk e.symm)]
      exact h.1


structure Inv (m : HM) : Prop where
  good : ∀ j, Start m j → ∃ r d k, valid r d k = true ∧ m.wds.getD (2 * j + 1) 0 = num r d k
  fit : ∀ j, Start m j → 2 * j + sz m j ≤ m.wds.length
  apart : ∀ j j', Start m j → Start m j' → j < j' → 2 * j + sz m j ≤ 2 * j'
  idn : ∀ j, Start m j → 1 ≤ m.wds.getD (2 * j) 0 ∧ m.wds.getD (2 * j) 0 ≤ m.births ∧ getM m.pl (m.wds.getD (2 * j) 0) = some ((2 * j : Nat) : Int)
  plc : ∀ id a, getM m.pl id = some a → ∃ j, a = ((2 * j : Nat) : Int) ∧ Start m j ∧ m.wds.getD (2 * j) 0 = id
  brt : 0 ≤ m.births
  onc : Once m.pl

variable {m : HM}

theorem Inv.size (h : Inv m) {j : Nat} (hs : Start m j) : 2 ≤ sz m j ∧ sz m j ≤ 218 ∧ sz m j % 2 = 0 ∧ 0 ≤ refsAt m j ∧ 0 ≤ dataAt m j ∧ 2 + refsAt m j + dataAt m j ≤ (sz m j : Int) := by
  obtain ⟨r, d, k, hv, hn⟩ := h.good j hs
  have h1 := szN_num hv
  obtain ⟨p1, p2, _, _⟩ := num_parts hv
  unfold refsAt dataAt sz
  rw [hn, h1, p1, p2]
  simp [valid] at hv
  omega

/-- Find tells the object that a word belongs to. -/
theorem Inv.find_some (h : Inv m) {n j : Nat} (hs : Start m j) (h1 : 2 * j ≤ n) (h2 : n < 2 * j + sz m j) : findM m n = some j := by
  unfold findM
  have hj := hs.1
  cases hq : lastT (tget 1 m.stw) 1 (min (n / 2 + 1) (32 * m.bls.length)) with
  | none => exact absurd hs.2 (lastT_none hq j (by omega))
  | some j' =>
    obtain ⟨p1, p2, p3⟩ := lastT_some hq
    have hs' : Start m j' := ⟨by omega, p2⟩
    have : j' = j := by
      rcases Nat.lt_trichotomy j' j with hlt | rfl | hlt
      · exact absurd hs.2 (p3 j hlt (by omega))
      · rfl
      · have := h.apart j j' hs hs' hlt
        omega
    subst this
    simp only [show ¬ 2 * j' + sz m j' ≤ n from by omega, if_false]

theorem findM_spec {n j : Nat} (h : findM m n = some j) : Start m j ∧ 2 * j ≤ n + 1 ∧ n < 2 * j + sz m j ∧ 2 * j ≤ n := by
  unfold findM at h
  split at h
  · cases h
  · rename_i j' hq
    split at h
    · cases h
    · cases h
      obtain ⟨p1, p2, p3⟩ := lastT_some hq
      exact ⟨⟨by omega, p2⟩, by omega, by omega, by omega⟩

/-- Where fits finds nothing, no object meets the words, but the one that is named. -/
theorem fitL_spec {hi : Nat} {but : Int} : ∀ {f x : Nat}, fitL m hi but f x = true → hi ≤ x + 2 * f → ∀ t, x + 2 * t < hi → ∀ o, findI m ((x + 2 * t : Nat) : Int) = some o → ((2 * o : Nat) : Int) = but
  | 0, x, _, hf, t, ht => by omega
  | f + 1, x, h, hf, t, ht => by
    intro o ho
    rw [fitL, if_pos (by omega)] at h
    cases t with
    | zero =>
      rw [show x + 2 * 0 = x from by omega] at ho
      rw [ho] at h
      simp only at h
      split at h
      · assumption
      · cases h
    | succ t =>
      have h' : fitL m hi but f (x + 2) = true := by
        split at h
        · split at h
          · exact h
          · cases h
        · exact h
      exact fitL_spec h' (by omega) t (by omega) o (by rw [show x + 2 + 2 * t = x + 2 * (t + 1) from by omega]; exact ho)

theorem spanM_le (m : HM) (b : Nat) : ∀ (f n : Nat), b + n ≤ m.bls.length → b + spanM m b f n ≤ m.bls.length
  | 0, n, h => h
  | f + 1, n, h => by
    rw [spanM]
    split
    · rename_i hc
      exact spanM_le m b f (n + 1) (by omega)
    · exact h

/-- What fits lets through. -/
theorem Inv.fits (h : Inv m) (hw : m.wds.length = 64 * m.bls.length) {a : Int} {wo : Nat} {but : Int} (hwo : wo ≤ 218) (h2 : 2 ≤ wo) (hf : fitsM m a wo but = 0) :
    ∃ j, a = ((2 * j : Nat) : Int) ∧ j < 32 * m.bls.length ∧ 2 * j + wo ≤ m.wds.length ∧ ∀ o, Start m o → ((2 * o : Nat) : Int) ≠ but → 2 * o + sz m o ≤ 2 * j ∨ 2 * j + wo ≤ 2 * o := by
  unfold fitsM at hf
  split at hf
  · cases hf
  rename_i h0
  have h0' : 0 ≤ a ∧ a < (m.wds.length : Int) ∧ a.toNat % 2 = 0 := Classical.not_not.1 h0
  obtain ⟨n, rfl⟩ : ∃ n : Nat, a = (n : Int) := ⟨a.toNat, by omega⟩
  rw [Int.toNat_natCast] at hf h0'
  have hcore : fitL m (n + wo) but 200 n = true ∧ n + wo ≤ m.wds.length := by
    simp only at hf
    split at hf
    · split at hf
      · cases hf
      · rename_i hc
        split at hf
        · rename_i hl
          refine ⟨hl, ?_⟩
          have : (n + wo - 1) / 64 = n / 64 := by
            apply Classical.byContradiction
            intro hq; exact hc (.inr hq)
          omega
        · cases hf
    · split at hf
      · cases hf
      · rename_i hc
        split at hf
        · rename_i hl
          refine ⟨hl, ?_⟩
          have h1 : n % 64 = 0 := by
            apply Classical.byContradiction
            intro hq; exact hc (.inr (.inl hq))
          have h2 : spanF m (n / 64) = (wo + 63) / 64 := by
            apply Classical.byContradiction
            intro hq; exact hc (.inr (.inr hq))
          have h3 := spanM_le m (n / 64) m.bls.length 1 (by omega)
          rw [show spanM m (n / 64) m.bls.length 1 = spanF m (n / 64) from rfl, h2] at h3
          omega
        · cases hf
  obtain ⟨hl, hlen⟩ := hcore
  refine ⟨n / 2, by omega, by omega, by omega, fun o ho hne => ?_⟩
  apply Classical.byContradiction
  intro hq
  have hspec := fitL_spec hl (by omega)
  have ho1 := ho.1
  by_cases hle : 2 * o ≤ n
  · refine hne (hspec 0 (by omega) o ?_)
    unfold findI
    rw [if_pos (by omega), Int.toNat_natCast]
    exact h.find_some ho (by omega) (by omega)
  · refine hne (hspec (o - n / 2) (by omega) o ?_)
    have e : n + 2 * (o - n / 2) = 2 * o := by omega
    have hz := h.size ho
    unfold findI
    rw [if_pos (by omega), e, Int.toNat_natCast]
    exact h.find_some ho (by omega) (by omega)

end Go.Proofs.Ytlaplcglpnlieaa
