/-
  A heap in memory, and what its looks come to.
-/
import Derived.Test.YtlaplcglpnlieaaHV
set_option linter.unusedVariables false
set_option linter.unusedSimpArgs false
namespace Go.Proofs.Ytlaplcglpnlieaa
open Go Go.AX
noncomputable local instance qCH : Quiet := fullQuiet
local instance nCH : Kn := ⟨true⟩

/-- Where the parts of a heap lie. -/
structure HIds where
  hb : Nat
  bl : Nat
  wd : Nat
  st : Nat
  sw : Nat
  pn : Nat
  pw : Nat
  pl : Nat
  fw : Nat
def HIds.l (i : HIds) : List Nat := [i.hb, i.bl, i.wd, i.st, i.sw, i.pn, i.pw, i.pl, i.fw]

/-- What a heap holds. -/
structure HM where
  bls : List (Int × Int)
  wds : List Int
  stw : List (BitVec 64)
  pnw : List (BitVec 64)
  pl : List (Int × Int)
  fw : List (Int × Int)
  births : Int

def blRow : List (Int × Int) → List Value
  | [] => []
  | b :: l => .int .i64 b.1 :: .int .i64 b.2 :: blRow l
def inRow (l : List Int) : List Value := l.map fun n => .int .i64 n
def mpRow (l : List (Int × Int)) : List (Int × Value) := l.map fun p => (p.1, .int .i64 p.2)

structure HeapAt (σ : AMem) (i : HIds) (m : HM) : Prop where
  hp : σ[i.hb]? = some (.cells [.slice (some ⟨i.bl, 0, none⟩) m.bls.length m.bls.length, .slice (some ⟨i.wd, 0, none⟩) m.wds.length m.wds.length, .pointer (some ⟨i.st, 0, none⟩), .pointer (some ⟨i.pn, 0, none⟩), .map (some i.pl), .map (some i.fw), .int .i64 m.births] ty_heap_Heap true)
  bl : σ[i.bl]? = some (.cells (blRow m.bls) el_heap_Heap_blocks true)
  wd : σ[i.wd]? = some (.cells (inRow m.wds) el_heap_Heap_words true)
  st : TabAt σ i.st i.sw (32 * m.bls.length) 1 m.stw
  pn : TabAt σ i.pn i.pw (32 * m.bls.length) 1 m.pnw
  pl : σ[i.pl]? = some (.map (mpRow m.pl))
  fw : σ[i.fw]? = some (.map (mpRow m.fw))
  nb : 2 ≤ m.bls.length
  nt : m.bls.length ≤ 64
  wl : m.wds.length = 64 * m.bls.length
  nd : i.l.Nodup
  wi : ∀ a, inI (m.wds.getD a 0)

/-- Nothing of the memory has turned but the parts of a heap. -/
structure Keeps (i : HIds) (σ σ' : AMem) : Prop where
  len : σ.length ≤ σ'.length
  same : ∀ j, j < σ.length → j ∉ i.l → σ'[j]? = σ[j]?

theorem Keeps.refl (i : HIds) (σ : AMem) : Keeps i σ σ := ⟨Nat.le_refl _, fun _ _ _ => rfl⟩
theorem Keeps.trans {i : HIds} {a b c : AMem} (h : Keeps i a b) (g : Keeps i b c) : Keeps i a c :=
  ⟨Nat.le_trans h.len g.len, fun j h1 h2 => (g.same j (Nat.lt_of_lt_of_le h1 h.len) h2).trans (h.same j h1 h2)⟩
theorem Keeps.app (i : HIds) (σ τ : AMem) : Keeps i σ (σ ++ τ) := ⟨by simp, fun j h _ => List.getElem?_append_left h⟩
theorem Keeps.set {i : HIds} {b : Nat} (σ : AMem) (o : AObj) (h : b ∈ i.l) : Keeps i σ (σ.set b o) :=
  ⟨by simp, fun j _ h2 => List.getElem?_set_ne (fun e => h2 (by rw [← e]; exact h))⟩

variable {σ : AMem} {i : HIds} {m : HM}

theorem HeapAt.lt (h : HeapAt σ i m) : ∀ j ∈ i.l, j < σ.length := by
  intro j hj
  simp only [HIds.l, List.mem_cons, List.not_mem_nil, or_false] at hj
  rcases hj with rfl | rfl | rfl | rfl | rfl | rfl | rfl | rfl | rfl
  · exact getElem?_lt h.hp
  · exact getElem?_lt h.bl
  · exact getElem?_lt h.wd
  · exact h.st.lt.1
  · exact h.st.lt.2
  · exact h.pn.lt.1
  · exact h.pn.lt.2
  · exact getElem?_lt h.pl
  · exact getElem?_lt h.fw

theorem HeapAt.like {σ' : AMem} (h : HeapAt σ i m) (hs : ∀ j ∈ i.l, σ'[j]? = σ[j]?) : HeapAt σ' i m where
  hp := by rw [hs _ (by simp [HIds.l])]; exact h.hp
  bl := by rw [hs _ (by simp [HIds.l])]; exact h.bl
  wd := by rw [hs _ (by simp [HIds.l])]; exact h.wd
  st := h.st.same (hs _ (by simp [HIds.l])) (hs _ (by simp [HIds.l]))
  pn := h.pn.same (hs _ (by simp [HIds.l])) (hs _ (by simp [HIds.l]))
  pl := by rw [hs _ (by simp [HIds.l])]; exact h.pl
  fw := by rw [hs _ (by simp [HIds.l])]; exact h.fw
  nb := h.nb
  nt := h.nt
  wl := h.wl
  nd := h.nd
  wi := h.wi

theorem HeapAt.app (τ : AMem) (h : HeapAt σ i m) : HeapAt (σ ++ τ) i m := h.like fun j hj => List.getElem?_append_left (h.lt j hj)

theorem HeapAt.ld0 (h : HeapAt σ i m) : ldS σ i.hb 0 = some (some ⟨i.bl, 0, none⟩, m.bls.length, m.bls.length) := by simp [ldS, ld1, h.hp, toS]
theorem HeapAt.ld1' (h : HeapAt σ i m) : ldS σ i.hb 1 = some (some ⟨i.wd, 0, none⟩, m.wds.length, m.wds.length) := by simp [ldS, ld1, h.hp, toS]
theorem HeapAt.ld2 (h : HeapAt σ i m) : ldP σ i.hb 2 = some (some ⟨i.st, 0, none⟩) := by simp [ldP, ld1, h.hp, toP]
theorem HeapAt.ld3 (h : HeapAt σ i m) : ldP σ i.hb 3 = some (some ⟨i.pn, 0, none⟩) := by simp [ldP, ld1, h.hp, toP]
theorem HeapAt.ld4 (h : HeapAt σ i m) : ldM σ i.hb 4 = some (some i.pl) := by simp [ldM, ld1, h.hp, toM]
theorem HeapAt.ld5 (h : HeapAt σ i m) : ldM σ i.hb 5 = some (some i.fw) := by simp [ldM, ld1, h.hp, toM]
theorem HeapAt.ld6 (h : HeapAt σ i m) : ldI .i64 σ i.hb 6 = some m.births := by simp [ldI, ld1, h.hp, toI]
theorem HeapAt.ldW (h : HeapAt σ i m) {a : Nat} (ha : a < m.wds.length) : ldI .i64 σ i.wd a = some (m.wds.getD a 0) := by
  simp [ldI, ld1, h.wd, inRow, toI, List.getElem?_eq_getElem ha]

theorem blRow_length : ∀ l : List (Int × Int), (blRow l).length = 2 * l.length
  | [] => rfl
  | b :: l => by simp [blRow, blRow_length l]; omega
theorem blRow_get : ∀ (l : List (Int × Int)) (b : Nat), b < l.length → (blRow l)[2 * b]? = some (.int .i64 (l.getD b (0, 0)).1) ∧ (blRow l)[2 * b + 1]? = some (.int .i64 (l.getD b (0, 0)).2)
  | [], b, h => by simp at h
  | x :: l, 0, h => by simp [blRow]
  | x :: l, b + 1, h => by
    have := blRow_get l b (by simpa using h)
    have e1 : 2 * (b + 1) = 2 * b + 1 + 1 := by omega
    simp only [blRow, e1, List.getElem?_cons_succ, List.getD_cons_succ]
    exact this
theorem HeapAt.ldB (h : HeapAt σ i m) {b : Nat} (hb : b < m.bls.length) : ldI .i64 σ i.bl (b * 2) = some (m.bls.getD b (0, 0)).1 ∧ ldI .i64 σ i.bl (b * 2 + 1) = some (m.bls.getD b (0, 0)).2 := by
  obtain ⟨h1, h2⟩ := blRow_get m.bls b hb
  rw [Nat.mul_comm] at h1 h2
  simp [ldI, ld1, h.bl, toI, h1, h2]

abbrev hptr (i : HIds) : Option Addr := some ⟨i.hb, 0, none⟩

theorem hmade_to (k : Nat) (h : HeapAt σ i m) : d_heap_Heap_made (k + 1) (hptr i) σ = some (.bool true, σ) := by
  have := h.nb
  rw [d_heap_Heap_made_eq, b_heap_Heap_made]
  simp only [eqA_ptrs, Option.bind_some, Bool.not_false, cond_true, Nat.zero_add, Nat.add_zero, h.ld0]
  simp only [show decide (((m.bls.length : Nat) : Int) > 0) = true from by simp; omega]

/-- An object begins at the second of this pair of words. -/
def Start (m : HM) (j : Nat) : Prop := j < 32 * m.bls.length ∧ tget 1 m.stw j = 1
instance (m : HM) (j : Nat) : Decidable (Start m j) := inferInstanceAs (Decidable (_ ∧ _))
/-- Has. -/
def hasM (m : HM) (a : Int) : Bool := decide (0 ≤ a ∧ a.toNat % 2 = 0 ∧ Start m (a.toNat / 2))

theorem Has_to (k : Nat) (h : HeapAt σ i m) (a : Int) (ha : inI a) : d_heap_Heap_Has (k + 4) (hptr i) a σ = some (.bool (hasM m a), σ) := by
  rw [d_heap_Heap_Has_eq, b_heap_Heap_Has, hmade_to _ h]
  simp only [Option.bind_some, toB_bool, cond_true]
  unfold hasM
  by_cases h0 : 0 ≤ a
  · obtain ⟨n, rfl⟩ : ∃ n : Nat, a = (n : Int) := ⟨a.toNat, by omega⟩
    simp only [show decide ((n : Int) ≥ 0) = true from by simp, cond_true]
    rw [if_neg (by decide)]
    simp only [Option.bind_some]
    have t1 : (n : Int).tmod 2 = ((n % 2 : Nat) : Int) := rfl
    have t2 : (n : Int).tdiv 2 = ((n / 2 : Nat) : Int) := rfl
    rw [t1, t2]
    by_cases h1 : n % 2 = 0
    · have e1 : (((n % 2 : Nat) : Int) == 0) = true := by simp; omega
      simp only [e1, cond_true, Nat.zero_add, h.ld2, Option.bind_some]
      have e2 : w64 ((n / 2 : Nat) : Int) = ((n / 2 : Nat) : Int) := w64_in (by unfold inI at *; omega)
      rw [if_neg (by decide)]
      simp only [e2, Get_to _ h.st, Option.bind_some, toI_int]
      congr 3
      by_cases h2 : n / 2 < 32 * m.bls.length
      · rw [if_pos (by omega)]
        simp [Start, h1, h2]
        rw [Bool.eq_iff_iff]; simp
        rw [show ((n : Int) / 2).toNat = n / 2 from by omega]; omega
      · rw [if_neg (by omega)]
        simp [Start, h2]
    · have e1 : (((n % 2 : Nat) : Int) == 0) = false := by simp; omega
      simp only [e1, cond_false, Option.bind_some]
      simp [h1]
  · simp [show decide (a ≥ 0) = false from by simpa using h0, h0]

theorem hasM_spec {a : Int} (h : hasM m a = true) : ∃ j, a = ((2 * j : Nat) : Int) ∧ Start m j := by
  unfold hasM at h
  rw [decide_eq_true_eq] at h
  exact ⟨a.toNat / 2, by omega, h.2.2⟩
theorem hasM_of {j : Nat} (h : Start m j) : hasM m ((2 * j : Nat) : Int) = true := by
  unfold hasM
  rw [decide_eq_true_eq]
  refine ⟨by omega, by omega, ?_⟩
  rw [show (((2 * j : Nat) : Int)).toNat / 2 = j from by omega]; exact h

theorem object_to (k : Nat) (h : HeapAt σ i m) (a : Int) (ha : inI a) : d_heap_Heap_object (k + 5) (hptr i) a σ = some (.int .i64 (if hasM m a then 0 else 4), σ) := by
  rw [d_heap_Heap_object_eq, b_heap_Heap_object, hmade_to _ h]
  simp only [Option.bind_some, toB_bool, Bool.not_true, cond_false, Has_to _ h a ha]
  cases hasM m a <;> rfl

/-- The words of the shape with a number. -/
def szN (n : Int) : Nat := (words (n.tmod 16) ((n.tmod 4096).tdiv 16) (n.tdiv 4096)).toNat
/-- The words of the object at a pair. -/
def sz (m : HM) (j : Nat) : Nat := szN (m.wds.getD (2 * j + 1) 0)

theorem words_nonneg (a b c : Int) : 0 ≤ words a b c ∧ words a b c ≤ 218 := by
  unfold words
  cases hv : valid a b c with
  | false => simp
  | true =>
    simp [valid] at hv
    simp only [cond_true]
    omega
theorem szN_le (n : Int) : szN n ≤ 218 := by
  have := words_nonneg (n.tmod 16) ((n.tmod 4096).tdiv 16) (n.tdiv 4096)
  unfold szN; omega
theorem szN_int (n : Int) : (szN n : Int) = words (n.tmod 16) ((n.tmod 4096).tdiv 16) (n.tdiv 4096) := by
  have := words_nonneg (n.tmod 16) ((n.tmod 4096).tdiv 16) (n.tdiv 4096)
  unfold szN; omega

theorem shape_to (k : Nat) (n : Int) (hn : inI n) (σ : AMem) : ∃ τ, d_heap_shape (k + 1) n σ = some (.agg #[.int .i64 (n.tmod 16), .int .i64 ((n.tmod 4096).tdiv 16), .int .i64 (n.tdiv 4096)], σ ++ τ) := by
  rw [d_heap_shape_eq, b_heap_shape]
  simp only [allocK]
  have e1 : w64 ((n.tmod 4096).tdiv 16) = (n.tmod 4096).tdiv 16 := w64_in (by unfold inI at *; have := Int.tmod_lt_of_pos n (show (0 : Int) < 4096 by decide); have h2 := Int.lt_tmod_of_pos n (show (0 : Int) < 4096 by decide); rw [show (n.tmod 4096).tdiv 16 = (n.tmod 4096).tdiv 16 from rfl]; have := Int.natAbs_tdiv_le_natAbs (n.tmod 4096) 16; omega)
  have e2 : w64 (n.tdiv 4096) = n.tdiv 4096 := w64_in (by unfold inI at *; have h3 : (n.tdiv 4096).natAbs = n.natAbs / 4096 := Int.natAbs_tdiv n 4096; omega)
  rw [if_neg (by decide), if_neg (by decide), if_neg (by decide), if_neg (by decide), e1, e2]
  simp [stN, ldN, setRange, resOf]

theorem size_to (k : Nat) (h : HeapAt σ i m) {j : Nat} (hj : j < 32 * m.bls.length) : ∃ τ, d_heap_Heap_size (k + 3) (hptr i) ((2 * j : Nat) : Int) σ = some (.int .i64 (sz m j : Int), σ ++ τ) := by
  have hw := h.wl
  have ht := h.nt
  have hn := h.wi (2 * j + 1)
  obtain ⟨τ, hs⟩ := shape_to (k + 1) (m.wds.getD (2 * j + 1) 0) hn σ
  obtain ⟨τ', hq⟩ := heap_Words_to k ((m.wds.getD (2 * j + 1) 0).tmod 16) (((m.wds.getD (2 * j + 1) 0).tmod 4096).tdiv 16) ((m.wds.getD (2 * j + 1) 0).tdiv 4096) (σ ++ τ)
  refine ⟨τ ++ τ', ?_⟩
  have e1 : w64 (((2 * j : Nat) : Int) + 1) = ((2 * j + 1 : Nat) : Int) := w64_in (by unfold inI; omega)
  rw [d_heap_Heap_size_eq, b_heap_Heap_size]
  simp only [Option.bind_some, Nat.zero_add, h.ld1', e1, Int.toNat_natCast, Nat.mul_one]
  rw [if_pos (by omega)]
  simp only [Option.bind_some, h.ldW (show 2 * j + 1 < m.wds.length by omega), hs, a_iii_eq, hq, toI_int, List.append_assoc]
  unfold sz
  rw [szN_int]

/-- Find: the pair at which the object of a word begins. -/
def findM (m : HM) (n : Nat) : Option Nat :=
  match lastT (tget 1 m.stw) 1 (min (n / 2 + 1) (32 * m.bls.length)) with
  | none => none
  | some j => if 2 * j + sz m j ≤ n then none else some j
def findI (m : HM) (a : Int) : Option Nat := if 0 ≤ a ∧ a < (m.wds.length : Int) then findM m a.toNat else none

theorem Find_to (k : Nat) (hk : 5000 ≤ k) (h : HeapAt σ i m) (a : Int) : ∃ τ, d_heap_Heap_Find (k + 10) (hptr i) a σ =
    some (match findI m a with | some j => .tuple #[.int .i64 ((2 * j : Nat) : Int), .int .i64 0] | none => .tuple #[.int .i64 0, .int .i64 4], σ ++ τ) := by
  have hw := h.wl
  have ht := h.nt
  rw [d_heap_Heap_Find_eq, b_heap_Heap_Find]
  simp only [hmade_to _ h, Option.bind_some, toB_bool, Bool.not_true, cond_false]
  by_cases h0 : 0 ≤ a
  rotate_left
  · refine ⟨[], ?_⟩
    have : ¬ (0 ≤ a ∧ a < (m.wds.length : Int)) := by omega
    simp only [show decide (a < 0) = true from by simp; omega, cond_true, Option.bind_some, findI, this, if_false, List.append_nil]
  simp only [show decide (a < 0) = false from by simp; omega, cond_false, Nat.zero_add, h.ld1', Option.bind_some]
  by_cases h1 : a < (m.wds.length : Int)
  rotate_left
  · refine ⟨[], ?_⟩
    have : ¬ (0 ≤ a ∧ a < (m.wds.length : Int)) := by omega
    simp only [show decide (a ≥ ((m.wds.length : Nat) : Int)) = true from by simp; omega, cond_true, findI, this, if_false, List.append_nil]
  obtain ⟨n, rfl⟩ : ∃ n : Nat, a = (n : Int) := ⟨a.toNat, by omega⟩
  have t2 : (n : Int).tdiv 2 = ((n / 2 : Nat) : Int) := rfl
  have e1 : w64 ((n / 2 : Nat) : Int) = ((n / 2 : Nat) : Int) := w64_in (by unfold inI; omega)
  have e2 : w64 (((n / 2 : Nat) : Int) + 1) = ((n / 2 + 1 : Nat) : Int) := w64_in (by unfold inI; omega)
  simp only [show decide ((n : Int) ≥ ((m.wds.length : Nat) : Int)) = false from by simp; omega, cond_false, h.ld2, Option.bind_some, t2, e1, e2]
  rw [if_neg (by decide)]
  have hl := Last_to (k + 6) (by omega) h.st ((n / 2 + 1 : Nat) : Int) 1
  rw [show ((1 : Nat) : Int) = 1 from rfl, Int.toNat_natCast] at hl
  rw [hl]
  simp only [findI, findM, show (0 ≤ (n : Int) ∧ (n : Int) < (m.wds.length : Int)) from ⟨h0, h1⟩, and_self, if_true, Int.toNat_natCast, Option.bind_some]
  cases hq : lastT (tget 1 m.stw) 1 (min (n / 2 + 1) (32 * m.bls.length)) with
  | none =>
    refine ⟨[], ?_⟩
    simp [r_ii_eq]
  | some j =>
    obtain ⟨q1, q2, _⟩ := lastT_some hq
    obtain ⟨τ, hs⟩ := size_to (k + 6) h (show j < 32 * m.bls.length by omega)
    refine ⟨τ, ?_⟩
    have e3 : w64 (2 * (j : Int)) = ((2 * j : Nat) : Int) := w64_in (by unfold inI; omega)
    have hz := szN_le (m.wds.getD (2 * j + 1) 0)
    have e4 : w64 (((2 * j : Nat) : Int) + (sz m j : Int)) = ((2 * j + sz m j : Nat) : Int) := w64_in (by unfold inI; unfold sz; omega)
    simp only [r_ii_eq, bne_self_eq_false, cond_false, e3, hs, Option.bind_some, toI_int, e4]
    by_cases hc : 2 * j + sz m j ≤ n
    · simp only [show decide ((n : Int) ≥ ((2 * j + sz m j : Nat) : Int)) = true from by simp; omega, cond_true, hc, if_true]
    · simp only [show decide ((n : Int) ≥ ((2 * j + sz m j : Nat) : Int)) = false from by simp; omega, cond_false, hc, if_false]

/-- At, Ident, Forward. -/
def getM (l : List (Int × Int)) (k : Int) : Option Int := (l.find? fun e => k == e.1).map (·.2)
theorem mapGet_mp (l : List (Int × Int)) (k : Int) : mapGet (mpRow l) k = (getM l k).map fun n => Value.int .i64 n := by
  unfold mapGet mpRow getM
  rw [List.find?_map]
  cases hq : l.find? ((fun e => k == e.1) ∘ fun p => (p.1, Value.int .i64 p.2)) with
  | none =>
    have : l.find? (fun e => k == e.1) = none := hq
    rw [this]; rfl
  | some x =>
    have : l.find? (fun e => k == e.1) = some x := hq
    rw [this]; rfl

/-- span: how many blocks belong to a block. -/
def spanM (m : HM) (b : Nat) : Nat → Nat → Nat
  | 0, n => n
  | f + 1, n => if (m.bls.getD b (0, 0)).1 = 2 ∧ b + n < m.bls.length ∧ (m.bls.getD (b + n) (0, 0)).1 = 3 then spanM m b f (n + 1) else n

theorem span_l0_to (k : Nat) (h : HeapAt σ i m) {b : Nat} (hb : b < m.bls.length) : ∀ (f n : Nat), m.bls.length ≤ b + n + f → n ≤ m.bls.length → d_heap_Heap_span_l0 k (f + 1) (hptr i) (b : Int) (n : Int) σ = some (.exit 0, [.int .i64 (spanM m b f n : Int)], σ) := by
  intro f
  have ht := h.nt
  induction f with
  | zero =>
    intro n hn hn2
    rw [d_heap_Heap_span_l0_eq, b_heap_Heap_span_l0]
    simp only [Option.bind_some, Nat.zero_add, Nat.add_zero, h.ld0, Int.toNat_natCast]
    rw [if_pos (by omega)]
    have e1 : w64 ((b : Int) + (n : Int)) = ((b + n : Nat) : Int) := w64_in (by unfold inI; omega)
    simp only [Option.bind_some, (h.ldB hb).1, e1, spanM]
    by_cases h2 : (m.bls.getD b (0, 0)).1 = 2
    · have q2 : ((m.bls.getD b (0, 0)).1 == 2) = true := by simpa using h2
      have q3 : decide (((b + n : Nat) : Int) < ((m.bls.length : Nat) : Int)) = false := by simp; omega
      simp only [q2, cond_true, q3, cond_false, Option.bind_some]
    · have : ((m.bls.getD b (0, 0)).1 == 2) = false := by simpa using h2
      simp only [this, cond_false, Option.bind_some]
  | succ f ih =>
    intro n hn hn2
    rw [d_heap_Heap_span_l0_eq, b_heap_Heap_span_l0]
    simp only [Option.bind_some, Nat.zero_add, Nat.add_zero, h.ld0, Int.toNat_natCast]
    rw [if_pos (by omega)]
    have e1 : w64 ((b : Int) + (n : Int)) = ((b + n : Nat) : Int) := w64_in (by unfold inI; omega)
    have e2 : w64 ((n : Int) + 1) = ((n + 1 : Nat) : Int) := w64_in (by unfold inI; omega)
    simp only [Option.bind_some, (h.ldB hb).1, e1, e2, Int.toNat_natCast]
    by_cases h2 : (m.bls.getD b (0, 0)).1 = 2
    · have q2 : ((m.bls.getD b (0, 0)).1 == 2) = true := by simpa using h2
      simp only [q2, cond_true, Option.bind_some]
      by_cases h3 : b + n < m.bls.length
      · simp only [show decide (((b + n : Nat) : Int) < ((m.bls.length : Nat) : Int)) = true from by simp; omega, cond_true, Option.bind_some, h.ld0]
        rw [if_pos (by omega)]
        simp only [Option.bind_some, Nat.zero_add, Nat.add_zero, (h.ldB h3).1]
        by_cases h4 : (m.bls.getD (b + n) (0, 0)).1 = 3
        · have q4 : ((m.bls.getD (b + n) (0, 0)).1 == 3) = true := by simpa using h4
          simp only [q4, cond_true, Option.bind_some]
          rw [spanM, if_pos ⟨h2, h3, h4⟩]
          exact ih (n + 1) (by omega) (by omega)
        · have q4 : ((m.bls.getD (b + n) (0, 0)).1 == 3) = false := by simpa using h4
          simp only [q4, cond_false, Option.bind_some]
          rw [spanM, if_neg (by rintro ⟨_, _, h⟩; exact h4 h)]
      · simp only [show decide (((b + n : Nat) : Int) < ((m.bls.length : Nat) : Int)) = false from by simp; omega, cond_false, Option.bind_some]
        rw [spanM, if_neg (by rintro ⟨_, h, _⟩; exact h3 h)]
    · have q2 : ((m.bls.getD b (0, 0)).1 == 2) = false := by simpa using h2
      simp only [q2, cond_false, Option.bind_some]
      rw [spanM, if_neg (by rintro ⟨h, _⟩; exact h2 h)]

theorem spanM_more (m : HM) (b : Nat) : ∀ (f g n : Nat), m.bls.length ≤ b + n + f → m.bls.length ≤ b + n + g → spanM m b f n = spanM m b g n
  | 0, 0, n, _, _ => rfl
  | 0, g + 1, n, h1, h2 => by
    rw [spanM, spanM, if_neg (by rintro ⟨_, h, _⟩; omega)]
  | f + 1, 0, n, h1, h2 => by
    rw [spanM, spanM, if_neg (by rintro ⟨_, h, _⟩; omega)]
  | f + 1, g + 1, n, h1, h2 => by
    rw [spanM, spanM]
    split
    · exact spanM_more m b f g (n + 1) (by omega) (by omega)
    · rfl

def spanF (m : HM) (b : Nat) : Nat := spanM m b m.bls.length 1
theorem span_to (k : Nat) (hk : 100 ≤ k) (h : HeapAt σ i m) {b : Nat} (hb : b < m.bls.length) : d_heap_Heap_span (k + 1) (hptr i) (b : Int) σ = some (.int .i64 (spanF m b : Int), σ) := by
  have ht := h.nt
  have hn := h.nb
  rw [d_heap_Heap_span_eq, b_heap_Heap_span]
  have := span_l0_to k h hb (k - 1) 1 (by omega) (by omega)
  rw [show k - 1 + 1 = k from by omega] at this
  rw [show (1 : Int) = ((1 : Nat) : Int) from rfl, this]
  simp only [Option.bind_some, if_true, u_i_eq]
  unfold spanF
  rw [spanM_more m b (k - 1) m.bls.length 1 (by omega) (by omega)]

/-- The words from x on are of no object but one. -/
def fitL (m : HM) (hi : Nat) (but : Int) : Nat → Nat → Bool
  | 0, _ => true
  | f + 1, x => if x < hi then (match findI m (x : Int) with
      | some o => if ((2 * o : Nat) : Int) = but then fitL m hi but f (x + 2) else false
      | none => fitL m hi but f (x + 2)) else true

theorem fits_l0_to (k : Nat) (hk : 5000 ≤ k) (h : HeapAt σ i m) (a wo : Nat) (but : Int) (ha : a < 4096) (hwo : wo ≤ 218) : ∀ (f x : Nat) (τ : AMem), a + wo ≤ x + 2 * f → x ≤ 5000 →
    ∃ τ', d_heap_Heap_fits_l0 (k + 10) (f + 1) (hptr i) (a : Int) (wo : Int) but (x : Int) (σ ++ τ) = some (if fitL m (a + wo) but f x then (.exit 0, [], σ ++ τ') else (.ret, [.int .i64 8], σ ++ τ')) := by
  intro f
  have e1 : w64 ((a : Int) + (wo : Int)) = ((a + wo : Nat) : Int) := w64_in (by unfold inI; omega)
  induction f with
  | zero =>
    intro x τ h1 h2
    refine ⟨τ, ?_⟩
    rw [d_heap_Heap_fits_l0_eq, b_heap_Heap_fits_l0]
    have q : decide ((x : Int) < ((a + wo : Nat) : Int)) = false := by simp; omega
    simp only [e1, q, cond_false, fitL, if_true]
  | succ f ih =>
    intro x τ h1 h2
    rw [d_heap_Heap_fits_l0_eq, b_heap_Heap_fits_l0]
    by_cases hx : x < a + wo
    · have q : decide ((x : Int) < ((a + wo : Nat) : Int)) = true := by simp; omega
      have e2 : w64 ((x : Int) + 2) = ((x + 2 : Nat) : Int) := w64_in (by unfold inI; omega)
      obtain ⟨τ1, hF⟩ := Find_to k hk (h.app τ) (x : Int)
      obtain ⟨τ2, hih⟩ := ih (x + 2) (τ ++ τ1) (by omega) (by omega)
      rw [← List.append_assoc] at hih
      simp only [e1, e2, q, cond_true, hF, Option.bind_some, fitL, hx, if_true]
      cases hq : findI m (x : Int) with
      | none =>
        refine ⟨τ2, ?_⟩
        simp only [r_ii_eq, show ((4 : Int) == 0) = false from rfl, cond_false, Option.bind_some]
        exact hih
      | some o =>
        simp only [r_ii_eq, BEq.rfl, cond_true, Option.bind_some]
        by_cases hb : ((2 * o : Nat) : Int) = but
        · refine ⟨τ2, ?_⟩
          subst hb
          simp only [bne_self_eq_false, cond_false, if_true]
          exact hih
        · refine ⟨τ ++ τ1, ?_⟩
          have : (((2 * o : Nat) : Int) != but) = true := by simpa using hb
          simp only [this, cond_true, hb, if_false, List.append_assoc, Bool.false_eq_true]
    · refine ⟨τ, ?_⟩
      have q : decide ((x : Int) < ((a + wo : Nat) : Int)) = false := by simp; omega
      simp only [e1, q, cond_false, fitL, hx, if_false, if_true]

theorem fitL_more (m : HM) (hi : Nat) (but : Int) : ∀ (f g x : Nat), hi ≤ x + 2 * f → hi ≤ x + 2 * g → fitL m hi but f x = fitL m hi but g x
  | 0, 0, _, _, _ => rfl
  | 0, g + 1, x, h1, h2 => by rw [fitL, fitL, if_neg (by omega)]
  | f + 1, 0, x, h1, h2 => by rw [fitL, fitL, if_neg (by omega)]
  | f + 1, g + 1, x, h1, h2 => by
    rw [fitL, fitL]
    have := fitL_more m hi but f g (x + 2) (by omega) (by omega)
    rw [this]

/-- fits: why an object does not fit. -/
def fitsM (m : HM) (a : Int) (wo : Nat) (but : Int) : Int :=
  if ¬ (0 ≤ a ∧ a < (m.wds.length : Int) ∧ a.toNat % 2 = 0) then 1 else
  let b := a.toNat / 64
  if wo ≤ 32 then (if (m.bls.getD b (0, 0)).1 ≠ 1 ∨ (a.toNat + wo - 1) / 64 ≠ b then 5 else if fitL m (a.toNat + wo) but 200 a.toNat then 0 else 8)
  else if (m.bls.getD b (0, 0)).1 ≠ 2 ∨ a.toNat % 64 ≠ 0 ∨ spanF m b ≠ (wo + 63) / 64 then 5 else if fitL m (a.toNat + wo) but 200 a.toNat then 0 else 8

theorem fits_to (k : Nat) (hk : 5000 ≤ k) (h : HeapAt σ i m) (a : Int) (wo : Nat) (but : Int) (h0 : 2 ≤ wo) (hwo : wo ≤ 218) : ∃ τ, d_heap_Heap_fits (k + 11) (hptr i) a (wo : Int) but σ = some (.int .i64 (fitsM m a wo but), σ ++ τ) := by
  have hw := h.wl
  have ht := h.nt
  rw [d_heap_Heap_fits_eq, b_heap_Heap_fits]
  simp only [Option.bind_some, Nat.zero_add, h.ld0, h.ld1']
  by_cases g0 : 0 ≤ a
  rotate_left
  · refine ⟨[], ?_⟩
    simp only [show decide (a < 0) = true from by simp; omega, cond_true, Option.bind_some, fitsM, show ¬ (0 ≤ a ∧ a < (m.wds.length : Int) ∧ a.toNat % 2 = 0) from by omega, not_false_eq_true, if_true, List.append_nil]
  by_cases g1 : a < (m.wds.length : Int)
  rotate_left
  · refine ⟨[], ?_⟩
    simp only [show decide (a < 0) = false from by simp; omega, cond_false, show decide (a ≥ ((m.wds.length : Nat) : Int)) = true from by simp; omega, cond_true, Option.bind_some, fitsM, show ¬ (0 ≤ a ∧ a < (m.wds.length : Int) ∧ a.toNat % 2 = 0) from by omega, not_false_eq_true, if_true, List.append_nil]
  obtain ⟨n, rfl⟩ : ∃ n : Nat, a = (n : Int) := ⟨a.toNat, by omega⟩
  have t1 : (n : Int).tmod 2 = ((n % 2 : Nat) : Int) := rfl
  have t2 : (n : Int).tdiv 64 = ((n / 64 : Nat) : Int) := rfl
  have t3 : (n : Int).tmod 64 = ((n % 64 : Nat) : Int) := rfl
  have e1 : w64 ((n / 64 : Nat) : Int) = ((n / 64 : Nat) : Int) := w64_in (by unfold inI; omega)
  have e2 : w64 ((n : Int) + (wo : Int)) = ((n + wo : Nat) : Int) := w64_in (by unfold inI; omega)
  have e3 : w64 (((n + wo : Nat) : Int) - 1) = ((n + wo - 1 : Nat) : Int) := by rw [w64_in (by unfold inI; omega)]; omega
  have t4 : (((n + wo - 1 : Nat) : Int)).tdiv 64 = (((n + wo - 1) / 64 : Nat) : Int) := rfl
  have e4 : w64 (((n + wo - 1) / 64 : Nat) : Int) = (((n + wo - 1) / 64 : Nat) : Int) := w64_in (by unfold inI; omega)
  have e5 : w64 ((wo : Int) + 64) = ((wo + 64 : Nat) : Int) := w64_in (by unfold inI; omega)
  have e6 : w64 (((wo + 64 : Nat) : Int) - 1) = ((wo + 63 : Nat) : Int) := by rw [w64_in (by unfold inI; omega)]; omega
  have t5 : ((wo + 63 : Nat) : Int).tdiv 64 = (((wo + 63) / 64 : Nat) : Int) := rfl
  have e7 : w64 (((wo + 63) / 64 : Nat) : Int) = (((wo + 63) / 64 : Nat) : Int) := w64_in (by unfold inI; omega)
  simp only [show decide ((n : Int) < 0) = false from by simp, cond_false, show decide ((n : Int) ≥ ((m.wds.length : Nat) : Int)) = false from by simp; omega, Option.bind_some, t1, t2, t3, e1, e2, e3, t4, e4, e5, e6, t5, e7]
  rw [if_neg (by decide)]
  simp only [Option.bind_some]
  by_cases g2 : n % 2 = 0
  rotate_left
  · refine ⟨[], ?_⟩
    have q : (((n % 2 : Nat) : Int) != 0) = true := by simp; omega
    simp only [q, cond_true, fitsM, show ¬ (0 ≤ (n : Int) ∧ (n : Int) < (m.wds.length : Int) ∧ (n : Int).toNat % 2 = 0) from by omega, not_false_eq_true, if_true, List.append_nil]
  have q : (((n % 2 : Nat) : Int) != 0) = false := by simp; omega
  have hb : n / 64 < m.bls.length := by omega
  obtain ⟨τ, hl⟩ := fits_l0_to k hk h n wo but (by omega) hwo (k + 9) n [] (by omega) (by omega)
  have hm : fitL m (n + wo) but (k + 9) n = fitL m (n + wo) but 200 n := fitL_more m _ but _ _ n (by omega) (by omega)
  rw [List.append_nil, hm] at hl
  have hgood : (¬ (0 ≤ (n : Int) ∧ (n : Int) < (m.wds.length : Int) ∧ (n : Int).toNat % 2 = 0)) = False := eq_false (by omega)
  simp only [q, cond_false, fitsM, hgood, if_false]
  simp only [Int.toNat_natCast]
  have tail : ∀ (c : Bool), ∃ τ', (if (AExit.normal : AExit) = .normal then (d_heap_Heap_fits_l0 (k + 10) (k + 10) (hptr i) (n : Int) (wo : Int) but (n : Int) σ).bind fun r23 => if r23.1 = .exit 0 then some (Value.int .i64 (0 : Int), r23.2.2) else if r23.1 = .ret then u_i r23.2.1 fun n24 => some (.int .i64 n24, r23.2.2) else none else none) = some (.int .i64 (if fitL m (n + wo) but 200 n = true then 0 else 8), σ ++ τ') := by
    intro c
    refine ⟨τ, ?_⟩
    rw [hl]
    cases fitL m (n + wo) but 200 n <;> simp [u_i_eq]
  obtain ⟨τt, ht'⟩ := tail true
  simp only [if_true] at ht'
  have c64 : ((64 : Int) = 0) = False := by simp
  have c1 : (0 ≤ ((n / 64 : Nat) : Int) ∧ ((n / 64 : Nat) : Int) < ((m.bls.length : Nat) : Int)) = True := eq_true (by omega)
  by_cases g3 : wo ≤ 32
  · have q3 : decide ((wo : Int) ≤ 32) = true := by simp; omega
    simp only [c64, if_false, q3, cond_true, g3, if_true, c1, Option.bind_some, Nat.zero_add, Nat.add_zero, Int.toNat_natCast, (h.ldB hb).1, h.ld0]
    by_cases g4 : (m.bls.getD (n / 64) (0, 0)).1 = 1
    · simp only [g4, bne_self_eq_false, cond_false, ne_eq, not_true_eq_false, false_or, Option.bind_some]
      by_cases g5 : (n + wo - 1) / 64 = n / 64
      · simp only [g5, bne_self_eq_false, cond_false, Option.bind_some, if_true, not_true_eq_false, if_false]
        exact ⟨τt, ht'⟩
      · have q5 : ((((n + wo - 1) / 64 : Nat) : Int) != ((n / 64 : Nat) : Int)) = true := by simp; omega
        simp only [q5, cond_true, g5, not_false_eq_true, if_true, Option.bind_some]
        exact ⟨[], by simp [u_i_eq]⟩
    · have q4 : ((m.bls.getD (n / 64) (0, 0)).1 != 1) = true := bne_iff_ne.2 g4
      simp only [q4, cond_true, ne_eq, g4, not_false_eq_true, true_or, if_true, Option.bind_some]
      exact ⟨[], by simp [u_i_eq]⟩
  · have q3 : decide ((wo : Int) ≤ 32) = false := by simp; omega
    simp only [c64, if_false, q3, cond_false, g3, if_true, c1, Option.bind_some, Nat.zero_add, Nat.add_zero, Int.toNat_natCast, (h.ldB hb).1, h.ld0]
    by_cases g4 : (m.bls.getD (n / 64) (0, 0)).1 = 2
    · simp only [g4, bne_self_eq_false, cond_false, ne_eq, not_true_eq_false, false_or, Option.bind_some]
      by_cases g5 : n % 64 = 0
      · have q5 : (((n % 64 : Nat) : Int) != 0) = false := by simp; omega
        simp only [q5, cond_false, span_to (k + 9) (by omega) h hb, Option.bind_some, toI_int]
        simp only [g5, not_true_eq_false, false_or]
        by_cases g6 : spanF m (n / 64) = (wo + 63) / 64
        · simp only [g6, bne_self_eq_false, cond_false, Option.bind_some, if_true, not_true_eq_false, if_false]
          exact ⟨τt, ht'⟩
        · have q6 : ((spanF m (n / 64) : Int) != (((wo + 63) / 64 : Nat) : Int)) = true := by simp; omega
          simp only [q6, cond_true, g6, not_false_eq_true, if_true, Option.bind_some]
          exact ⟨[], by simp [u_i_eq]⟩
      · have q5 : (((n % 64 : Nat) : Int) != 0) = true := by simp; omega
        simp only [q5, cond_true, g5, not_false_eq_true, true_or, if_true, Option.bind_some]
        exact ⟨[], by simp [u_i_eq]⟩
    · have q4 : ((m.bls.getD (n / 64) (0, 0)).1 != 2) = true := bne_iff_ne.2 g4
      simp only [q4, cond_true, ne_eq, g4, not_false_eq_true, true_or, if_true, Option.bind_some]
      exact ⟨[], by simp [u_i_eq]⟩

end Go.Proofs.Ytlaplcglpnlieaa
