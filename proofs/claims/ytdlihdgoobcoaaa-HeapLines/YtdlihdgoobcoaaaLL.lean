/-
  HeapLines: what the law's function comes to.
-/
import Derived.Test.YtdlihdgoobcoaaaLB
set_option linter.unusedVariables false
set_option linter.unusedSimpArgs false
namespace Go.Proofs.Ytdlihdgoobcoaaa
open Go Go.AX
noncomputable local instance : Quiet := fullQuiet
variable {σ : AMem} {i : HIds} {m : HM}

def anyF (m : HM) : Nat → Nat → Bool
  | _, 0 => false
  | a, n + 1 => (findM m a).isSome || anyF m (a + 1) n

theorem anyF_iff : ∀ (n a : Nat), anyF m a n = true ↔ ∃ q, a ≤ q ∧ q < a + n ∧ (findM m q).isSome = true
  | 0, a => by simp [anyF]; intro q h1 h2; omega
  | n + 1, a => by
    rw [anyF, Bool.or_eq_true, anyF_iff n (a + 1)]
    constructor
    · rintro (h | ⟨q, h1, h2, h3⟩)
      · exact ⟨a, Nat.le_refl _, by omega, h⟩
      · exact ⟨q, by omega, by omega, h3⟩
    · rintro ⟨q, h1, h2, h3⟩
      rcases Nat.eq_or_lt_of_le h1 with rfl | h1
      · exact .inl h3
      · exact .inr ⟨q, h1, by omega, h3⟩

theorem block_of (hI : Inv m) (hI2 : Inv2 m) {j q : Nat} (hj : Start m j) (h1 : 2 * j ≤ q) (h2 : q < 2 * j + sz m j) (hs : (m.bls.getD (q / 64) (0, 0)).1 = 1) : 2 * j / 64 = q / 64 := by
  have hz := hI.size hj
  obtain ⟨k1, k2⟩ := hI2.kind j hj
  by_cases hw : sz m j ≤ 32
  · have := (k1 hw).2
    omega
  · obtain ⟨p1, p2, p3⟩ := k2 (by omega)
    rcases Nat.lt_or_ge (2 * j / 64) (q / 64) with hlt | hge
    · have := p3 (q / 64) hlt (by omega)
      rw [hs] at this; exact absurd this (by decide)
    · omega

theorem line_any (hI : Inv m) (hI2 : Inv2 m) (hw : m.wds.length = 64 * m.bls.length) {b t : Nat} (hb : b < m.bls.length) (hst : (m.bls.getD b (0, 0)).1 = 1) (ht : t < 8) : (∃ j ∈ starts m (32 * b) 32, lineIn m j t) ↔ anyF m (64 * b + 8 * t) 8 = true := by
  rw [anyF_iff]
  constructor
  · rintro ⟨j, hj, l1, l2⟩
    obtain ⟨a1, a2, a3⟩ := mem_starts.1 hj
    have hs : Start m j := ⟨by omega, a3⟩
    have hz := hI.size hs
    obtain ⟨z1, z2⟩ := in_used hI hI2 hst hs a1 a2
    have e : 2 * j % 64 = 2 * j - 64 * b := by omega
    rw [e] at l1 l2
    refine ⟨max (2 * j) (64 * b + 8 * t), by omega, by omega, ?_⟩
    rw [hI.find_some hs (by omega) (by omega)]; rfl
  · rintro ⟨q, h1, h2, h3⟩
    obtain ⟨j, hj⟩ := Option.isSome_iff_exists.1 h3
    obtain ⟨s1, _, s3, s4⟩ := findM_spec hj
    have hq : q / 64 = b := by omega
    have hb' := block_of hI hI2 s1 s4 s3 (by rw [hq]; exact hst)
    have hz := hI.size s1
    refine ⟨j, mem_starts.2 ⟨by omega, by omega, s1.2⟩, ?_, ?_⟩
    · have e : 2 * j % 64 = 2 * j - 64 * b := by omega
      rw [e]; omega
    · have e : 2 * j % 64 = 2 * j - 64 * b := by omega
      rw [e]; omega

theorem Hl_l2 (k : Nat) (hk : 5000 ≤ k) {b t : Nat} (hb : b < m.bls.length) (ht : t < 8) : ∀ (n x f : Nat) (acc : Bool) (σ : AMem), HeapAt σ i m → x + n = 8 → n < f →
    ∃ τ, d_law02_HeapLines_l2 (k + 10) f (hptr i) (b : Int) (t : Int) acc (x : Int) σ = some (.exit 4, [.bool (acc || anyF m (64 * b + 8 * t + x) n)], σ ++ τ)
  | 0, x, 0, acc, σ, h, hx, hf => by omega
  | 0, x, f + 1, acc, σ, h, hx, hf => by
    rw [d_law02_HeapLines_l2]
    have q : decide ((x : Int) < 8) = false := decide_eq_false (by omega)
    exact ⟨[], by simp only [q, cond_false, anyF, Bool.or_false, List.append_nil]⟩
  | n + 1, x, 0, acc, σ, h, hx, hf => by omega
  | n + 1, x, f + 1, acc, σ, h, hx, hf => by
    have hn := h.nt
    have hw := h.wl
    obtain ⟨τ, e⟩ := Find_to k hk h ((64 * b + 8 * t + x : Nat) : Int)
    obtain ⟨τ', e'⟩ := Hl_l2 k hk hb ht n (x + 1) f (acc || (findM m (64 * b + 8 * t + x)).isSome) (σ ++ τ) (h.app τ) (by omega) (by omega)
    refine ⟨τ ++ τ', ?_⟩
    rw [anyF, ← Bool.or_assoc, ← List.append_assoc, show 64 * b + 8 * t + x + 1 = 64 * b + 8 * t + (x + 1) from rfl, ← e', d_law02_HeapLines_l2]
    have q : decide ((x : Int) < 8) = true := decide_eq_true (by omega)
    have m1 : w64 ((b : Int) * 64) = ((64 * b : Nat) : Int) := by rw [w64_in (by unfold inI; omega)]; omega
    have m2 : w64 ((t : Int) * 8) = ((8 * t : Nat) : Int) := by rw [w64_in (by unfold inI; omega)]; omega
    have m3 : w64 (((64 * b : Nat) : Int) + ((8 * t : Nat) : Int)) = ((64 * b + 8 * t : Nat) : Int) := by rw [w64_in (by unfold inI; omega)]; omega
    have m4 : w64 (((64 * b + 8 * t : Nat) : Int) + (x : Int)) = ((64 * b + 8 * t + x : Nat) : Int) := by rw [w64_in (by unfold inI; omega)]; omega
    have m5 : w64 ((x : Int) + 1) = ((x + 1 : Nat) : Int) := w64_in (by unfold inI; omega)
    have fi : findI m ((64 * b + 8 * t + x : Nat) : Int) = findM m (64 * b + 8 * t + x) := by
      unfold findI; rw [if_pos (by omega), Int.toNat_natCast]
    rw [fi] at e
    simp only [q, cond_true, m1, m2, m3, m4, e, Option.bind_some, m5]
    cases findM m (64 * b + 8 * t + x) with
    | none =>
      simp only [r_ii_eq, Option.isSome_none, Bool.or_false]
      cases acc <;> rfl
    | some j =>
      simp only [r_ii_eq, Option.isSome_some, Bool.or_true]
      cases acc <;> rfl

theorem Hl_l1 (k : Nat) (hk : 5000 ≤ k) {b : Nat} (hb : b < m.bls.length) (hb' : Nat) (bs : List Bool) (hl : bs.length = 8) (hg : ∀ t, t < 8 → bs.getD t false = anyF m (64 * b + 8 * t) 8) : ∀ (n x f : Nat) (σ : AMem), HeapAt σ i m → σ[hb']? = some (.cells (boRow bs) 4 true) → x + n = 8 → n < f →
    ∃ τ, d_law02_HeapLines_l1 (k + 10) f (hptr i) (b : Int) (some ⟨hb', 0, none⟩) 8 8 (x : Int) σ = some (.exit 2, [], σ ++ τ)
  | 0, x, 0, σ, h, hc, hx, hf => by omega
  | 0, x, f + 1, σ, h, hc, hx, hf => by
    rw [d_law02_HeapLines_l1]
    have q : decide ((x : Int) < ((8 : Nat) : Int)) = false := decide_eq_false (by omega)
    exact ⟨[], by simp only [q, cond_false, List.append_nil]⟩
  | n + 1, x, 0, σ, h, hc, hx, hf => by omega
  | n + 1, x, f + 1, σ, h, hc, hx, hf => by
    obtain ⟨τ, e⟩ := Hl_l2 k hk hb (t := x) (by omega) 8 0 (k + 10) false σ h (by omega) (by omega)
    have hc1 : (σ ++ τ)[hb']? = some (.cells (boRow bs) 4 true) := by rw [List.getElem?_append_left (getElem?_lt hc)]; exact hc
    obtain ⟨τ', e'⟩ := Hl_l1 k hk hb hb' bs hl hg n (x + 1) f (σ ++ τ) (h.app τ) hc1 (by omega) (by omega)
    refine ⟨τ ++ τ', ?_⟩
    rw [← List.append_assoc, ← e', d_law02_HeapLines_l1]
    have q : decide ((x : Int) < ((8 : Nat) : Int)) = true := decide_eq_true (by omega)
    have m5 : w64 ((x : Int) + 1) = ((x + 1 : Nat) : Int) := w64_in (by unfold inI; omega)
    rw [show ((0 : Nat) : Int) = 0 from rfl] at e
    have hlb := ldB_at hc1 (o := x) (by omega)
    simp only [q, cond_true, e, Option.bind_some, if_true, u_t_eq, Bool.false_or, Nat.add_zero]
    rw [if_pos (by omega)]
    simp only [Int.toNat_natCast, Nat.zero_add, Nat.mul_one, hlb, Option.bind_some, hg x (by omega), BEq.rfl, Bool.not_true, cond_false, m5]

theorem Hl_l0 (k : Nat) (hk : 5000 ≤ k) (hI : Inv m) (hI2 : Inv2 m) (h0 : B0 m) : ∀ (n x f : Nat) (σ : AMem), HeapAt σ i m → x + n = m.bls.length → n < f →
    ∃ τ, d_law02_HeapLines_l0 (k + 10) f (hptr i) (x : Int) σ = some (.exit 0, [], σ ++ τ)
  | 0, x, 0, σ, h, hx, hf => by omega
  | 0, x, f + 1, σ, h, hx, hf => by
    rw [d_law02_HeapLines_l0]
    have hB : d_heap_Heap_Blocks (k + 10) (hptr i) σ = _ := Blocks_to (k + 8) h
    have q : decide ((x : Int) < ((m.bls.length : Nat) : Int)) = false := decide_eq_false (by omega)
    exact ⟨[], by simp only [hB, Option.bind_some, toI_int, q, cond_false, List.append_nil]⟩
  | n + 1, x, 0, σ, h, hx, hf => by omega
  | n + 1, x, f + 1, σ, h, hx, hf => by
    have ht := h.nt
    have hw := h.wl
    have hxl : x < m.bls.length := by omega
    have hB : d_heap_Heap_Blocks (k + 10) (hptr i) σ = _ := Blocks_to (k + 8) h
    have q : decide ((x : Int) < ((m.bls.length : Nat) : Int)) = true := decide_eq_true (by omega)
    have m5 : w64 ((x : Int) + 1) = ((x + 1 : Nat) : Int) := w64_in (by unfold inI; omega)
    by_cases hu : 1 ≤ x ∧ (m.bls.getD x (0, 0)).1 = 1
    · obtain ⟨τ, bs, e, hc, hl, hg⟩ := Lines_to (k + 3) (by omega) h hI hI2 hxl hu.1 hu.2
      have e0 : d_heap_Heap_Lines (k + 10) (hptr i) (x : Int) σ = _ := e
      have h1 := h.app τ
      have hS : d_heap_Heap_State (k + 10) (hptr i) (x : Int) (σ ++ τ) = _ := State_to (k + 7) h1 hxl
      have hg' : ∀ t, t < 8 → bs.getD t false = anyF m (64 * x + 8 * t) 8 := fun t ht => by
        rw [Bool.eq_iff_iff, hg t, line_any hI hI2 hw hxl hu.2 ht]
      obtain ⟨τ1, e1⟩ := Hl_l1 k hk hxl σ.length bs hl hg' 8 0 (k + 10) (σ ++ τ) h1 hc (by omega) (by omega)
      obtain ⟨τ2, e2⟩ := Hl_l0 k hk hI hI2 h0 n (x + 1) f (σ ++ τ ++ τ1) (h1.app τ1) (by omega) (by omega)
      refine ⟨τ ++ (τ1 ++ τ2), ?_⟩
      rw [← List.append_assoc, ← List.append_assoc, ← e2, d_law02_HeapLines_l0]
      rw [show ((0 : Nat) : Int) = 0 from rfl] at e1
      simp only [hB, Option.bind_some, toI_int, q, cond_true, e0, toS, hS, hu.2, bne_self_eq_false, cond_false, show (((8 : Nat) : Int) != 8) = false from rfl, e1, if_true, m5]
    · have e0 : d_heap_Heap_Lines (k + 10) (hptr i) (x : Int) σ = _ := Lines_no (k + 6) h hxl hu
      have hS : d_heap_Heap_State (k + 10) (hptr i) (x : Int) σ = _ := State_to (k + 7) h hxl
      obtain ⟨τ2, e2⟩ := Hl_l0 k hk hI hI2 h0 n (x + 1) f σ h (by omega) (by omega)
      refine ⟨τ2, ?_⟩
      have hne : ((m.bls.getD x (0, 0)).1 != 1) = true := by
        rw [bne_iff_ne]
        intro e
        rcases Nat.eq_zero_or_pos x with rfl | hp
        · rw [h0] at e; exact absurd e (by decide)
        · exact hu ⟨hp, e⟩
      rw [← e2, d_law02_HeapLines_l0]
      simp only [hB, Option.bind_some, toI_int, q, cond_true, e0, toS, hS, hne, show decide (((0 : Nat) : Int) > 0) = false from rfl, cond_false, m5]

theorem HeapLines_to (k : Nat) (hk : 1000000 ≤ k) (b : Int) (p : Option Addr) (c2 : Nat) (l : List ActV) (hok : ∀ x ∈ l, x.ok) (σ : AMem) (hA : ActsAt σ p l) (hp : l ≠ [] → ∀ a, p = some a → a.block < σ.length) :
    ∃ σ', law02_HeapLines (k + 15) b (p, l.length, c2) σ = some (.bool true, σ') := by
  rw [law02_HeapLines_is, d_law02_HeapLines]
  rcases Made_to k (by omega) b p c2 l hok hA hp with ⟨_, hM⟩ | ⟨σ1, i, m, hmm, hM, h1, hI, hI2, k1, hid, hb60, hb12, _⟩
  · simp only [hM, Option.bind_some, toP, eqA_ptrs ⟨0, 0, none⟩, cond_true, alive_to, toB_bool]
    exact ⟨_, rfl⟩
  obtain ⟨τ, e⟩ := Hl_l0 (k + 4) (by omega) hI hI2 (B0.made hmm) m.bls.length 0 (k + 14) σ1 h1 (by omega) (by omega)
  have e' : d_law02_HeapLines_l0 (k + 14) (k + 14) (hptr i) 0 σ1 = _ := e
  simp only [hM, Option.bind_some, toP, eqA_ptrs, cond_false, e', if_true, alive_to, toB_bool]
  exact ⟨_, rfl⟩

end Go.Proofs.Ytdlihdgoobcoaaa
