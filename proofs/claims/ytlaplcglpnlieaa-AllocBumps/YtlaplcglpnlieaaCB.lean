/-
  Lists of addresses: between, Objects, All.
-/
import Derived.Test.YtlaplcglpnlieaaCH
set_option linter.unusedVariables false
set_option linter.unusedSimpArgs false
namespace Go.Proofs.Ytlaplcglpnlieaa
open Go Go.AX
noncomputable local instance qCB : Quiet := fullQuiet
local instance nCB : Kn := ⟨true⟩

theorem sz3 : szOf P ty_int = some 1 := by kernel_rfl
theorem by3 : bytesOf P ty_int = some 8 := by kernel_rfl
theorem zz3 : zerosOf P ty_int = some (.int .i64 0) := by kernel_rfl

/-- A slice of ints in memory that lies behind some place; nil if there are none. -/
def IntsAt (lo : Nat) (σ : AMem) (s : SlV) (l : List Int) : Prop :=
  (l = [] ∧ s = (none, 0, 0)) ∨ ∃ b, lo ≤ b ∧ s = (some ⟨b, 0, none⟩, l.length, l.length) ∧ l ≠ [] ∧ σ[b]? = some (.cells (inRow l) ty_int true)

theorem inRow_length (l : List Int) : (inRow l).length = l.length := by simp [inRow]
theorem inRow_append (l l' : List Int) : inRow (l ++ l') = inRow l ++ inRow l' := by simp [inRow]

theorem IntsAt.app {lo : Nat} {σ : AMem} {s : SlV} {l : List Int} (τ : AMem) (h : IntsAt lo σ s l) : IntsAt lo (σ ++ τ) s l := by
  rcases h with h | ⟨b, h1, h2, h3, h4⟩
  · exact .inl h
  · exact .inr ⟨b, h1, h2, h3, by rw [List.getElem?_append_left (getElem?_lt h4), h4]⟩

theorem IntsAt.ld {lo : Nat} {σ : AMem} {b c c' : Nat} {l : List Int} (h : IntsAt lo σ (some ⟨b, 0, none⟩, c, c') l) {j : Nat} (hj : j < l.length) : ldI .i64 σ b j = some (l.getD j 0) := by
  rcases h with ⟨_, h⟩ | ⟨b', _, h2, _, h4⟩
  · cases h
  · cases h2
    simp [ldI, ld1, h4, inRow, toI, List.getElem?_eq_getElem hj]
theorem IntsAt.len {lo : Nat} {σ : AMem} {s : SlV} {l : List Int} (h : IntsAt lo σ s l) : s.2.1 = l.length := by
  rcases h with ⟨rfl, rfl⟩ | ⟨b', _, rfl, _, _⟩ <;> rfl

theorem append_to (σ τ : AMem) (s : SlV) (l : List Int) (x : Int) (h : Nat) (hl : l.length ≤ 10000) (hs : IntsAt σ.length (σ ++ τ) s l) (hx : ∃ T rw, (σ ++ τ)[h]? = some (.cells [.int .i64 x] T rw)) :
    ∃ s' τ', appendD P ty_int s (some ⟨h, 0, none⟩, 1, 1) (σ ++ τ) = some (s', σ ++ τ') ∧ IntsAt σ.length (σ ++ τ') s' (l ++ [x]) := by
  obtain ⟨T, rw', hx⟩ := hx
  have hf : firstA (σ ++ τ) 1 (some ⟨h, 0, none⟩) 1 = some [.int .i64 x] := by simp [firstA, ldN, hx]
  unfold appendD appendA
  simp only [sz3, by3, zz3, Option.bind_some, hf]
  have hz : (¬ (isTup (.int .i64 0) = false ∧ some 1 = some (Value.cells (.int .i64 0)).size ∧ 0 < (Value.cells (.int .i64 0)).size)) = False := by simp [isTup, Value.cells]
  simp only [hz, if_false]
  rcases hs with ⟨rfl, rfl⟩ | ⟨b, hb, rfl, hne, hcell⟩
  · have r : roomOk (0 + 1) 8 ∧ 0 < 8 := by unfold roomOk; decide
    simp only [show ¬ (0 + 1 ≤ 0) from by decide, if_false, r, and_self, if_true, fixedB, cond_true, slK]
    refine ⟨_, τ ++ [.cells [.int .i64 x] ty_int true], by rw [← List.append_assoc]; rfl, .inr ⟨(σ ++ τ).length, by simp, rfl, by simp, ?_⟩⟩
    rw [← List.append_assoc]; simp [inRow]
  · have r : roomOk (l.length + 1) 8 ∧ 0 < 8 := by
      unfold roomOk
      refine ⟨⟨?_, ?_⟩, by decide⟩ <;> omega
    have hb2 := getElem?_lt hcell
    have e1 : elemAt (σ ++ τ) b = some 3 := by simp [elemAt, hcell]
    have e2 : ldN (σ ++ τ) b 0 (l.length * 1) = some (inRow l) := by
      simp only [ldN, hcell, inRow_length, Nat.mul_one, Nat.zero_add, Nat.le_refl, if_true, List.drop_zero]
      rw [List.take_of_length_le (by rw [inRow_length]; exact Nat.le_refl _)]
    have e3 : writableB (σ ++ τ) b = true := by simp [writableB, hcell]
    simp only [show ¬ (l.length + 1 ≤ l.length) from by omega, if_false, r, and_self, if_true, fixedB, Option.isSome_none, cond_false, Option.bind_some, e1, e2, e3, cond_true, slK]
    have hset : (σ ++ τ).set b .dead = σ ++ τ.set (b - σ.length) .dead := by
      rw [List.set_append_right _ _ hb]
    refine ⟨_, τ.set (b - σ.length) .dead ++ [.cells (inRow l ++ [.int .i64 x]) ty_int true], by rw [hset, ← List.append_assoc], .inr ⟨(σ ++ τ).length, by simp, by simp, by simp, ?_⟩⟩
    rw [← List.append_assoc, inRow_append]
    have : (σ ++ τ).length = (σ ++ τ.set (b - σ.length) .dead).length := by simp
    rw [this]; simp [inRow]

variable {σ : AMem} {i : HIds} {m : HM}

/-- The addresses of the objects that begin at pairs from some one on, below an address. -/
def listM (m : HM) (hi : Nat) : Nat → Nat → List Int
  | 0, _ => []
  | f + 1, j => match nextT (tget 1 m.stw) (32 * m.bls.length) 1 j with
    | none => []
    | some j' => if 2 * j' < hi then ((2 * j' : Nat) : Int) :: listM m hi f (j' + 1) else []

theorem between_l0_to (k : Nat) (hk : 5000 ≤ k) (h : HeapAt σ i m) (hi : Nat) : ∀ (f : Nat) (n5 : Option Nat) (τ : AMem) (s : SlV) (l : List Int), (match n5 with | none => True | some j => l.length ≤ j) → IntsAt σ.length (σ ++ τ) s l → (∀ j, n5 = some j → j < 32 * m.bls.length) →
    (match n5 with | none => 0 | some j => 32 * m.bls.length - j) < f + 1 →
    ∃ τ' s', d_heap_Heap_between_l0 (k + 4) (f + 1) (hptr i) (hi : Int) s (match n5 with | none => 0 | some j => (j : Int)) (match n5 with | none => 4 | some j => 0) (σ ++ τ) = some (.exit 0, [.slice s'.1 s'.2.1 s'.2.2], σ ++ τ') ∧
      IntsAt σ.length (σ ++ τ') s' (l ++ (match n5 with | none => [] | some j => if 2 * j < hi then ((2 * j : Nat) : Int) :: listM m hi f (j + 1) else [])) := by
  have ht := h.nt
  intro f
  induction f with
  | zero =>
    intro n5 τ s l hl hs hj hf
    cases n5 with
    | none =>
      refine ⟨τ, s, ?_, by simpa using hs⟩
      rw [d_heap_Heap_between_l0_eq, b_heap_Heap_between_l0]
      rfl
    | some j =>
      have := hj j rfl
      simp only at hf
      omega
  | succ f ih =>
    intro n5 τ s l hl hs hj hf
    cases n5 with
    | none =>
      refine ⟨τ, s, ?_, by simpa using hs⟩
      rw [d_heap_Heap_between_l0_eq, b_heap_Heap_between_l0]
      rfl
    | some j =>
      have hjl := hj j rfl
      obtain ⟨sa, sl, sc⟩ := s
      have e1 : w64 (2 * (j : Int)) = ((2 * j : Nat) : Int) := w64_in (by unfold inI; omega)
      have e2 : w64 ((j : Int) + 1) = ((j + 1 : Nat) : Int) := w64_in (by unfold inI; omega)
      rw [d_heap_Heap_between_l0_eq, b_heap_Heap_between_l0]
      simp only [BEq.rfl, cond_true, e1, e2, Option.bind_some]
      by_cases hlt : 2 * j < hi
      · have q : decide (((2 * j : Nat) : Int) < (hi : Int)) = true := by simp; omega
        obtain ⟨s1, τ1, ha, hs1⟩ := append_to σ (τ ++ [.cells [.int .i64 ((2 * j : Nat) : Int)] ty_int true]) (sa, sl, sc) l ((2 * j : Nat) : Int) (σ ++ τ).length (by simp only at hl; omega) (by rw [← List.append_assoc]; exact hs.app _) ⟨3, true, by rw [← List.append_assoc]; simp⟩
        rw [← List.append_assoc] at ha
        have hn := Next_to (k + 1) (by omega) (h.app τ1).st ((j + 1 : Nat) : Int) 1 (by omega)
        rw [Int.toNat_natCast] at hn
        have hn' : d_side_Table_Next (k + 4) (some ⟨i.st, 0, none⟩) ((j + 1 : Nat) : Int) 1 (σ ++ τ1) = _ := hn
        simp only [q, cond_true, allocK, ha, Option.bind_some, Nat.zero_add, (h.app τ1).ld2, hn', hlt, if_true]
        cases hq : nextT (tget 1 m.stw) (32 * m.bls.length) 1 (j + 1) with
        | none =>
          obtain ⟨τ', s', g1, g2⟩ := ih none τ1 s1 (l ++ [((2 * j : Nat) : Int)]) trivial hs1 (fun _ h => by cases h) (by simp)
          refine ⟨τ', s', ?_, ?_⟩
          · simp only [r_ii_eq]; exact g1
          · rw [listM, hq]; simpa using g2
        | some j' =>
          obtain ⟨p1, p2, _, _⟩ := nextT_some hq
          obtain ⟨τ', s', g1, g2⟩ := ih (some j') τ1 s1 (l ++ [((2 * j : Nat) : Int)]) (by simp only [List.length_append, List.length_cons, List.length_nil] at hl ⊢; omega) hs1 (fun _ h => by cases h; exact p2) (by simp only at hf ⊢; omega)
          refine ⟨τ', s', ?_, ?_⟩
          · simp only [r_ii_eq]; exact g1
          · rw [listM, hq]; simpa using g2
      · have q : decide (((2 * j : Nat) : Int) < (hi : Int)) = false := by simp; omega
        refine ⟨τ, (sa, sl, sc), ?_, by simpa [hlt] using hs⟩
        simp only [q, cond_false]

/-- The pairs at which objects begin, from one pair up to another. -/
def starts (m : HM) (lo n : Nat) : List Nat := (List.range' lo n).filter fun j => decide (tget 1 m.stw j = 1)
def addrs (l : List Nat) : List Int := l.map fun j => ((2 * j : Nat) : Int)

theorem listM_eq (m : HM) (H : Nat) (hH : H ≤ 32 * m.bls.length) : ∀ (n f j : Nat), j + n = H → 32 * m.bls.length - j ≤ f → listM m (2 * H) f j = addrs (starts m j n)
  | 0, 0, j, h1, h2 => rfl
  | 0, f + 1, j, h1, h2 => by
    rw [listM]
    cases hq : nextT (tget 1 m.stw) (32 * m.bls.length) 1 j with
    | none => rfl
    | some j' =>
      obtain ⟨p1, _⟩ := nextT_some hq
      simp only [show ¬ 2 * j' < 2 * H from by omega, if_false]
      rfl
  | n + 1, 0, j, h1, h2 => by omega
  | n + 1, f + 1, j, h1, h2 => by
    have hj : j < 32 * m.bls.length := by omega
    unfold starts
    rw [List.range'_succ, List.filter_cons]
    by_cases hg : tget 1 m.stw j = 1
    · rw [listM, nextT, dif_pos hj, if_pos hg]
      simp only [show 2 * j < 2 * H from by omega, if_true, hg, decide_true]
      rw [listM_eq m H hH n f (j + 1) (by omega) (by omega)]
      rfl
    · have e1 : listM m (2 * H) (f + 1) j = listM m (2 * H) (f + 1) (j + 1) := by
        rw [listM, listM, nextT, dif_pos hj, if_neg hg]
      rw [e1, listM_eq m H hH n (f + 1) (j + 1) (by omega) (by omega)]
      simp only [hg, decide_false, Bool.false_eq_true, if_false]
      rfl

theorem between_to (k : Nat) (hk : 5000 ≤ k) (h : HeapAt σ i m) (lo n : Nat) (hn : lo + n ≤ 32 * m.bls.length) : ∃ τ s, d_heap_Heap_between (k + 5) (hptr i) ((2 * lo : Nat) : Int) ((2 * (lo + n) : Nat) : Int) σ = some (.slice s.1 s.2.1 s.2.2, σ ++ τ) ∧ IntsAt σ.length (σ ++ τ) s (addrs (starts m lo n)) := by
  have ht := h.nt
  have t1 : ((2 * lo : Nat) : Int).tdiv 2 = (lo : Int) := by
    rw [show ((2 * lo : Nat) : Int).tdiv 2 = (((2 * lo) / 2 : Nat) : Int) from rfl]; omega
  have e1 : w64 (lo : Int) = (lo : Int) := w64_in (by unfold inI; omega)
  have hN := Next_to (k + 1) (by omega) h.st (lo : Int) 1 (by omega)
  rw [Int.toNat_natCast] at hN
  have hN' : d_side_Table_Next (k + 4) (some ⟨i.st, 0, none⟩) (lo : Int) 1 σ = _ := hN
  rw [d_heap_Heap_between_eq, b_heap_Heap_between]
  simp only [Option.bind_some, Nat.zero_add, h.ld2, t1, e1, show ((2 : Int) = 0) = False from by simp, if_false, hN']
  have hlist : listM m (2 * (lo + n)) (k + 4) lo = addrs (starts m lo n) := listM_eq m (lo + n) hn n (k + 4) lo rfl (by omega)
  cases hq : nextT (tget 1 m.stw) (32 * m.bls.length) 1 lo with
  | none =>
    obtain ⟨τ', s', g1, g2⟩ := between_l0_to k hk h (2 * (lo + n)) (k + 3) none [] (none, 0, 0) [] trivial (.inl ⟨rfl, rfl⟩) (fun _ h => by cases h) (by simp)
    rw [List.append_nil] at g1
    refine ⟨τ', s', ?_, ?_⟩
    · simp only [r_ii_eq]
      rw [show d_heap_Heap_between_l0 (k + 4) (k + 4) (hptr i) ((2 * (lo + n) : Nat) : Int) (none, 0, 0) 0 4 σ = _ from g1]
      simp only [Option.bind_some, if_true, u_l_eq]
    · rw [← hlist, listM, hq]; simpa using g2
  | some j =>
    obtain ⟨p1, p2, _, _⟩ := nextT_some hq
    obtain ⟨τ', s', g1, g2⟩ := between_l0_to k hk h (2 * (lo + n)) (k + 3) (some j) [] (none, 0, 0) [] (by simp) (.inl ⟨rfl, rfl⟩) (fun _ h => by cases h; exact p2) (by simp only; omega)
    rw [List.append_nil] at g1
    refine ⟨τ', s', ?_, ?_⟩
    · simp only [r_ii_eq]
      rw [show d_heap_Heap_between_l0 (k + 4) (k + 4) (hptr i) ((2 * (lo + n) : Nat) : Int) (none, 0, 0) (j : Int) 0 σ = _ from g1]
      simp only [Option.bind_some, if_true, u_l_eq]
    · rw [← hlist, listM, hq]; simpa using g2

theorem Objects_to (k : Nat) (hk : 5000 ≤ k) (h : HeapAt σ i m) {b : Nat} (hb : b < m.bls.length) : ∃ τ s, d_heap_Heap_Objects (k + 6) (hptr i) (b : Int) σ = some (.slice s.1 s.2.1 s.2.2, σ ++ τ) ∧ IntsAt σ.length (σ ++ τ) s (addrs (starts m (32 * b) 32)) := by
  have ht := h.nt
  obtain ⟨τ, s, g1, g2⟩ := between_to k hk h (32 * b) 32 (by omega)
  refine ⟨τ, s, ?_, g2⟩
  have e1 : w64 ((b : Int) * 64) = ((2 * (32 * b) : Nat) : Int) := by rw [w64_in (by unfold inI; omega)]; omega
  have e2 : w64 ((b : Int) + 1) = ((b + 1 : Nat) : Int) := w64_in (by unfold inI; omega)
  have e3 : w64 (((b + 1 : Nat) : Int) * 64) = ((2 * (32 * b + 32) : Nat) : Int) := by rw [w64_in (by unfold inI; omega)]; omega
  rw [d_heap_Heap_Objects_eq, b_heap_Heap_Objects]
  have q1 : decide ((b : Int) < 0) = false := by simp
  have q2 : decide ((b : Int) ≥ ((m.bls.length : Nat) : Int)) = false := by simp; omega
  simp only [hmade_to _ h, Option.bind_some, toB_bool, Bool.not_true, cond_false, q1, Nat.zero_add, h.ld0, q2, e1, e2, e3, g1, toS]

end Go.Proofs.Ytlaplcglpnlieaa
