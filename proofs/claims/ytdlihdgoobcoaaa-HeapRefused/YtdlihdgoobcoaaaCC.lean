/-
  Claim, ClaimLarge, Release, Retag.
-/
import Derived.Test.YtdlihdgoobcoaaaCV
set_option linter.unusedVariables false
set_option linter.unusedSimpArgs false
namespace Go.Proofs.Ytdlihdgoobcoaaa
open Go Go.AX
noncomputable local instance : Quiet := fullQuiet
variable {σ : AMem} {i : HIds} {m : HM}

theorem Inv.blocks (h : Inv m) (l : List (Int × Int)) (hl : l.length = m.bls.length) : Inv { m with bls := l } := by
  have hs : ∀ j, Start { m with bls := l } j ↔ Start m j := fun j => by unfold Start; simp only [hl]
  exact ⟨fun j hj => h.good j ((hs j).1 hj), fun j hj => h.fit j ((hs j).1 hj), fun j j' h1 h2 => h.apart j j' ((hs j).1 h1) ((hs j').1 h2), fun j hj => h.idn j ((hs j).1 hj), fun id a e => by
    obtain ⟨j, e1, e2, e3⟩ := h.plc id a e
    exact ⟨j, e1, (hs j).2 e2, e3⟩, h.brt, h.onc⟩

theorem blRow_set : ∀ (l : List (Int × Int)) (b : Nat) (x y : Int), b < l.length → blRow (l.set b (x, y)) = setRange (blRow l) (b * 2) [.int .i64 x, .int .i64 y]
  | [], _, _, _, h => by simp at h
  | e :: l, 0, x, y, h => by simp [blRow, setRange]
  | e :: l, b + 1, x, y, h => by
    have ih := blRow_set l b x y (by simpa using h)
    have e1 : (b + 1) * 2 = b * 2 + 1 + 1 := by omega
    simp only [List.set_cons_succ, blRow, ih, e1, setRange, List.take_succ_cons, List.drop_succ_cons, List.cons_append, List.length_cons, List.length_nil]

theorem HeapAt.stB (h : HeapAt σ i m) {b : Nat} (hb : b < m.bls.length) (x y : Int) : stN σ i.bl (b * 2) [.int .i64 x, .int .i64 y] = some (σ.set i.bl (.cells (blRow (m.bls.set b (x, y))) el_heap_Heap_blocks true)) ∧
    HeapAt (σ.set i.bl (.cells (blRow (m.bls.set b (x, y))) el_heap_Heap_blocks true)) i { m with bls := m.bls.set b (x, y) } := by
  refine ⟨?_, h.setBl _ (by simp)⟩
  have : b * 2 + 2 ≤ (blRow m.bls).length := by rw [blRow_length]; omega
  simp only [stN, h.bl, List.length_cons, List.length_nil, Nat.zero_add, Nat.reduceAdd, this, if_true, blRow_set _ _ _ _ hb]

theorem blRow_tag (l : List (Int × Int)) (b : Nat) (y : Int) (hb : b < l.length) : (blRow l).set (b * 2 + 1) (.int .i64 y) = blRow (l.set b ((l.getD b (0, 0)).1, y)) := by
  rw [blRow_set _ _ _ _ hb]
  have h1 := (blRow_get l b hb).1
  rw [Nat.mul_comm] at h1
  have hlen := blRow_length l
  apply List.ext_getElem?
  intro n
  rw [List.getElem?_set]
  unfold setRange
  have ht : ((blRow l).take (b * 2)).length = b * 2 := by simp; omega
  rcases Nat.lt_or_ge n (b * 2) with hn | hn
  · rw [if_neg (by omega), List.append_assoc, List.getElem?_append_left (by rw [ht]; exact hn), List.getElem?_take, if_pos hn]
  · rw [List.append_assoc, List.getElem?_append_right (by rw [ht]; exact hn), ht]
    rcases Nat.eq_or_lt_of_le hn with rfl | hn1
    · rw [if_neg (by omega), Nat.sub_self, h1]; rfl
    · rcases Nat.eq_or_lt_of_le hn1 with rfl | hn2
      · rw [if_pos rfl, if_pos (by omega)]
        rw [show b * 2 + 1 - b * 2 = 1 from by omega]; rfl
      · rw [if_neg (by omega)]
        obtain ⟨q, rfl⟩ : ∃ q, n = b * 2 + 2 + q := ⟨n - (b * 2 + 2), by omega⟩
        rw [show b * 2 + 2 + q - b * 2 = q + 1 + 1 from by omega]
        simp [List.getElem?_drop]

theorem HeapAt.stT (h : HeapAt σ i m) {b : Nat} (hb : b < m.bls.length) (y : Int) : AX.st1 σ i.bl (b * 2 + 1) (.int .i64 y) = some (σ.set i.bl (.cells (blRow (m.bls.set b ((m.bls.getD b (0, 0)).1, y))) el_heap_Heap_blocks true)) ∧
    HeapAt (σ.set i.bl (.cells (blRow (m.bls.set b ((m.bls.getD b (0, 0)).1, y))) el_heap_Heap_blocks true)) i { m with bls := m.bls.set b ((m.bls.getD b (0, 0)).1, y) } := by
  refine ⟨?_, h.setBl _ (by simp)⟩
  have : b * 2 + 1 < (blRow m.bls).length := by rw [blRow_length]; omega
  simp only [AX.st1, h.bl, this, if_true, blRow_tag _ _ _ hb]

/-- Blocks from one on, made free from the last to the first. -/
def relM (l : List (Int × Int)) (b : Nat) : Nat → List (Int × Int)
  | 0 => l
  | n + 1 => relM (l.set (b + n) (0, 0)) b n
def tagM (l : List (Int × Int)) (b : Nat) (y : Int) : Nat → List (Int × Int)
  | 0 => l
  | n + 1 => tagM (l.set (b + n) ((l.getD (b + n) (0, 0)).1, y)) b y n
theorem relM_length (b : Nat) : ∀ (n : Nat) (l : List (Int × Int)), (relM l b n).length = l.length
  | 0, l => rfl
  | n + 1, l => by rw [relM, relM_length b n]; simp
theorem tagM_length (b : Nat) (y : Int) : ∀ (n : Nat) (l : List (Int × Int)), (tagM l b y n).length = l.length
  | 0, l => rfl
  | n + 1, l => by rw [tagM, tagM_length b y n]; simp

theorem Release_l0_to (k : Nat) {b : Nat} : ∀ (n f : Nat) (σ : AMem) (m : HM), HeapAt σ i m → b + n ≤ m.bls.length → n < f → ∃ σ', d_heap_Heap_Release_l0 k f (hptr i) (b : Int) (n : Int) σ = some (.exit 0, [], σ') ∧ HeapAt σ' i { m with bls := relM m.bls b n } ∧ Keeps i σ σ'
  | 0, 0, σ, m, h, hb, hf => by omega
  | 0, f + 1, σ, m, h, hb, hf => by
    rw [d_heap_Heap_Release_l0]
    exact ⟨σ, rfl, h, Keeps.refl _ _⟩
  | n + 1, 0, σ, m, h, hb, hf => by omega
  | n + 1, f + 1, σ, m, h, hb, hf => by
    have ht := h.nt
    obtain ⟨e1, h1⟩ := h.stB (b := b + n) (by omega) 0 0
    obtain ⟨σ', e2, h2, k2⟩ := Release_l0_to k n f _ _ h1 (by show b + n ≤ (m.bls.set _ _).length; rw [List.length_set]; omega) (by omega)
    refine ⟨σ', ?_, h2, (Keeps.set _ _ (by simp [HIds.l])).trans k2⟩
    rw [d_heap_Heap_Release_l0]
    have q : decide (((n + 1 : Nat) : Int) > 0) = true := decide_eq_true (by omega)
    have w1 : w64 ((b : Int) + ((n + 1 : Nat) : Int)) = ((b + n + 1 : Nat) : Int) := by rw [w64_in (by unfold inI; omega)]; omega
    have w2 : w64 (((b + n + 1 : Nat) : Int) - 1) = ((b + n : Nat) : Int) := by rw [w64_in (by unfold inI; omega)]; omega
    have w3 : w64 (((n + 1 : Nat) : Int) - 1) = (n : Int) := by rw [w64_in (by unfold inI; omega)]; omega
    simp only [q, cond_true, Option.bind_some, Nat.add_zero, h.ld0, w1, w2, w3]
    rw [if_pos (by omega)]
    simp only [Option.bind_some, Nat.zero_add, Int.toNat_natCast, e1]
    exact e2

theorem Retag_l0_to (k : Nat) {b : Nat} (y : Int) : ∀ (n f : Nat) (σ : AMem) (m : HM), HeapAt σ i m → b + n ≤ m.bls.length → n < f → ∃ σ', d_heap_Heap_Retag_l0 k f (hptr i) (b : Int) y (n : Int) σ = some (.exit 0, [], σ') ∧ HeapAt σ' i { m with bls := tagM m.bls b y n } ∧ Keeps i σ σ'
  | 0, 0, σ, m, h, hb, hf => by omega
  | 0, f + 1, σ, m, h, hb, hf => by
    rw [d_heap_Heap_Retag_l0]
    exact ⟨σ, rfl, h, Keeps.refl _ _⟩
  | n + 1, 0, σ, m, h, hb, hf => by omega
  | n + 1, f + 1, σ, m, h, hb, hf => by
    have ht := h.nt
    obtain ⟨e1, h1⟩ := h.stT (b := b + n) (by omega) y
    obtain ⟨σ', e2, h2, k2⟩ := Retag_l0_to k y n f _ _ h1 (by show b + n ≤ (m.bls.set _ _).length; rw [List.length_set]; omega) (by omega)
    refine ⟨σ', ?_, h2, (Keeps.set _ _ (by simp [HIds.l])).trans k2⟩
    rw [d_heap_Heap_Retag_l0]
    have q : decide (((n + 1 : Nat) : Int) > 0) = true := decide_eq_true (by omega)
    have w1 : w64 ((b : Int) + ((n + 1 : Nat) : Int)) = ((b + n + 1 : Nat) : Int) := by rw [w64_in (by unfold inI; omega)]; omega
    have w2 : w64 (((b + n + 1 : Nat) : Int) - 1) = ((b + n : Nat) : Int) := by rw [w64_in (by unfold inI; omega)]; omega
    have w3 : w64 (((n + 1 : Nat) : Int) - 1) = (n : Int) := by rw [w64_in (by unfold inI; omega)]; omega
    simp only [q, cond_true, Option.bind_some, Nat.add_zero, h.ld0, w1, w2, w3]
    rw [if_pos (by omega)]
    simp only [Option.bind_some, Nat.zero_add, Int.toNat_natCast, e1]
    exact e2

theorem there_h (k : Nat) (h : HeapAt σ i m) (b : Int) : d_heap_Heap_there (k + 2) (hptr i) b σ = some (.bool (decide (1 ≤ b ∧ b < (m.bls.length : Int))), σ) := by
  rw [d_heap_Heap_there]
  simp only [hmade_to _ h, Option.bind_some, toB_bool, cond_true]
  by_cases h0 : 1 ≤ b
  · simp only [show decide (b ≥ 1) = true from by simpa using h0, cond_true, Nat.zero_add, Option.bind_some, h.ld0]
    simp [h0]
  · simp only [show decide (b ≥ 1) = false from by simpa using h0, cond_false, Option.bind_some]
    simp [h0]

/-- held: why a block is neither used nor a head. -/
def heldM (m : HM) (b : Int) (ok : Bool) : Int :=
  if ¬ (1 ≤ b ∧ b < (m.bls.length : Int)) ∨ ok = false then 1
  else if (m.bls.getD b.toNat (0, 0)).1 ≠ 1 ∧ (m.bls.getD b.toNat (0, 0)).1 ≠ 2 then 5 else 0

theorem held_to (k : Nat) (h : HeapAt σ i m) (b : Int) (ok : Bool) : d_heap_Heap_held (k + 3) (hptr i) b ok σ = some (.int .i64 (heldM m b ok), σ) := by
  rw [d_heap_Heap_held]
  simp only [hmade_to _ h, there_h _ h, Option.bind_some, toB_bool, Bool.not_true, cond_false]
  unfold heldM
  by_cases h0 : 1 ≤ b ∧ b < (m.bls.length : Int)
  rotate_left
  · simp [h0]
  obtain ⟨n, rfl⟩ : ∃ n : Nat, b = (n : Int) := ⟨b.toNat, by omega⟩
  have hn : n < m.bls.length := by omega
  have q0 : decide (1 ≤ (n : Int) ∧ (n : Int) < (m.bls.length : Int)) = true := decide_eq_true h0
  simp only [q0, Bool.not_true, cond_false, Option.bind_some]
  cases ok with
  | false => simp
  | true =>
    have q1 : (¬ (1 ≤ (n : Int) ∧ (n : Int) < (m.bls.length : Int)) ∨ true = false) = False := eq_false (by simp; omega)
    simp only [Bool.not_true, cond_false, Nat.zero_add, Nat.add_zero, h.ld0, Option.bind_some, q1, if_false]
    rw [if_pos (show 0 ≤ (n : Int) ∧ (n : Int) < ((m.bls.length : Nat) : Int) by omega)]
    simp only [Option.bind_some, Int.toNat_natCast, Nat.zero_add, (h.ldB hn).1]
    by_cases g1 : (m.bls.getD n (0, 0)).1 = 1
    · simp only [g1, bne_self_eq_false, cond_false, Option.bind_some, ne_eq, not_true_eq_false, false_and, if_false]
    · have p1 : ((m.bls.getD n (0, 0)).1 != 1) = true := bne_iff_ne.2 g1
      simp only [p1, cond_true]
      rw [if_pos (show 0 ≤ (n : Int) ∧ (n : Int) < ((m.bls.length : Nat) : Int) by omega)]
      simp only [Option.bind_some, (h.ldB hn).1]
      by_cases g2 : (m.bls.getD n (0, 0)).1 = 2
      · simp only [g2, bne_self_eq_false, cond_false, ne_eq, not_true_eq_false, and_false, if_false]
      · have p2 : ((m.bls.getD n (0, 0)).1 != 2) = true := bne_iff_ne.2 g2
        simp only [p2, cond_true, ne_eq, g1, g2, not_false_eq_true, and_self, if_true]

theorem heldM_zero {b : Int} {ok : Bool} (h : heldM m b ok = 0) : ∃ n : Nat, b = (n : Int) ∧ 1 ≤ n ∧ n < m.bls.length ∧ ok = true := by
  unfold heldM at h
  split at h
  · cases h
  · rename_i h0
    refine ⟨b.toNat, ?_, ?_, ?_, ?_⟩
    · omega
    · omega
    · omega
    · cases ok <;> simp at h0 ⊢

theorem spanF_le {b : Nat} (hb : b < m.bls.length) : b + spanF m b ≤ m.bls.length := spanM_le m b _ 1 (by omega)

def okSp (y : Int) : Bool := decide (0 ≤ y ∧ y < 8)
theorem space_to (k : Nat) (y : Int) (σ : AMem) : d_heap_space (k + 1) y σ = some (.bool (okSp y), σ) := by
  rw [d_heap_space]
  unfold okSp
  by_cases h0 : 0 ≤ y <;> simp [h0]

def retagR (m : HM) (b y : Int) : Int × HM :=
  if heldM m b (okSp y) = 0 then (0, { m with bls := tagM m.bls b.toNat y (spanF m b.toNat) }) else (heldM m b (okSp y), m)
def releaseR (m : HM) (b : Int) : Int × HM :=
  if heldM m b true = 0 then (if starts m (32 * b.toNat) 32 = [] then (0, { m with bls := relM m.bls b.toNat (spanF m b.toNat) }) else (8, m)) else (heldM m b true, m)

theorem Retag_goes (k : Nat) (hk : 5000 ≤ k) (h : HeapAt σ i m) (b y : Int) : Goes (d_heap_Heap_Retag (k + 5) (hptr i) b y σ) σ i (retagR m b y) := by
  have ht := h.nt
  have hsp := space_to (k + 3) y σ
  unfold retagR
  generalize okSp y = ok at hsp ⊢
  rw [d_heap_Heap_Retag]
  simp only [hsp, Option.bind_some, toB_bool, held_to (k + 1) h b ok, toI_int]
  by_cases hc : heldM m b ok = 0
  rotate_left
  · have q : (heldM m b ok != 0) = true := bne_iff_ne.2 hc
    simp only [q, cond_true]
    exact Goes.same h [] (by rw [List.append_nil]) (if_neg hc)
  rw [if_pos hc]
  obtain ⟨n, rfl, h1, h2, rfl⟩ := heldM_zero hc
  obtain ⟨σ', e, h3, k3⟩ := Retag_l0_to (k + 4) (b := n) y (spanF m n) (k + 4) σ m h (spanF_le h2) (by have := spanF_le h2; omega)
  simp only [hc, bne_self_eq_false, cond_false, span_to (k + 3) (by omega) h h2, Option.bind_some, toI_int, e, if_true]
  exact ⟨σ', rfl, h3, k3⟩

theorem Release_goes (k : Nat) (hk : 5000 ≤ k) (h : HeapAt σ i m) (b : Int) : Goes (d_heap_Heap_Release (k + 7) (hptr i) b σ) σ i (releaseR m b) := by
  unfold releaseR
  have ht := h.nt
  rw [d_heap_Heap_Release]
  simp only [held_to (k + 3) h b true, Option.bind_some, toI_int]
  by_cases hc : heldM m b true = 0
  rotate_left
  · have q : (heldM m b true != 0) = true := bne_iff_ne.2 hc
    simp only [q, cond_true]
    exact Goes.same h [] (by rw [List.append_nil]) (if_neg hc)
  rw [if_pos hc]
  obtain ⟨n, rfl, h1, h2, _⟩ := heldM_zero hc
  rw [Int.toNat_natCast]
  obtain ⟨τ, s, e1, e2⟩ := Objects_to k hk h h2
  simp only [hc, bne_self_eq_false, cond_false, e1, Option.bind_some, toS]
  by_cases hl : ((s.2.1 : Nat) : Int) > 0
  · simp only [show decide (((s.2.1 : Nat) : Int) > 0) = true from decide_eq_true hl, cond_true]
    refine Goes.same h τ (code := 8) rfl (if_neg fun he => ?_)
    have hlen := e2.len
    rw [he] at hlen
    simp [addrs] at hlen
    omega
  · have hse : starts m (32 * n) 32 = [] := by
      have hlen := e2.len
      simp [addrs] at hlen
      exact List.length_eq_zero_iff.1 (by omega)
    rw [if_pos hse]
    simp only [show decide (((s.2.1 : Nat) : Int) > 0) = false from decide_eq_false hl, cond_false]
    obtain ⟨σ', e, h3, k3⟩ := Release_l0_to (k + 6) (b := n) (spanF m n) (k + 6) (σ ++ τ) m (h.app τ) (spanF_le h2) (by have := spanF_le h2; omega)
    simp only [span_to (k + 5) (by omega) (h.app τ) h2, Option.bind_some, toI_int, e, if_true]
    exact ⟨σ', rfl, h3, (Keeps.app i σ τ).trans k3⟩

end Go.Proofs.Ytdlihdgoobcoaaa
