/-
  HeapApart: what the law's function comes to.
-/
import Derived.Test.YtdlihdgoobcoaaaCF
set_option linter.unusedVariables false
set_option linter.unusedSimpArgs false
namespace Go.Proofs.Ytdlihdgoobcoaaa
open Go Go.AX
noncomputable local instance : Quiet := fullQuiet
variable {σ : AMem} {i : HIds} {m : HM}

/-- A word of an object. -/
def Own (m : HM) (a : Nat) : Prop := ∃ j, Start m j ∧ 2 * j ≤ a ∧ a < 2 * j + sz m j
def ownB (m : HM) (a : Nat) : Bool := (findM m a).isSome
theorem ownB_iff (hI : Inv m) (a : Nat) : ownB m a = true ↔ Own m a := by
  unfold ownB
  constructor
  · intro h
    obtain ⟨j, hj⟩ := Option.isSome_iff_exists.1 h
    obtain ⟨s1, _, s3, s4⟩ := findM_spec hj
    exact ⟨j, s1, s4, s3⟩
  · rintro ⟨j, h1, h2, h3⟩
    rw [hI.find_some h1 h2 h3]; rfl
def cntO (m : HM) : Nat → Nat → Nat
  | _, 0 => 0
  | a, n + 1 => (if ownB m a then 1 else 0) + cntO m (a + 1) n
theorem cntO_app (m : HM) : ∀ (n a n' : Nat), cntO m a (n + n') = cntO m a n + cntO m (a + n) n'
  | 0, a, n' => by simp [cntO]
  | n + 1, a, n' => by
    rw [show n + 1 + n' = n + n' + 1 from by omega, cntO, cntO, cntO_app m n (a + 1) n', show a + 1 + n = a + (n + 1) from by omega]; omega
theorem cntO_none (hI : Inv m) : ∀ (n a : Nat), (∀ q, a ≤ q → q < a + n → ¬ Own m q) → cntO m a n = 0
  | 0, a, h => rfl
  | n + 1, a, h => by
    rw [cntO, cntO_none hI n (a + 1) (fun q h1 h2 => h q (by omega) (by omega)), if_neg (fun e => h a (Nat.le_refl _) (by omega) ((ownB_iff hI a).1 e))]
theorem cntO_all (hI : Inv m) : ∀ (n a : Nat), (∀ q, a ≤ q → q < a + n → Own m q) → cntO m a n = n
  | 0, a, h => rfl
  | n + 1, a, h => by
    rw [cntO, cntO_all hI n (a + 1) (fun q h1 h2 => h q (by omega) (by omega)), if_pos ((ownB_iff hI a).2 (h a (Nat.le_refl _) (by omega)))]; omega

def sumR : List (Nat × Nat) → Nat
  | [] => 0
  | r :: l => r.2 + sumR l
theorem sumR_app : ∀ l l', sumR (l ++ l') = sumR l + sumR l'
  | [], l' => by simp [sumR]
  | r :: l, l' => by simp [sumR, sumR_app l l']; omega

/-- Runs that rise, apart, of words of no object, up to e. -/
def GoodR (m : HM) (e : Nat) : Nat → List (Nat × Nat) → Prop
  | _, [] => True
  | lo, r :: l => lo ≤ r.1 ∧ 1 ≤ r.2 ∧ r.1 + r.2 ≤ e ∧ (∀ q, r.1 ≤ q → q < r.1 + r.2 → ¬ Own m q) ∧ GoodR m e (r.1 + r.2 + 1) l
theorem GoodR.up {e : Nat} : ∀ {l : List (Nat × Nat)} {lo lo' : Nat}, lo ≤ lo' → GoodR m e lo' l → GoodR m e lo l
  | [], _, _, _, _ => trivial
  | r :: l, lo, lo', h, g => ⟨Nat.le_trans h g.1, g.2⟩

/-- The gaps between objects that lie from a to e. -/
theorem gaps_good (hI : Inv m) {e : Nat} : ∀ (L : List Nat) (a : Nat), a ≤ e → L.Pairwise (· < ·) → (∀ j ∈ L, Start m j ∧ a ≤ 2 * j ∧ 2 * j + sz m j ≤ e) → (∀ j, Start m j → 2 * j + sz m j ≤ a ∨ e ≤ 2 * j ∨ j ∈ L) →
    GoodR m e a ((gapsT m L a).1 ++ gap1 (gapsT m L a).2 e) ∧ sumR ((gapsT m L a).1 ++ gap1 (gapsT m L a).2 e) + cntO m a (e - a) = e - a
  | [], a, hae, hp, hL, hno => by
    have hn : ∀ q, a ≤ q → q < e → ¬ Own m q := by
      rintro q h1 h2 ⟨j, s1, s2, s3⟩
      rcases hno j s1 with h | h | h
      · omega
      · omega
      · cases h
    show GoodR m e a ([] ++ gap1 a e) ∧ sumR ([] ++ gap1 a e) + _ = _
    rw [List.nil_append, cntO_none hI (e - a) a (fun q h1 h2 => hn q h1 (by omega))]
    unfold gap1
    by_cases hc : a < e
    · rw [if_pos hc]
      exact ⟨⟨Nat.le_refl _, by show 1 ≤ e - a; omega, by show a + (e - a) ≤ e; omega, fun q h1 h2 => hn q h1 (by simp only at h2; omega), trivial⟩, by simp [sumR]⟩
    · rw [if_neg hc]
      exact ⟨trivial, by simp [sumR]; omega⟩
  | j :: L, a, hae, hp, hL, hno => by
    obtain ⟨s1, s2, s3⟩ := hL j List.mem_cons_self
    have hz := hI.size s1
    have hp' := List.pairwise_cons.1 hp
    obtain ⟨ih1, ih2⟩ := gaps_good hI L (2 * j + sz m j) s3 hp'.2 (fun j' hj' => by
      obtain ⟨t1, t2, t3⟩ := hL j' (List.mem_cons_of_mem _ hj')
      exact ⟨t1, hI.apart j j' s1 t1 (hp'.1 j' hj'), t3⟩) (fun j' hj' => by
      rcases hno j' hj' with h | h | h
      · left; omega
      · exact .inr (.inl h)
      · rcases List.mem_cons.1 h with rfl | h
        · left; exact Nat.le_refl _
        · exact .inr (.inr h))
    have hn : ∀ q, a ≤ q → q < 2 * j → ¬ Own m q := by
      rintro q h1 h2 ⟨j', t1, t2, t3⟩
      rcases hno j' t1 with h | h | h
      · omega
      · omega
      · rcases List.mem_cons.1 h with rfl | h
        · omega
        · have := hp'.1 j' h; omega
    have ho : ∀ q, 2 * j ≤ q → q < 2 * j + sz m j → Own m q := fun q h1 h2 => ⟨j, s1, h1, h2⟩
    have ec : cntO m a (e - a) = sz m j + cntO m (2 * j + sz m j) (e - (2 * j + sz m j)) := by
      rw [show e - a = (2 * j - a) + (sz m j + (e - (2 * j + sz m j))) from by omega, cntO_app, cntO_app, cntO_none hI _ a (fun q h1 h2 => hn q h1 (by omega)), show a + (2 * j - a) = 2 * j from by omega, cntO_all hI _ (2 * j) ho]
      omega
    show GoodR m e a ((gap1 a (2 * j) ++ (gapsT m L (2 * j + sz m j)).1) ++ gap1 (gapsT m L (2 * j + sz m j)).2 e) ∧ sumR ((gap1 a (2 * j) ++ (gapsT m L (2 * j + sz m j)).1) ++ gap1 (gapsT m L (2 * j + sz m j)).2 e) + _ = _
    rw [List.append_assoc, sumR_app, ec]
    unfold gap1 at ih1 ih2 ⊢
    by_cases hc : a < 2 * j
    · rw [if_pos hc]
      refine ⟨⟨Nat.le_refl _, by show 1 ≤ 2 * j - a; omega, by show a + (2 * j - a) ≤ e; omega, fun q h1 h2 => hn q h1 (by simp only at h2; omega), ?_⟩, by simp only [sumR]; omega⟩
      exact GoodR.up (by show a + (2 * j - a) + 1 ≤ _; omega) ih1
    · rw [if_neg hc]
      exact ⟨GoodR.up (by omega) ih1, by simp only [sumR]; omega⟩

theorem starts_sorted (m : HM) (lo n : Nat) : (starts m lo n).Pairwise (· < ·) := (List.pairwise_lt_range' (step := 1) (by decide)).filter _

theorem block_gaps (hI : Inv m) (hI2 : Inv2 m) {b : Nat} (hb : b < m.bls.length) (hs : (m.bls.getD b (0, 0)).1 = 1) :
    GoodR m (64 * b + 64) (64 * b) (gapsB m b) ∧ sumR (gapsB m b) + cntO m (64 * b) 64 = 64 := by
  have := gaps_good hI (e := 64 * b + 64) (starts m (32 * b) 32) (64 * b) (by omega) (starts_sorted _ _ _) (fun j hj => by
    obtain ⟨a1, a2, a3⟩ := mem_starts.1 hj
    have hj' : Start m j := ⟨by omega, a3⟩
    exact ⟨hj', by omega, (in_used hI hI2 hs hj' a1 a2).2⟩) (fun j hj => by
    by_cases h1 : 64 * b + 64 ≤ 2 * j
    · exact .inr (.inl h1)
    · by_cases h2 : 64 * b ≤ 2 * j
      · exact .inr (.inr (mem_starts.2 ⟨by omega, by omega, hj.2⟩))
      · left
        apply Classical.byContradiction
        intro hn
        have hz := hI.size hj
        have := block_of hI hI2 hj (q := 64 * b) (by omega) (by omega) (by rw [show 64 * b / 64 = b from by omega]; exact hs)
        omega)
  rw [show 64 * b + 64 - 64 * b = 64 from by omega] at this
  exact this

theorem words_to (k : Nat) (h : HeapAt σ i m) (hI : Inv m) {j : Nat} (hs : Start m j) : ∃ τ, d_law02_words (k + 7) (hptr i) ((2 * j : Nat) : Int) σ = some (.int .i64 (sz m j : Int), σ ++ τ) := by
  obtain ⟨τ1, e1⟩ := Shape_to k h hs
  obtain ⟨_, _, _, _, _, _, _, hw⟩ := word1 hI hs
  obtain ⟨σ1, hσ1⟩ : ∃ σ1, σ ++ τ1 = σ1 := ⟨_, rfl⟩
  rw [hσ1] at e1
  obtain ⟨σ2, hσ2⟩ : ∃ σ2, σ1 ++ [AObj.cells [.int .i64 (refsAt m j), .int .i64 (dataAt m j), .int .i64 (kindAt m j)] 23 true] = σ2 := ⟨_, rfl⟩
  have est : ∀ x y z : Value, stN (σ1 ++ [AObj.cells [x, y, z] 23 true]) σ1.length 0 [.int .i64 (refsAt m j), .int .i64 (dataAt m j), .int .i64 (kindAt m j)] = some σ2 := by
    intro x y z; rw [← hσ2]; simp [stN, setRange]
  have hbx : σ2[σ1.length]? = some (.cells [.int .i64 (refsAt m j), .int .i64 (dataAt m j), .int .i64 (kindAt m j)] 23 true) := by rw [← hσ2]; simp
  have l0 : ldI .i64 σ2 σ1.length 0 = some (refsAt m j) := by simp [ldI, ld1, hbx, toI]
  have l1 : ldI .i64 σ2 σ1.length (0 + 1) = some (dataAt m j) := by simp [ldI, ld1, hbx, toI]
  have l2 : ldI .i64 σ2 σ1.length (0 + 1 + 1) = some (kindAt m j) := by simp [ldI, ld1, hbx, toI]
  obtain ⟨τ3, e3⟩ := heap_Words_to (k + 4) (refsAt m j) (dataAt m j) (kindAt m j) σ2
  rw [hw] at e3
  refine ⟨τ1 ++ [AObj.cells [.int .i64 (refsAt m j), .int .i64 (dataAt m j), .int .i64 (kindAt m j)] 23 true] ++ τ3, ?_⟩
  rw [d_law02_words]
  simp only [e1, Option.bind_some, toT, List.length_cons, List.length_nil, Nat.zero_add, Nat.reduceAdd, if_true, List.head?_cons, a_iii_eq, List.tail_cons, toI_int, allocK, est] at l1 l2 ⊢
  simp only [l0, l1, l2, Option.bind_some, e3, toI_int]
  rw [← hσ2, ← hσ1]; simp

/-- The loop that notes the words of one object. -/
theorem Ha_l1 (k : Nat) (hwl : m.wds.length ≤ 4096) (wb : Nat) (p2 : Option Addr) (L : List Int) (x j : Nat) (hj1 : 0 < j) (hfit : 2 * j + sz m j ≤ m.wds.length) (hx : x < L.length) (hgx : L.getD x 0 = ((2 * j : Nat) : Int)) : ∀ (n a f : Nat) (σ : AMem) (w : List Int), σ[wb]? = some (.cells (inRow w) 3 true) → w.length = m.wds.length →
    IntsAt 0 σ (p2, L.length, L.length) L → (∀ a, p2 = some a → a.block ≠ wb) → (∀ q, a ≤ q → q < 2 * j + sz m j → w.getD q 0 = 0) → 2 * j ≤ a → a + n = 2 * j + sz m j → n < f →
    ∃ w', d_law02_HeapApart_l1 k f wb m.wds.length p2 L.length L.length (x : Int) (sz m j : Int) (a : Int) σ = some (.exit 2, [], σ.set wb (.cells (inRow w') 3 true)) ∧ w'.length = m.wds.length ∧ (∀ q, w'.getD q 0 = if a ≤ q ∧ q < 2 * j + sz m j then ((2 * j : Nat) : Int) else w.getD q 0)
  | 0, a, 0, σ, w, hc, hw, hp, hpn, h0, ha, ht, hf => by omega
  | 0, a, f + 1, σ, w, hc, hw, hp, hpn, h0, ha, ht, hf => by
    obtain ⟨b1, e1, _, c1, ldA⟩ := ints_at hp hx
    cases e1
    rw [hgx] at ldA
    rw [d_law02_HeapApart_l1, if_pos (by omega)]
    have w1 : w64 (((2 * j : Nat) : Int) + (sz m j : Int)) = ((2 * j + sz m j : Nat) : Int) := by rw [w64_in (by unfold inI; omega)]; omega
    have q : decide ((a : Int) < ((2 * j + sz m j : Nat) : Int)) = false := decide_eq_false (by omega)
    refine ⟨w, by simp only [Option.bind_some, Nat.zero_add, Int.toNat_natCast, Nat.mul_one, ldA, w1, q, cond_false, set_same hc], hw, fun t => ?_⟩
    rw [if_neg (by omega)]
  | n + 1, a, 0, σ, w, hc, hw, hp, hpn, h0, ha, ht, hf => by omega
  | n + 1, a, f + 1, σ, w, hc, hw, hp, hpn, h0, ha, ht, hf => by
    have hp0 := hp
    obtain ⟨b1, e1, _, c1, ldA⟩ := ints_at hp hx
    cases e1
    rw [hgx] at ldA
    have hn1 : b1 ≠ wb := hpn _ rfl
    have hal : a < w.length := by omega
    have hld : ldI .i64 σ wb a = some 0 := by rw [ld_row hc hal, h0 a (Nat.le_refl _) (by omega)]
    have hst := st_row hc hal ((2 * j : Nat) : Int)
    obtain ⟨σ1, hσ1⟩ : ∃ σ1, σ.set wb (.cells (inRow (w.set a ((2 * j : Nat) : Int))) 3 true) = σ1 := ⟨_, rfl⟩
    rw [hσ1] at hst
    obtain ⟨w', e2, hw', hg'⟩ := Ha_l1 k hwl wb (some ⟨b1, 0, none⟩) L x j hj1 hfit hx hgx n (a + 1) f σ1 (w.set a ((2 * j : Nat) : Int)) (by rw [← hσ1, List.getElem?_set_self (getElem?_lt hc)]) (by simpa using hw)
      (.inr ⟨b1, Nat.zero_le _, rfl, fun e => by rw [e] at hx; simp at hx, by rw [← hσ1, List.getElem?_set_ne (Ne.symm hn1)]; exact c1⟩) hpn (fun q q1 q2 => by rw [getD_set_in, if_neg (by omega)]; exact h0 q (by omega) q2) (by omega) (by omega) (by omega)
    refine ⟨w', ?_, hw', fun t => ?_⟩
    · rw [d_law02_HeapApart_l1, if_pos (by omega)]
      have w1 : w64 (((2 * j : Nat) : Int) + (sz m j : Int)) = ((2 * j + sz m j : Nat) : Int) := by rw [w64_in (by unfold inI; omega)]; omega
      have q : decide ((a : Int) < ((2 * j + sz m j : Nat) : Int)) = true := decide_eq_true (by omega)
      have w2 : w64 ((a : Int) + 1) = ((a + 1 : Nat) : Int) := w64_in (by unfold inI; omega)
      have qx : (0 ≤ (x : Int) ∧ (x : Int) < ((L.length : Nat) : Int)) = True := eq_true (by omega)
      have qa : (0 ≤ (a : Int) ∧ (a : Int) < ((m.wds.length : Nat) : Int)) = True := eq_true (by omega)
      simp only [Option.bind_some, Nat.zero_add, Int.toNat_natCast, Nat.mul_one, ldA, w1, q, cond_true, qa, if_true, hld, bne_self_eq_false, cond_false, qx, hst, w2, e2]
      rw [← hσ1, List.set_set]
    · rw [hg' t, getD_set_in]
      by_cases h1 : t = a
      · subst h1
        rw [if_neg (by omega), if_pos (by omega), if_pos (by omega)]
      · by_cases h2 : a + 1 ≤ t ∧ t < 2 * j + sz m j
        · rw [if_pos h2, if_pos (by omega)]
        · rw [if_neg h2, if_neg (by omega), if_neg (by omega)]

theorem Ha_l2 (k : Nat) {b la : Nat} (hl : ∀ c, b < c → c ≤ la → (m.bls.getD c (0, 0)).1 = 3 ∧ c < m.bls.length) (hla : la ≤ 100) : ∀ (n c f : Nat) (σ : AMem), HeapAt σ i m → b < c → c + n = max c (la + 1) → n < f →
    d_law02_HeapApart_l2 (k + 3) f (hptr i) (la : Int) (c : Int) σ = some (.exit 4, [], σ)
  | 0, c, 0, σ, h, hb, hc, hf => by omega
  | 0, c, f + 1, σ, h, hb, hc, hf => by
    rw [d_law02_HeapApart_l2]
    have q : decide ((c : Int) ≤ (la : Int)) = false := decide_eq_false (by omega)
    simp only [q, cond_false]
  | n + 1, c, 0, σ, h, hb, hc, hf => by omega
  | n + 1, c, f + 1, σ, h, hb, hc, hf => by
    obtain ⟨h1, h2⟩ := hl c hb (by omega)
    have ih := Ha_l2 k hl hla n (c + 1) f σ h (by omega) (by omega) (by omega)
    rw [d_law02_HeapApart_l2]
    have q : decide ((c : Int) ≤ (la : Int)) = true := decide_eq_true (by omega)
    have w2 : w64 ((c : Int) + 1) = ((c + 1 : Nat) : Int) := w64_in (by unfold inI; omega)
    simp only [q, cond_true, State_to k h h2, Option.bind_some, toI_int, h1, bne_self_eq_false, cond_false, w2]
    exact ih

theorem start_pos (hI : Inv m) (hI2 : Inv2 m) (h0 : B0 m) {j : Nat} (hs : Start m j) : 0 < j := by
  rcases Nat.eq_zero_or_pos j with rfl | h
  · obtain ⟨k1, k2⟩ := hI2.kind 0 hs
    unfold B0 at h0
    by_cases hw : sz m 0 ≤ 32
    · have := (k1 hw).1
      rw [show 2 * 0 / 64 = 0 from rfl, h0] at this
      exact absurd this (by decide)
    · have := (k2 (by omega)).1
      rw [show 2 * 0 / 64 = 0 from rfl, h0] at this
      exact absurd this (by decide)
  · exact h

def covS (m : HM) (j a : Nat) : Prop := 2 * j ≤ a ∧ a < 2 * j + sz m j

theorem Ha_l0 (k : Nat) (hk : 5000 ≤ k) (hI : Inv m) (hI2 : Inv2 m) (h0 : B0 m) (wb : Nat) (hwb : wb ∉ i.l) (L : List Nat) (hL : ∀ j ∈ L, Start m j) (hnd : L.Nodup) (hL1 : L.length ≤ 2048) (s : SlV) (hsn : ∀ a, s.1 = some a → a.block ≠ wb) : ∀ (n x f : Nat) (acc : Nat) (σ : AMem) (w : List Int), HeapAt σ i m → σ[wb]? = some (.cells (inRow w) 3 true) → w.length = m.wds.length → IntsAt 0 σ s (addrs L) →
    (∀ a, w.getD a 0 ≠ 0 ↔ ∃ j ∈ L.take x, covS m j a) → acc ≤ 218 * x → x + n = L.length → n < f →
    ∃ σ' w', d_law02_HeapApart_l0 (k + 10) f (hptr i) wb m.wds.length s.1 s.2.1 s.2.2 (acc : Int) (x : Int) σ = some (.exit 0, [.int .i64 ((acc + ((L.drop x).map fun j => sz m j).sum : Nat) : Int)], σ') ∧ HeapAt σ' i m ∧ σ'[wb]? = some (.cells (inRow w') 3 true) ∧ w'.length = m.wds.length ∧
      (∀ a, w'.getD a 0 ≠ 0 ↔ ∃ j ∈ L, covS m j a)
  | 0, x, 0, acc, σ, w, h, hc, hw, hs, g, ha, hx, hf => by omega
  | 0, x, f + 1, acc, σ, w, h, hc, hw, hs, g, ha, hx, hf => by
    have hlen := hs.len
    rw [show (addrs L).length = L.length from by simp [addrs]] at hlen
    rw [d_law02_HeapApart_l0]
    have q : decide ((x : Int) < ((s.2.1 : Nat) : Int)) = false := decide_eq_false (by omega)
    rw [List.take_of_length_le (by omega)] at g
    rw [List.drop_eq_nil_of_le (show L.length ≤ x by omega)]
    exact ⟨σ, w, by simp only [q, cond_false, List.map_nil, List.sum_nil, Nat.add_zero], h, hc, hw, g⟩
  | n + 1, x, 0, acc, σ, w, h, hc, hw, hs, g, ha, hx, hf => by omega
  | n + 1, x, f + 1, acc, σ, w, h, hc, hw, hs, g, ha, hx, hf => by
    have al : (addrs L).length = L.length := by simp [addrs]
    have hxl : x < L.length := by omega
    have hxa : x < (addrs L).length := by omega
    have hst := hL _ (List.getElem_mem hxl)
    obtain ⟨j, hj⟩ : ∃ j, L[x] = j := ⟨_, rfl⟩
    rw [hj] at hst
    have hsj := hst.1
    have hn := h.nt
    have hwl := h.wl
    have hz := hI.size hst
    have hfit := hI.fit j hst
    have hjp := start_pos hI hI2 h0 hst
    have hgx : (addrs L).getD x 0 = ((2 * j : Nat) : Int) := by rw [addrs_getD L hxl, hj]
    have hs0 := hs
    obtain ⟨b1, e1, _, c1, ldA⟩ := ints_at hs hxa
    subst e1
    rw [hgx] at ldA
    have hb1 : b1 ≠ wb := hsn _ rfl
    obtain ⟨τ1, eW⟩ := words_to (k + 3) h hI hst
    have eW' : d_law02_words (k + 10) (hptr i) ((2 * j : Nat) : Int) σ = _ := eW
    have h1 := h.app τ1
    have s1 := hs0.app τ1
    have cc1 : (σ ++ τ1)[wb]? = some (.cells (inRow w) 3 true) := by rw [List.getElem?_append_left (getElem?_lt hc)]; exact hc
    have ldA1 : ldI .i64 (σ ++ τ1) b1 x = some ((2 * j : Nat) : Int) := by rw [s1.ld hxa, hgx]
    obtain ⟨w2, e2, hw2, g2⟩ := Ha_l1 (k + 10) (by omega) wb (some ⟨b1, 0, none⟩) (addrs L) x j hjp hfit hxa hgx (sz m j) (2 * j) (k + 10) (σ ++ τ1) w cc1 hw s1 (by intro a e; cases e; exact hb1) (by
      intro q q1 q2
      apply Classical.byContradiction
      intro hne
      obtain ⟨j', hj', t1, t2⟩ := (g q).1 hne
      have hmem : j' ∈ L := List.mem_of_mem_take hj'
      have : j' = j := apart_in hI (hL j' hmem) hst t1 t2 q1 q2
      subst this
      obtain ⟨p, p1, p2⟩ := List.mem_iff_getElem.1 hj'
      rw [List.getElem_take] at p2
      have p3 : p < x := by simp at p1; omega
      have := (List.getElem_inj hnd).1 (p2.trans hj.symm)
      omega) (Nat.le_refl _) rfl (by omega)
    obtain ⟨σ2, hσ2⟩ : ∃ σ2, (σ ++ τ1).set wb (.cells (inRow w2) 3 true) = σ2 := ⟨_, rfl⟩
    rw [hσ2] at e2
    have same2 : ∀ q, q ≠ wb → σ2[q]? = (σ ++ τ1)[q]? := fun q hq => by rw [← hσ2, List.getElem?_set_ne (Ne.symm hq)]
    have h2 : HeapAt σ2 i m := h1.like fun q hq => same2 q (fun e => hwb (e ▸ hq))
    have c2 : σ2[wb]? = some (.cells (inRow w2) 3 true) := by rw [← hσ2, List.getElem?_set_self (getElem?_lt cc1)]
    have s2 : IntsAt 0 σ2 (some ⟨b1, 0, none⟩, (addrs L).length, (addrs L).length) (addrs L) := .inr ⟨b1, Nat.zero_le _, rfl, fun e => by rw [e] at hxa; simp at hxa, by rw [same2 b1 hb1, List.getElem?_append_left (getElem?_lt c1)]; exact c1⟩
    have ldA2 : ldI .i64 σ2 b1 x = some ((2 * j : Nat) : Int) := by rw [s2.ld hxa, hgx]
    obtain ⟨kd1, kd2⟩ := hI2.kind j hst
    have tails : ∀ c, 2 * j / 64 < c → c ≤ (2 * j + sz m j - 1) / 64 → (m.bls.getD c (0, 0)).1 = 3 ∧ c < m.bls.length := by
      intro c p1 p2
      refine ⟨?_, by omega⟩
      by_cases hw : sz m j ≤ 32
      · have := (kd1 hw).2; omega
      · exact (kd2 (by omega)).2.2 c p1 p2
    have e3 := Ha_l2 (k + 7) tails (by omega) (max (2 * j / 64 + 1) ((2 * j + sz m j - 1) / 64 + 1) - (2 * j / 64 + 1)) (2 * j / 64 + 1) (k + 10) σ2 h2 (by omega) (by omega) (by omega)
    have htk : L.take (x + 1) = L.take x ++ [j] := by rw [List.take_succ_eq_append_getElem hxl, hj]
    have g2' : ∀ a, w2.getD a 0 ≠ 0 ↔ ∃ j' ∈ L.take (x + 1), covS m j' a := by
      intro a
      rw [g2 a, htk]
      by_cases hcv : 2 * j ≤ a ∧ a < 2 * j + sz m j
      · rw [if_pos hcv]
        refine ⟨fun _ => ⟨j, by simp, hcv⟩, fun _ => by omega⟩
      · rw [if_neg hcv, g a]
        constructor
        · rintro ⟨j', q1, q2⟩; exact ⟨j', List.mem_append.2 (.inl q1), q2⟩
        · rintro ⟨j', q1, q2⟩
          rcases List.mem_append.1 q1 with q1 | q1
          · exact ⟨j', q1, q2⟩
          · simp at q1; subst q1; exact absurd q2 hcv
    obtain ⟨σ4, w4, e4, h4, c4, hw4, g4⟩ := Ha_l0 k hk hI hI2 h0 wb hwb L hL hnd hL1 (some ⟨b1, 0, none⟩, (addrs L).length, (addrs L).length) hsn n (x + 1) f (acc + sz m j) σ2 w2 h2 c2 hw2 s2 g2' (by omega) (by omega) (by omega)
    refine ⟨σ4, w4, ?_, h4, c4, hw4, g4⟩
    rw [List.drop_eq_getElem_cons hxl, List.map_cons, List.sum_cons, ← Nat.add_assoc, hj, ← e4, d_law02_HeapApart_l0]
    have q : decide ((x : Int) < (((addrs L).length : Nat) : Int)) = true := decide_eq_true (by omega)
    have qx : (0 ≤ (x : Int) ∧ (x : Int) < (((addrs L).length : Nat) : Int)) = True := eq_true (by omega)
    have w6' : w64 ((x : Int) + 1) = ((x + 1 : Nat) : Int) := w64_in (by unfold inI; omega)
    have wa : w64 ((acc : Int) + (sz m j : Int)) = ((acc + sz m j : Nat) : Int) := by rw [w64_in (by unfold inI; omega)]; omega
    have wb1 : w64 ((((2 * j : Nat) : Int)).tdiv 64) = ((2 * j / 64 : Nat) : Int) := by rw [show (((2 * j : Nat) : Int)).tdiv 64 = ((2 * j / 64 : Nat) : Int) from rfl]; exact w64_in (by unfold inI; omega)
    have wb2 : w64 (((2 * j : Nat) : Int) + (sz m j : Int)) = ((2 * j + sz m j : Nat) : Int) := by rw [w64_in (by unfold inI; omega)]; omega
    have wb3 : w64 (((2 * j + sz m j : Nat) : Int) - 1) = ((2 * j + sz m j - 1 : Nat) : Int) := by rw [w64_in (by unfold inI; omega)]; omega
    have wb4 : w64 ((((2 * j + sz m j - 1 : Nat) : Int)).tdiv 64) = (((2 * j + sz m j - 1) / 64 : Nat) : Int) := by rw [show (((2 * j + sz m j - 1 : Nat) : Int)).tdiv 64 = (((2 * j + sz m j - 1) / 64 : Nat) : Int) from rfl]; exact w64_in (by unfold inI; omega)
    have wb5 : w64 (((2 * j / 64 : Nat) : Int) + 1) = ((2 * j / 64 + 1 : Nat) : Int) := w64_in (by unfold inI; omega)
    have hm64 : (((2 * j : Nat) : Int)).tmod 64 = ((2 * j % 64 : Nat) : Int) := rfl
    have hS : d_heap_Heap_State (k + 10) (hptr i) ((2 * j / 64 : Nat) : Int) σ2 = _ := State_to (k + 7) h2 (show 2 * j / 64 < m.bls.length by omega)
    have chk : (bif decide ((sz m j : Int) ≤ 32) then (d_heap_Heap_State (k + 10) (hptr i) ((2 * j / 64 : Nat) : Int) σ2).bind fun r29 => (toI .i64 r29.1).bind fun n30 => (bif n30 != (1 : Int) then some (true, r29.2) else some ((((2 * j + sz m j - 1) / 64 : Nat) : Int) != ((2 * j / 64 : Nat) : Int), r29.2)).bind fun r31 => some (r31.1, r31.2) else some (false, σ2)) = some (false, σ2) := by
      by_cases hw : sz m j ≤ 32
      · obtain ⟨p1, p2⟩ := kd1 hw
        rw [decide_eq_true (by omega)]
        simp only [cond_true, hS, Option.bind_some, toI_int, p1, bne_self_eq_false, cond_false, p2]
      · rw [decide_eq_false (by omega)]; rfl
    have chk2 : (bif decide ((sz m j : Int) > 32) then (d_heap_Heap_State (k + 10) (hptr i) ((2 * j / 64 : Nat) : Int) σ2).bind fun r33 => (toI .i64 r33.1).bind fun n34 => (bif n34 != (2 : Int) then some (true, r33.2) else if 0 ≤ (x : Int) ∧ (x : Int) < (((addrs L).length : Nat) : Int) then (some ⟨b1, 0, none⟩ : Option Addr).bind fun a35 => (ldI .i64 r33.2 a35.block (a35.off + (x : Int).toNat * 1)).bind fun n36 => if (64 : Int) = 0 then none else some ((n36.tmod (64 : Int)) != (0 : Int), r33.2) else none).bind fun r37 => some (r37.1, r37.2) else some (false, σ2)) = some (false, σ2) := by
      by_cases hw : sz m j ≤ 32
      · rw [decide_eq_false (by omega)]; rfl
      · obtain ⟨p1, p2, _⟩ := kd2 (by omega)
        rw [decide_eq_true (by omega)]
        simp only [cond_true, hS, Option.bind_some, toI_int, p1, bne_self_eq_false, cond_false, qx, if_true, Nat.zero_add, Int.toNat_natCast, Nat.mul_one, ldA2, show ((64 : Int) = 0) = False from by decide, if_false, hm64, p2]
        rfl
    simp only [q, cond_true, qx, if_true, Option.bind_some, Nat.zero_add, Int.toNat_natCast, Nat.mul_one, ldA, eW', toI_int, ldA1, e2, ldA2, show ((64 : Int) = 0) = False from by decide, if_false, wb1, wb2, wb3, wb4, wb5] at chk chk2 ⊢
    simp only [chk, chk2, Option.bind_some, cond_false, e3, if_true, wa, w6']

theorem Ha_l5 (k : Nat) (wb bb st sn : Nat) (hst : st + sn ≤ m.wds.length) (hwl : m.wds.length ≤ 4096) : ∀ (n a acc f : Nat) (σ : AMem) (w : List Int), σ[wb]? = some (.cells (inRow w) 3 true) → w.length = m.wds.length → σ[bb]? = some (.cells [.int .i64 (st : Int), .int .i64 (sn : Int)] 46 true) → (∀ q, st ≤ q → q < st + sn → w.getD q 0 = 0) → st ≤ a → a + n = st + sn → acc + n ≤ 5000 → n < f →
    d_law02_HeapApart_l5 k f wb m.wds.length bb (acc : Int) (a : Int) σ = some (.exit 10, [.int .i64 ((acc + n : Nat) : Int)], σ)
  | 0, a, acc, 0, σ, w, hc, hw, hb, hz, ha, hn, hac, hf => by omega
  | 0, a, acc, f + 1, σ, w, hc, hw, hb, hz, ha, hn, hac, hf => by
    have l0 : ldI .i64 σ bb (0 + 0) = some (st : Int) := by simp [ldI, ld1, hb, toI]
    have l1 : ldI .i64 σ bb (0 + 1) = some (sn : Int) := by simp [ldI, ld1, hb, toI]
    rw [d_law02_HeapApart_l5]
    have w1 : w64 ((st : Int) + (sn : Int)) = ((st + sn : Nat) : Int) := by rw [w64_in (by unfold inI; omega)]; omega
    have q : decide ((a : Int) < ((st + sn : Nat) : Int)) = false := decide_eq_false (by omega)
    simp only [l0, l1, Option.bind_some, w1, q, cond_false, Nat.add_zero]
  | n + 1, a, acc, 0, σ, w, hc, hw, hb, hz, ha, hn, hac, hf => by omega
  | n + 1, a, acc, f + 1, σ, w, hc, hw, hb, hz, ha, hn, hac, hf => by
    have l0 : ldI .i64 σ bb (0 + 0) = some (st : Int) := by simp [ldI, ld1, hb, toI]
    have l1 : ldI .i64 σ bb (0 + 1) = some (sn : Int) := by simp [ldI, ld1, hb, toI]
    have ih := Ha_l5 k wb bb st sn hst hwl n (a + 1) (acc + 1) f σ w hc hw hb hz (by omega) (by omega) (by omega) (by omega)
    rw [d_law02_HeapApart_l5]
    have w1 : w64 ((st : Int) + (sn : Int)) = ((st + sn : Nat) : Int) := by rw [w64_in (by unfold inI; omega)]; omega
    have q : decide ((a : Int) < ((st + sn : Nat) : Int)) = true := decide_eq_true (by omega)
    have w2 : w64 ((a : Int) + 1) = ((a + 1 : Nat) : Int) := w64_in (by unfold inI; omega)
    have w3 : w64 ((acc : Int) + 1) = ((acc + 1 : Nat) : Int) := w64_in (by unfold inI; omega)
    have qa : (0 ≤ (a : Int) ∧ (a : Int) < ((m.wds.length : Nat) : Int)) = True := eq_true (by omega)
    have hld : ldI .i64 σ wb a = some 0 := by rw [ld_row hc (show a < w.length by omega), hz a ha (by omega)]
    simp only [l0, l1, Option.bind_some, w1, q, cond_true, qa, if_true, Nat.zero_add, Int.toNat_natCast, Nat.mul_one, hld, bne_self_eq_false, cond_false, w2, w3]
    rw [show acc + (n + 1) = acc + 1 + n from by omega]
    exact ih

theorem getD_lt {R : List (Nat × Nat)} {x : Nat} (hx : x < R.length) : R.getD x (0, 0) = R[x] := by
  rw [List.getD_eq_getElem?_getD, List.getElem?_eq_getElem hx]; rfl

theorem Ha_l4 (k : Nat) (hwl : m.wds.length ≤ 4096) {b : Nat} (hb : 64 * b + 64 ≤ m.wds.length) (wb : Nat) (w : List Int) (hw : w.length = m.wds.length) (hno : ∀ q, ¬ Own m q → w.getD q 0 = 0) (R : List (Nat × Nat)) (hRl : R.length ≤ 33) (s : SlV) : ∀ (n x acc f : Nat) (σ : AMem), σ[wb]? = some (.cells (inRow w) 3 true) → SlAt 46 2 σ s R.length (runRow R) → ∀ lo, GoodR m (64 * b + 64) lo (R.drop x) → 64 * b ≤ lo → (0 < x → (R.getD (x - 1) (0, 0)).1 + (R.getD (x - 1) (0, 0)).2 < lo) → (0 < x → (R.getD (x - 1) (0, 0)).1 + (R.getD (x - 1) (0, 0)).2 ≤ 5000) → x + n = R.length → acc + sumR (R.drop x) ≤ 5000 → n < f →
    ∃ τ, d_law02_HeapApart_l4 (k + 5000) f wb m.wds.length (b : Int) s.1 s.2.1 s.2.2 (acc : Int) (x : Int) σ = some (.exit 8, [.int .i64 ((acc + sumR (R.drop x) : Nat) : Int)], σ ++ τ)
  | 0, x, acc, 0, σ, hc, hs, lo, hg, hlo, hpv, hpv2, hx, hac, hf => by omega
  | 0, x, acc, f + 1, σ, hc, hs, lo, hg, hlo, hpv, hpv2, hx, hac, hf => by
    have hlen := hs.len
    rw [d_law02_HeapApart_l4]
    have q : decide ((x : Int) < ((s.2.1 : Nat) : Int)) = false := decide_eq_false (by omega)
    rw [List.drop_eq_nil_of_le (by omega)]
    exact ⟨[], by simp only [q, cond_false, sumR, Nat.add_zero, List.append_nil]⟩
  | n + 1, x, acc, 0, σ, hc, hs, lo, hg, hlo, hpv, hpv2, hx, hac, hf => by omega
  | n + 1, x, acc, f + 1, σ, hc, hs, lo, hg, hlo, hpv, hpv2, hx, hac, hf => by
    have hxl : x < R.length := by omega
    have hs0 := hs
    rcases hs with ⟨e, _⟩ | ⟨rb, rfl, hp, hrl, hcell⟩
    · omega
    obtain ⟨r0, r1⟩ := runRow_get R x hxl
    rw [List.drop_eq_getElem_cons hxl] at hg hac ⊢
    rw [getD_lt hxl] at r0 r1
    obtain ⟨r, hr⟩ : ∃ r, R[x] = r := ⟨_, rfl⟩
    rw [hr] at hg hac r0 r1 ⊢
    obtain ⟨st, sn⟩ := r
    obtain ⟨g1, g2, g3, g4, g5⟩ := hg
    simp only at g1 g2 g3 g4 g5 r0 r1
    have hac' : acc + (sn + sumR (R.drop (x + 1))) ≤ 5000 := hac
    have ldr : ∀ {μ : AMem}, μ[rb]? = some (.cells (runRow R) 46 true) → ldI .i64 μ rb (x * 2) = some (st : Int) ∧ ldI .i64 μ rb (x * 2 + 1) = some (sn : Int) := by
      intro μ hμ
      constructor
      · simp only [ldI, ld1, hμ, r0, Option.bind_some, toI_int]
      · simp only [ldI, ld1, hμ, r1, Option.bind_some, toI_int]
    obtain ⟨σ1, hσ1⟩ : ∃ σ1, σ ++ [AObj.cells [.int .i64 (st : Int), .int .i64 (sn : Int)] 46 true] = σ1 := ⟨_, rfl⟩
    have est : ∀ y z : Value, stN (σ ++ [AObj.cells [y, z] 46 true]) σ.length 0 [.int .i64 (st : Int), .int .i64 (sn : Int)] = some σ1 := by
      intro y z; rw [← hσ1]; simp [stN, setRange]
    have hb1 : σ1[σ.length]? = some (.cells [.int .i64 (st : Int), .int .i64 (sn : Int)] 46 true) := by rw [← hσ1]; simp
    have c1 : σ1[wb]? = some (.cells (inRow w) 3 true) := by rw [← hσ1, List.getElem?_append_left (getElem?_lt hc)]; exact hc
    have cr1 : σ1[rb]? = some (.cells (runRow R) 46 true) := by rw [← hσ1, List.getElem?_append_left (getElem?_lt hcell)]; exact hcell
    have s1 : SlAt 46 2 σ1 (some ⟨rb, 0, none⟩, R.length, R.length) R.length (runRow R) := .inr ⟨rb, rfl, hp, hrl, cr1⟩
    have e5 := Ha_l5 (m := m) (k + 5000) wb σ.length st sn (by omega) hwl sn st acc (k + 5000) σ1 w c1 hw hb1 (fun q q1 q2 => hno q (g4 q q1 q2)) (Nat.le_refl _) rfl (by omega) (by omega)
    obtain ⟨τ2, e2⟩ := Ha_l4 k hwl hb wb w hw hno R hRl (some ⟨rb, 0, none⟩, R.length, R.length) n (x + 1) (acc + sn) f σ1 c1 s1 (st + sn + 1) g5 (by omega) (fun _ => by
      rw [Nat.add_sub_cancel, getD_lt hxl, hr]; show st + sn < st + sn + 1; omega) (fun _ => by
      rw [Nat.add_sub_cancel, getD_lt hxl, hr]; show st + sn ≤ 5000; omega) (by omega) (by omega) (by omega)
    refine ⟨[AObj.cells [.int .i64 (st : Int), .int .i64 (sn : Int)] 46 true] ++ τ2, ?_⟩
    rw [← List.append_assoc, hσ1, show sumR ((st, sn) :: R.drop (x + 1)) = sn + sumR (R.drop (x + 1)) from rfl, ← Nat.add_assoc, ← e2, d_law02_HeapApart_l4]
    have q : decide ((x : Int) < ((R.length : Nat) : Int)) = true := decide_eq_true (by omega)
    have qx : (0 ≤ (x : Int) ∧ (x : Int) < ((R.length : Nat) : Int)) = True := eq_true (by omega)
    have w6' : w64 ((x : Int) + 1) = ((x + 1 : Nat) : Int) := w64_in (by unfold inI; omega)
    have k0 : ldI .i64 σ1 σ.length 0 = some (st : Int) := by simp [ldI, ld1, hb1, toI]
    have k1 : ldI .i64 σ1 σ.length 1 = some (sn : Int) := by simp [ldI, ld1, hb1, toI]
    have q2 : decide ((sn : Int) < 1) = false := decide_eq_false (by omega)
    have d1 : w64 (((st : Nat) : Int).tdiv 64) = (b : Int) := by
      rw [show ((st : Nat) : Int).tdiv 64 = ((st / 64 : Nat) : Int) from rfl, show st / 64 = b from by omega]; exact w64_in (by unfold inI; omega)
    have w1 : w64 ((st : Int) + (sn : Int)) = ((st + sn : Nat) : Int) := by rw [w64_in (by unfold inI; omega)]; omega
    have w2 : w64 (((st + sn : Nat) : Int) - 1) = ((st + sn - 1 : Nat) : Int) := by rw [w64_in (by unfold inI; omega)]; omega
    have d2 : w64 (((st + sn - 1 : Nat) : Int).tdiv 64) = (b : Int) := by
      rw [show ((st + sn - 1 : Nat) : Int).tdiv 64 = (((st + sn - 1) / 64 : Nat) : Int) from rfl, show (st + sn - 1) / 64 = b from by omega]; exact w64_in (by unfold inI; omega)
    have prev : (bif decide ((x : Int) > 0) then if 0 ≤ (w64 ((x : Int) - 1)) ∧ (w64 ((x : Int) - 1)) < ((R.length : Nat) : Int) then (some ⟨rb, 0, none⟩ : Option Addr).bind fun a63 => (ldI .i64 σ1 a63.block (a63.off + (w64 ((x : Int) - 1)).toNat * 2 + 0)).bind fun n64 => if 0 ≤ (w64 ((x : Int) - 1)) ∧ (w64 ((x : Int) - 1)) < ((R.length : Nat) : Int) then (some ⟨rb, 0, none⟩ : Option Addr).bind fun a65 => (ldI .i64 σ1 a65.block (a65.off + (w64 ((x : Int) - 1)).toNat * 2 + 1)).bind fun n66 => (ldI .i64 σ1 σ.length (0 + 0)).bind fun n67 => some (decide ((w64 (n64 + n66)) ≥ n67), σ1) else none else none else some (false, σ1)) = some (false, σ1) := by
      by_cases hx0 : 0 < x
      · have p1 := hpv hx0
        have p2 := hpv2 hx0
        obtain ⟨t0, t1⟩ := runRow_get R (x - 1) (by omega)
        generalize R.getD (x - 1) (0, 0) = pr at p1 p2 t0 t1
        have w9 : w64 ((x : Int) - 1) = ((x - 1 : Nat) : Int) := by rw [w64_in (by unfold inI; omega)]; omega
        have qy : (0 ≤ ((x - 1 : Nat) : Int) ∧ ((x - 1 : Nat) : Int) < ((R.length : Nat) : Int)) = True := eq_true (by omega)
        have u0 : ldI .i64 σ1 rb ((x - 1) * 2) = some (pr.1 : Int) := by simp only [ldI, ld1, cr1, t0, Option.bind_some, toI_int]
        have u1 : ldI .i64 σ1 rb ((x - 1) * 2 + 1) = some (pr.2 : Int) := by simp only [ldI, ld1, cr1, t1, Option.bind_some, toI_int]
        have w10 : w64 ((pr.1 : Int) + (pr.2 : Int)) = ((pr.1 + pr.2 : Nat) : Int) := by rw [w64_in (by unfold inI; omega)]; omega
        have q3 : decide (((pr.1 + pr.2 : Nat) : Int) ≥ (st : Int)) = false := decide_eq_false (by omega)
        rw [decide_eq_true (by omega)]
        simp only [cond_true, w9, qy, if_true, Option.bind_some, Nat.zero_add, Nat.add_zero, Int.toNat_natCast, u0, u1, k0, w10, q3]
      · rw [decide_eq_false (by omega)]; rfl
    obtain ⟨u0, u1⟩ := ldr hcell
    simp only [q, cond_true, qx, if_true, Option.bind_some, Nat.zero_add, Nat.add_zero, Int.toNat_natCast, u0, u1, allocK, est, k0, k1, q2, cond_false, show ((64 : Int) = 0) = False from by decide, if_false, d1, bne_self_eq_false, w1, w2, d2] at prev ⊢
    simp only [prev, Option.bind_some, cond_false, k0, e5, if_true, u_i_eq, w6']

theorem Ha_l6 (k : Nat) (hI : Inv m) (hwl : m.wds.length ≤ 4096) {b : Nat} (hb : 64 * b + 64 ≤ m.wds.length) (wb : Nat) (w : List Int) (hw : w.length = m.wds.length) (hiff : ∀ q, w.getD q 0 ≠ 0 ↔ Own m q) (hc : σ[wb]? = some (.cells (inRow w) 3 true)) : ∀ (n a acc f : Nat), a + n = 64 * b + 64 → acc + n ≤ 5000 → n < f →
    d_law02_HeapApart_l6 k f wb m.wds.length (b : Int) (acc : Int) (a : Int) σ = some (.exit 12, [.int .i64 ((acc + cntO m a n : Nat) : Int)], σ)
  | 0, a, acc, 0, ha, hac, hf => by omega
  | 0, a, acc, f + 1, ha, hac, hf => by
    rw [d_law02_HeapApart_l6]
    have w2 : w64 ((b : Int) + 1) = ((b + 1 : Nat) : Int) := w64_in (by unfold inI; omega)
    have w3 : w64 (((b + 1 : Nat) : Int) * 64) = ((64 * b + 64 : Nat) : Int) := by rw [w64_in (by unfold inI; omega)]; omega
    have q : decide ((a : Int) < ((64 * b + 64 : Nat) : Int)) = false := decide_eq_false (by omega)
    simp only [w2, w3, q, cond_false, cntO, Nat.add_zero]
  | n + 1, a, acc, 0, ha, hac, hf => by omega
  | n + 1, a, acc, f + 1, ha, hac, hf => by
    rw [d_law02_HeapApart_l6, cntO]
    have w2 : w64 ((b : Int) + 1) = ((b + 1 : Nat) : Int) := w64_in (by unfold inI; omega)
    have w3 : w64 (((b + 1 : Nat) : Int) * 64) = ((64 * b + 64 : Nat) : Int) := by rw [w64_in (by unfold inI; omega)]; omega
    have q : decide ((a : Int) < ((64 * b + 64 : Nat) : Int)) = true := decide_eq_true (by omega)
    have qa : (0 ≤ (a : Int) ∧ (a : Int) < ((m.wds.length : Nat) : Int)) = True := eq_true (by omega)
    have w4 : w64 ((a : Int) + 1) = ((a + 1 : Nat) : Int) := w64_in (by unfold inI; omega)
    have w5 : w64 ((acc : Int) + 1) = ((acc + 1 : Nat) : Int) := w64_in (by unfold inI; omega)
    simp only [w2, w3, q, cond_true, qa, if_true, Nat.zero_add, Int.toNat_natCast, Nat.mul_one, ld_row hc (show a < w.length by omega), Option.bind_some]
    by_cases ho : ownB m a = true
    · have hne : (w.getD a 0 != 0) = true := bne_iff_ne.2 ((hiff a).2 ((ownB_iff hI a).1 ho))
      have ih := Ha_l6 k hI hwl hb wb w hw hiff hc n (a + 1) (acc + 1) f (by omega) (by omega) (by omega)
      simp only [hne, cond_true, Option.bind_some, if_true, u_i_eq, w4, w5, ho]
      rw [ih, Nat.add_assoc acc 1]
    · have hne : (w.getD a 0 != 0) = false := by
        cases hq : (w.getD a 0 != 0) with
        | false => rfl
        | true => exact absurd ((ownB_iff hI a).2 ((hiff a).1 (bne_iff_ne.1 hq))) ho
      have ih := Ha_l6 k hI hwl hb wb w hw hiff hc n (a + 1) acc f (by omega) (by omega) (by omega)
      rw [if_neg ho, Nat.zero_add]
      simp only [hne, cond_false, Option.bind_some, if_true, u_i_eq, w4]
      exact ih

theorem Ha_l3 (k : Nat) (hk : 5000 ≤ k) (hI : Inv m) (hI2 : Inv2 m) (h0 : B0 m) (wb : Nat) (w : List Int) (hw : w.length = m.wds.length) (hiff : ∀ q, w.getD q 0 ≠ 0 ↔ Own m q) : ∀ (n x f : Nat) (σ : AMem), HeapAt σ i m → σ[wb]? = some (.cells (inRow w) 3 true) → x + n = m.bls.length → n < f →
    ∃ τ, d_law02_HeapApart_l3 (k + 5010) f (hptr i) wb m.wds.length (x : Int) σ = some (.exit 6, [], σ ++ τ)
  | 0, x, 0, σ, h, hc, hx, hf => by omega
  | 0, x, f + 1, σ, h, hc, hx, hf => by
    rw [d_law02_HeapApart_l3]
    have hB : d_heap_Heap_Blocks (k + 5010) (hptr i) σ = _ := Blocks_to (k + 5008) h
    have q : decide ((x : Int) < ((m.bls.length : Nat) : Int)) = false := decide_eq_false (by omega)
    exact ⟨[], by simp only [hB, Option.bind_some, toI_int, q, cond_false, List.append_nil]⟩
  | n + 1, x, 0, σ, h, hc, hx, hf => by omega
  | n + 1, x, f + 1, σ, h, hc, hx, hf => by
    have ht := h.nt
    have hwl := h.wl
    have hxl : x < m.bls.length := by omega
    have hB : d_heap_Heap_Blocks (k + 5010) (hptr i) σ = _ := Blocks_to (k + 5008) h
    have q : decide ((x : Int) < ((m.bls.length : Nat) : Int)) = true := decide_eq_true (by omega)
    have m5 : w64 ((x : Int) + 1) = ((x + 1 : Nat) : Int) := w64_in (by unfold inI; omega)
    have m6 : w64 ((x : Int) * 64) = ((64 * x : Nat) : Int) := by rw [w64_in (by unfold inI; omega)]; omega
    obtain ⟨τ1, s, e1, s1, hl33, _⟩ := Gaps_to (k + 5003) (by omega) h hI hxl
    have e1' : d_heap_Heap_Gaps (k + 5010) (hptr i) (x : Int) σ = _ := e1
    have c1 : (σ ++ τ1)[wb]? = some (.cells (inRow w) 3 true) := by rw [List.getElem?_append_left (getElem?_lt hc)]; exact hc
    have hz : ∀ q, ¬ Own m q → w.getD q 0 = 0 := fun q hq => Classical.byContradiction fun hne => hq ((hiff q).1 hne)
    have good : GoodR m (64 * x + 64) (64 * x) (gapsM m x) ∧ sumR (gapsM m x) ≤ 64 ∧ ((m.bls.getD x (0, 0)).1 = 1 → sumR (gapsM m x) + cntO m (64 * x) 64 = 64) ∧ ((m.bls.getD x (0, 0)).1 ≠ 1 → (gapsM m x).length = 0) := by
      unfold gapsM
      by_cases hu : 1 ≤ x ∧ (m.bls.getD x (0, 0)).1 = 1
      · rw [if_pos hu]
        obtain ⟨a1, a2⟩ := block_gaps hI hI2 hxl hu.2
        exact ⟨a1, by omega, fun _ => a2, fun h => absurd hu.2 h⟩
      · rw [if_neg hu]
        refine ⟨trivial, by simp [sumR], fun e => ?_, fun _ => rfl⟩
        rcases Nat.eq_zero_or_pos x with rfl | hp
        · rw [h0] at e; exact absurd e (by decide)
        · exact absurd ⟨hp, e⟩ hu
    obtain ⟨gd1, gd2, gd3, gd4⟩ := good
    obtain ⟨τ2, e2⟩ := Ha_l4 (m := m) (k + 10) (by omega) (b := x) (by omega) wb w hw hz (gapsM m x) hl33 s (gapsM m x).length 0 0 (k + 5010) (σ ++ τ1) c1 s1 (64 * x) gd1 (Nat.le_refl _) (by omega) (by omega) (by omega) (by rw [List.drop_zero]; omega) (by omega)
    rw [List.drop_zero, Nat.zero_add, show ((0 : Nat) : Int) = 0 from rfl] at e2
    have e2' : d_law02_HeapApart_l4 (k + 5010) (k + 5010) wb m.wds.length (x : Int) s.1 s.2.1 s.2.2 0 0 (σ ++ τ1) = some (.exit 8, [.int .i64 ((sumR (gapsM m x) : Nat) : Int)], σ ++ τ1 ++ τ2) := e2
    have h2 := (h.app τ1).app τ2
    have c2 : (σ ++ τ1 ++ τ2)[wb]? = some (.cells (inRow w) 3 true) := by rw [List.getElem?_append_left (getElem?_lt c1)]; exact c1
    have e3 := Ha_l6 (k + 5010) hI (by omega) (b := x) (by omega) wb w hw hiff c2 64 (64 * x) (sumR (gapsM m x)) (k + 5010) rfl (by omega) (by omega)
    have hS : d_heap_Heap_State (k + 5010) (hptr i) (x : Int) (σ ++ τ1 ++ τ2) = _ := State_to (k + 5007) h2 hxl
    obtain ⟨τ3, e4⟩ := Ha_l3 k hk hI hI2 h0 wb w hw hiff n (x + 1) f (σ ++ τ1 ++ τ2) h2 c2 (by omega) (by omega)
    refine ⟨τ1 ++ (τ2 ++ τ3), ?_⟩
    have hl := s1.len
    rw [← List.append_assoc, ← List.append_assoc, ← e4, d_law02_HeapApart_l3]
    simp only [hB, Option.bind_some, toI_int, q, cond_true, e1', toS, e2', if_true, u_i_eq, m6, e3, hS, m5]
    by_cases hu : (m.bls.getD x (0, 0)).1 = 1
    · have := gd3 hu
      rw [this]
      simp only [hu, BEq.rfl, cond_true, Option.bind_some, bne_self_eq_false, cond_false, show (((64 : Nat) : Int) != 64) = false from rfl, hS, toI_int]
    · have := gd4 hu
      rw [this] at hl
      have q1 : ((m.bls.getD x (0, 0)).1 == 1) = false := beq_eq_false_iff_ne.2 hu
      have q2 : ((m.bls.getD x (0, 0)).1 != 1) = true := bne_iff_ne.2 hu
      simp only [q1, q2, cond_false, cond_true, Option.bind_some, hS, toI_int, hl, show decide (((0 : Nat) : Int) > 0) = false from rfl]

theorem HeapApart_to (k : Nat) (hk : 1000000 ≤ k) (b : Int) (p : Option Addr) (c2 : Nat) (l : List ActV) (hok : ∀ x ∈ l, x.ok) (σ : AMem) (hA : ActsAt σ p l) (hp : l ≠ [] → ∀ a, p = some a → a.block < σ.length) :
    ∃ σ', law02_HeapApart (k + 15) b (p, l.length, c2) σ = some (.bool true, σ') := by
  rw [law02_HeapApart_is, d_law02_HeapApart]
  rcases Made_to k (by omega) b p c2 l hok hA hp with ⟨_, hM⟩ | ⟨σ1, i, m, hmm, hM, h1, hI, hI2, k1, hid, hb60, hb12, _⟩
  · simp only [hM, Option.bind_some, toP, eqA_ptrs ⟨0, 0, none⟩, cond_true, alive_to, toB_bool]
    exact ⟨_, rfl⟩
  have hwl := h1.wl
  have hnt := h1.nt
  have h0 := B0.made hmm
  have hB : d_heap_Heap_Blocks (k + 14) (hptr i) σ1 = _ := Blocks_to (k + 12) h1
  have w1 : w64 (((m.bls.length : Nat) : Int) * 64) = ((m.wds.length : Nat) : Int) := by rw [w64_in (by unfold inI; omega)]; omega
  obtain ⟨σ2, hσ2⟩ : ∃ σ2, σ1 ++ [AObj.cells (inRow (List.replicate m.wds.length 0)) 3 true] = σ2 := ⟨_, rfl⟩
  have h2 : HeapAt σ2 i m := hσ2 ▸ h1.app _
  have c2 : σ2[σ1.length]? = some (.cells (inRow (List.replicate m.wds.length 0)) 3 true) := by rw [← hσ2]; simp
  obtain ⟨τ3, s, e3, i3⟩ := All_to (k + 8) (by omega) h2
  have e3' : d_heap_Heap_All (k + 14) (hptr i) σ2 = _ := e3
  have hnb : σ1.length ∉ i.l := fun hm => Nat.lt_irrefl _ (h1.lt _ hm)
  have hl2 : σ2.length = σ1.length + 1 := by rw [← hσ2]; simp
  have hsl := starts_len m 0 (32 * m.bls.length)
  obtain ⟨σ4, w', e4, h4, c4, hw4, g4⟩ := Ha_l0 (k + 4) (by omega) hI hI2 h0 σ1.length hnb (starts m 0 (32 * m.bls.length)) (fun j hj => mem_all.1 hj) (starts_nodup _ _) (by omega) s (fun a ha => by have := (i3.ge a ha).1; omega) (starts m 0 (32 * m.bls.length)).length 0 (k + 14) 0 (σ2 ++ τ3) (List.replicate m.wds.length 0) (h2.app τ3)
    (by rw [List.getElem?_append_left (getElem?_lt c2)]; exact c2) (by simp) i3.lo0 (by
      intro a
      constructor
      · intro h
        exact absurd (by simp only [List.getD_eq_getElem?_getD, List.getElem?_replicate]; split <;> rfl) h
      · rintro ⟨j, hj, _⟩; simp at hj) (by omega) (Nat.zero_add _) (by omega)
  have hiff : ∀ q, w'.getD q 0 ≠ 0 ↔ Own m q := by
    intro q
    rw [g4 q]
    constructor
    · rintro ⟨j, p1, p2⟩; exact ⟨j, mem_all.1 p1, p2⟩
    · rintro ⟨j, p1, p2⟩; exact ⟨j, mem_all.2 p1, p2⟩
  rw [List.drop_zero, Nat.zero_add, show ((0 : Nat) : Int) = 0 from rfl] at e4
  have e4' : d_law02_HeapApart_l0 (k + 14) (k + 14) (hptr i) σ1.length m.wds.length s.1 s.2.1 s.2.2 0 0 (σ2 ++ τ3) = some (.exit 0, [.int .i64 ((usedN m : Nat) : Int)], σ4) := e4
  obtain ⟨τ5, e5⟩ := Ha_l3 (k - 4996) (by omega) hI hI2 h0 σ1.length w' hw4 hiff m.bls.length 0 (k + 14) σ4 h4 c4 (by omega) (by omega)
  rw [show k - 4996 + 5010 = k + 14 from by omega, show ((0 : Nat) : Int) = 0 from rfl] at e5
  obtain ⟨τ6, e6⟩ := Used_to (k + 7) (by omega) (h4.app τ5)
  have e6' : d_heap_Heap_Used (k + 14) (hptr i) (σ4 ++ τ5) = _ := e6
  have qm : (0 ≤ ((m.wds.length : Nat) : Int) ∧ ((m.wds.length : Nat) : Int) ≤ ((m.wds.length : Nat) : Int) ∧ ((m.wds.length : Nat) : Int) * ((8 : Nat) : Int) ≤ 2 ^ 40 ∧ ((m.wds.length : Nat) : Int) ≤ 2 ^ 40) = True := eq_true (by omega)
  simp only [hM, Option.bind_some, toP, eqA_ptrs, cond_false, hB, toI_int, w1, qm, if_true, allocK, Int.toNat_natCast, rep_zero, hσ2, e3', toS, e4', u_i_eq, e5, e6', BEq.rfl, cond_true, alive_to, toB_bool]
  exact ⟨_, rfl⟩

end Go.Proofs.Ytdlihdgoobcoaaa
