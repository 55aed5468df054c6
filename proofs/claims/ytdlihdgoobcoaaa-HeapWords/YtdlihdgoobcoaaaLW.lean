/-
  HeapWords: what the law's function comes to.
-/
import Derived.Test.YtdlihdgoobcoaaaLB
set_option linter.unusedVariables false
set_option linter.unusedSimpArgs false
namespace Go.Proofs.Ytdlihdgoobcoaaa
open Go Go.AX
noncomputable local instance : Quiet := fullQuiet
variable {σ : AMem} {i : HIds} {m : HM}

theorem segL_app (m : HM) : ∀ (n a n' : Nat), segL m a n ++ segL m (a + n) n' = segL m a (n + n')
  | 0, a, n' => by simp [segL]
  | n + 1, a, n' => by
    rw [segL_cons, List.cons_append, show a + (n + 1) = a + 1 + n from by omega, segL_app m n (a + 1) n', show n + 1 + n' = n + n' + 1 from by omega, segL_cons]

theorem segL_get (m : HM) : ∀ (n a q : Nat), q < n → (segL m a n)[q]? = some (m.wds.getD (a + q) 0)
  | 0, a, q, h => by omega
  | n + 1, a, 0, h => by rw [segL_cons]; rfl
  | n + 1, a, q + 1, h => by rw [segL_cons, List.getElem?_cons_succ, segL_get m n (a + 1) q (by omega), show a + 1 + q = a + (q + 1) from by omega]

theorem contL_word (hI : Inv m) {j q : Nat} (hs : Start m j) (hq : 2 + q < use m j) : (contL m j).getD (4 + q) 0 = m.wds.getD (2 * j + 2 + q) 0 := by
  have hz := hI.size hs
  have hu := (hI.use hs).2.2
  unfold contL
  rw [List.append_assoc [_, _, _, _], segL_app, List.getD_eq_getElem?_getD, List.append_assoc, List.getElem?_append_right (by simp), List.getElem?_append_left (by simp [segL_length]; omega)]
  simp only [List.length_cons, List.length_nil]
  rw [show 4 + q - (0 + 1 + 1 + 1 + 1) = q from by omega, segL_get m _ _ _ (by omega)]
  rfl

theorem contL_id (m : HM) (j : Nat) : (contL m j).getD 0 0 = m.wds.getD (2 * j) 0 := rfl

theorem word1 (hI : Inv m) {j : Nat} (hs : Start m j) : m.wds.getD (2 * j + 1) 0 = refsAt m j + 16 * dataAt m j + 4096 * kindAt m j ∧ 0 ≤ refsAt m j ∧ refsAt m j ≤ 15 ∧ 0 ≤ dataAt m j ∧ dataAt m j ≤ 200 ∧ 0 ≤ kindAt m j ∧ kindAt m j ≤ 3 ∧ words (refsAt m j) (dataAt m j) (kindAt m j) = (sz m j : Int) := by
  obtain ⟨r, d, k, hv, he⟩ := hI.good j hs
  obtain ⟨p1, p2, p3, _⟩ := num_parts hv
  have e1 : refsAt m j = r := by unfold refsAt; rw [he, p1]
  have e2 : dataAt m j = d := by unfold dataAt; rw [he, p2]
  have e3 : kindAt m j = k := by unfold kindAt; rw [he, p3]
  have hw : words (refsAt m j) (dataAt m j) (kindAt m j) = (sz m j : Int) := by
    unfold sz
    rw [szN_int]; rfl
  rw [e1, e2, e3] at *
  refine ⟨he, ?_⟩
  simp [valid] at hv
  refine ⟨hv.1, hv.2.1, hv.2.2.1, hv.2.2.2.1, hv.2.2.2.2.1, hv.2.2.2.2.2.1, hw⟩

theorem ints_at {lo : Nat} {s : SlV} {l : List Int} (h : IntsAt lo σ s l) {x : Nat} (hx : x < l.length) : ∃ b, s = (some ⟨b, 0, none⟩, l.length, l.length) ∧ lo ≤ b ∧ σ[b]? = some (.cells (inRow l) 3 true) ∧ ldI .i64 σ b x = some (l.getD x 0) := by
  rcases h with ⟨he, _⟩ | ⟨b, h1, h2, h3, h4⟩
  · rw [he] at hx; simp at hx
  · refine ⟨b, h2, h1, h4, ?_⟩
    have h' : IntsAt lo σ (some ⟨b, 0, none⟩, l.length, l.length) l := .inr ⟨b, h1, rfl, h3, h4⟩
    exact h'.ld hx

theorem ld_row {b x : Nat} {l : List Int} {T : TypeId} {rw' : Bool} (h : σ[b]? = some (.cells (inRow l) T rw')) (hx : x < l.length) : ldI .i64 σ b x = some (l.getD x 0) := by
  simp only [ldI, ld1, h]
  simp [inRow, List.getElem?_map, List.getElem?_eq_getElem hx, List.getD_eq_getElem?_getD, toI]

theorem st_row {b x : Nat} {l : List Int} {T : TypeId} (h : σ[b]? = some (.cells (inRow l) T true)) (hx : x < l.length) (v : Int) : st1 σ b x (.int .i64 v) = some (σ.set b (.cells (inRow (l.set x v)) T true)) := by
  simp only [st1, h]
  rw [if_pos (by rw [inRow_length]; exact hx), inRow_set]

theorem Hw_l1 (k : Nat) (hI : Inv m) (hwl : m.wds.length ≤ 4096) {j : Nat} (hs : Start m j) (wb bb : Nat) (s : SlV) (p2 : Option Addr) (L : List Int) (x : Nat) (hwb : wb ≠ bb) : ∀ (n t f : Nat) (σ : AMem) (w : List Int), σ[wb]? = some (.cells (inRow w) 3 true) → w.length = m.wds.length → σ[bb]? = some (.cells [.int .i64 (refsAt m j), .int .i64 (dataAt m j), .int .i64 (kindAt m j)] 23 true) →
    IntsAt 0 σ s (contL m j) → (∀ a, s.1 = some a → a.block ≠ wb) → IntsAt 0 σ (p2, L.length, L.length) L → (∀ a, p2 = some a → a.block ≠ wb) → x < L.length → L.getD x 0 = ((2 * j : Nat) : Int) → 2 + t + n = use m j → n < f →
    ∃ w', d_law02_HeapWords_l1 k f wb m.wds.length p2 L.length L.length (x : Int) bb s.1 s.2.1 s.2.2 (t : Int) σ = some (.exit 2, [], σ.set wb (.cells (inRow w') 3 true)) ∧ w'.length = m.wds.length ∧ (∀ a, w'.getD a 0 = if 2 * j + 2 + t ≤ a ∧ a < 2 * j + use m j then m.wds.getD a 0 else w.getD a 0)
  | 0, t, 0, σ, w, hc, hw, hb, hsl, hne, hp, hpn, hx, hgx, ht, hf => by omega
  | 0, t, f + 1, σ, w, hc, hw, hb, hsl, hne, hp, hpn, hx, hgx, ht, hf => by
    have hu := (hI.use hs).2.2
    obtain ⟨_, r1, r2, r3, r4, _⟩ := word1 hI hs
    rw [d_law02_HeapWords_l1]
    have l0 : ldI .i64 σ bb (0 + 0) = some (refsAt m j) := by simp [ldI, ld1, hb, toI]
    have l1 : ldI .i64 σ bb (0 + 1) = some (dataAt m j) := by simp [ldI, ld1, hb, toI]
    have w1 : w64 (refsAt m j + dataAt m j) = refsAt m j + dataAt m j := w64_in (by unfold inI; omega)
    have q : decide ((t : Int) < refsAt m j + dataAt m j) = false := decide_eq_false (by omega)
    refine ⟨w, by simp only [l0, l1, Option.bind_some, w1, q, cond_false, set_same hc], hw, fun a => ?_⟩
    rw [if_neg (by omega)]
  | n + 1, t, 0, σ, w, hc, hw, hb, hsl, hne, hp, hpn, hx, hgx, ht, hf => by omega
  | n + 1, t, f + 1, σ, w, hc, hw, hb, hsl, hne, hp, hpn, hx, hgx, ht, hf => by
    have hu := hI.use hs
    have hfit := hI.fit j hs
    obtain ⟨_, r1, r2, r3, r4, _⟩ := word1 hI hs
    have hcl : 4 + t < (contL m j).length := by
      unfold contL
      simp only [List.length_append, segL_length, List.length_cons, List.length_nil]
      omega
    obtain ⟨b1, e1, _, c1, ld1'⟩ := ints_at hp hx
    obtain ⟨b2, e2, _, c2, ld2'⟩ := ints_at hsl hcl
    cases e1
    subst e2
    rw [hgx] at ld1'
    rw [contL_word hI hs (by omega)] at ld2'
    have hlt := getElem?_lt hc
    have hn1 : b1 ≠ wb := hpn _ rfl
    have hn2 : b2 ≠ wb := hne _ rfl
    have hst := st_row hc (x := 2 * j + 2 + t) (by omega) (m.wds.getD (2 * j + 2 + t) 0)
    obtain ⟨σ1, hσ1⟩ : ∃ σ1, σ.set wb (.cells (inRow (w.set (2 * j + 2 + t) (m.wds.getD (2 * j + 2 + t) 0))) 3 true) = σ1 := ⟨_, rfl⟩
    rw [hσ1] at hst
    have same : ∀ q, q ≠ wb → σ1[q]? = σ[q]? := fun q hq => by rw [← hσ1, List.getElem?_set_ne (Ne.symm hq)]
    obtain ⟨w', e3, hw', hg'⟩ := Hw_l1 k hI hwl hs wb bb (some ⟨b2, 0, none⟩, (contL m j).length, (contL m j).length) (some ⟨b1, 0, none⟩) L x hwb n (t + 1) f σ1 (w.set (2 * j + 2 + t) (m.wds.getD (2 * j + 2 + t) 0)) (by rw [← hσ1, List.getElem?_set_self hlt]) (by rw [List.length_set]; exact hw)
      (by rw [same _ (Ne.symm hwb)]; exact hb) (.inr ⟨b2, Nat.zero_le _, rfl, fun e => by rw [e] at hcl; simp at hcl, by rw [same _ hn2]; exact c2⟩) hne (.inr ⟨b1, Nat.zero_le _, rfl, fun e => by rw [e] at hx; simp at hx, by rw [same _ hn1]; exact c1⟩) hpn hx hgx (by omega) (by omega)
    refine ⟨w', ?_, hw', fun a => ?_⟩
    · rw [d_law02_HeapWords_l1]
      have l0 : ldI .i64 σ bb (0 + 0) = some (refsAt m j) := by simp [ldI, ld1, hb, toI]
      have l1 : ldI .i64 σ bb (0 + 1) = some (dataAt m j) := by simp [ldI, ld1, hb, toI]
      have w1 : w64 (refsAt m j + dataAt m j) = refsAt m j + dataAt m j := w64_in (by unfold inI; omega)
      have q : decide ((t : Int) < refsAt m j + dataAt m j) = true := decide_eq_true (by omega)
      have hz := hI.size hs
      have hsj := hs.1
      have w2 : w64 (4 + (t : Int)) = ((4 + t : Nat) : Int) := by rw [w64_in (by unfold inI; omega)]; omega
      have w3 : w64 ((((2 * j : Nat) : Int)) + 2) = ((2 * j + 2 : Nat) : Int) := by rw [w64_in (by unfold inI; omega)]; omega
      have w4 : w64 ((((2 * j + 2 : Nat) : Int)) + (t : Int)) = ((2 * j + 2 + t : Nat) : Int) := by rw [w64_in (by unfold inI; omega)]; omega
      have w5 : w64 ((t : Int) + 1) = ((t + 1 : Nat) : Int) := w64_in (by unfold inI; omega)
      simp only [l0, l1, Option.bind_some, w1, q, cond_true]
      rw [if_pos (by omega)]
      simp only [Nat.zero_add, Int.toNat_natCast, Nat.mul_one, ld1', Option.bind_some, w2]
      rw [if_pos (by omega)]
      simp only [Nat.zero_add, Int.toNat_natCast, Nat.mul_one, ld2', Option.bind_some, w3, w4]
      rw [if_pos (by omega)]
      simp only [Nat.zero_add, Int.toNat_natCast, Nat.mul_one, hst, Option.bind_some, w5, e3]
      rw [← hσ1, List.set_set]
    · rw [hg' a, getD_set_in]
      by_cases h1 : a = 2 * j + 2 + t
      · subst h1
        rw [if_neg (by omega), if_pos (by omega), if_pos (by omega)]
      · by_cases h2 : 2 * j + 2 + (t + 1) ≤ a ∧ a < 2 * j + use m j
        · rw [if_pos h2, if_pos (by omega)]
        · rw [if_neg h2, if_neg (by omega), if_neg (by omega)]

theorem Hw_l2 (k : Nat) (hk : 5000 ≤ k) (hI : Inv m) {j : Nat} (hs : Start m j) (bb : Nat) (p2 : Option Addr) (L : List Int) (x : Nat) (hx : x < L.length) (hgx : L.getD x 0 = ((2 * j : Nat) : Int)) : ∀ (n a f : Nat) (σ : AMem), HeapAt σ i m → σ[bb]? = some (.cells [.int .i64 (refsAt m j), .int .i64 (dataAt m j), .int .i64 (kindAt m j)] 23 true) →
    IntsAt 0 σ (p2, L.length, L.length) L → 2 * j ≤ a → a + n = 2 * j + sz m j → n < f →
    ∃ τ, d_law02_HeapWords_l2 (k + 10) f (hptr i) p2 L.length L.length (x : Int) bb (a : Int) σ = some (.exit 4, [], σ ++ τ)
  | 0, a, 0, σ, h, hb, hp, h1, h2, hf => by omega
  | 0, a, f + 1, σ, h, hb, hp, h1, h2, hf => by
    have hsj := hs.1
    have hn := h.nt
    have hz := hI.size hs
    obtain ⟨_, r1, r2, r3, r4, r5, r6, r7⟩ := word1 hI hs
    obtain ⟨b1, e1, _, c1, ld1'⟩ := ints_at hp hx
    cases e1
    rw [hgx] at ld1'
    have l0 : ldI .i64 σ bb 0 = some (refsAt m j) := by simp [ldI, ld1, hb, toI]
    have l1 : ldI .i64 σ bb (0 + 1) = some (dataAt m j) := by simp [ldI, ld1, hb, toI]
    have l2 : ldI .i64 σ bb (0 + 1 + 1) = some (kindAt m j) := by simp [ldI, ld1, hb, toI]
    obtain ⟨τ1, hW⟩ := heap_Words_to (k + 8) (refsAt m j) (dataAt m j) (kindAt m j) σ
    rw [r7] at hW
    rw [d_law02_HeapWords_l2, if_pos (by omega)]
    have w1 : w64 (((2 * j : Nat) : Int) + (sz m j : Int)) = ((2 * j + sz m j : Nat) : Int) := by rw [w64_in (by unfold inI; omega)]; omega
    have q : decide ((a : Int) < ((2 * j + sz m j : Nat) : Int)) = false := decide_eq_false (by omega)
    refine ⟨τ1, ?_⟩
    simp only [Option.bind_some, Nat.zero_add, Int.toNat_natCast, Nat.mul_one, ld1', l0] at l1 l2 ⊢
    simp only [l1, l2, Option.bind_some, hW, toI_int, w1, q, cond_false]
  | n + 1, a, 0, σ, h, hb, hp, h1, h2, hf => by omega
  | n + 1, a, f + 1, σ, h, hb, hp, h1, h2, hf => by
    have hsj := hs.1
    have hn := h.nt
    have hwl := h.wl
    have hz := hI.size hs
    have hfit := hI.fit j hs
    obtain ⟨_, r1, r2, r3, r4, r5, r6, r7⟩ := word1 hI hs
    have hp0 := hp
    obtain ⟨b1, e1, _, c1, ld1'⟩ := ints_at hp hx
    cases e1
    rw [hgx] at ld1'
    have l0 : ldI .i64 σ bb 0 = some (refsAt m j) := by simp [ldI, ld1, hb, toI]
    have l1 : ldI .i64 σ bb (0 + 1) = some (dataAt m j) := by simp [ldI, ld1, hb, toI]
    have l2 : ldI .i64 σ bb (0 + 1 + 1) = some (kindAt m j) := by simp [ldI, ld1, hb, toI]
    obtain ⟨τ1, hW⟩ := heap_Words_to (k + 8) (refsAt m j) (dataAt m j) (kindAt m j) σ
    rw [r7] at hW
    have h1' := h.app τ1
    obtain ⟨τ2, e2⟩ := Find_to k hk h1' (a : Int)
    have fi : findI m (a : Int) = some j := by
      unfold findI; rw [if_pos (by omega), Int.toNat_natCast, hI.find_some hs h1 (by omega)]
    rw [fi] at e2
    have hb2 : (σ ++ τ1 ++ τ2)[bb]? = some (.cells [.int .i64 (refsAt m j), .int .i64 (dataAt m j), .int .i64 (kindAt m j)] 23 true) := by
      rw [List.append_assoc, List.getElem?_append_left (getElem?_lt hb)]; exact hb
    have hp2 := (hp0.app τ1).app τ2
    obtain ⟨τ3, e3⟩ := Hw_l2 k hk hI hs bb (some ⟨b1, 0, none⟩) L x hx hgx n (a + 1) f (σ ++ τ1 ++ τ2) (h1'.app τ2) hb2 hp2 (by omega) (by omega) (by omega)
    refine ⟨τ1 ++ (τ2 ++ τ3), ?_⟩
    have ld2' : ldI .i64 (σ ++ τ1 ++ τ2) b1 x = some ((2 * j : Nat) : Int) := by rw [hp2.ld hx, hgx]
    rw [← List.append_assoc, ← List.append_assoc, ← e3, d_law02_HeapWords_l2, if_pos (by omega)]
    have w1 : w64 (((2 * j : Nat) : Int) + (sz m j : Int)) = ((2 * j + sz m j : Nat) : Int) := by rw [w64_in (by unfold inI; omega)]; omega
    have w2 : w64 ((a : Int) + 1) = ((a + 1 : Nat) : Int) := w64_in (by unfold inI; omega)
    have q : decide ((a : Int) < ((2 * j + sz m j : Nat) : Int)) = true := decide_eq_true (by omega)
    simp only [Option.bind_some, Nat.zero_add, Int.toNat_natCast, Nat.mul_one, ld1', l0] at l1 l2 ⊢
    simp only [l1, l2, Option.bind_some, hW, toI_int, w1, q, cond_true, e2, r_ii_eq]
    rw [if_pos (by omega)]
    simp only [ld2', Option.bind_some, bne_self_eq_false, cond_false, w2]

def cov (m : HM) (j a : Nat) : Prop := 2 * j ≤ a ∧ a < 2 * j + use m j
instance (m : HM) (j a : Nat) : Decidable (cov m j a) := inferInstanceAs (Decidable (_ ∧ _))

theorem Hw_l0 (k : Nat) (hk : 5000 ≤ k) (hI : Inv m) (wb : Nat) (hwb : wb ∉ i.l) (L : List Nat) (hL : ∀ j ∈ L, Start m j) (hL1 : L.length ≤ 5000) (s : SlV) (hsn : ∀ a, s.1 = some a → a.block ≠ wb) : ∀ (n x f : Nat) (σ : AMem) (w : List Int), HeapAt σ i m → σ[wb]? = some (.cells (inRow w) 3 true) → w.length = m.wds.length → IntsAt 0 σ s (addrs L) →
    (∀ a, (∃ j ∈ L.take x, cov m j a) → w.getD a 0 = m.wds.getD a 0) → (∀ a, (¬ ∃ j ∈ L.take x, cov m j a) → w.getD a 0 = 0) → x + n = L.length → n < f →
    ∃ σ' w', d_law02_HeapWords_l0 (k + 10) f (hptr i) wb m.wds.length s.1 s.2.1 s.2.2 (x : Int) σ = some (.exit 0, [], σ') ∧ HeapAt σ' i m ∧ σ'[wb]? = some (.cells (inRow w') 3 true) ∧ w'.length = m.wds.length ∧
      (∀ a, (∃ j ∈ L, cov m j a) → w'.getD a 0 = m.wds.getD a 0) ∧ (∀ a, (¬ ∃ j ∈ L, cov m j a) → w'.getD a 0 = 0)
  | 0, x, 0, σ, w, h, hc, hw, hs, g1, g2, hx, hf => by omega
  | 0, x, f + 1, σ, w, h, hc, hw, hs, g1, g2, hx, hf => by
    have hlen := hs.len
    rw [show (addrs L).length = L.length from by simp [addrs]] at hlen
    rw [d_law02_HeapWords_l0]
    have q : decide ((x : Int) < ((s.2.1 : Nat) : Int)) = false := decide_eq_false (by omega)
    rw [List.take_of_length_le (by omega)] at g1 g2
    exact ⟨σ, w, by simp only [q, cond_false], h, hc, hw, g1, g2⟩
  | n + 1, x, 0, σ, w, h, hc, hw, hs, g1, g2, hx, hf => by omega
  | n + 1, x, f + 1, σ, w, h, hc, hw, hs, g1, g2, hx, hf => by
    have al : (addrs L).length = L.length := by simp [addrs]
    have hxl : x < L.length := by omega
    have hxa : x < (addrs L).length := by omega
    have hst := hL _ (List.getElem_mem hxl)
    obtain ⟨j, hj⟩ : ∃ j, L[x] = j := ⟨_, rfl⟩
    rw [hj] at hst
    have hsj := hst.1
    have hn := h.nt
    have hwl := h.wl
    have hu := hI.use hst
    have hfit := hI.fit j hst
    obtain ⟨wd1, r1, r2, r3, r4, r5, r6, r7⟩ := word1 hI hst
    have hgx : (addrs L).getD x 0 = ((2 * j : Nat) : Int) := by rw [addrs_getD L hxl, hj]
    obtain ⟨b1, e1, _, c1, ldA⟩ := ints_at hs hxa
    subst e1
    rw [hgx] at ldA
    have hb1 : b1 ≠ wb := hsn _ rfl
    -- Shape
    obtain ⟨τ1, eS⟩ := Shape_to (k + 4) h hst
    obtain ⟨σ1, hσ1⟩ : ∃ σ1, σ ++ τ1 = σ1 := ⟨_, rfl⟩
    rw [hσ1] at eS
    have h1 : HeapAt σ1 i m := hσ1 ▸ h.app τ1
    have lenb : σ.length ≤ σ1.length := by rw [← hσ1]; simp
    obtain ⟨σ2, hσ2⟩ : ∃ σ2, σ1 ++ [AObj.cells [.int .i64 (refsAt m j), .int .i64 (dataAt m j), .int .i64 (kindAt m j)] 23 true] = σ2 := ⟨_, rfl⟩
    have est : ∀ x y z : Value, stN (σ1 ++ [AObj.cells [x, y, z] 23 true]) σ1.length 0 [.int .i64 (refsAt m j), .int .i64 (dataAt m j), .int .i64 (kindAt m j)] = some σ2 := by
      intro x y z; rw [← hσ2]; simp [stN, setRange]
    have h2 : HeapAt σ2 i m := hσ2 ▸ h1.app _
    have old2 : ∀ q o, σ[q]? = some o → σ2[q]? = some o := fun q o hq => by
      rw [← hσ2, ← hσ1, List.append_assoc, List.getElem?_append_left (getElem?_lt hq)]; exact hq
    have hbx2 : σ2[σ1.length]? = some (.cells [.int .i64 (refsAt m j), .int .i64 (dataAt m j), .int .i64 (kindAt m j)] 23 true) := by rw [← hσ2]; simp
    -- contents
    obtain ⟨τ3, sc, eC, iC⟩ := contents_to (k + 2) (by omega) h2 hI hst
    obtain ⟨σ3, hσ3⟩ : ∃ σ3, σ2 ++ τ3 = σ3 := ⟨_, rfl⟩
    rw [hσ3] at eC iC
    have h3 : HeapAt σ3 i m := hσ3 ▸ h2.app τ3
    have old3 : ∀ q o, σ2[q]? = some o → σ3[q]? = some o := fun q o hq => by
      rw [← hσ3, List.getElem?_append_left (getElem?_lt hq)]; exact hq
    obtain ⟨bc, e2, hbc, cC, ldC⟩ := ints_at iC (x := 0) (by have := (contL_length hI hst).2; omega)
    rw [contL_id] at ldC
    have hl2 : σ1.length < σ2.length := getElem?_lt hbx2
    have hcl := getElem?_lt hc
    have hnc : bc ≠ wb := by omega
    have hnx : wb ≠ σ1.length := by omega
    have c3 := old3 _ _ (old2 _ _ hc)
    have hbx3 := old3 _ _ hbx2
    have c13 := old3 _ _ (old2 _ _ c1)
    -- want[2j] := id
    have hs1 := st_row c3 (x := 2 * j) (by omega) (m.wds.getD (2 * j) 0)
    obtain ⟨w1, hw1⟩ : ∃ w1, w.set (2 * j) (m.wds.getD (2 * j) 0) = w1 := ⟨_, rfl⟩
    rw [hw1] at hs1
    have hw1l : w1.length = m.wds.length := by rw [← hw1]; simpa using hw
    obtain ⟨σ4, hσ4⟩ : ∃ σ4, σ3.set wb (.cells (inRow w1) 3 true) = σ4 := ⟨_, rfl⟩
    rw [hσ4] at hs1
    have same4 : ∀ q, q ≠ wb → σ4[q]? = σ3[q]? := fun q hq => by rw [← hσ4, List.getElem?_set_ne (Ne.symm hq)]
    have c4 : σ4[wb]? = some (.cells (inRow w1) 3 true) := by rw [← hσ4, List.getElem?_set_self (getElem?_lt c3)]
    have hbx4 : σ4[σ1.length]? = _ := (same4 _ (Ne.symm hnx)).trans hbx3
    have c14 : σ4[b1]? = _ := (same4 _ hb1).trans c13
    -- want[2j+1]
    have hs2 := st_row c4 (x := 2 * j + 1) (by omega) (m.wds.getD (2 * j + 1) 0)
    obtain ⟨w2, hw2⟩ : ∃ w2, w1.set (2 * j + 1) (m.wds.getD (2 * j + 1) 0) = w2 := ⟨_, rfl⟩
    rw [hw2] at hs2
    have hw2l : w2.length = m.wds.length := by rw [← hw2]; simpa using hw1l
    obtain ⟨σ5, hσ5⟩ : ∃ σ5, σ4.set wb (.cells (inRow w2) 3 true) = σ5 := ⟨_, rfl⟩
    rw [hσ5] at hs2
    have same5 : ∀ q, q ≠ wb → σ5[q]? = σ3[q]? := fun q hq => by rw [← hσ5, List.getElem?_set_ne (Ne.symm hq)]; exact same4 q hq
    have c5 : σ5[wb]? = some (.cells (inRow w2) 3 true) := by rw [← hσ5, List.getElem?_set_self (getElem?_lt c4)]
    have hbx5 : σ5[σ1.length]? = _ := (same5 _ (Ne.symm hnx)).trans hbx3
    have c15 : σ5[b1]? = _ := (same5 _ hb1).trans c13
    have iL5 : IntsAt 0 σ5 (some ⟨b1, 0, none⟩, (addrs L).length, (addrs L).length) (addrs L) := .inr ⟨b1, Nat.zero_le _, rfl, fun e => by rw [e] at hxa; simp at hxa, c15⟩
    have iC5 : IntsAt 0 σ5 sc (contL m j) := by
      rw [e2]
      exact .inr ⟨bc, Nat.zero_le _, rfl, fun e => by have := (contL_length hI hst).2; rw [e] at this; simp at this, by rw [same5 _ hnc]; exact cC⟩
    obtain ⟨w6, e6, hw6, g6⟩ := Hw_l1 (k + 10) hI (by omega) hst wb σ1.length sc (some ⟨b1, 0, none⟩) (addrs L) x hnx (use m j - 2) 0 (k + 10) σ5 w2 c5 hw2l hbx5 iC5 (by rw [e2]; intro a e; cases e; exact hnc) iL5 (by intro a e; cases e; exact hb1) hxa hgx (by omega) (by omega)
    obtain ⟨σ6, hσ6⟩ : ∃ σ6, σ5.set wb (.cells (inRow w6) 3 true) = σ6 := ⟨_, rfl⟩
    rw [hσ6] at e6
    have same6 : ∀ q, q ≠ wb → σ6[q]? = σ3[q]? := fun q hq => by rw [← hσ6, List.getElem?_set_ne (Ne.symm hq)]; exact same5 q hq
    have c6 : σ6[wb]? = some (.cells (inRow w6) 3 true) := by rw [← hσ6, List.getElem?_set_self (getElem?_lt c5)]
    have hbx6 : σ6[σ1.length]? = _ := (same6 _ (Ne.symm hnx)).trans hbx3
    have c16 : σ6[b1]? = _ := (same6 _ hb1).trans c13
    have iL6 : IntsAt 0 σ6 (some ⟨b1, 0, none⟩, (addrs L).length, (addrs L).length) (addrs L) := .inr ⟨b1, Nat.zero_le _, rfl, fun e => by rw [e] at hxa; simp at hxa, c16⟩
    have h6 : HeapAt σ6 i m := h3.like fun q hq => same6 q (fun e => hwb (e ▸ hq))
    obtain ⟨τ7, e7⟩ := Hw_l2 k hk hI hst σ1.length (some ⟨b1, 0, none⟩) (addrs L) x hxa hgx (sz m j) (2 * j) (k + 10) σ6 h6 hbx6 iL6 (Nat.le_refl _) rfl (by omega)
    have h7 := h6.app τ7
    have c7 : (σ6 ++ τ7)[wb]? = some (.cells (inRow w6) 3 true) := by rw [List.getElem?_append_left (getElem?_lt c6)]; exact c6
    have hw6a : ∀ a, w6.getD a 0 = if cov m j a then m.wds.getD a 0 else w.getD a 0 := by
      intro a
      rw [g6 a, ← hw2, getD_set_in, ← hw1, getD_set_in, List.length_set]
      by_cases p1 : a = 2 * j
      · subst p1
        rw [if_neg (by omega), if_neg (by omega), if_pos (by omega), if_pos (show cov m j (2 * j) from ⟨by omega, by omega⟩)]
      · by_cases p2 : a = 2 * j + 1
        · subst p2
          rw [if_neg (by omega), if_pos (by omega), if_pos (show cov m j (2 * j + 1) from ⟨by omega, by omega⟩)]
        · by_cases p3 : 2 * j + 2 + 0 ≤ a ∧ a < 2 * j + use m j
          · rw [if_pos p3, if_pos (show cov m j a from ⟨by omega, by omega⟩)]
          · rw [if_neg p3, if_neg (by omega), if_neg (by omega), if_neg (show ¬ cov m j a from fun ⟨_, _⟩ => by omega)]
    have htk : L.take (x + 1) = L.take x ++ [j] := by rw [List.take_succ_eq_append_getElem hxl, hj]
    obtain ⟨σ8, w8, e8, h8, c8, hw8, g8, g9⟩ := Hw_l0 k hk hI wb hwb L hL hL1 (some ⟨b1, 0, none⟩, (addrs L).length, (addrs L).length) hsn n (x + 1) f (σ6 ++ τ7) w6 h7 c7 hw6 (iL6.app τ7) (by
        intro a ⟨j', hj', hcv⟩
        rw [hw6a]
        by_cases hc' : cov m j a
        · rw [if_pos hc']
        · rw [if_neg hc']
          rw [htk, List.mem_append] at hj'
          rcases hj' with hj' | hj'
          · exact g1 a ⟨j', hj', hcv⟩
          · simp at hj'; subst hj'; exact absurd hcv hc') (by
        intro a hno
        rw [hw6a, if_neg (fun hc' => hno ⟨j, by rw [htk]; simp, hc'⟩)]
        exact g2 a fun ⟨j', hj', hcv⟩ => hno ⟨j', by rw [htk]; exact List.mem_append.2 (.inl hj'), hcv⟩) (by omega) (by omega)
    refine ⟨σ8, w8, ?_, h8, c8, hw8, g8, g9⟩
    rw [d_law02_HeapWords_l0]
    have q : decide ((x : Int) < (((addrs L).length : Nat) : Int)) = true := decide_eq_true (by omega)
    have qx : (0 ≤ (x : Int) ∧ (x : Int) < (((addrs L).length : Nat) : Int)) = True := eq_true (by omega)
    have qc : (0 ≤ (0 : Int) ∧ (0 : Int) < (((contL m j).length : Nat) : Int)) = True := eq_true (by have := (contL_length hI hst).2; omega)
    have q2 : (0 ≤ ((2 * j : Nat) : Int) ∧ ((2 * j : Nat) : Int) < ((m.wds.length : Nat) : Int)) = True := eq_true (by omega)
    have w1' : w64 (((2 * j : Nat) : Int) + 1) = ((2 * j + 1 : Nat) : Int) := w64_in (by unfold inI; omega)
    have q3 : (0 ≤ ((2 * j + 1 : Nat) : Int) ∧ ((2 * j + 1 : Nat) : Int) < ((m.wds.length : Nat) : Int)) = True := eq_true (by omega)
    have w2' : w64 (16 * dataAt m j) = 16 * dataAt m j := w64_in (by unfold inI; omega)
    have w3' : w64 (refsAt m j + 16 * dataAt m j) = refsAt m j + 16 * dataAt m j := w64_in (by unfold inI; omega)
    have w4' : w64 (4096 * kindAt m j) = 4096 * kindAt m j := w64_in (by unfold inI; omega)
    have w5' : w64 (refsAt m j + 16 * dataAt m j + 4096 * kindAt m j) = m.wds.getD (2 * j + 1) 0 := by rw [wd1]; exact w64_in (by unfold inI; omega)
    have w6' : w64 ((x : Int) + 1) = ((x + 1 : Nat) : Int) := w64_in (by unfold inI; omega)
    have ld3 : ∀ μ : AMem, μ[b1]? = some (.cells (inRow (addrs L)) 3 true) → ldI .i64 μ b1 x = some ((2 * j : Nat) : Int) := fun μ hμ => by rw [ld_row hμ hxa, hgx]
    have lA2 := ld3 _ (old2 _ _ c1)
    have lA3 := ld3 _ c13
    have lA4 := ld3 _ c14
    have lA6 := ld3 _ c16
    have k0 : ldI .i64 σ4 σ1.length 0 = some (refsAt m j) := by simp [ldI, ld1, hbx4, toI]
    have k1 : ldI .i64 σ4 σ1.length 1 = some (dataAt m j) := by simp [ldI, ld1, hbx4, toI]
    have k2 : ldI .i64 σ4 σ1.length 2 = some (kindAt m j) := by simp [ldI, ld1, hbx4, toI]
    have eS' : d_heap_Heap_Shape (k + 10) (hptr i) ((2 * j : Nat) : Int) σ = _ := eS
    have eC' : d_law02_contents (k + 10) (hptr i) ((2 * j : Nat) : Int) σ2 = _ := eC
    rw [e2] at eC' e6
    rw [show ((0 : Nat) : Int) = 0 from rfl] at e6
    simp only [q, cond_true, qx, if_true, Option.bind_some, Nat.zero_add, Int.toNat_natCast, Nat.mul_one, ldA, eS', toT, List.length_cons, List.length_nil, Nat.reduceAdd, List.head?_cons, a_iii_eq, List.tail_cons, toI_int, allocK, est, lA2, eC', toS, lA3, qc, Int.toNat_zero, ldC, q2, hs1, lA4, k0, k1, k2, w1', q3, w2', w3', w4', w5', hs2, e6, lA6, e7, w6']
    exact e8

theorem Hw_l3 (k : Nat) (wb : Nat) : ∀ (n x f : Nat) (σ : AMem), HeapAt σ i m → σ[wb]? = some (.cells (inRow m.wds) 3 true) → x + n = m.wds.length → n < f →
    d_law02_HeapWords_l3 (k + 2) f (hptr i) wb m.wds.length (x : Int) σ = some (.exit 6, [], σ)
  | 0, x, 0, σ, h, hc, hx, hf => by omega
  | 0, x, f + 1, σ, h, hc, hx, hf => by
    rw [d_law02_HeapWords_l3]
    have q : decide ((x : Int) < ((m.wds.length : Nat) : Int)) = false := decide_eq_false (by omega)
    simp only [q, cond_false]
  | n + 1, x, 0, σ, h, hc, hx, hf => by omega
  | n + 1, x, f + 1, σ, h, hc, hx, hf => by
    have hn := h.nt
    have hwl := h.wl
    have ih := Hw_l3 k wb n (x + 1) f σ h hc (by omega) (by omega)
    rw [d_law02_HeapWords_l3]
    have q : decide ((x : Int) < ((m.wds.length : Nat) : Int)) = true := decide_eq_true (by omega)
    have hW := Word_to k h (x : Int)
    rw [if_pos (by omega), Int.toNat_natCast] at hW
    have w6' : w64 ((x : Int) + 1) = ((x + 1 : Nat) : Int) := w64_in (by unfold inI; omega)
    have qx : (0 ≤ (x : Int) ∧ (x : Int) < ((m.wds.length : Nat) : Int)) = True := eq_true (by omega)
    simp only [q, cond_true, hW, Option.bind_some, r_ii_eq, qx, if_true, Nat.zero_add, Int.toNat_natCast, Nat.mul_one, ld_row hc (show x < m.wds.length by omega), bne_self_eq_false, cond_false, w6']
    exact ih

theorem HeapWords_to (k : Nat) (hk : 1000000 ≤ k) (b : Int) (p : Option Addr) (c2 : Nat) (l : List ActV) (hok : ∀ x ∈ l, x.ok) (σ : AMem) (hA : ActsAt σ p l) (hp : l ≠ [] → ∀ a, p = some a → a.block < σ.length) :
    ∃ σ', law02_HeapWords (k + 15) b (p, l.length, c2) σ = some (.bool true, σ') := by
  rw [law02_HeapWords_is, d_law02_HeapWords]
  rcases Made_to k (by omega) b p c2 l hok hA hp with ⟨_, hM⟩ | ⟨σ1, i, m, hmm, hM, h1, hI, hI2, k1, hid, hb60, hb12, _⟩
  · simp only [hM, Option.bind_some, toP, eqA_ptrs ⟨0, 0, none⟩, cond_true, alive_to, toB_bool]
    exact ⟨_, rfl⟩
  have hwl := h1.wl
  have hnt := h1.nt
  have hB : d_heap_Heap_Blocks (k + 14) (hptr i) σ1 = _ := Blocks_to (k + 12) h1
  have w1 : w64 (((m.bls.length : Nat) : Int) * 64) = ((m.wds.length : Nat) : Int) := by rw [w64_in (by unfold inI; omega)]; omega
  obtain ⟨σ2, hσ2⟩ : ∃ σ2, σ1 ++ [AObj.cells (inRow (List.replicate m.wds.length 0)) 3 true] = σ2 := ⟨_, rfl⟩
  have h2 : HeapAt σ2 i m := hσ2 ▸ h1.app _
  have c2 : σ2[σ1.length]? = some (.cells (inRow (List.replicate m.wds.length 0)) 3 true) := by rw [← hσ2]; simp
  obtain ⟨τ3, s, e3, i3⟩ := All_to (k + 8) (by omega) h2
  have e3' : d_heap_Heap_All (k + 14) (hptr i) σ2 = _ := e3
  have hnb : σ1.length ∉ i.l := fun hm => Nat.lt_irrefl _ (h1.lt _ hm)
  have hl2 : σ2.length = σ1.length + 1 := by rw [← hσ2]; simp
  obtain ⟨σ4, w', e4, h4, c4, hw4, g4, g5⟩ := Hw_l0 (k + 4) (by omega) hI σ1.length hnb _ (fun j hj => mem_all.1 hj) (by have := starts_len m 0 (32 * m.bls.length); omega) s (fun a ha => by have := (i3.ge a ha).1; omega) _ 0 (k + 14) (σ2 ++ τ3) (List.replicate m.wds.length 0) (h2.app τ3)
    (by rw [List.getElem?_append_left (getElem?_lt c2)]; exact c2) (by simp) i3.lo0 (by rintro a ⟨j, hj, _⟩; simp at hj) (by
      intro a _
      simp only [List.getD_eq_getElem?_getD, List.getElem?_replicate]
      split <;> rfl) (Nat.zero_add _) (by have := starts_len m 0 (32 * m.bls.length); omega)
  have hww : w' = m.wds := by
    apply List.ext_getElem
    · exact hw4
    · intro a p1 p2
      have e : w'.getD a 0 = m.wds.getD a 0 := by
        by_cases hc : ∃ j ∈ starts m 0 (32 * m.bls.length), cov m j a
        · exact g4 a hc
        · rw [g5 a hc, hI2.zero a fun j hj q1 q2 => hc ⟨j, mem_all.2 hj, q1, q2⟩]
      rw [List.getD_eq_getElem?_getD, List.getD_eq_getElem?_getD, List.getElem?_eq_getElem p1, List.getElem?_eq_getElem p2] at e
      exact e
  rw [hww] at c4
  have e5 := Hw_l3 (k + 12) σ1.length m.wds.length 0 (k + 14) σ4 h4 c4 (by omega) (by omega)
  have e4' : d_law02_HeapWords_l0 (k + 14) (k + 14) (hptr i) σ1.length m.wds.length s.1 s.2.1 s.2.2 0 (σ2 ++ τ3) = _ := e4
  have e5' : d_law02_HeapWords_l3 (k + 14) (k + 14) (hptr i) σ1.length m.wds.length 0 σ4 = _ := e5
  have qm : (0 ≤ ((m.wds.length : Nat) : Int) ∧ ((m.wds.length : Nat) : Int) ≤ ((m.wds.length : Nat) : Int) ∧ ((m.wds.length : Nat) : Int) * ((8 : Nat) : Int) ≤ 2 ^ 40 ∧ ((m.wds.length : Nat) : Int) ≤ 2 ^ 40) = True := eq_true (by omega)
  simp only [hM, Option.bind_some, toP, eqA_ptrs, cond_false, hB, toI_int, w1, qm, if_true, allocK, Int.toNat_natCast, rep_zero, hσ2, e3', toS, e4', e5', alive_to, toB_bool]
  exact ⟨_, rfl⟩

end Go.Proofs.Ytdlihdgoobcoaaa
