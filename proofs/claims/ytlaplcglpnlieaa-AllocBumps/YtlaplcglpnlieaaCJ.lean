/-
  What the calls leave holds together; plain laws.
-/
import Derived.Test.YtlaplcglpnlieaaCV
set_option linter.unusedVariables false
set_option linter.unusedSimpArgs false
namespace Go.Proofs.Ytlaplcglpnlieaa
open Go Go.AX
variable {m : HM}

def use (m : HM) (j : Nat) : Nat := (2 + refsAt m j + dataAt m j).toNat
/-- Where an object of so many words may lie. -/
def KindOk (l : List (Int × Int)) (a wo : Nat) : Prop :=
  (wo ≤ 32 → (l.getD (a / 64) (0, 0)).1 = 1 ∧ (a + wo - 1) / 64 = a / 64) ∧
  (32 < wo → (l.getD (a / 64) (0, 0)).1 = 2 ∧ a % 64 = 0 ∧ ∀ c, a / 64 < c → c ≤ (a + wo - 1) / 64 → (l.getD c (0, 0)).1 = 3)
structure Inv2 (m : HM) : Prop where
  kind : ∀ j, Start m j → KindOk m.bls (2 * j) (sz m j)
  zero : ∀ a, (∀ j, Start m j → 2 * j ≤ a → a < 2 * j + use m j → False) → m.wds.getD a 0 = 0
/-- The lengths of a heap's parts. -/
structure Sh (m : HM) : Prop where
  wl : m.wds.length = 64 * m.bls.length
  sl : 32 * m.bls.length ≤ 64 * m.stw.length
  pl : 32 * m.bls.length ≤ 64 * m.pnw.length
theorem HeapAt.sh {σ : AMem} {i : HIds} (h : HeapAt σ i m) : Sh m := ⟨h.wl, tput_len1 h.st.len, tput_len1 h.pn.len⟩

theorem Inv.use (h : Inv m) {j : Nat} (hs : Start m j) : 2 ≤ use m j ∧ use m j ≤ sz m j ∧ ((use m j : Nat) : Int) = 2 + refsAt m j + dataAt m j := by
  obtain ⟨z1, z2, z3, z4, z5, z6⟩ := h.size hs
  unfold Go.Proofs.Ytlaplcglpnlieaa.use
  omega

/-- What a call leaves. -/
structure Keep1 (m : HM) (r : Int × HM) : Prop where
  inv : Inv r.2
  inv2 : Inv2 r.2
  b1 : m.births ≤ r.2.births
  b2 : r.2.births ≤ m.births + 1
  len : r.2.bls.length = m.bls.length
  err : r.1 ≠ 0 → r.2 = m
theorem Keep1.same (h : Inv m) (h2 : Inv2 m) (c : Int) : Keep1 m (c, m) := ⟨h, h2, Int.le_refl _, by simp only; omega, rfl, fun _ => rfl⟩

theorem fieldM_use (h : Inv m) {a x : Int} {data : Bool} {w : Int} (hf : fieldM m a x data = (w, 0)) : ∃ j t : Nat, Start m j ∧ a = ((2 * j : Nat) : Int) ∧ w = ((2 * j + 2 + t : Nat) : Int) ∧ 2 + t < use m j ∧ ((t : Nat) : Int) = x + (if data then refsAt m j else 0) := by
  unfold fieldM at hf
  split at hf
  · rename_i hh
    obtain ⟨j, rfl, hs⟩ := hasM_spec hh
    have ej : ((2 * j : Nat) : Int).toNat / 2 = j := by omega
    obtain ⟨z1, z2, z3, z4, z5, z6⟩ := h.size hs
    obtain ⟨_, _, u3⟩ := h.use hs
    simp only [ej] at hf
    cases data with
    | false =>
      simp only [Bool.false_eq_true, if_false] at hf
      split at hf
      · rename_i hc
        have hw := congrArg Prod.fst hf
        simp only at hw
        exact ⟨j, x.toNat, hs, rfl, by omega, by omega, by simp only [Bool.false_eq_true, if_false]; omega⟩
      · have := congrArg Prod.snd hf
        simp at this
    | true =>
      simp only [if_true] at hf
      split at hf
      · rename_i hc
        have hw := congrArg Prod.fst hf
        simp only at hw
        exact ⟨j, (refsAt m j + x).toNat, hs, rfl, by omega, by omega, by simp only [if_true]; omega⟩
      · have := congrArg Prod.snd hf
        simp at this
  · have := congrArg Prod.snd hf
    simp at this

theorem word_key (h : Inv m) {j t : Nat} (hs : Start m j) (ht : 2 + t < sz m j) (v : Int) : ∀ j', Start m j' → ∀ c, c < 2 → (wordM m (2 * j + 2 + t) v).wds.getD (2 * j' + c) 0 = m.wds.getD (2 * j' + c) 0 := by
  intro j' hs' c hc
  show (m.wds.set _ _).getD _ _ = _
  rw [getD_set_in, if_neg]
  rintro ⟨e, _⟩
  have h1 := h.apart j j' hs hs'
  have hz := h.size hs'
  rcases Nat.lt_trichotomy j j' with hlt | rfl | hlt
  · have := h1 hlt; omega
  · omega
  · omega
theorem sz_of {m m' : HM} {j j' : Nat} (h : m'.wds.getD (2 * j' + 1) 0 = m.wds.getD (2 * j + 1) 0) : sz m' j' = sz m j ∧ use m' j' = use m j ∧ refsAt m' j' = refsAt m j ∧ dataAt m' j' = dataAt m j := by
  unfold sz use refsAt dataAt
  rw [h]
  exact ⟨rfl, rfl, rfl, rfl⟩

theorem Inv2.word (h : Inv m) (h2 : Inv2 m) {j t : Nat} (hs : Start m j) (ht : 2 + t < use m j) (v : Int) : Inv2 (wordM m (2 * j + 2 + t) v) := by
  have hu := h.use hs
  have key := word_key h hs (show 2 + t < sz m j by omega) v
  refine ⟨fun j' hs' => ?_, fun a ha => ?_⟩
  · rw [(sz_of (key j' hs' 1 (by decide))).1]; exact h2.kind j' hs'
  · show (m.wds.set _ _).getD _ _ = _
    rw [getD_set_in, if_neg]
    · exact h2.zero a fun j' hs' h3 h4 => ha j' hs' h3 (by rw [(sz_of (key j' hs' 1 (by decide))).2.1]; exact h4)
    · rintro ⟨rfl, _⟩
      exact ha j hs (by omega) (by rw [(sz_of (key j hs 1 (by decide))).2.1]; omega)

theorem word_keep (h : Inv m) (h2 : Inv2 m) {j t : Nat} (hs : Start m j) (ht : 2 + t < use m j) (v : Int) : Keep1 m (0, wordM m (2 * j + 2 + t) v) :=
  ⟨h.setWord hs (by have := h.use hs; omega) v, h2.word h hs ht v, Int.le_refl _, by show m.births ≤ m.births + 1; omega, rfl, fun hc => absurd rfl hc⟩

theorem setRefR_keep (h : Inv m) (h2 : Inv2 m) (a x v : Int) : Keep1 m (setRefR m a x v) := by
  unfold setRefR
  generalize hf : fieldM m a x false = w
  obtain ⟨w, c⟩ := w
  split
  · rename_i hc
    simp only at hc
    subst hc
    obtain ⟨j, t, hs, rfl, rfl, ht, _⟩ := fieldM_use h hf
    split
    · exact Keep1.same h h2 _
    · simp only [Int.toNat_natCast]
      exact word_keep h h2 hs ht v
  · exact Keep1.same h h2 _

theorem setDataR_keep (h : Inv m) (h2 : Inv2 m) (a x v : Int) : Keep1 m (setDataR m a x v) := by
  unfold setDataR
  generalize hf : fieldM m a x true = w
  obtain ⟨w, c⟩ := w
  split
  · rename_i hc
    simp only at hc
    subst hc
    obtain ⟨j, t, hs, rfl, rfl, ht, _⟩ := fieldM_use h hf
    simp only [Int.toNat_natCast]
    exact word_keep h h2 hs ht v
  · exact Keep1.same h h2 _

theorem Inv2.pins (h2 : Inv2 m) (l : List (BitVec 64)) : Inv2 { m with pnw := l } := ⟨h2.kind, h2.zero⟩
theorem Inv2.forwards (h2 : Inv2 m) (l : List (Int × Int)) : Inv2 { m with fw := l } := ⟨h2.kind, h2.zero⟩
theorem Inv2.places (h2 : Inv2 m) (l : List (Int × Int)) : Inv2 { m with pl := l } := ⟨h2.kind, h2.zero⟩

theorem pinR_keep (h : Inv m) (h2 : Inv2 m) (a : Int) (v : Nat) : Keep1 m (pinR m a v) := by
  unfold pinR
  split
  · exact ⟨h.pins _, h2.pins _, Int.le_refl _, by show m.births ≤ m.births + 1; omega, rfl, fun hc => absurd rfl hc⟩
  · exact Keep1.same h h2 _

theorem pokeR_keep (h : Inv m) (h2 : Inv2 m) (a v : Int) : Keep1 m (pokeR m a v) := by
  unfold pokeR
  split
  · cases hq : findM m a.toNat with
    | none => exact Keep1.same h h2 _
    | some j =>
      obtain ⟨hs, _, p2, p1⟩ := findM_spec hq
      have hu := h.use hs
      simp only
      split
      · obtain ⟨t, ht⟩ : ∃ t, a.toNat = 2 * j + 2 + t := ⟨a.toNat - (2 * j + 2), by omega⟩
        rw [ht]
        exact word_keep h h2 hs (by omega) v
      · exact Keep1.same h h2 _
  · exact Keep1.same h h2 _

theorem forget_keep (h : Inv m) (h2 : Inv2 m) : Keep1 m (0, { m with fw := [] }) :=
  ⟨h.forwards _, h2.forwards _, Int.le_refl _, by show m.births ≤ m.births + 1; omega, rfl, fun hc => absurd rfl hc⟩

theorem spanM_tail (m : HM) (b : Nat) : ∀ (f n c : Nat), n ≤ c → c < spanM m b f n → (m.bls.getD b (0, 0)).1 = 2 ∧ (m.bls.getD (b + c) (0, 0)).1 = 3
  | 0, n, c, h1, h2 => by rw [spanM] at h2; omega
  | f + 1, n, c, h1, h2 => by
    rw [spanM] at h2
    split at h2
    · rename_i hc
      rcases Nat.eq_or_lt_of_le h1 with rfl | h1
      · exact ⟨hc.1, hc.2.2⟩
      · exact spanM_tail m b f (n + 1) c h1 h2
    · omega
theorem spanM_ge (m : HM) (b : Nat) : ∀ (f n : Nat), n ≤ spanM m b f n
  | 0, n => Nat.le_refl _
  | f + 1, n => by
    rw [spanM]
    split
    · have := spanM_ge m b f (n + 1); omega
    · exact Nat.le_refl _
theorem spanF_tail {b c : Nat} (h1 : b < c) (h2 : c < b + spanF m b) : (m.bls.getD b (0, 0)).1 = 2 ∧ (m.bls.getD c (0, 0)).1 = 3 := by
  have := spanM_tail m b m.bls.length 1 (c - b) (by omega) (by unfold spanF at h2; omega)
  rw [show b + (c - b) = c from by omega] at this
  exact this

theorem fitsM_kind {a : Int} {wo : Nat} {but : Int} (h2 : 2 ≤ wo) (hf : fitsM m a wo but = 0) : KindOk m.bls a.toNat wo := by
  unfold fitsM at hf
  split at hf
  · cases hf
  simp only at hf
  split at hf
  · rename_i hw
    split at hf
    · cases hf
    · rename_i hc
      refine ⟨fun _ => ⟨?_, ?_⟩, fun h => by omega⟩
      · apply Classical.byContradiction
        intro hq; exact hc (.inl hq)
      · apply Classical.byContradiction
        intro hq; exact hc (.inr hq)
  · rename_i hw
    split at hf
    · cases hf
    · rename_i hc
      have c1 : (m.bls.getD (a.toNat / 64) (0, 0)).1 = 2 := by
        apply Classical.byContradiction
        intro hq; exact hc (.inl hq)
      have c2 : a.toNat % 64 = 0 := by
        apply Classical.byContradiction
        intro hq; exact hc (.inr (.inl hq))
      have c3 : spanF m (a.toNat / 64) = (wo + 63) / 64 := by
        apply Classical.byContradiction
        intro hq; exact hc (.inr (.inr hq))
      refine ⟨fun h => by omega, fun _ => ⟨c1, c2, fun c h1 h2 => ?_⟩⟩
      exact (spanF_tail h1 (by rw [c3]; omega)).2

theorem Inv2.place (h : Inv m) (h2 : Inv2 m) (hS : Sh m) {j : Nat} {r d k : Int} (hv : valid r d k = true) (hj : j < 32 * m.bls.length)
    (hap : ∀ o, Start m o → 2 * o + sz m o ≤ 2 * j ∨ 2 * j + szN (num r d k) ≤ 2 * o) (hk : KindOk m.bls (2 * j) (szN (num r d k))) : Inv2 (placeM m j (num r d k)) := by
  have hst := fun j' => start_place (m := m) (n := num r d k) (j := j) (j' := j') hS.sl hj
  have hw := hS.wl
  have hv' := hv
  simp [valid] at hv'
  have h3 : 2 ≤ szN (num r d k) := by
    rw [szN_num hv]
    omega
  have hnj : ¬ Start m j := fun hs => by
    have h1 := hap j hs
    have h2 := h.size hs
    omega
  have hne : ∀ j', Start m j' → j' ≠ j := fun j' hs e => hnj (e ▸ hs)
  have w1 : (placeM m j (num r d k)).wds.getD (2 * j + 1) 0 = num r d k := by
    unfold placeM; simp only
    rw [getD_set_in, if_pos ⟨rfl, by simp; omega⟩]
  have wo : ∀ j', j' ≠ j → (placeM m j (num r d k)).wds.getD (2 * j' + 1) 0 = m.wds.getD (2 * j' + 1) 0 := by
    intro j' hne
    unfold placeM; simp only
    rw [getD_set_in, if_neg (by omega), getD_set_in, if_neg (by omega)]
  have s1 : sz (placeM m j (num r d k)) j = szN (num r d k) := by unfold sz; rw [w1]
  obtain ⟨p1, p2, _, _⟩ := num_parts hv
  have u1 : use (placeM m j (num r d k)) j = (2 + r + d).toNat := by unfold use refsAt dataAt; rw [w1, p1, p2]
  refine ⟨fun j' hs' => ?_, fun a ha => ?_⟩
  · rcases (hst j').1 hs' with rfl | hs'
    · rw [s1]; exact hk
    · rw [(sz_of (wo j' (hne j' hs'))).1]; exact h2.kind j' hs'
  · have hself := ha j ((hst j).2 (.inl rfl))
    rw [u1] at hself
    have hn0 : a ≠ 2 * j := fun e => hself (by omega) (by omega)
    have hn1 : a ≠ 2 * j + 1 := fun e => hself (by omega) (by omega)
    unfold placeM; simp only
    rw [getD_set_in, if_neg (by omega), getD_set_in, if_neg (by omega)]
    exact h2.zero a fun j' hs' h4 h5 => ha j' ((hst j').2 (.inr hs')) h4 (by rw [(sz_of (wo j' (hne j' hs'))).2.1]; exact h5)

theorem placeR_keep (h : Inv m) (h2 : Inv2 m) (hS : Sh m) (a r d c : Int) : Keep1 m (placeR m a r d c).2 := by
  unfold placeR
  split
  · rename_i hv
    split
    · rename_i hc
      have hw2 : 2 ≤ szN (num r d c) := by
        rw [szN_num hv]
        simp [valid] at hv
        omega
      have hk := fitsM_kind hw2 hc
      obtain ⟨j, rfl, hj, hfit, hap⟩ := h.fits hS.wl (szN_le _) hw2 hc
      rw [Int.toNat_natCast] at hk
      simp only [show ((2 * j : Nat) : Int).toNat / 2 = j from by omega]
      have hap' : ∀ o, Start m o → 2 * o + sz m o ≤ 2 * j ∨ 2 * j + szN (num r d c) ≤ 2 * o := fun o ho => hap o ho (by omega)
      refine ⟨h.place hS.wl hS.sl hv hj hfit hap', h2.place h hS hv hj hap' hk, ?_, Int.le_refl _, rfl, fun hc => absurd rfl hc⟩
      show m.births ≤ m.births + 1
      omega
    · exact Keep1.same h h2 _
  · exact Keep1.same h h2 _

theorem kill_other (h : Inv m) {j j' a : Nat} (hs : Start m j) (hs' : Start m j') (hne : j' ≠ j) (h1 : 2 * j' ≤ a) (h2 : a < 2 * j' + sz m j') : (killM m j).wds.getD a 0 = m.wds.getD a 0 := by
  have hf := h.fit j hs
  show (putW _ _ _).getD _ 0 = _
  rw [putW_getD (by simpa using hf), if_neg]
  rintro ⟨p1, p2⟩
  simp only [List.length_replicate] at p2
  rcases Nat.lt_trichotomy j j' with hlt | rfl | hlt
  · have := h.apart j j' hs hs' hlt; omega
  · exact hne rfl
  · have := h.apart j' j hs' hs hlt; omega

theorem Inv2.kill (h : Inv m) (h2 : Inv2 m) (hS : Sh m) {j : Nat} (hs : Start m j) : Inv2 (killM m j) := by
  have hf := h.fit j hs
  have hst := fun j' => start_kill (m := m) (j := j) (j' := j') hS.sl hs.1
  have so : ∀ j', j' ≠ j → Start m j' → sz (killM m j) j' = sz m j' ∧ use (killM m j) j' = use m j' := fun j' hne hs' => by
    have := sz_of (kill_other h hs hs' hne (a := 2 * j' + 1) (by omega) (by have := h.size hs'; omega))
    exact ⟨this.1, this.2.1⟩
  refine ⟨fun j' hs' => ?_, fun a ha => ?_⟩
  · obtain ⟨hne, hs'⟩ := (hst j').1 hs'
    rw [(so j' hne hs').1]; exact h2.kind j' hs'
  · show (putW _ _ _).getD _ 0 = _
    rw [putW_getD (by simpa using hf)]
    split
    · rw [List.getD_eq_getElem?_getD, List.getElem?_replicate]
      split <;> rfl
    · rename_i hc
      refine h2.zero a fun j' hs' h4 h5 => ?_
      by_cases hq : j' = j
      · subst hq
        have := h.use hs'
        simp at hc; omega
      · exact ha j' ((hst j').2 ⟨hq, hs'⟩) h4 (by rw [(so j' hq hs').2]; exact h5)

theorem killR_keep (h : Inv m) (h2 : Inv2 m) (hS : Sh m) (a : Int) : Keep1 m (killR m a) := by
  unfold killR
  split
  · rename_i hh
    obtain ⟨j, rfl, hs⟩ := hasM_spec hh
    rw [show ((2 * j : Nat) : Int).toNat / 2 = j from by omega]
    exact ⟨h.kill hS.sl hs, h2.kill h hS hs, Int.le_refl _, by show m.births ≤ m.births + 1; omega, rfl, fun hc => absurd rfl hc⟩
  · exact Keep1.same h h2 _

theorem start_move (hS : Sh m) {j t j' : Nat} (hj : j < 32 * m.bls.length) (ht : t < 32 * m.bls.length) : Start (moveM m j t) j' ↔ j' = t ∨ (j' ≠ j ∧ Start m j') := by
  have hl := hS.sl
  unfold Start moveM
  simp only
  by_cases hq : j' = t
  · subst hq
    rw [tget_tput_same (.inl rfl) (by decide) (by rw [tput_length]; omega)]
    simp [ht]
  · rw [tget_tput_other (.inl rfl) (by decide) (fun e => hq e.symm)]
    by_cases hq2 : j' = j
    · subst hq2
      rw [tget_tput_same (.inl rfl) (by decide) (by omega)]
      simp [hq]
    · rw [tget_tput_other (.inl rfl) (by decide) (fun e => hq2 e.symm)]
      simp [hq, hq2]

/-- The words after a move. -/
theorem move_words (h : Inv m) {j t : Nat} (hs : Start m j) (hfit : 2 * t + sz m j ≤ m.wds.length) (a : Nat) :
    (moveM m j t).wds.getD a 0 = if 2 * t ≤ a ∧ a < 2 * t + sz m j then m.wds.getD (2 * j + (a - 2 * t)) 0 else if 2 * j ≤ a ∧ a < 2 * j + sz m j then 0 else m.wds.getD a 0 := by
  have hf := h.fit j hs
  have hhl : ((m.wds.drop (2 * j)).take (sz m j)).length = sz m j := by simp; omega
  have hl1 : (putW m.wds (2 * j) (List.replicate (sz m j) 0)).length = m.wds.length := putW_length (by simpa using hf)
  show (putW _ _ _).getD _ 0 = _
  rw [putW_getD (by rw [hhl, hl1]; exact hfit), hhl]
  split
  · rename_i hc
    simp only [List.getD_eq_getElem?_getD, List.getElem?_take, show a - 2 * t < sz m j from by omega, if_true, List.getElem?_drop]
  · rw [putW_getD (by simpa using hf), List.length_replicate]
    split
    · rw [List.getD_eq_getElem?_getD, List.getElem?_replicate]
      split <;> rfl
    · rfl

theorem apart_in (h : Inv m) {o j a : Nat} (ho : Start m o) (hs : Start m j) (h1 : 2 * o ≤ a) (h2 : a < 2 * o + sz m o) (h3 : 2 * j ≤ a) (h4 : a < 2 * j + sz m j) : o = j := by
  rcases Nat.lt_trichotomy j o with hlt | rfl | hlt
  · have := h.apart j o hs ho hlt; omega
  · rfl
  · have := h.apart o j ho hs hlt; omega

/-- The words of another object are as before. -/
theorem move_other (h : Inv m) {j t o a : Nat} (hs : Start m j) (hfit : 2 * t + sz m j ≤ m.wds.length)
    (hap : ∀ o, Start m o → o ≠ j → 2 * o + sz m o ≤ 2 * t ∨ 2 * t + sz m j ≤ 2 * o) (ho : Start m o) (hne : o ≠ j) (h1 : 2 * o ≤ a) (h2 : a < 2 * o + sz m o) : (moveM m j t).wds.getD a 0 = m.wds.getD a 0 := by
  have := hap o ho hne
  rw [move_words h hs hfit, if_neg (by omega), if_neg]
  rintro ⟨h3, h4⟩
  exact hne (apart_in h ho hs h1 h2 h3 h4)

theorem Inv2.move (h : Inv m) (h2 : Inv2 m) (hS : Sh m) {j t : Nat} (hs : Start m j) (ht : t < 32 * m.bls.length) (hfit : 2 * t + sz m j ≤ m.wds.length)
    (hap : ∀ o, Start m o → o ≠ j → 2 * o + sz m o ≤ 2 * t ∨ 2 * t + sz m j ≤ 2 * o) (hk : KindOk m.bls (2 * t) (sz m j)) : Inv2 (moveM m j t) := by
  have hst := fun j' => start_move (m := m) hS (j := j) (t := t) (j' := j') hs.1 ht
  have hz := h.size hs
  have hu := h.use hs
  have so : ∀ j', j' ≠ j → Start m j' → sz (moveM m j t) j' = sz m j' ∧ use (moveM m j t) j' = use m j' := fun j' hne hs' => by
    have := sz_of (move_other h hs hfit hap hs' hne (a := 2 * j' + 1) (by omega) (by have := h.size hs'; omega))
    exact ⟨this.1, this.2.1⟩
  have st : sz (moveM m j t) t = sz m j ∧ use (moveM m j t) t = use m j := by
    have := sz_of (m := m) (m' := moveM m j t) (j := j) (j' := t) (by rw [move_words h hs hfit, if_pos (by omega)]; congr 1; omega)
    exact ⟨this.1, this.2.1⟩
  refine ⟨fun j' hs' => ?_, fun a ha => ?_⟩
  · by_cases hq : j' = t
    · subst hq; rw [st.1]; exact hk
    · rcases (hst j').1 hs' with e | ⟨hne, hs'⟩
      · exact absurd e hq
      · rw [(so j' hne hs').1]; exact h2.kind j' hs'
  · rw [move_words h hs hfit]
    have hself := ha t ((hst t).2 (.inl rfl))
    rw [st.2] at hself
    split
    · rename_i hc
      refine h2.zero _ fun j' hs' h4 h5 => ?_
      by_cases hq : j' = j
      · subst hq
        exact hself (by omega) (by omega)
      · have := h.use hs'
        exact hq (apart_in h hs' hs h4 (by omega) (by omega) (by omega))
    · rename_i hc
      split
      · rfl
      · rename_i hc2
        refine h2.zero _ fun j' hs' h4 h5 => ?_
        by_cases hq : j' = j
        · subst hq
          omega
        · exact ha j' ((hst j').2 (.inr ⟨hq, hs'⟩)) h4 (by rw [(so j' hq hs').2]; exact h5)

/-- What a move that is let through starts from. -/
theorem moveR_ok (h : Inv m) (hS : Sh m) {j : Nat} {b : Int} (hs : Start m j) (hc : fitsM m b (sz m j) ((2 * j : Nat) : Int) = 0) :
    ∃ t, b = ((2 * t : Nat) : Int) ∧ t < 32 * m.bls.length ∧ 2 * t + sz m j ≤ m.wds.length ∧ (∀ o, Start m o → o ≠ j → 2 * o + sz m o ≤ 2 * t ∨ 2 * t + sz m j ≤ 2 * o) ∧ KindOk m.bls (2 * t) (sz m j) := by
  have hz := h.size hs
  have hk := fitsM_kind hz.1 hc
  obtain ⟨t, rfl, htb, hfit, hap⟩ := h.fits hS.wl hz.2.1 hz.1 hc
  rw [Int.toNat_natCast] at hk
  exact ⟨t, rfl, htb, hfit, fun o ho hne => hap o ho (by omega), hk⟩

theorem moveR_keep (h : Inv m) (h2 : Inv2 m) (hS : Sh m) (a b : Int) : Keep1 m (moveR m a b) := by
  unfold moveR
  split
  · rename_i hh
    obtain ⟨j, rfl, hs⟩ := hasM_spec hh
    rw [show ((2 * j : Nat) : Int).toNat / 2 = j from by omega]
    split
    · rename_i hc
      obtain ⟨t, rfl, htb, hfit, hap, hk⟩ := moveR_ok h hS hs hc
      rw [show ((2 * t : Nat) : Int).toNat / 2 = t from by omega]
      exact ⟨h.move hS.sl hs htb hfit hap, h2.move h hS hs htb hfit hap hk, Int.le_refl _, by show m.births ≤ m.births + 1; omega, rfl, fun hc => absurd rfl hc⟩
    · exact Keep1.same h h2 _
  · exact Keep1.same h h2 _

theorem getD_setP (l : List (Int × Int)) (a c : Nat) (v : Int × Int) : (l.set a v).getD c (0, 0) = if a = c ∧ a < l.length then v else l.getD c (0, 0) := by
  simp only [List.getD_eq_getElem?_getD, List.getElem?_set]
  by_cases h : a = c
  · subst h
    by_cases h2 : a < l.length
    · simp [h2]
    · simp [h2]
  · simp [h]
theorem relM_getD (b : Nat) : ∀ (n : Nat) (l : List (Int × Int)) (c : Nat), (relM l b n).getD c (0, 0) = if b ≤ c ∧ c < b + n then (0, 0) else l.getD c (0, 0)
  | 0, l, c => by rw [relM, if_neg (by omega)]
  | n + 1, l, c => by
    rw [relM, relM_getD b n, getD_setP]
    by_cases h1 : b + n = c
    · subst h1
      rw [if_neg (by omega), if_pos (show b ≤ b + n ∧ b + n < b + (n + 1) by omega)]
      split
      · rfl
      · rename_i h
        rw [List.getD_eq_getElem?_getD, List.getElem?_eq_none (by omega)]; rfl
    · rw [if_neg (show ¬ (b + n = c ∧ b + n < l.length) from fun h => h1 h.1)]
      by_cases h2 : b ≤ c ∧ c < b + n
      · rw [if_pos h2, if_pos (by omega)]
      · rw [if_neg h2, if_neg (by omega)]
theorem tagM_getD (b : Nat) (y : Int) : ∀ (n : Nat) (l : List (Int × Int)) (c : Nat), ((tagM l b y n).getD c (0, 0)).1 = (l.getD c (0, 0)).1
  | 0, l, c => rfl
  | n + 1, l, c => by
    rw [tagM, tagM_getD b y n, getD_setP]
    split
    · rename_i h
      rw [h.1]
    · rfl
theorem clM_getD (b : Nat) (e : Int × Int) : ∀ (n x : Nat) (l : List (Int × Int)) (c : Nat), c < b + x ∨ b + x + n ≤ c → (clM l b e n x).getD c (0, 0) = l.getD c (0, 0)
  | 0, x, l, c, h => rfl
  | n + 1, x, l, c, h => by
    rw [clM, clM_getD b e n (x + 1) _ c (by omega), List.getD_eq_getElem?_getD, List.getD_eq_getElem?_getD, List.getElem?_set, if_neg (by omega)]
theorem usedM_none {l : List (Int × Int)} {b : Nat} : ∀ {n x : Nat}, usedM l b n x = none → ∀ c, x ≤ c → c < x + n → l.getD (b + c) (0, 0) = (0, 0)
  | 0, x, h, c, h1, h2 => by omega
  | n + 1, x, h, c, h1, h2 => by
    rw [usedM] at h
    split at h
    · rename_i hc
      rcases Nat.eq_or_lt_of_le h1 with rfl | h1
      · exact Prod.ext hc.1 hc.2
      · exact usedM_none h c h1 (by omega)
    · cases h

theorem KindOk.like {l l' : List (Int × Int)} {a wo : Nat} (h : KindOk l a wo) (hl : ∀ c, (l.getD c (0, 0)).1 ≠ 0 → a / 64 ≤ c → c ≤ (a + wo - 1) / 64 → (l'.getD c (0, 0)).1 = (l.getD c (0, 0)).1) (hw : 0 < wo) : KindOk l' a wo := by
  refine ⟨fun hw' => ?_, fun hw' => ?_⟩
  · obtain ⟨h1, h2⟩ := h.1 hw'
    exact ⟨by rw [hl _ (by rw [h1]; decide) (Nat.le_refl _) (by omega)]; exact h1, h2⟩
  · obtain ⟨h1, h2, h3⟩ := h.2 hw'
    exact ⟨by rw [hl _ (by rw [h1]; decide) (Nat.le_refl _) (by omega)]; exact h1, h2, fun c h4 h5 => by rw [hl c (by rw [h3 c h4 h5]; decide) (by omega) h5]; exact h3 c h4 h5⟩

theorem Inv2.blocks (h : Inv m) (h2 : Inv2 m) (l : List (Int × Int)) (hl : l.length = m.bls.length)
    (hk : ∀ j, Start m j → ∀ c, (m.bls.getD c (0, 0)).1 ≠ 0 → 2 * j / 64 ≤ c → c ≤ (2 * j + sz m j - 1) / 64 → (l.getD c (0, 0)).1 = (m.bls.getD c (0, 0)).1) : Inv2 { m with bls := l } := by
  have hs : ∀ j, Start { m with bls := l } j ↔ Start m j := fun j => by unfold Start; simp only [hl]
  refine ⟨fun j hj => ?_, fun a ha => h2.zero a fun j hj => ha j ((hs j).2 hj)⟩
  have hj' := (hs j).1 hj
  exact (h2.kind j hj').like (hk j hj') (by have := h.size hj'; show 0 < sz m j; omega)

theorem blocks_keep (h : Inv m) (h2 : Inv2 m) {l : List (Int × Int)} (hl : l.length = m.bls.length)
    (hk : ∀ j, Start m j → ∀ c, (m.bls.getD c (0, 0)).1 ≠ 0 → 2 * j / 64 ≤ c → c ≤ (2 * j + sz m j - 1) / 64 → (l.getD c (0, 0)).1 = (m.bls.getD c (0, 0)).1) : Keep1 m (0, { m with bls := l }) :=
  ⟨h.blocks l hl, h2.blocks h l hl hk, Int.le_refl _, by show m.births ≤ m.births + 1; omega, hl, fun hc => absurd rfl hc⟩

theorem retagR_keep (h : Inv m) (h2 : Inv2 m) (b y : Int) : Keep1 m (retagR m b y) := by
  unfold retagR
  split
  · exact blocks_keep h h2 (tagM_length _ _ _ _) fun j _ c _ _ _ => tagM_getD _ _ _ _ _
  · exact Keep1.same h h2 _

theorem heldM_state {b : Int} {ok : Bool} (h : heldM m b ok = 0) : (m.bls.getD b.toNat (0, 0)).1 = 1 ∨ (m.bls.getD b.toNat (0, 0)).1 = 2 := by
  unfold heldM at h
  split at h
  · cases h
  · split at h
    · cases h
    · rename_i hc
      apply Classical.byContradiction
      intro hq
      exact hc ⟨fun e => hq (.inl e), fun e => hq (.inr e)⟩

theorem releaseR_keep (h : Inv m) (h2 : Inv2 m) (b : Int) : Keep1 m (releaseR m b) := by
  unfold releaseR
  split
  · rename_i hh
    have hst := heldM_state hh
    split
    · rename_i he
      refine blocks_keep h h2 (relM_length _ _ _) fun j hj c hc h3 h4 => ?_
      rw [relM_getD, if_neg]
      rintro ⟨h5, h6⟩
      generalize b.toNat = n at hst he h5 h6
      have hz := h.size hj
      have hnb : 2 * j / 64 ≠ n := by
        intro e
        have : j ∈ starts m (32 * n) 32 := by
          unfold starts
          rw [List.mem_filter, List.mem_range'_1]
          exact ⟨by omega, decide_eq_true hj.2⟩
        rw [he] at this
        cases this
      obtain ⟨k1, k2⟩ := h2.kind j hj
      by_cases hw : sz m j ≤ 32
      · obtain ⟨q1, q2⟩ := k1 hw
        have hcj : c = 2 * j / 64 := by omega
        subst hcj
        have := spanF_tail (m := m) (b := n) (c := 2 * j / 64) (by omega) h6
        rw [q1] at this
        exact absurd this.2 (by decide)
      · obtain ⟨q1, q2, q3⟩ := k2 (by omega)
        by_cases hlt : n < 2 * j / 64
        · have := spanF_tail (m := m) (b := n) (c := 2 * j / 64) hlt (by omega)
          rw [q1] at this
          exact absurd this.2 (by decide)
        · have := q3 n (by omega) (by omega)
          rcases hst with e | e
          · rw [this] at e; exact absurd e (by decide)
          · rw [this] at e; exact absurd e (by decide)
    · exact Keep1.same h h2 _
  · exact Keep1.same h h2 _

theorem claimR_keep (h : Inv m) (h2 : Inv2 m) (b c x y x' y' : Int) : Keep1 m (claimR m b c x y x' y') := by
  unfold claimR
  split
  · rename_i hc
    split
    · rename_i hu
      have hlen : (clM m.bls b.toNat (x', y') c.toNat 0).length = m.bls.length := clM_length _ _ _ _ _
      refine blocks_keep h h2 (by rw [List.length_set, hlen]) fun j hj q hq _ _ => ?_
      have hout : q < b.toNat ∨ b.toNat + c.toNat ≤ q := by
        apply Classical.byContradiction
        intro hn
        have := usedM_none hu (q - b.toNat) (by omega) (by omega)
        rw [show b.toNat + (q - b.toNat) = q from by omega] at this
        rw [this] at hq
        exact hq rfl
      rw [List.getD_eq_getElem?_getD, List.getElem?_set, if_neg (by omega), ← List.getD_eq_getElem?_getD, clM_getD _ _ _ _ _ _ (by omega)]
    · exact Keep1.same h h2 _
  · exact Keep1.same h h2 _

end Go.Proofs.Ytlaplcglpnlieaa
