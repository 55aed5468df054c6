/-
  What the calls that change a heap come to (second part): references, data words, pins, forwards.
-/
import Derived.Test.YtlaplcglpnlieaaCM
set_option linter.unusedVariables false
set_option linter.unusedSimpArgs false
namespace Go.Proofs.Ytlaplcglpnlieaa
open Go Go.AX
noncomputable local instance qCN : Quiet := fullQuiet
local instance nCN : Kn := ⟨true⟩
variable {σ : AMem} {i : HIds} {m : HM}

/-- A call that changes a heap: it comes to an error number, and leaves a heap. -/
def Goes (mm : Option (Value × AMem)) (σ : AMem) (i : HIds) (r : Int × HM) : Prop :=
  ∃ σ', mm = some (.int .i64 r.1, σ') ∧ HeapAt σ' i r.2 ∧ Keeps i σ σ'

theorem Goes.same (h : HeapAt σ i m) (τ : AMem) {code : Int} {mm : Option (Value × AMem)} (he : mm = some (.int .i64 code, σ ++ τ)) {r : Int × HM} (hr : r = (code, m)) : Goes mm σ i r :=
  ⟨σ ++ τ, by rw [hr]; exact he, by rw [hr]; exact h.app τ, Keeps.app i σ τ⟩

theorem Goes.to {mm mm' : Option (Value × AMem)} {r : Int × HM} (h : Goes mm σ i r) (f : ∀ σ', mm = some (.int .i64 r.1, σ') → mm' = some (.int .i64 r.1, σ')) : Goes mm' σ i r := by
  obtain ⟨σ', e, g⟩ := h
  exact ⟨σ', f σ' e, g⟩

/-- A heap with another word. -/
def wordM (m : HM) (a : Nat) (v : Int) : HM := { m with wds := m.wds.set a v }

/-- A store into a word that is no object's head. -/
theorem store_goes (h : HeapAt σ i m) (hI : Inv m) (τ : AMem) {j t : Nat} (hs : Start m j) (ht : 2 + t < sz m j) (v : Int) (hv : inI v) {mm : Option (Value × AMem)}
    (he : mm = (AX.st1 (σ ++ τ) i.wd (2 * j + 2 + t) (.int .i64 v)).bind fun s => some (.int .i64 0, s)) : Goes mm σ i (0, wordM m (2 * j + 2 + t) v) := by
  have hf := hI.fit j hs
  obtain ⟨e, h'⟩ := (h.app τ).st1 (show 2 * j + 2 + t < m.wds.length by omega) v hv
  rw [e] at he
  exact ⟨_, he, h', (Keeps.app i σ τ).trans (Keeps.set _ _ (by simp [HIds.l]))⟩

def setRefR (m : HM) (a x v : Int) : Int × HM :=
  if (fieldM m a x false).2 = 0 then (if v ≠ 0 ∧ hasM m v = false then (1, m) else (0, wordM m (fieldM m a x false).1.toNat v)) else ((fieldM m a x false).2, m)
def setDataR (m : HM) (a x v : Int) : Int × HM :=
  if (fieldM m a x true).2 = 0 then (0, wordM m (fieldM m a x true).1.toNat v) else ((fieldM m a x true).2, m)
def pinR (m : HM) (a : Int) (v : Nat) : Int × HM := if hasM m a then (0, { m with pnw := tput 1 m.pnw (a.toNat / 2) v }) else (4, m)
def pokeR (m : HM) (a v : Int) : Int × HM :=
  if 0 ≤ a ∧ a < (m.wds.length : Int) then (match findM m a.toNat with
    | none => (4, m)
    | some j => if ((2 * j + 2 : Nat) : Int) ≤ a ∧ a < ((2 * j + 2 : Nat) : Int) + refsAt m j + dataAt m j then (0, wordM m a.toNat v) else (4, m)) else (1, m)

/-- What pins are does not matter to the rest. -/
theorem Inv.pins (h : Inv m) (l : List (BitVec 64)) : Inv { m with pnw := l } := ⟨h.good, h.fit, h.apart, h.idn, h.plc, h.brt, h.onc⟩
theorem Inv.forwards (h : Inv m) (l : List (Int × Int)) : Inv { m with fw := l } := ⟨h.good, h.fit, h.apart, h.idn, h.plc, h.brt, h.onc⟩

/-! CP -/

/-- A heap with one object more. -/
def placeM (m : HM) (j : Nat) (n : Int) : HM :=
  { m with wds := (m.wds.set (2 * j) (m.births + 1)).set (2 * j + 1) n, stw := tput 1 m.stw j 1, pl := setM (m.births + 1) ((2 * j : Nat) : Int) m.pl, births := m.births + 1 }

theorem start_place {n : Int} {j j' : Nat} (hl : 32 * m.bls.length ≤ 64 * m.stw.length) (hj : j < 32 * m.bls.length) : Start (placeM m j n) j' ↔ j' = j ∨ Start m j' := by
  unfold Start placeM
  simp only
  by_cases hq : j' = j
  · subst hq
    simp only [true_or, iff_true]
    exact ⟨hj, tget_tput_same (.inl rfl) (by decide) (by omega)⟩
  · rw [tget_tput_other (.inl rfl) (by decide) (fun e => hq e.symm)]
    simp [hq]

theorem Inv.place (h : Inv m) (hw : m.wds.length = 64 * m.bls.length) (hl : 32 * m.bls.length ≤ 64 * m.stw.length) {j : Nat} {r d k : Int} (hv : valid r d k = true) (hj : j < 32 * m.bls.length)
    (hfit : 2 * j + szN (num r d k) ≤ m.wds.length) (hap : ∀ o, Start m o → 2 * o + sz m o ≤ 2 * j ∨ 2 * j + szN (num r d k) ≤ 2 * o) : Inv (placeM m j (num r d k)) := by
  have hst := fun j' => start_place (m := m) (n := num r d k) (j := j) (j' := j') hl hj
  have hnj : ¬ Start m j := fun hs => by
    have h1 := hap j hs
    have h2 := h.size hs
    have h3 : 2 ≤ szN (num r d k) := by
      rw [szN_num hv]
      simp [valid] at hv
      omega
    omega
  have w0 : (placeM m j (num r d k)).wds.getD (2 * j) 0 = m.births + 1 := by
    unfold placeM; simp only
    rw [getD_set_in, if_neg (by omega), getD_set_in, if_pos (by omega)]
  have w1 : (placeM m j (num r d k)).wds.getD (2 * j + 1) 0 = num r d k := by
    unfold placeM; simp only
    rw [getD_set_in, if_pos ⟨rfl, by simp; omega⟩]
  have wo : ∀ j' c, j' ≠ j → c < 2 → (placeM m j (num r d k)).wds.getD (2 * j' + c) 0 = m.wds.getD (2 * j' + c) 0 := by
    intro j' c hne hc
    unfold placeM; simp only
    rw [getD_set_in, if_neg (by omega), getD_set_in, if_neg (by omega)]
  have s1 : sz (placeM m j (num r d k)) j = szN (num r d k) := by unfold sz; rw [w1]
  have so : ∀ j', j' ≠ j → sz (placeM m j (num r d k)) j' = sz m j' := fun j' hne => by unfold sz; rw [wo j' 1 hne (by decide)]
  have wl : (placeM m j (num r d k)).wds.length = m.wds.length := by simp [placeM]
  have wo0 : ∀ j', j' ≠ j → (placeM m j (num r d k)).wds.getD (2 * j') 0 = m.wds.getD (2 * j') 0 := fun j' hne => wo j' 0 hne (by decide)
  have hpl : ∀ x, getM (placeM m j (num r d k)).pl x = if x = m.births + 1 then some ((2 * j : Nat) : Int) else getM m.pl x := fun x => getM_set _ _ _ _
  have hne : ∀ j', Start m j' → j' ≠ j := fun j' hs e => hnj (e ▸ hs)
  refine ⟨fun j' hs' => ?_, fun j' hs' => ?_, fun j1 j2 h1 h2 hlt => ?_, fun j' hs' => ?_, fun id a hg => ?_, ?_, ?_⟩
  · rcases (hst j').1 hs' with rfl | hs'
    · exact ⟨r, d, k, hv, w1⟩
    · obtain ⟨r', d', k', hv', hn⟩ := h.good j' hs'
      exact ⟨r', d', k', hv', by rw [wo j' 1 (hne j' hs') (by decide)]; exact hn⟩
  · rw [wl]
    rcases (hst j').1 hs' with rfl | hs'
    · rw [s1]; exact hfit
    · rw [so j' (hne j' hs')]; exact h.fit j' hs'
  · rcases (hst j1).1 h1 with rfl | h1'
    · rcases (hst j2).1 h2 with rfl | h2'
      · omega
      · rw [s1]
        have := hap j2 h2'
        have := h.size h2'
        omega
    · rw [so j1 (hne j1 h1')]
      rcases (hst j2).1 h2 with rfl | h2'
      · have := hap j1 h1'
        omega
      · exact h.apart j1 j2 h1' h2' hlt
  · rw [hpl]
    rcases (hst j').1 hs' with rfl | hs'
    · rw [w0]
      have := h.brt
      refine ⟨by omega, by show _ ≤ m.births + 1; omega, if_pos rfl⟩
    · rw [wo0 j' (hne j' hs')]
      obtain ⟨i1, i2, i3⟩ := h.idn j' hs'
      refine ⟨i1, by show _ ≤ m.births + 1; omega, ?_⟩
      rw [if_neg (by omega)]; exact i3
  · rw [hpl] at hg
    split at hg
    · rename_i hid
      cases hg
      exact ⟨j, rfl, (hst j).2 (.inl rfl), by rw [w0, hid]⟩
    · obtain ⟨j', rfl, hs', he⟩ := h.plc id a hg
      exact ⟨j', rfl, (hst j').2 (.inr hs'), by rw [wo0 j' (hne j' hs')]; exact he⟩
  · have := h.brt
    show 0 ≤ m.births + 1
    omega
  · exact once_set _ _ _ h.onc

theorem number_to (k : Nat) {r d c : Int} (hv : valid r d c = true) (σ : AMem) : ∃ τ, d_heap_number (k + 1) r d c σ = some (.int .i64 (num r d c), σ ++ τ) := by
  rw [d_heap_number_eq, b_heap_number]
  simp only [allocK, ldI_new, Nat.zero_add, List.getElem?_cons_zero, List.getElem?_cons_succ, Option.bind_some, toI_int]
  simp [valid] at hv
  have e1 : w64 (16 * d) = 16 * d := w64_in (by unfold inI; omega)
  have e2 : w64 (r + 16 * d) = r + 16 * d := w64_in (by unfold inI; omega)
  have e3 : w64 (4096 * c) = 4096 * c := w64_in (by unfold inI; omega)
  have e4 : w64 (r + 16 * d + 4096 * c) = r + 16 * d + 4096 * c := w64_in (by unfold inI; omega)
  simp only [e1, e2, e3, e4, num]
  exact ⟨_, rfl⟩

theorem tput_len1 {l : List (BitVec 64)} {n : Nat} (h : l.length = (32 * n * 1 + 63) / 64) : 32 * n ≤ 64 * l.length := by omega

theorem fitsM_lt {a : Int} {wo : Nat} {but : Int} (h : fitsM m a wo but = 0) : 0 ≤ a := by
  unfold fitsM at h
  split at h
  · cases h
  · rename_i h0
    exact (Classical.not_not.1 h0).1

/-- Place: the identity, the error, and the heap. -/
def placeR (m : HM) (a r d c : Int) : Int × Int × HM :=
  if valid r d c then (if fitsM m a (szN (num r d c)) (-1) = 0 then (m.births + 1, 0, placeM m (a.toNat / 2) (num r d c)) else (0, fitsM m a (szN (num r d c)) (-1), m)) else (0, 2, m)

theorem Place_to (k : Nat) (hk : 5000 ≤ k) (h : HeapAt σ i m) (hI : Inv m) (hb : m.births < 1000000) (a r d c : Int) (ha : inI a) : ∃ σ', d_heap_Heap_Place (k + 12) (hptr i) a r d c σ = some (.tuple #[.int .i64 (placeR m a r d c).1, .int .i64 (placeR m a r d c).2.1], σ') ∧ HeapAt σ' i (placeR m a r d c).2.2 ∧ Keeps i σ σ' := by
  have ht := h.nt
  have hw := h.wl
  rw [d_heap_Heap_Place_eq, b_heap_Heap_Place]
  simp only [allocK]
  obtain ⟨μ0, hμ0⟩ : ∃ μ0, σ ++ [AObj.cells [Value.int .i64 r, .int .i64 d, .int .i64 c] ty_api_Shape true] = μ0 := ⟨_, rfl⟩
  have h0 : HeapAt μ0 i m := hμ0 ▸ h.app _
  have k0 : Keeps i σ μ0 := hμ0 ▸ Keeps.app i σ _
  have hbox : μ0[σ.length]? = some (AObj.cells [Value.int .i64 r, .int .i64 d, .int .i64 c] ty_api_Shape true) := by rw [← hμ0]; simp
  have bx : ∀ {μ : AMem}, μ[σ.length]? = some (AObj.cells [Value.int .i64 r, .int .i64 d, .int .i64 c] ty_api_Shape true) → ldI .i64 μ σ.length 0 = some r ∧ ldI .i64 μ σ.length 1 = some d ∧ ldI .i64 μ σ.length 2 = some c := by
    intro μ hm; simp [ldI, ld1, hm, toI]
  have hnew : σ.length ∉ i.l := fun hm => Nat.lt_irrefl _ (h.lt _ hm)
  have bk : ∀ {μ μ' : AMem}, Keeps i μ μ' → μ[σ.length]? = some (AObj.cells [Value.int .i64 r, .int .i64 d, .int .i64 c] ty_api_Shape true) → μ'[σ.length]? = some (AObj.cells [Value.int .i64 r, .int .i64 d, .int .i64 c] ty_api_Shape true) := fun hk hm => (hk.same _ (getElem?_lt hm) hnew).trans hm
  obtain ⟨τ1, hV⟩ := heap_Valid_to (k + 10) r d c μ0
  rw [hμ0]
  obtain ⟨b0, b1, b2⟩ := bx hbox
  simp only [hmade_to _ h0, Option.bind_some, toB_bool, Bool.not_true, cond_false, Nat.zero_add, Nat.reduceAdd, b0, b1, b2, hV]
  cases hv : valid r d c with
  | false =>
    unfold placeR
    rw [hv]
    exact ⟨μ0 ++ τ1, by simp, h0.app _, k0.trans (Keeps.app i μ0 τ1)⟩
  | true =>
    have hx1 := bk (Keeps.app i μ0 τ1) hbox
    obtain ⟨c0, c1, c2⟩ := bx hx1
    obtain ⟨τ2, hW⟩ := heap_Words_to (k + 9) r d c (μ0 ++ τ1)
    have hwo : words r d c = ((szN (num r d c) : Nat) : Int) := by
      rw [szN_num hv]; unfold words; rw [hv]; simp only [cond_true]
      simp [valid] at hv
      omega
    have hwl := szN_le (num r d c)
    have hw2 : 2 ≤ szN (num r d c) := by
      rw [szN_num hv]
      simp [valid] at hv
      omega
    have h1 : HeapAt (μ0 ++ τ1 ++ τ2) i m := (h0.app _).app _
    obtain ⟨τ3, hF⟩ := fits_to k hk h1 a (szN (num r d c)) (-1) hw2 hwl
    simp only [Bool.not_true, cond_false, c0, c1, c2, hW, Option.bind_some, toI_int, hwo, hF]
    obtain ⟨μ1, hμ1⟩ : ∃ μ1, μ0 ++ τ1 ++ τ2 ++ τ3 = μ1 := ⟨_, rfl⟩
    rw [hμ1]
    have hh1 : HeapAt μ1 i m := hμ1 ▸ h1.app _
    have k1 : Keeps i μ0 μ1 := hμ1 ▸ (((Keeps.app i μ0 τ1).trans (Keeps.app i _ τ2)).trans (Keeps.app i _ τ3))
    have hx2 := bk k1 hbox
    by_cases hc : fitsM m a (szN (num r d c)) (-1) = 0
    rotate_left
    · have q : (fitsM m a (szN (num r d c)) (-1) != 0) = true := by simpa using hc
      simp only [q, cond_true]
      unfold placeR
      rw [hv, if_pos rfl, if_neg hc]
      exact ⟨μ1, rfl, hh1, k0.trans k1⟩
    obtain ⟨j, rfl, hj, hfit, hap⟩ := hI.fits hw hwl hw2 hc
    have hbrt := hI.brt
    obtain ⟨μ2, e2, hh2, k2⟩ := hh1.st6 (m.births + 1)
    have hx3 := bk k2 hx2
    obtain ⟨d0, d1, d2⟩ := bx hx3
    obtain ⟨τ4, hN⟩ := number_to (k + 10) hv μ2
    have e0 : w64 (m.births + 1) = m.births + 1 := w64_in (by unfold inI; omega)
    have q1 : (0 ≤ ((2 * j : Nat) : Int) ∧ ((2 * j : Nat) : Int) < ((m.wds.length : Nat) : Int)) = True := eq_true (by omega)
    have ew : w64 (((2 * j : Nat) : Int) + 1) = ((2 * j + 1 : Nat) : Int) := w64_in (by unfold inI; omega)
    have q2 : (0 ≤ ((2 * j + 1 : Nat) : Int) ∧ ((2 * j + 1 : Nat) : Int) < ((m.wds.length : Nat) : Int)) = True := eq_true (by omega)
    obtain ⟨e4, hh4⟩ := (hh2.app τ4).st1 (a := 2 * j) (by show 2 * j < m.wds.length; omega) (m.births + 1) (by unfold inI; omega)
    obtain ⟨μ4, hμ4⟩ : ∃ μ4, (μ2 ++ τ4).set i.wd (.cells (inRow (m.wds.set (2 * j) (m.births + 1))) el_heap_Heap_words true) = μ4 := ⟨_, rfl⟩
    simp only at e4 hh4
    rw [hμ4] at e4 hh4
    obtain ⟨e5, hh5⟩ := hh4.st1 (a := 2 * j + 1) (by simp; omega) (num r d c) (num_parts hv).2.2.2
    simp only at e5 hh5
    obtain ⟨μ5, hμ5⟩ : ∃ μ5, μ4.set i.wd (.cells (inRow ((m.wds.set (2 * j) (m.births + 1)).set (2 * j + 1) (num r d c))) el_heap_Heap_words true) = μ5 := ⟨_, rfl⟩
    rw [hμ5] at e5 hh5
    obtain ⟨τ6, hS⟩ := Set_to (k + 2) hh5.st (j := j) (v := 1) hj (by decide)
    have t1 : ((2 * j : Nat) : Int).tdiv 2 = (j : Int) := by
      rw [show ((2 * j : Nat) : Int).tdiv 2 = (((2 * j) / 2 : Nat) : Int) from rfl]; omega
    have e6 : w64 (j : Int) = (j : Int) := w64_in (by unfold inI; omega)
    have hh6 := (hh5.app τ6).setSt j 1
    simp only at hS hh6
    obtain ⟨μ6, hμ6⟩ : ∃ μ6, (μ5 ++ τ6).set i.sw (.cells (rowOf (tput 1 m.stw j 1)) el_side_Table_words true) = μ6 := ⟨_, rfl⟩
    rw [hμ6] at hS hh6
    have hh7 := hh6.setPl (setM (m.births + 1) ((2 * j : Nat) : Int) m.pl)
    simp only at hh7
    have k4 : Keeps i μ2 μ4 := hμ4 ▸ (Keeps.app i μ2 τ4).trans (Keeps.set _ _ (by simp [HIds.l]))
    have k5 : Keeps i μ4 μ5 := hμ5 ▸ Keeps.set _ _ (by simp [HIds.l])
    have k6 : Keeps i μ5 μ6 := hμ6 ▸ (Keeps.app i μ5 τ6).trans (Keeps.set _ _ (by simp [HIds.l]))
    unfold placeR
    rw [hv, if_pos rfl, if_pos hc, show ((2 * j : Nat) : Int).toNat / 2 = j from by omega]
    refine ⟨μ6.set i.pl (.map (mpRow (setM (m.births + 1) ((2 * j : Nat) : Int) m.pl))), ?_, hh7, ((((k0.trans k1).trans k2).trans k4).trans k5).trans (k6.trans (Keeps.set _ _ (by simp [HIds.l])))⟩
    simp only [hc, bne_self_eq_false, cond_false, hh1.ld6, Option.bind_some, e0, e2, hh2.ld1', hh2.ld6, d0, d1, d2, hN]
    simp only [toI_int, Option.bind_some, ew, Nat.zero_add, Nat.mul_one, Int.toNat_natCast]
    rw [if_pos (by omega)]
    simp only [e4, Option.bind_some]
    rw [if_pos (by omega)]
    have hS' : d_side_Table_Set (k + 11) (some ⟨i.st, 0, none⟩) (j : Int) 1 μ5 = some (.int .i64 0, μ6) := hS
    simp only [e5, Option.bind_some, hh5.ld2, t1, e6, show ((2 : Int) = 0) = False from by simp, if_false, hS', toI_int, hh6.ld4, hh6.ld6, ldMap, hh6.pl, mapSet_mp, hh7.ld6]


/-! CK -/

/-- Words that hold others. -/
def putW (l : List Int) (a : Nat) (v : List Int) : List Int := l.take a ++ v ++ l.drop (a + v.length)
theorem putW_length {l : List Int} {a : Nat} {v : List Int} (h : a + v.length ≤ l.length) : (putW l a v).length = l.length := by
  simp [putW]; omega
theorem putW_getD {l : List Int} {a : Nat} {v : List Int} (h : a + v.length ≤ l.length) (x : Nat) : (putW l a v).getD x 0 = if a ≤ x ∧ x < a + v.length then v.getD (x - a) 0 else l.getD x 0 := by
  simp only [putW, List.getD_eq_getElem?_getD]
  have ha : (l.take a).length = a := by simp; omega
  rcases Nat.lt_or_ge x a with h1 | h1
  · rw [List.append_assoc, List.getElem?_append_left (by rw [ha]; exact h1), List.getElem?_take, if_pos h1, if_neg (by omega)]
  · rcases Nat.lt_or_ge x (a + v.length) with h2 | h2
    · rw [List.append_assoc, List.getElem?_append_right (by rw [ha]; exact h1), ha, List.getElem?_append_left (by omega), if_pos ⟨h1, h2⟩]
    · rw [List.getElem?_append_right (by simp; omega), if_neg (by omega), List.getElem?_drop]
      congr 2
      simp; omega
theorem inRow_put (l : List Int) (a : Nat) (v : List Int) : inRow (putW l a v) = setRange (inRow l) a (inRow v) := by
  simp [putW, inRow, setRange, List.map_take, List.map_drop]
theorem rep_zero (n : Nat) : rep n [Value.int .i64 0] = inRow (List.replicate n 0) := by
  simp only [rep, inRow, List.map_replicate]
  induction n with
  | zero => rfl
  | succ n ih => rw [List.replicate_succ, List.flatten_cons, ih, List.replicate_succ]; rfl

theorem slice_words (h : HeapAt σ i m) {a b : Nat} (hab : a < b) (hb : b ≤ m.wds.length) :
    sliceD ty_int 1 (some ⟨i.wd, 0, none⟩, m.wds.length, m.wds.length) (some (.int .i64 (a : Int))) (some (.int .i64 (b : Int))) none σ = some (some ⟨i.wd, a, none⟩, b - a, m.wds.length - a) := by
  have e1 : elemAt σ i.wd = some 3 := by simp only [elemAt, h.wd]
  have c1 : (0 ≤ (b : Int) ∧ (b : Int) ≤ ((m.wds.length : Nat) : Int)) := by omega
  have c2 : (0 ≤ (a : Int) ∧ (a : Int) ≤ ((b : Nat) : Int)) := by omega
  simp only [sliceD, Option.isSome_none, Bool.not_false, Bool.true_or, cond_true, bound, Int.toNat_natCast]
  rw [if_pos c1, if_pos c2, if_neg (by omega)]
  simp [e1]

theorem wipe_to (k : Nat) (h : HeapAt σ i m) {a n : Nat} (hn : 0 < n) (ha : a + n ≤ m.wds.length) :
    d_heap_Heap_wipe (k + 1) (hptr i) (a : Int) (n : Int) σ = some (.tuple #[], σ.set i.wd (.cells (inRow (putW m.wds a (List.replicate n 0))) el_heap_Heap_words true)) ∧
    HeapAt (σ.set i.wd (.cells (inRow (putW m.wds a (List.replicate n 0))) el_heap_Heap_words true)) i { m with wds := putW m.wds a (List.replicate n 0) } := by
  have ht := h.nt
  have hw := h.wl
  refine ⟨?_, h.setWd _ (putW_length (by simpa using ha)) fun x => ?_⟩
  · rw [d_heap_Heap_wipe_eq, b_heap_Heap_wipe]
    have e1 : w64 ((a : Int) + (n : Int)) = ((a + n : Nat) : Int) := w64_in (by unfold inI; omega)
    simp only [Option.bind_some, Nat.zero_add, h.ld1', e1, slice_words h (show a < a + n by omega) ha]
    rw [if_neg (by omega)]
    rw [show a + n - a = n from by omega]
    simp only [Option.bind_some, stN, h.wd, rep_zero, inRow_length, List.length_replicate, ha, if_true, inRow_put]
  · rw [putW_getD (by simpa using ha)]
    split
    · rw [List.getD_eq_getElem?_getD, List.getElem?_replicate]
      split <;> (unfold inI; decide)
    · exact h.wi x

/-- A heap with one object less. -/
def killM (m : HM) (j : Nat) : HM :=
  { m with wds := putW m.wds (2 * j) (List.replicate (sz m j) 0), stw := tput 1 m.stw j 0, pnw := tput 1 m.pnw j 0, pl := delM (m.wds.getD (2 * j) 0) m.pl }

theorem start_kill {j j' : Nat} (hl : 32 * m.bls.length ≤ 64 * m.stw.length) (hj : j < 32 * m.bls.length) : Start (killM m j) j' ↔ j' ≠ j ∧ Start m j' := by
  unfold Start killM
  simp only
  by_cases hq : j' = j
  · subst hq
    rw [tget_tput_same (.inl rfl) (by decide) (by omega)]
    simp
  · rw [tget_tput_other (.inl rfl) (by decide) (fun e => hq e.symm)]
    simp [hq]

theorem Inv.kill (h : Inv m) (hl : 32 * m.bls.length ≤ 64 * m.stw.length) {j : Nat} (hs : Start m j) : Inv (killM m j) := by
  have hj := hs.1
  have hf := h.fit j hs
  have hst := fun j' => start_kill (m := m) (j := j) (j' := j') hl hj
  have hz := h.size hs
  have wl : (killM m j).wds.length = m.wds.length := putW_length (by simpa using hf)
  have wo : ∀ j', j' ≠ j → Start m j' → ∀ c, c < 2 → (killM m j).wds.getD (2 * j' + c) 0 = m.wds.getD (2 * j' + c) 0 := by
    intro j' hne hs' c hc
    have hz' := h.size hs'
    show (putW _ _ _).getD _ 0 = _
    rw [putW_getD (by simpa using hf), if_neg]
    rintro ⟨p1, p2⟩
    simp only [List.length_replicate] at p2
    rcases Nat.lt_trichotomy j j' with hlt | rfl | hlt
    · have := h.apart j j' hs hs' hlt; omega
    · exact hne rfl
    · have := h.apart j' j hs' hs hlt; omega
  have wo0 : ∀ j', j' ≠ j → Start m j' → (killM m j).wds.getD (2 * j') 0 = m.wds.getD (2 * j') 0 := fun j' hne hs' => wo j' hne hs' 0 (by decide)
  have so : ∀ j', j' ≠ j → Start m j' → sz (killM m j) j' = sz m j' := fun j' hne hs' => by unfold sz; rw [wo j' hne hs' 1 (by decide)]
  have hpl : ∀ x, getM (killM m j).pl x = if x = m.wds.getD (2 * j) 0 then none else getM m.pl x := fun x => getM_del _ _ _ h.onc
  refine ⟨fun j' hs' => ?_, fun j' hs' => ?_, fun j1 j2 h1 h2 hlt => ?_, fun j' hs' => ?_, fun id a hg => ?_, h.brt, once_del _ _ h.onc⟩
  · obtain ⟨hne, hs'⟩ := (hst j').1 hs'
    obtain ⟨r, d, k, hv, hn⟩ := h.good j' hs'
    exact ⟨r, d, k, hv, by rw [wo j' hne hs' 1 (by decide)]; exact hn⟩
  · obtain ⟨hne, hs'⟩ := (hst j').1 hs'
    rw [wl, so j' hne hs']; exact h.fit j' hs'
  · obtain ⟨hne1, h1'⟩ := (hst j1).1 h1
    obtain ⟨hne2, h2'⟩ := (hst j2).1 h2
    rw [so j1 hne1 h1']; exact h.apart j1 j2 h1' h2' hlt
  · obtain ⟨hne, hs'⟩ := (hst j').1 hs'
    obtain ⟨i1, i2, i3⟩ := h.idn j' hs'
    rw [wo0 j' hne hs', hpl]
    refine ⟨i1, i2, ?_⟩
    rw [if_neg]
    · exact i3
    · intro e
      rw [e, (h.idn j hs).2.2] at i3
      simp at i3
      omega
  · rw [hpl] at hg
    split at hg
    · cases hg
    · rename_i hne
      obtain ⟨j', rfl, hs', he⟩ := h.plc id a hg
      have hjj : j' ≠ j := fun e => hne (by rw [← he, e])
      exact ⟨j', rfl, (hst j').2 ⟨hjj, hs'⟩, by rw [wo0 j' hjj hs']; exact he⟩

def killR (m : HM) (a : Int) : Int × HM := if hasM m a then (0, killM m (a.toNat / 2)) else (4, m)

theorem Kill_goes (k : Nat) (h : HeapAt σ i m) (hI : Inv m) (a : Int) (ha : inI a) : Goes (d_heap_Heap_Kill (k + 12) (hptr i) a σ) σ i (killR m a) := by
  have ht := h.nt
  have hw := h.wl
  rw [d_heap_Heap_Kill_eq, b_heap_Heap_Kill]
  simp only [object_to _ h a ha, Option.bind_some, toI_int]
  cases hh : hasM m a with
  | false => exact Goes.same h [] (code := 4) (by simp) (by simp [killR, hh])
  | true =>
    obtain ⟨j, rfl, hs⟩ := hasM_spec hh
    have hr : killR m ((2 * j : Nat) : Int) = (0, killM m j) := by unfold killR; rw [hh, if_pos rfl, show ((2 * j : Nat) : Int).toNat / 2 = j from by omega]
    rw [hr]
    have hj := hs.1
    have hf := hI.fit j hs
    have hz := hI.size hs
    have t1 : ((2 * j : Nat) : Int).tdiv 2 = (j : Int) := by
      rw [show ((2 * j : Nat) : Int).tdiv 2 = (((2 * j) / 2 : Nat) : Int) from rfl]; omega
    have e1 : w64 (j : Int) = (j : Int) := w64_in (by unfold inI; omega)
    have h1 := h.setPl (delM (m.wds.getD (2 * j) 0) m.pl)
    obtain ⟨μ1, hμ1⟩ : ∃ μ1, σ.set i.pl (.map (mpRow (delM (m.wds.getD (2 * j) 0) m.pl))) = μ1 := ⟨_, rfl⟩
    rw [hμ1] at h1
    obtain ⟨τ2, hS2⟩ := Set_to (k + 2) h1.st (j := j) (v := 0) hj (by decide)
    have h2 := (h1.app τ2).setSt j 0
    simp only at hS2 h2
    obtain ⟨μ2, hμ2⟩ : ∃ μ2, (μ1 ++ τ2).set i.sw (.cells (rowOf (tput 1 m.stw j 0)) el_side_Table_words true) = μ2 := ⟨_, rfl⟩
    rw [hμ2] at hS2 h2
    obtain ⟨τ3, hS3⟩ := Set_to (k + 2) h2.pn (j := j) (v := 0) hj (by decide)
    have h3 := (h2.app τ3).setPn j 0
    simp only at hS3 h3
    obtain ⟨μ3, hμ3⟩ : ∃ μ3, (μ2 ++ τ3).set i.pw (.cells (rowOf (tput 1 m.pnw j 0)) el_side_Table_words true) = μ3 := ⟨_, rfl⟩
    rw [hμ3] at hS3 h3
    obtain ⟨τ4, hZ⟩ := size_to (k + 8) h3 hj
    have hZ' : d_heap_Heap_size (k + 11) (hptr i) ((2 * j : Nat) : Int) μ3 = some (.int .i64 (sz m j : Int), μ3 ++ τ4) := hZ
    obtain ⟨hWp, h5⟩ := wipe_to (k + 10) (h3.app τ4) (a := 2 * j) (n := sz m j) (by omega) hf
    simp only at hWp h5
    have k1 : Keeps i σ μ1 := hμ1 ▸ Keeps.set _ _ (by simp [HIds.l])
    have k2 : Keeps i μ1 μ2 := hμ2 ▸ (Keeps.app i μ1 τ2).trans (Keeps.set _ _ (by simp [HIds.l]))
    have k3 : Keeps i μ2 μ3 := hμ3 ▸ (Keeps.app i μ2 τ3).trans (Keeps.set _ _ (by simp [HIds.l]))
    refine ⟨_, ?_, h5, ((k1.trans k2).trans k3).trans ((Keeps.app i μ3 τ4).trans (Keeps.set _ _ (by simp [HIds.l])))⟩
    have q1 : (0 ≤ ((2 * j : Nat) : Int) ∧ ((2 * j : Nat) : Int) < ((m.wds.length : Nat) : Int)) := by omega
    simp only [if_true, bne_self_eq_false, cond_false, Nat.zero_add, h.ld4, h.ld1', Option.bind_some]
    rw [if_pos q1]
    have hS2' : d_side_Table_Set (k + 11) (some ⟨i.st, 0, none⟩) (j : Int) 0 μ1 = some (.int .i64 0, μ2) := hS2
    have hS3' : d_side_Table_Set (k + 11) (some ⟨i.pn, 0, none⟩) (j : Int) 0 μ2 = some (.int .i64 0, μ3) := hS3
    simp only [Option.bind_some, Nat.zero_add, Nat.mul_one, Int.toNat_natCast, h.ldW (show 2 * j < m.wds.length by omega), ldMO, ldMap, h.pl, mapDel_mp, stMO, hμ1, h1.ld2, show ((2 : Int) = 0) = False from by simp, if_false, t1, e1, hS2', toI_int, h2.ld3, hS3', hZ', hWp, r_0_eq]

end Go.Proofs.Ytlaplcglpnlieaa
