/-
  Place and Kill.
-/
import Derived.Test.YtdlihdgoobcoaaaCN
set_option linter.unusedVariables false
set_option linter.unusedSimpArgs false
namespace Go.Proofs.Ytdlihdgoobcoaaa
open Go Go.AX
noncomputable local instance : Quiet := fullQuiet
variable {σ : AMem} {i : HIds} {m : HM}

/-- A heap with one object more. -/
def placeM (m : HM) (j : Nat) (n : Int) : HM :=
  { m with wds := (m.wds.set (2 * j) (m.births + 1)).set (2 * j + 1) n, stw := tput 1 m.stw j 1, pl := setM (m.births + 1) ((2 * j : Nat) : Int) m.pl, births := m.births + 1 }

theorem start_place {n : Int} {j j' : Nat} (hl : 32 * m.bls.length ≤ 64 * m.stw.length) (hj : j < 32 * m.bls.length) : Start (placeM m j n) j' ↔ j' = j ∨ Start m j' := by
  unfold Start placeM
  simp only
  by_cases hq : j' = j
  · subst hq
    simp only [true_or, iff_true]
    exact ⟨hj, tget_tput_same (.inl rfl) (by decide) (by omega)⟩
  · rw [tget_tput_other (.inl rfl) (by decide) (fun e => hq e.symm)]
    simp [hq]

theorem Inv.place (h : Inv m) (hw : m.wds.length = 64 * m.bls.length) (hl : 32 * m.bls.length ≤ 64 * m.stw.length) {j : Nat} {r d k : Int} (hv : valid r d k = true) (hj : j < 32 * m.bls.length)
    (hfit : 2 * j + szN (num r d k) ≤ m.wds.length) (hap : ∀ o, Start m o → 2 * o + sz m o ≤ 2 * j ∨ 2 * j + szN (num r d k) ≤ 2 * o) : Inv (placeM m j (num r d k)) := by
  have hst := fun j' => start_place (m := m) (n := num r d k) (j := j) (j' := j') hl hj
  have hnj : ¬ Start m j := fun hs => by
    have h1 := hap j hs
    have h2 := h.size hs
    have h3 : 2 ≤ szN (num r d k) := by
      rw [szN_num hv]
      simp [valid] at hv
      omega
    omega
  have w0 : (placeM m j (num r d k)).wds.getD (2 * j) 0 = m.births + 1 := by
    unfold placeM; simp only
    rw [getD_set_in, if_neg (by omega), getD_set_in, if_pos (by omega)]
  have w1 : (placeM m j (num r d k)).wds.getD (2 * j + 1) 0 = num r d k := by
    unfold placeM; simp only
    rw [getD_set_in, if_pos ⟨rfl, by simp; omega⟩]
  have wo : ∀ j' c, j' ≠ j → c < 2 → (placeM m j (num r d k)).wds.getD (2 * j' + c) 0 = m.wds.getD (2 * j' + c) 0 := by
    intro j' c hne hc
    unfold placeM; simp only
    rw [getD_set_in, if_neg (by omega), getD_set_in, if_neg (by omega)]
  have s1 : sz (placeM m j (num r d k)) j = szN (num r d k) := by unfold sz; rw [w1]
  have so : ∀ j', j' ≠ j → sz (placeM m j (num r d k)) j' = sz m j' := fun j' hne => by unfold sz; rw [wo j' 1 hne (by decide)]
  have wl : (placeM m j (num r d k)).wds.length = m.wds.length := by simp [placeM]
  have wo0 : ∀ j', j' ≠ j → (placeM m j (num r d k)).wds.getD (2 * j') 0 = m.wds.getD (2 * j') 0 := fun j' hne => wo j' 0 hne (by decide)
  have hpl : ∀ x, getM (placeM m j (num r d k)).pl x = if x = m.births + 1 then some ((2 * j : Nat) : Int) else getM m.pl x := fun x => getM_set _ _ _ _
  have hne : ∀ j', Start m j' → j' ≠ j := fun j' hs e => hnj (e ▸ hs)
  refine ⟨fun j' hs' => ?_, fun j' hs' => ?_, fun j1 j2 h1 h2 hlt => ?_, fun j' hs' => ?_, fun id a hg => ?_, ?_, ?_⟩
  · rcases (hst j').1 hs' with rfl | hs'
    · exact ⟨r, d, k, hv, w1⟩
    · obtain ⟨r', d', k', hv', hn⟩ := h.good j' hs'
      exact ⟨r', d', k', hv', by rw [wo j' 1 (hne j' hs') (by decide)]; exact hn⟩
  · rw [wl]
    rcases (hst j').1 hs' with rfl | hs'
    · rw [s1]; exact hfit
    · rw [so j' (hne j' hs')]; exact h.fit j' hs'
  · rcases (hst j1).1 h1 with rfl | h1'
    · rcases (hst j2).1 h2 with rfl | h2'
      · omega
      · rw [s1]
        have := hap j2 h2'
        have := h.size h2'
        omega
    · rw [so j1 (hne j1 h1')]
      rcases (hst j2).1 h2 with rfl | h2'
      · have := hap j1 h1'
        omega
      · exact h.apart j1 j2 h1' h2' hlt
  · rw [hpl]
    rcases (hst j').1 hs' with rfl | hs'
    · rw [w0]
      have := h.brt
      refine ⟨by omega, by show _ ≤ m.births + 1; omega, if_pos rfl⟩
    · rw [wo0 j' (hne j' hs')]
      obtain ⟨i1, i2, i3⟩ := h.idn j' hs'
      refine ⟨i1, by show _ ≤ m.births + 1; omega, ?_⟩
      rw [if_neg (by omega)]; exact i3
  · rw [hpl] at hg
    split at hg
    · rename_i hid
      cases hg
      exact ⟨j, rfl, (hst j).2 (.inl rfl), by rw [w0, hid]⟩
    · obtain ⟨j', rfl, hs', he⟩ := h.plc id a hg
      exact ⟨j', rfl, (hst j').2 (.inr hs'), by rw [wo0 j' (hne j' hs')]; exact he⟩
  · have := h.brt
    show 0 ≤ m.births + 1
    omega
  · exact once_set _ _ _ h.onc

theorem number_to (k : Nat) {r d c : Int} (hv : valid r d c = true) (σ : AMem) : ∃ τ, d_heap_number (k + 1) r d c σ = some (.int .i64 (num r d c), σ ++ τ) := by
  rw [d_heap_number]
  simp only [allocK, ldI_new, Nat.zero_add, List.getElem?_cons_zero, List.getElem?_cons_succ, Option.bind_some, toI_int]
  simp [valid] at hv
  have e1 : w64 (16 * d) = 16 * d := w64_in (by unfold inI; omega)
  have e2 : w64 (r + 16 * d) = r + 16 * d := w64_in (by unfold inI; omega)
  have e3 : w64 (4096 * c) = 4096 * c := w64_in (by unfold inI; omega)
  have e4 : w64 (r + 16 * d + 4096 * c) = r + 16 * d + 4096 * c := w64_in (by unfold inI; omega)
  simp only [e1, e2, e3, e4, num]
  exact ⟨_, rfl⟩

theorem tput_len1 {l : List (BitVec 64)} {n : Nat} (h : l.length = (32 * n * 1 + 63) / 64) : 32 * n ≤ 64 * l.length := by omega

theorem fitsM_lt {a : Int} {wo : Nat} {but : Int} (h : fitsM m a wo but = 0) : 0 ≤ a := by
  unfold fitsM at h
  split at h
  · cases h
  · rename_i h0
    exact (Classical.not_not.1 h0).1

/-- Place: the identity, the error, and the heap. -/
def placeR (m : HM) (a r d c : Int) : Int × Int × HM :=
  if valid r d c then (if fitsM m a (szN (num r d c)) (-1) = 0 then (m.births + 1, 0, placeM m (a.toNat / 2) (num r d c)) else (0, fitsM m a (szN (num r d c)) (-1), m)) else (0, 2, m)

theorem Place_to (k : Nat) (hk : 5000 ≤ k) (h : HeapAt σ i m) (hI : Inv m) (hb : m.births < 1000000) (a r d c : Int) (ha : inI a) : ∃ σ', d_heap_Heap_Place (k + 12) (hptr i) a r d c σ = some (.tuple #[.int .i64 (placeR m a r d c).1, .int .i64 (placeR m a r d c).2.1], σ') ∧ HeapAt σ' i (placeR m a r d c).2.2 ∧ Keeps i σ σ' := by
  have ht := h.nt
  have hw := h.wl
  rw [d_heap_Heap_Place]
  simp only [allocK]
  obtain ⟨μ0, hμ0⟩ : ∃ μ0, σ ++ [AObj.cells [Value.int .i64 r, .int .i64 d, .int .i64 c] 23 true] = μ0 := ⟨_, rfl⟩
  have h0 : HeapAt μ0 i m := hμ0 ▸ h.app _
  have k0 : Keeps i σ μ0 := hμ0 ▸ Keeps.app i σ _
  have hbox : μ0[σ.length]? = some (AObj.cells [Value.int .i64 r, .int .i64 d, .int .i64 c] 23 true) := by rw [← hμ0]; simp
  have bx : ∀ {μ : AMem}, μ[σ.length]? = some (AObj.cells [Value.int .i64 r, .int .i64 d, .int .i64 c] 23 true) → ldI .i64 μ σ.length 0 = some r ∧ ldI .i64 μ σ.length 1 = some d ∧ ldI .i64 μ σ.length 2 = some c := by
    intro μ hm; simp [ldI, ld1, hm, toI]
  have hnew : σ.length ∉ i.l := fun hm => Nat.lt_irrefl _ (h.lt _ hm)
  have bk : ∀ {μ μ' : AMem}, Keeps i μ μ' → μ[σ.length]? = some (AObj.cells [Value.int .i64 r, .int .i64 d, .int .i64 c] 23 true) → μ'[σ.length]? = some (AObj.cells [Value.int .i64 r, .int .i64 d, .int .i64 c] 23 true) := fun hk hm => (hk.same _ (getElem?_lt hm) hnew).trans hm
  obtain ⟨τ1, hV⟩ := heap_Valid_to (k + 10) r d c μ0
  rw [hμ0]
  obtain ⟨b0, b1, b2⟩ := bx hbox
  simp only [hmade_to _ h0, Option.bind_some, toB_bool, Bool.not_true, cond_false, Nat.zero_add, Nat.reduceAdd, b0, b1, b2, hV]
  cases hv : valid r d c with
  | false =>
    unfold placeR
    rw [hv]
    exact ⟨μ0 ++ τ1, by simp, h0.app _, k0.trans (Keeps.app i μ0 τ1)⟩
  | true =>
    have hx1 := bk (Keeps.app i μ0 τ1) hbox
    obtain ⟨c0, c1, c2⟩ := bx hx1
    obtain ⟨τ2, hW⟩ := heap_Words_to (k + 9) r d c (μ0 ++ τ1)
    have hwo : words r d c = ((szN (num r d c) : Nat) : Int) := by
      rw [szN_num hv]; unfold words; rw [hv]; simp only [cond_true]
      simp [valid] at hv
      omega
    have hwl := szN_le (num r d c)
    have hw2 : 2 ≤ szN (num r d c) := by
      rw [szN_num hv]
      simp [valid] at hv
      omega
    have h1 : HeapAt (μ0 ++ τ1 ++ τ2) i m := (h0.app _).app _
    obtain ⟨τ3, hF⟩ := fits_to k hk h1 a (szN (num r d c)) (-1) hw2 hwl
    simp only [Bool.not_true, cond_false, c0, c1, c2, hW, Option.bind_some, toI_int, hwo, hF]
    obtain ⟨μ1, hμ1⟩ : ∃ μ1, μ0 ++ τ1 ++ τ2 ++ τ3 = μ1 := ⟨_, rfl⟩
    rw [hμ1]
    have hh1 : HeapAt μ1 i m := hμ1 ▸ h1.app _
    have k1 : Keeps i μ0 μ1 := hμ1 ▸ (((Keeps.app i μ0 τ1).trans (Keeps.app i _ τ2)).trans (Keeps.app i _ τ3))
    have hx2 := bk k1 hbox
    by_cases hc : fitsM m a (szN (num r d c)) (-1) = 0
    rotate_left
    · have q : (fitsM m a (szN (num r d c)) (-1) != 0) = true := by simpa using hc
      simp only [q, cond_true]
      unfold placeR
      rw [hv, if_pos rfl, if_neg hc]
      exact ⟨μ1, rfl, hh1, k0.trans k1⟩
    obtain ⟨j, rfl, hj, hfit, hap⟩ := hI.fits hw hwl hw2 hc
    have hbrt := hI.brt
    obtain ⟨μ2, e2, hh2, k2⟩ := hh1.st6 (m.births + 1)
    have hx3 := bk k2 hx2
    obtain ⟨d0, d1, d2⟩ := bx hx3
    obtain ⟨τ4, hN⟩ := number_to (k + 10) hv μ2
    have e0 : w64 (m.births + 1) = m.births + 1 := w64_in (by unfold inI; omega)
    have q1 : (0 ≤ ((2 * j : Nat) : Int) ∧ ((2 * j : Nat) : Int) < ((m.wds.length : Nat) : Int)) = True := eq_true (by omega)
    have ew : w64 (((2 * j : Nat) : Int) + 1) = ((2 * j + 1 : Nat) : Int) := w64_in (by unfold inI; omega)
    have q2 : (0 ≤ ((2 * j + 1 : Nat) : Int) ∧ ((2 * j + 1 : Nat) : Int) < ((m.wds.length : Nat) : Int)) = True := eq_true (by omega)
    obtain ⟨e4, hh4⟩ := (hh2.app τ4).st1 (a := 2 * j) (by show 2 * j < m.wds.length; omega) (m.births + 1) (by unfold inI; omega)
    obtain ⟨μ4, hμ4⟩ : ∃ μ4, (μ2 ++ τ4).set i.wd (.cells (inRow (m.wds.set (2 * j) (m.births + 1))) el_heap_Heap_words true) = μ4 := ⟨_, rfl⟩
    simp only at e4 hh4
    rw [hμ4] at e4 hh4
    obtain ⟨e5, hh5⟩ := hh4.st1 (a := 2 * j + 1) (by simp; omega) (num r d c) (num_parts hv).2.2.2
    simp only at e5 hh5
    obtain ⟨μ5, hμ5⟩ : ∃ μ5, μ4.set i.wd (.cells (inRow ((m.wds.set (2 * j) (m.births + 1)).set (2 * j + 1) (num r d c))) el_heap_Heap_words true) = μ5 := ⟨_, rfl⟩
    rw [hμ5] at e5 hh5
    obtain ⟨τ6, hS⟩ := Set_to (k + 2) hh5.st (j := j) (v := 1) hj (by decide)
    have t1 : ((2 * j : Nat) : Int).tdiv 2 = (j : Int) := by
      rw [show ((2 * j : Nat) : Int).tdiv 2 = (((2 * j) / 2 : Nat) : Int) from rfl]; omega
    have e6 : w64 (j : Int) = (j : Int) := w64_in (by unfold inI; omega)
    have hh6 := (hh5.app τ6).setSt j 1
    simp only at hS hh6
    obtain ⟨μ6, hμ6⟩ : ∃ μ6, (μ5 ++ τ6).set i.sw (.cells (rowOf (tput 1 m.stw j 1)) el_side_Table_words true) = μ6 := ⟨_, rfl⟩
    rw [hμ6] at hS hh6
    have hh7 := hh6.setPl (setM (m.births + 1) ((2 * j : Nat) : Int) m.pl)
    simp only at hh7
    have k4 : Keeps i μ2 μ4 := hμ4 ▸ (Keeps.app i μ2 τ4).trans (Keeps.set _ _ (by simp [HIds.l]))
    have k5 : Keeps i μ4 μ5 := hμ5 ▸ Keeps.set _ _ (by simp [HIds.l])
    have k6 : Keeps i μ5 μ6 := hμ6 ▸ (Keeps.app i μ5 τ6).trans (Keeps.set _ _ (by simp [HIds.l]))
    unfold placeR
    rw [hv, if_pos rfl, if_pos hc, show ((2 * j : Nat) : Int).toNat / 2 = j from by omega]
    refine ⟨μ6.set i.pl (.map (mpRow (setM (m.births + 1) ((2 * j : Nat) : Int) m.pl))), ?_, hh7, ((((k0.trans k1).trans k2).trans k4).trans k5).trans (k6.trans (Keeps.set _ _ (by simp [HIds.l])))⟩
    simp only [hc, bne_self_eq_false, cond_false, hh1.ld6, Option.bind_some, e0, e2, hh2.ld1', hh2.ld6, d0, d1, d2, hN]
    simp only [toI_int, Option.bind_some, ew, Nat.zero_add, Nat.mul_one, Int.toNat_natCast]
    rw [if_pos (by omega)]
    simp only [e4, Option.bind_some]
    rw [if_pos (by omega)]
    have hS' : d_side_Table_Set (k + 11) (some ⟨i.st, 0, none⟩) (j : Int) 1 μ5 = some (.int .i64 0, μ6) := hS
    simp only [e5, Option.bind_some, hh5.ld2, t1, e6, show ((2 : Int) = 0) = False from by simp, if_false, hS', toI_int, hh6.ld4, hh6.ld6, ldMap, hh6.pl, mapSet_mp, hh7.ld6]

end Go.Proofs.Ytdlihdgoobcoaaa
