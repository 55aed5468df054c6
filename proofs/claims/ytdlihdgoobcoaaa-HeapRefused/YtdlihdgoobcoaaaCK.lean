/-
  Kill.
-/
import Derived.Test.YtdlihdgoobcoaaaCP
set_option linter.unusedVariables false
set_option linter.unusedSimpArgs false
namespace Go.Proofs.Ytdlihdgoobcoaaa
open Go Go.AX
noncomputable local instance : Quiet := fullQuiet
variable {σ : AMem} {i : HIds} {m : HM}

/-- Words that hold others. -/
def putW (l : List Int) (a : Nat) (v : List Int) : List Int := l.take a ++ v ++ l.drop (a + v.length)
theorem putW_length {l : List Int} {a : Nat} {v : List Int} (h : a + v.length ≤ l.length) : (putW l a v).length = l.length := by
  simp [putW]; omega
theorem putW_getD {l : List Int} {a : Nat} {v : List Int} (h : a + v.length ≤ l.length) (x : Nat) : (putW l a v).getD x 0 = if a ≤ x ∧ x < a + v.length then v.getD (x - a) 0 else l.getD x 0 := by
  simp only [putW, List.getD_eq_getElem?_getD]
  have ha : (l.take a).length = a := by simp; omega
  rcases Nat.lt_or_ge x a with h1 | h1
  · rw [List.append_assoc, List.getElem?_append_left (by rw [ha]; exact h1), List.getElem?_take, if_pos h1, if_neg (by omega)]
  · rcases Nat.lt_or_ge x (a + v.length) with h2 | h2
    · rw [List.append_assoc, List.getElem?_append_right (by rw [ha]; exact h1), ha, List.getElem?_append_left (by omega), if_pos ⟨h1, h2⟩]
    · rw [List.getElem?_append_right (by simp; omega), if_neg (by omega), List.getElem?_drop]
      congr 2
      simp; omega
theorem inRow_put (l : List Int) (a : Nat) (v : List Int) : inRow (putW l a v) = setRange (inRow l) a (inRow v) := by
  simp [putW, inRow, setRange, List.map_take, List.map_drop]
theorem rep_zero (n : Nat) : rep n [Value.int .i64 0] = inRow (List.replicate n 0) := by
  simp only [rep, inRow, List.map_replicate]
  induction n with
  | zero => rfl
  | succ n ih => rw [List.replicate_succ, List.flatten_cons, ih, List.replicate_succ]; rfl

theorem slice_words (h : HeapAt σ i m) {a b : Nat} (hab : a < b) (hb : b ≤ m.wds.length) :
    sliceD 3 1 (some ⟨i.wd, 0, none⟩, m.wds.length, m.wds.length) (some (.int .i64 (a : Int))) (some (.int .i64 (b : Int))) none σ = some (some ⟨i.wd, a, none⟩, b - a, m.wds.length - a) := by
  have e1 : elemAt σ i.wd = some 3 := by simp only [elemAt, h.wd]
  have c1 : (0 ≤ (b : Int) ∧ (b : Int) ≤ ((m.wds.length : Nat) : Int)) := by omega
  have c2 : (0 ≤ (a : Int) ∧ (a : Int) ≤ ((b : Nat) : Int)) := by omega
  simp only [sliceD, Option.isSome_none, Bool.not_false, Bool.true_or, cond_true, bound, Int.toNat_natCast]
  rw [if_pos c1, if_pos c2, if_neg (by omega)]
  simp [e1]

theorem wipe_to (k : Nat) (h : HeapAt σ i m) {a n : Nat} (hn : 0 < n) (ha : a + n ≤ m.wds.length) :
    d_heap_Heap_wipe (k + 1) (hptr i) (a : Int) (n : Int) σ = some (.tuple #[], σ.set i.wd (.cells (inRow (putW m.wds a (List.replicate n 0))) el_heap_Heap_words true)) ∧
    HeapAt (σ.set i.wd (.cells (inRow (putW m.wds a (List.replicate n 0))) el_heap_Heap_words true)) i { m with wds := putW m.wds a (List.replicate n 0) } := by
  have ht := h.nt
  have hw := h.wl
  refine ⟨?_, h.setWd _ (putW_length (by simpa using ha)) fun x => ?_⟩
  · rw [d_heap_Heap_wipe]
    have e1 : w64 ((a : Int) + (n : Int)) = ((a + n : Nat) : Int) := w64_in (by unfold inI; omega)
    simp only [Option.bind_some, Nat.zero_add, h.ld1', e1, slice_words h (show a < a + n by omega) ha]
    rw [if_neg (by omega)]
    rw [show a + n - a = n from by omega]
    simp only [Option.bind_some, stN, h.wd, rep_zero, inRow_length, List.length_replicate, ha, if_true, inRow_put]
  · rw [putW_getD (by simpa using ha)]
    split
    · rw [List.getD_eq_getElem?_getD, List.getElem?_replicate]
      split <;> (unfold inI; decide)
    · exact h.wi x

/-- A heap with one object less. -/
def killM (m : HM) (j : Nat) : HM :=
  { m with wds := putW m.wds (2 * j) (List.replicate (sz m j) 0), stw := tput 1 m.stw j 0, pnw := tput 1 m.pnw j 0, pl := delM (m.wds.getD (2 * j) 0) m.pl }

theorem start_kill {j j' : Nat} (hl : 32 * m.bls.length ≤ 64 * m.stw.length) (hj : j < 32 * m.bls.length) : Start (killM m j) j' ↔ j' ≠ j ∧ Start m j' := by
  unfold Start killM
  simp only
  by_cases hq : j' = j
  · subst hq
    rw [tget_tput_same (.inl rfl) (by decide) (by omega)]
    simp
  · rw [tget_tput_other (.inl rfl) (by decide) (fun e => hq e.symm)]
    simp [hq]

theorem Inv.kill (h : Inv m) (hl : 32 * m.bls.length ≤ 64 * m.stw.length) {j : Nat} (hs : Start m j) : Inv (killM m j) := by
  have hj := hs.1
  have hf := h.fit j hs
  have hst := fun j' => start_kill (m := m) (j := j) (j' := j') hl hj
  have hz := h.size hs
  have wl : (killM m j).wds.length = m.wds.length := putW_length (by simpa using hf)
  have wo : ∀ j', j' ≠ j → Start m j' → ∀ c, c < 2 → (killM m j).wds.getD (2 * j' + c) 0 = m.wds.getD (2 * j' + c) 0 := by
    intro j' hne hs' c hc
    have hz' := h.size hs'
    show (putW _ _ _).getD _ 0 = _
    rw [putW_getD (by simpa using hf), if_neg]
    rintro ⟨p1, p2⟩
    simp only [List.length_replicate] at p2
    rcases Nat.lt_trichotomy j j' with hlt | rfl | hlt
    · have := h.apart j j' hs hs' hlt; omega
    · exact hne rfl
    · have := h.apart j' j hs' hs hlt; omega
  have wo0 : ∀ j', j' ≠ j → Start m j' → (killM m j).wds.getD (2 * j') 0 = m.wds.getD (2 * j') 0 := fun j' hne hs' => wo j' hne hs' 0 (by decide)
  have so : ∀ j', j' ≠ j → Start m j' → sz (killM m j) j' = sz m j' := fun j' hne hs' => by unfold sz; rw [wo j' hne hs' 1 (by decide)]
  have hpl : ∀ x, getM (killM m j).pl x = if x = m.wds.getD (2 * j) 0 then none else getM m.pl x := fun x => getM_del _ _ _ h.onc
  refine ⟨fun j' hs' => ?_, fun j' hs' => ?_, fun j1 j2 h1 h2 hlt => ?_, fun j' hs' => ?_, fun id a hg => ?_, h.brt, once_del _ _ h.onc⟩
  · obtain ⟨hne, hs'⟩ := (hst j').1 hs'
    obtain ⟨r, d, k, hv, hn⟩ := h.good j' hs'
    exact ⟨r, d, k, hv, by rw [wo j' hne hs' 1 (by decide)]; exact hn⟩
  · obtain ⟨hne, hs'⟩ := (hst j').1 hs'
    rw [wl, so j' hne hs']; exact h.fit j' hs'
  · obtain ⟨hne1, h1'⟩ := (hst j1).1 h1
    obtain ⟨hne2, h2'⟩ := (hst j2).1 h2
    rw [so j1 hne1 h1']; exact h.apart j1 j2 h1' h2' hlt
  · obtain ⟨hne, hs'⟩ := (hst j').1 hs'
    obtain ⟨i1, i2, i3⟩ := h.idn j' hs'
    rw [wo0 j' hne hs', hpl]
    refine ⟨i1, i2, ?_⟩
    rw [if_neg]
    · exact i3
    · intro e
      rw [e, (h.idn j hs).2.2] at i3
      simp at i3
      omega
  · rw [hpl] at hg
    split at hg
    · cases hg
    · rename_i hne
      obtain ⟨j', rfl, hs', he⟩ := h.plc id a hg
      have hjj : j' ≠ j := fun e => hne (by rw [← he, e])
      exact ⟨j', rfl, (hst j').2 ⟨hjj, hs'⟩, by rw [wo0 j' hjj hs']; exact he⟩

def killR (m : HM) (a : Int) : Int × HM := if hasM m a then (0, killM m (a.toNat / 2)) else (4, m)

theorem Kill_goes (k : Nat) (h : HeapAt σ i m) (hI : Inv m) (a : Int) (ha : inI a) : Goes (d_heap_Heap_Kill (k + 12) (hptr i) a σ) σ i (killR m a) := by
  have ht := h.nt
  have hw := h.wl
  rw [d_heap_Heap_Kill]
  simp only [object_to _ h a ha, Option.bind_some, toI_int]
  cases hh : hasM m a with
  | false => exact Goes.same h [] (code := 4) (by simp) (by simp [killR, hh])
  | true =>
    obtain ⟨j, rfl, hs⟩ := hasM_spec hh
    have hr : killR m ((2 * j : Nat) : Int) = (0, killM m j) := by unfold killR; rw [hh, if_pos rfl, show ((2 * j : Nat) : Int).toNat / 2 = j from by omega]
    rw [hr]
    have hj := hs.1
    have hf := hI.fit j hs
    have hz := hI.size hs
    have t1 : ((2 * j : Nat) : Int).tdiv 2 = (j : Int) := by
      rw [show ((2 * j : Nat) : Int).tdiv 2 = (((2 * j) / 2 : Nat) : Int) from rfl]; omega
    have e1 : w64 (j : Int) = (j : Int) := w64_in (by unfold inI; omega)
    have h1 := h.setPl (delM (m.wds.getD (2 * j) 0) m.pl)
    obtain ⟨μ1, hμ1⟩ : ∃ μ1, σ.set i.pl (.map (mpRow (delM (m.wds.getD (2 * j) 0) m.pl))) = μ1 := ⟨_, rfl⟩
    rw [hμ1] at h1
    obtain ⟨τ2, hS2⟩ := Set_to (k + 2) h1.st (j := j) (v := 0) hj (by decide)
    have h2 := (h1.app τ2).setSt j 0
    simp only at hS2 h2
    obtain ⟨μ2, hμ2⟩ : ∃ μ2, (μ1 ++ τ2).set i.sw (.cells (rowOf (tput 1 m.stw j 0)) el_side_Table_words true) = μ2 := ⟨_, rfl⟩
    rw [hμ2] at hS2 h2
    obtain ⟨τ3, hS3⟩ := Set_to (k + 2) h2.pn (j := j) (v := 0) hj (by decide)
    have h3 := (h2.app τ3).setPn j 0
    simp only at hS3 h3
    obtain ⟨μ3, hμ3⟩ : ∃ μ3, (μ2 ++ τ3).set i.pw (.cells (rowOf (tput 1 m.pnw j 0)) el_side_Table_words true) = μ3 := ⟨_, rfl⟩
    rw [hμ3] at hS3 h3
    obtain ⟨τ4, hZ⟩ := size_to (k + 8) h3 hj
    have hZ' : d_heap_Heap_size (k + 11) (hptr i) ((2 * j : Nat) : Int) μ3 = some (.int .i64 (sz m j : Int), μ3 ++ τ4) := hZ
    obtain ⟨hWp, h5⟩ := wipe_to (k + 10) (h3.app τ4) (a := 2 * j) (n := sz m j) (by omega) hf
    simp only at hWp h5
    have k1 : Keeps i σ μ1 := hμ1 ▸ Keeps.set _ _ (by simp [HIds.l])
    have k2 : Keeps i μ1 μ2 := hμ2 ▸ (Keeps.app i μ1 τ2).trans (Keeps.set _ _ (by simp [HIds.l]))
    have k3 : Keeps i μ2 μ3 := hμ3 ▸ (Keeps.app i μ2 τ3).trans (Keeps.set _ _ (by simp [HIds.l]))
    refine ⟨_, ?_, h5, ((k1.trans k2).trans k3).trans ((Keeps.app i μ3 τ4).trans (Keeps.set _ _ (by simp [HIds.l])))⟩
    have q1 : (0 ≤ ((2 * j : Nat) : Int) ∧ ((2 * j : Nat) : Int) < ((m.wds.length : Nat) : Int)) := by omega
    simp only [if_true, bne_self_eq_false, cond_false, Nat.zero_add, h.ld4, h.ld1', Option.bind_some]
    rw [if_pos q1]
    have hS2' : d_side_Table_Set (k + 11) (some ⟨i.st, 0, none⟩) (j : Int) 0 μ1 = some (.int .i64 0, μ2) := hS2
    have hS3' : d_side_Table_Set (k + 11) (some ⟨i.pn, 0, none⟩) (j : Int) 0 μ2 = some (.int .i64 0, μ3) := hS3
    simp only [Option.bind_some, Nat.zero_add, Nat.mul_one, Int.toNat_natCast, h.ldW (show 2 * j < m.wds.length by omega), ldMO, ldMap, h.pl, mapDel_mp, stMO, hμ1, h1.ld2, show ((2 : Int) = 0) = False from by simp, if_false, t1, e1, hS2', toI_int, h2.ld3, hS3', hZ', hWp, r_0_eq]

end Go.Proofs.Ytdlihdgoobcoaaa
