/-
  Move.
-/
import Derived.Test.YtdlihdgoobcoaaaCK
set_option linter.unusedVariables false
set_option linter.unusedSimpArgs false
namespace Go.Proofs.Ytdlihdgoobcoaaa
open Go Go.AX
noncomputable local instance : Quiet := fullQuiet
variable {σ : AMem} {i : HIds} {m : HM}

/-- A heap with an object more, whose words are given. -/
def addM (m : HM) (t : Nat) (id : Int) (held : List Int) : HM :=
  { m with wds := putW m.wds (2 * t) held, stw := tput 1 m.stw t 1, pl := setM id ((2 * t : Nat) : Int) m.pl }

theorem start_add {t j' : Nat} {id : Int} {held : List Int} (hl : 32 * m.bls.length ≤ 64 * m.stw.length) (hj : t < 32 * m.bls.length) : Start (addM m t id held) j' ↔ j' = t ∨ Start m j' := by
  unfold Start addM
  simp only
  by_cases hq : j' = t
  · subst hq
    simp only [true_or, iff_true]
    exact ⟨hj, tget_tput_same (.inl rfl) (by decide) (by omega)⟩
  · rw [tget_tput_other (.inl rfl) (by decide) (fun e => hq e.symm)]
    simp [hq]

theorem Inv.add (h : Inv m) (hl : 32 * m.bls.length ≤ 64 * m.stw.length) {t : Nat} {id : Int} {held : List Int} {r d k : Int} (hv : valid r d k = true) (hj : t < 32 * m.bls.length)
    (hlen : held.length = szN (num r d k)) (h0 : held.getD 0 0 = id) (h1 : held.getD 1 0 = num r d k) (hid : 1 ≤ id ∧ id ≤ m.births) (hnone : getM m.pl id = none)
    (hfit : 2 * t + szN (num r d k) ≤ m.wds.length) (hap : ∀ o, Start m o → 2 * o + sz m o ≤ 2 * t ∨ 2 * t + szN (num r d k) ≤ 2 * o) : Inv (addM m t id held) := by
  have hst := fun j' => start_add (m := m) (t := t) (j' := j') (id := id) (held := held) hl hj
  have h3 : 2 ≤ szN (num r d k) := by
    rw [szN_num hv]
    simp [valid] at hv
    omega
  have hnj : ¬ Start m t := fun hs => by
    have h1 := hap t hs
    have h2 := h.size hs
    omega
  have hle : 2 * t + held.length ≤ m.wds.length := by omega
  have w0 : (addM m t id held).wds.getD (2 * t) 0 = id := by
    show (putW _ _ _).getD _ 0 = _
    rw [putW_getD hle, if_pos (by omega), Nat.sub_self, h0]
  have w1 : (addM m t id held).wds.getD (2 * t + 1) 0 = num r d k := by
    show (putW _ _ _).getD _ 0 = _
    rw [putW_getD hle, if_pos (by omega), show 2 * t + 1 - 2 * t = 1 from by omega, h1]
  have wo : ∀ j', Start m j' → ∀ c, c < 2 → (addM m t id held).wds.getD (2 * j' + c) 0 = m.wds.getD (2 * j' + c) 0 := by
    intro j' hs' c hc
    have hz := h.size hs'
    have := hap j' hs'
    show (putW _ _ _).getD _ 0 = _
    rw [putW_getD hle, if_neg (by omega)]
  have s1 : sz (addM m t id held) t = szN (num r d k) := by unfold sz; rw [w1]
  have so : ∀ j', Start m j' → sz (addM m t id held) j' = sz m j' := fun j' hs' => by unfold sz; rw [wo j' hs' 1 (by decide)]
  have wl : (addM m t id held).wds.length = m.wds.length := putW_length hle
  have wo0 : ∀ j', Start m j' → (addM m t id held).wds.getD (2 * j') 0 = m.wds.getD (2 * j') 0 := fun j' hs' => wo j' hs' 0 (by decide)
  have hpl : ∀ x, getM (addM m t id held).pl x = if x = id then some ((2 * t : Nat) : Int) else getM m.pl x := fun x => getM_set _ _ _ _
  refine ⟨fun j' hs' => ?_, fun j' hs' => ?_, fun j1 j2 h1 h2 hlt => ?_, fun j' hs' => ?_, fun id' a hg => ?_, h.brt, once_set _ _ _ h.onc⟩
  · rcases (hst j').1 hs' with rfl | hs'
    · exact ⟨r, d, k, hv, w1⟩
    · obtain ⟨r', d', k', hv', hn⟩ := h.good j' hs'
      exact ⟨r', d', k', hv', by rw [wo j' hs' 1 (by decide)]; exact hn⟩
  · rw [wl]
    rcases (hst j').1 hs' with rfl | hs'
    · rw [s1]; exact hfit
    · rw [so j' hs']; exact h.fit j' hs'
  · rcases (hst j1).1 h1 with rfl | h1'
    · rcases (hst j2).1 h2 with rfl | h2'
      · omega
      · rw [s1]
        have := hap j2 h2'
        have := h.size h2'
        omega
    · rw [so j1 h1']
      rcases (hst j2).1 h2 with rfl | h2'
      · have := hap j1 h1'
        omega
      · exact h.apart j1 j2 h1' h2' hlt
  · rw [hpl]
    rcases (hst j').1 hs' with rfl | hs'
    · rw [w0]
      exact ⟨hid.1, hid.2, if_pos rfl⟩
    · rw [wo0 j' hs']
      obtain ⟨i1, i2, i3⟩ := h.idn j' hs'
      refine ⟨i1, i2, ?_⟩
      rw [if_neg (fun e => by rw [e, hnone] at i3; cases i3)]; exact i3
  · rw [hpl] at hg
    split at hg
    · rename_i hid'
      cases hg
      exact ⟨t, rfl, (hst t).2 (.inl rfl), by rw [w0, hid']⟩
    · obtain ⟨j', rfl, hs', he⟩ := h.plc id' a hg
      exact ⟨j', rfl, (hst j').2 (.inr hs'), by rw [wo0 j' hs']; exact he⟩

/-- Another list of places that says the same. -/
theorem Inv.places (h : Inv m) (l : List (Int × Int)) (ho : Once l) (hg : ∀ x, getM l x = getM m.pl x) : Inv { m with pl := l } :=
  ⟨h.good, h.fit, h.apart, fun j hs => by rw [hg]; exact h.idn j hs, fun id a e => h.plc id a (by rw [← hg]; exact e), h.brt, ho⟩

/-- A heap whose object at one pair has gone to another. -/
def moveM (m : HM) (j t : Nat) : HM :=
  { m with
    wds := putW (putW m.wds (2 * j) (List.replicate (sz m j) 0)) (2 * t) ((m.wds.drop (2 * j)).take (sz m j))
    stw := tput 1 (tput 1 m.stw j 0) t 1
    pnw := tput 1 (tput 1 m.pnw j 0) t (tget 1 m.pnw j)
    pl := setM (m.wds.getD (2 * j) 0) ((2 * t : Nat) : Int) m.pl
    fw := setM ((2 * j : Nat) : Int) ((2 * t : Nat) : Int) m.fw }

theorem Inv.move (h : Inv m) (hl : 32 * m.bls.length ≤ 64 * m.stw.length) {j t : Nat} (hs : Start m j) (ht : t < 32 * m.bls.length) (hfit : 2 * t + sz m j ≤ m.wds.length)
    (hap : ∀ o, Start m o → o ≠ j → 2 * o + sz m o ≤ 2 * t ∨ 2 * t + sz m j ≤ 2 * o) : Inv (moveM m j t) := by
  have hj := hs.1
  have hf := h.fit j hs
  have hz := h.size hs
  have hst := fun j' => start_kill (m := m) (j := j) (j' := j') hl hj
  obtain ⟨r, d, k, hv, hn⟩ := h.good j hs
  obtain ⟨i1, i2, i3⟩ := h.idn j hs
  have hsz : sz m j = szN (num r d k) := by unfold sz; rw [hn]
  have hk := h.kill hl hs
  have held : ∀ c, c < sz m j → ((m.wds.drop (2 * j)).take (sz m j)).getD c 0 = m.wds.getD (2 * j + c) 0 := by
    intro c hc
    simp only [List.getD_eq_getElem?_getD, List.getElem?_take, hc, if_true, List.getElem?_drop]
  have wl : (killM m j).wds.length = m.wds.length := putW_length (by simpa using hf)
  have so : ∀ o, Start m o → o ≠ j → sz (killM m j) o = sz m o := by
    intro o ho hne
    have hz' := h.size ho
    unfold sz
    congr 1
    show (putW _ _ _).getD _ 0 = _
    rw [putW_getD (by simpa using hf), if_neg]
    rintro ⟨p1, p2⟩
    simp only [List.length_replicate] at p2
    rcases Nat.lt_trichotomy j o with hlt | rfl | hlt
    · have := h.apart j o hs ho hlt; omega
    · exact hne rfl
    · have := h.apart o j ho hs hlt; omega
  have ha := hk.add (t := t) (id := m.wds.getD (2 * j) 0) (held := (m.wds.drop (2 * j)).take (sz m j)) (r := r) (d := d) (k := k)
    (by show 32 * m.bls.length ≤ 64 * (tput _ _ _ _).length; rw [tput_length]; exact hl) hv ht (by rw [← hsz]; simp; omega) (held 0 (by omega)) (by rw [held 1 (by omega), hn]) ⟨i1, i2⟩
    (by show getM (delM _ _) _ = none; rw [getM_del _ _ _ h.onc, if_pos rfl]) (by rw [← hsz, wl]; exact hfit)
    (fun o ho => by
      obtain ⟨hne, ho'⟩ := (hst o).1 ho
      rw [← hsz, so o ho' hne]; exact hap o ho' hne)
  have hp := ha.places (setM (m.wds.getD (2 * j) 0) ((2 * t : Nat) : Int) m.pl) (once_set _ _ _ h.onc) (fun x => by
    show getM (setM _ _ _) x = getM (setM _ _ (delM _ _)) x
    rw [getM_set, getM_set, getM_del _ _ _ h.onc]
    split <;> rfl)
  exact (hp.pins (tput 1 (tput 1 m.pnw j 0) t (tget 1 m.pnw j))).forwards (setM ((2 * j : Nat) : Int) ((2 * t : Nat) : Int) m.fw)

theorem slice_from (h : HeapAt σ i m) {a : Nat} (ha : a < m.wds.length) :
    sliceD 3 1 (some ⟨i.wd, 0, none⟩, m.wds.length, m.wds.length) (some (.int .i64 (a : Int))) none none σ = some (some ⟨i.wd, a, none⟩, m.wds.length - a, m.wds.length - a) := by
  have e1 : elemAt σ i.wd = some 3 := by simp only [elemAt, h.wd]
  have c2 : (0 ≤ (a : Int) ∧ (a : Int) ≤ ((m.wds.length : Nat) : Int)) := by omega
  simp only [sliceD, Option.isSome_none, Bool.not_false, Bool.true_or, cond_true, bound, Int.toNat_natCast]
  rw [if_pos c2, if_neg (by omega)]
  simp [e1]

theorem store_words (h : HeapAt σ i m) {a : Nat} {v : List Int} (ha : a + v.length ≤ m.wds.length) (hv : ∀ x, inI (v.getD x 0)) :
    stN σ i.wd a (inRow v) = some (σ.set i.wd (.cells (inRow (putW m.wds a v)) el_heap_Heap_words true)) ∧ HeapAt (σ.set i.wd (.cells (inRow (putW m.wds a v)) el_heap_Heap_words true)) i { m with wds := putW m.wds a v } := by
  refine ⟨?_, h.setWd _ (putW_length ha) fun x => ?_⟩
  · simp only [stN, h.wd, inRow_length, ha, if_true, inRow_put]
  · rw [putW_getD ha]
    split
    · exact hv _
    · exact h.wi x

def moveR (m : HM) (a b : Int) : Int × HM :=
  if hasM m a then (if fitsM m b (sz m (a.toNat / 2)) a = 0 then (0, moveM m (a.toNat / 2) (b.toNat / 2)) else (fitsM m b (sz m (a.toNat / 2)) a, m)) else (4, m)

theorem Move_goes (k : Nat) (hk : 5000 ≤ k) (h : HeapAt σ i m) (hI : Inv m) (a b : Int) (ha : inI a) : Goes (d_heap_Heap_Move (k + 12) (hptr i) a b σ) σ i (moveR m a b) := by
  have ht := h.nt
  have hw := h.wl
  rw [d_heap_Heap_Move]
  simp only [object_to _ h a ha, Option.bind_some, toI_int]
  cases hh : hasM m a with
  | false => exact Goes.same h [] (code := 4) (by simp) (by simp [moveR, hh])
  | true =>
    obtain ⟨j, rfl, hs⟩ := hasM_spec hh
    have hr : moveR m ((2 * j : Nat) : Int) b = if fitsM m b (sz m j) ((2 * j : Nat) : Int) = 0 then (0, moveM m j (b.toNat / 2)) else (fitsM m b (sz m j) ((2 * j : Nat) : Int), m) := by
      unfold moveR; rw [hh, if_pos rfl, show ((2 * j : Nat) : Int).toNat / 2 = j from by omega]
    rw [hr]
    have hj := hs.1
    have hf := hI.fit j hs
    have hz := hI.size hs
    obtain ⟨τ0, hZ⟩ := size_to (k + 8) h hj
    have hZ' : d_heap_Heap_size (k + 11) (hptr i) ((2 * j : Nat) : Int) σ = some (.int .i64 (sz m j : Int), σ ++ τ0) := hZ
    obtain ⟨τ1, hF⟩ := fits_to k hk (h.app τ0) b (sz m j) ((2 * j : Nat) : Int) hz.1 hz.2.1
    simp only [if_true, bne_self_eq_false, cond_false, hZ', Option.bind_some, toI_int, hF]
    by_cases hc : fitsM m b (sz m j) ((2 * j : Nat) : Int) = 0
    rotate_left
    · have q : (fitsM m b (sz m j) ((2 * j : Nat) : Int) != 0) = true := by simpa using hc
      simp only [q, cond_true]
      exact Goes.same h (τ0 ++ τ1) (by rw [List.append_assoc]) (if_neg hc)
    obtain ⟨t, rfl, htb, hfit, hap⟩ := hI.fits hw hz.2.1 hz.1 hc
    rw [if_pos hc, show ((2 * t : Nat) : Int).toNat / 2 = t from by omega]
    simp only [hc, bne_self_eq_false, cond_false]
    obtain ⟨μ1, hμ1⟩ : ∃ μ1, σ ++ τ0 ++ τ1 = μ1 := ⟨_, rfl⟩
    rw [hμ1]
    have h1 : HeapAt μ1 i m := hμ1 ▸ (h.app τ0).app τ1
    have k1 : Keeps i σ μ1 := hμ1 ▸ (Keeps.app i σ τ0).trans (Keeps.app i _ τ1)
    have t1 : ((2 * j : Nat) : Int).tdiv 2 = (j : Int) := by
      rw [show ((2 * j : Nat) : Int).tdiv 2 = (((2 * j) / 2 : Nat) : Int) from rfl]; omega
    have t2 : ((2 * t : Nat) : Int).tdiv 2 = (t : Int) := by
      rw [show ((2 * t : Nat) : Int).tdiv 2 = (((2 * t) / 2 : Nat) : Int) from rfl]; omega
    have e1 : w64 (j : Int) = (j : Int) := w64_in (by unfold inI; omega)
    have e2 : w64 (t : Int) = (t : Int) := w64_in (by unfold inI; omega)
    have e3 : w64 (((2 * j : Nat) : Int) + (sz m j : Int)) = ((2 * j + sz m j : Nat) : Int) := w64_in (by unfold inI; omega)
    have hG : d_side_Table_Get (k + 11) (some ⟨i.pn, 0, none⟩) (j : Int) μ1 = some (.int .i64 (tget 1 m.pnw j : Int), μ1) := by
      have := Get_to (k + 8) h1.pn (j : Int)
      rw [if_pos (by omega), Int.toNat_natCast] at this
      exact this
    have c1 : (0 ≤ (sz m j : Int) ∧ (sz m j : Int) ≤ (sz m j : Int) ∧ (sz m j : Int) * (8 : Nat) ≤ 2 ^ 40 ∧ (sz m j : Int) ≤ 2 ^ 40) := by omega
    -- the words held
    obtain ⟨held, hheld⟩ : ∃ held, (m.wds.drop (2 * j)).take (sz m j) = held := ⟨_, rfl⟩
    have hhl : held.length = sz m j := by rw [← hheld]; simp; omega
    have hget : ∀ c, held.getD c 0 = if c < sz m j then m.wds.getD (2 * j + c) 0 else 0 := by
      intro c
      rw [← hheld]
      simp only [List.getD_eq_getElem?_getD, List.getElem?_take, List.getElem?_drop]
      split <;> rfl
    have hhi : ∀ x, inI (held.getD x 0) := by
      intro x
      rw [hget]
      split
      · exact h.wi _
      · unfold inI; decide
    have h2 : ∀ o, HeapAt (μ1 ++ [o]) i m := fun o => h1.app [o]
    have hld : ∀ o, ldN (μ1 ++ [o]) i.wd (2 * j) (sz m j) = some (inRow held) := by
      intro o
      simp only [ldN, (h2 o).wd, inRow_length, hf, if_true]
      rw [← hheld]; simp [inRow, List.map_take, List.map_drop]
    have hst1 : stN (μ1 ++ [AObj.cells (rep (sz m j) [Value.int .i64 0]) 3 true]) μ1.length 0 (inRow held) = some (μ1 ++ [AObj.cells (inRow held) 3 true]) := by
      simp [stN, rep_zero, inRow_length, hhl, setRange]
    obtain ⟨μ3, hμ3⟩ : ∃ μ3, μ1 ++ [AObj.cells (inRow held) 3 true] = μ3 := ⟨_, rfl⟩
    have h3 : HeapAt μ3 i m := hμ3 ▸ h2 _
    have k3 : Keeps i μ1 μ3 := hμ3 ▸ Keeps.app i μ1 _
    have hx3 : μ3[μ1.length]? = some (AObj.cells (inRow held) 3 true) := by rw [← hμ3]; simp
    have hnew : μ1.length ∉ i.l := fun hm => Nat.lt_irrefl _ (h1.lt _ hm)
    have bk : ∀ {μ μ' : AMem}, Keeps i μ μ' → μ[μ1.length]? = some (AObj.cells (inRow held) 3 true) → μ'[μ1.length]? = some (AObj.cells (inRow held) 3 true) := fun hk hm => (hk.same _ (getElem?_lt hm) hnew).trans hm
    obtain ⟨τ4, hS4⟩ := Set_to (k + 2) h3.st (j := j) (v := 0) hj (by decide)
    have h4 := (h3.app τ4).setSt j 0
    obtain ⟨μ4, hμ4⟩ : ∃ μ4, (μ3 ++ τ4).set i.sw (.cells (rowOf (tput 1 m.stw j 0)) el_side_Table_words true) = μ4 := ⟨_, rfl⟩
    rw [hμ4] at hS4 h4
    have k4 : Keeps i μ3 μ4 := hμ4 ▸ (Keeps.app i μ3 τ4).trans (Keeps.set _ _ (by simp [HIds.l]))
    obtain ⟨τ5, hS5⟩ := Set_to (k + 2) h4.pn (j := j) (v := 0) hj (by decide)
    have h5 := (h4.app τ5).setPn j 0
    simp only at hS5 h5
    obtain ⟨μ5, hμ5⟩ : ∃ μ5, (μ4 ++ τ5).set i.pw (.cells (rowOf (tput 1 m.pnw j 0)) el_side_Table_words true) = μ5 := ⟨_, rfl⟩
    rw [hμ5] at hS5 h5
    have k5 : Keeps i μ4 μ5 := hμ5 ▸ (Keeps.app i μ4 τ5).trans (Keeps.set _ _ (by simp [HIds.l]))
    obtain ⟨hWp, h6⟩ := wipe_to (k + 10) h5 (a := 2 * j) (n := sz m j) (by omega) hf
    simp only at hWp h6
    obtain ⟨w1, hw1⟩ : ∃ w1, putW m.wds (2 * j) (List.replicate (sz m j) 0) = w1 := ⟨_, rfl⟩
    have hw1l : w1.length = m.wds.length := by rw [← hw1]; exact putW_length (by simpa using hf)
    rw [hw1] at hWp h6
    obtain ⟨μ6, hμ6⟩ : ∃ μ6, μ5.set i.wd (.cells (inRow w1) el_heap_Heap_words true) = μ6 := ⟨_, rfl⟩
    rw [hμ6] at hWp h6
    have k6 : Keeps i μ5 μ6 := hμ6 ▸ Keeps.set _ _ (by simp [HIds.l])
    have hx6 := bk k6 (bk k5 (bk k4 hx3))
    have hld6 : ldN μ6 μ1.length 0 (sz m j) = some (inRow held) := by
      simp only [ldN, hx6, inRow_length, hhl, Nat.zero_add, Nat.le_refl, if_true, List.drop_zero]
      rw [List.take_of_length_le (by rw [inRow_length, hhl]; exact Nat.le_refl _)]
    have hsl := slice_from h6 (a := 2 * t) (by show 2 * t < w1.length; omega)
    obtain ⟨hst7, h7⟩ := store_words h6 (a := 2 * t) (v := held) (by show 2 * t + held.length ≤ w1.length; omega) hhi
    simp only at hst7 h7 hsl
    obtain ⟨μ7, hμ7⟩ : ∃ μ7, μ6.set i.wd (.cells (inRow (putW w1 (2 * t) held)) el_heap_Heap_words true) = μ7 := ⟨_, rfl⟩
    rw [hμ7] at hst7 h7
    have k7 : Keeps i μ6 μ7 := hμ7 ▸ Keeps.set _ _ (by simp [HIds.l])
    obtain ⟨τ8, hS8⟩ := Set_to (k + 2) h7.st (j := t) (v := 1) htb (by decide)
    have h8 := (h7.app τ8).setSt t 1
    simp only at hS8 h8
    obtain ⟨μ8, hμ8⟩ : ∃ μ8, (μ7 ++ τ8).set i.sw (.cells (rowOf (tput 1 (tput 1 m.stw j 0) t 1)) el_side_Table_words true) = μ8 := ⟨_, rfl⟩
    rw [hμ8] at hS8 h8
    have k8 : Keeps i μ7 μ8 := hμ8 ▸ (Keeps.app i μ7 τ8).trans (Keeps.set _ _ (by simp [HIds.l]))
    obtain ⟨τ9, hS9⟩ := Set_to (k + 2) h8.pn (j := t) (v := tget 1 m.pnw j) htb (tget_lt _ _ _)
    have h9 := (h8.app τ9).setPn t (tget 1 m.pnw j)
    simp only at hS9 h9
    obtain ⟨μ9, hμ9⟩ : ∃ μ9, (μ8 ++ τ9).set i.pw (.cells (rowOf (tput 1 (tput 1 m.pnw j 0) t (tget 1 m.pnw j))) el_side_Table_words true) = μ9 := ⟨_, rfl⟩
    rw [hμ9] at hS9 h9
    have k9 : Keeps i μ8 μ9 := hμ9 ▸ (Keeps.app i μ8 τ9).trans (Keeps.set _ _ (by simp [HIds.l]))
    have hx9 := bk k9 (bk k8 (bk k7 hx6))
    have hid : ldI .i64 μ9 μ1.length 0 = some (m.wds.getD (2 * j) 0) := by
      have := hget 0
      rw [if_pos (by omega)] at this
      simp only [Nat.add_zero] at this
      rw [← this]
      have hl0 : 0 < held.length := by omega
      simp [ldI, ld1, hx9, inRow, toI, List.getElem?_eq_getElem hl0]
    have h10 := h9.setPl (setM (m.wds.getD (2 * j) 0) ((2 * t : Nat) : Int) m.pl)
    have h11 := h10.setFw (setM ((2 * j : Nat) : Int) ((2 * t : Nat) : Int) m.fw)
    simp only at h10 h11
    refine ⟨(μ9.set i.pl (.map (mpRow (setM (m.wds.getD (2 * j) 0) ((2 * t : Nat) : Int) m.pl)))).set i.fw (.map (mpRow (setM ((2 * j : Nat) : Int) ((2 * t : Nat) : Int) m.fw))), ?_, ?_, ((((((((k1.trans k3).trans k4).trans k5).trans k6).trans k7).trans k8).trans k9).trans ((Keeps.set (b := i.pl) _ _ (by simp [HIds.l])).trans (Keeps.set (b := i.fw) _ _ (by simp [HIds.l]))))⟩
    rotate_left
    · show HeapAt _ i (moveM m j t)
      unfold moveM
      rw [hheld, hw1]
      exact h11
    have hS4' : d_side_Table_Set (k + 11) (some ⟨i.st, 0, none⟩) (j : Int) 0 μ3 = some (.int .i64 0, μ4) := hS4
    have hS5' : d_side_Table_Set (k + 11) (some ⟨i.pn, 0, none⟩) (j : Int) 0 μ4 = some (.int .i64 0, μ5) := hS5
    have hS8' : d_side_Table_Set (k + 11) (some ⟨i.st, 0, none⟩) (t : Int) 1 μ7 = some (.int .i64 0, μ8) := hS8
    have hS9' : d_side_Table_Set (k + 11) (some ⟨i.pn, 0, none⟩) (t : Int) (tget 1 m.pnw j : Int) μ8 = some (.int .i64 0, μ9) := hS9
    have q2 : ((2 : Int) = 0) = False := by simp
    simp only [Option.bind_some, Nat.zero_add, h1.ld3, q2, if_false, t1, e1, hG, toI_int]
    rw [if_pos c1]
    have m1 : Nat.min (sz m j) (sz m j) = sz m j := Nat.min_self _
    have m2 : Nat.min (sz m j) (m.wds.length - 2 * t) = sz m j := Nat.min_eq_left (by omega)
    simp only [allocK, Int.toNat_natCast, (h2 _).ld1', Option.bind_some, e3, slice_words (h2 _) (show 2 * j < 2 * j + sz m j by omega) hf, Nat.add_sub_cancel_left, m1, firstA, Nat.mul_one, hld, stO, hst1, hμ3]
    simp only [h3.ld2, Option.bind_some, hS4', toI_int, h4.ld3, hS5', hWp, r_0_eq, h6.ld1', t2, e2]
    have m3 : Nat.min (sz m j) (w1.length - 2 * t) = sz m j := Nat.min_eq_left (by omega)
    simp only [hsl, Option.bind_some, m3, hld6, hst7, h7.ld2, hS8', toI_int, h8.ld3, hS9', h9.ld4]
    rw [if_pos ⟨by omega, by omega⟩]
    simp only [Int.toNat_zero, hid, Option.bind_some, ldMap, h9.pl, mapSet_mp, h10.ld5, h10.fw]

end Go.Proofs.Ytdlihdgoobcoaaa
