/-
  What the calls that change a heap come to (first part): the parts of a heap turned one by one; fields.
-/
import Derived.Test.YtlaplcglpnlieaaCI
set_option linter.unusedVariables false
set_option linter.unusedSimpArgs false
namespace Go.Proofs.Ytlaplcglpnlieaa
open Go Go.AX
noncomputable local instance qCM : Quiet := fullQuiet
local instance nCM : Kn := ⟨true⟩
variable {σ : AMem} {i : HIds} {m : HM}

theorem HIds.ne (h : i.l.Nodup) : i.hb ≠ i.bl ∧ i.hb ≠ i.wd ∧ i.hb ≠ i.st ∧ i.hb ≠ i.sw ∧ i.hb ≠ i.pn ∧ i.hb ≠ i.pw ∧ i.hb ≠ i.pl ∧ i.hb ≠ i.fw ∧
    i.bl ≠ i.wd ∧ i.bl ≠ i.st ∧ i.bl ≠ i.sw ∧ i.bl ≠ i.pn ∧ i.bl ≠ i.pw ∧ i.bl ≠ i.pl ∧ i.bl ≠ i.fw ∧
    i.wd ≠ i.st ∧ i.wd ≠ i.sw ∧ i.wd ≠ i.pn ∧ i.wd ≠ i.pw ∧ i.wd ≠ i.pl ∧ i.wd ≠ i.fw ∧
    i.st ≠ i.sw ∧ i.st ≠ i.pn ∧ i.st ≠ i.pw ∧ i.st ≠ i.pl ∧ i.st ≠ i.fw ∧ i.sw ≠ i.pn ∧ i.sw ≠ i.pw ∧ i.sw ≠ i.pl ∧ i.sw ≠ i.fw ∧
    i.pn ≠ i.pw ∧ i.pn ≠ i.pl ∧ i.pn ≠ i.fw ∧ i.pw ≠ i.pl ∧ i.pw ≠ i.fw ∧ i.pl ≠ i.fw := by
  simp [HIds.l, and_assoc] at h
  simp only [ne_eq]
  exact h

theorem HeapAt.setWd (h : HeapAt σ i m) (l : List Int) (hl : l.length = m.wds.length) (hi : ∀ a, inI (l.getD a 0)) : HeapAt (σ.set i.wd (.cells (inRow l) el_heap_Heap_words true)) i { m with wds := l } := by
  obtain ⟨n1, n2, n3, n4, n5, n6, n7, n8, n9, n10, n11, n12, n13, n14, n15, n16, n17, n18, n19, n20, n21, n22, n23, n24, n25, n26, n27, n28, n29, n30, n31, n32, n33, n34, n35, n36⟩ := HIds.ne h.nd
  have g : ∀ {j}, j ≠ i.wd → (σ.set i.wd (.cells (inRow l) el_heap_Heap_words true))[j]? = σ[j]? := fun hj => List.getElem?_set_ne (Ne.symm hj)
  exact ⟨by rw [g (by first | assumption | (apply Ne.symm; assumption)), h.hp]; simp only [hl], by rw [g (by first | assumption | (apply Ne.symm; assumption))]; exact h.bl, by rw [List.getElem?_set_self (getElem?_lt h.wd)], h.st.same (g (by first | assumption | (apply Ne.symm; assumption))) (g (by first | assumption | (apply Ne.symm; assumption))), h.pn.same (g (by first | assumption | (apply Ne.symm; assumption))) (g (by first | assumption | (apply Ne.symm; assumption))), by rw [g (by first | assumption | (apply Ne.symm; assumption))]; exact h.pl, by rw [g (by first | assumption | (apply Ne.symm; assumption))]; exact h.fw, h.nb, h.nt, by rw [hl]; exact h.wl, h.nd, hi⟩

theorem HeapAt.setBl (h : HeapAt σ i m) (l : List (Int × Int)) (hl : l.length = m.bls.length) : HeapAt (σ.set i.bl (.cells (blRow l) el_heap_Heap_blocks true)) i { m with bls := l } := by
  obtain ⟨n1, n2, n3, n4, n5, n6, n7, n8, n9, n10, n11, n12, n13, n14, n15, n16, n17, n18, n19, n20, n21, n22, n23, n24, n25, n26, n27, n28, n29, n30, n31, n32, n33, n34, n35, n36⟩ := HIds.ne h.nd
  have g : ∀ {j}, j ≠ i.bl → (σ.set i.bl (.cells (blRow l) el_heap_Heap_blocks true))[j]? = σ[j]? := fun hj => List.getElem?_set_ne (Ne.symm hj)
  exact ⟨by rw [g (by first | assumption | (apply Ne.symm; assumption)), h.hp]; simp only [hl], by rw [List.getElem?_set_self (getElem?_lt h.bl)], by rw [g (by first | assumption | (apply Ne.symm; assumption))]; exact h.wd, by rw [hl]; exact h.st.same (g (by first | assumption | (apply Ne.symm; assumption))) (g (by first | assumption | (apply Ne.symm; assumption))), by rw [hl]; exact h.pn.same (g (by first | assumption | (apply Ne.symm; assumption))) (g (by first | assumption | (apply Ne.symm; assumption))), by rw [g (by first | assumption | (apply Ne.symm; assumption))]; exact h.pl, by rw [g (by first | assumption | (apply Ne.symm; assumption))]; exact h.fw, by rw [hl]; exact h.nb, by rw [hl]; exact h.nt, by rw [hl]; exact h.wl, h.nd, h.wi⟩

theorem HeapAt.setSt (h : HeapAt σ i m) (j v : Nat) : HeapAt (σ.set i.sw (.cells (rowOf (tput 1 m.stw j v)) el_side_Table_words true)) i { m with stw := tput 1 m.stw j v } := by
  obtain ⟨n1, n2, n3, n4, n5, n6, n7, n8, n9, n10, n11, n12, n13, n14, n15, n16, n17, n18, n19, n20, n21, n22, n23, n24, n25, n26, n27, n28, n29, n30, n31, n32, n33, n34, n35, n36⟩ := HIds.ne h.nd
  have g : ∀ {j'}, j' ≠ i.sw → (σ.set i.sw (.cells (rowOf (tput 1 m.stw j v)) el_side_Table_words true))[j']? = σ[j']? := fun hj => List.getElem?_set_ne (Ne.symm hj)
  exact ⟨by rw [g (by first | assumption | (apply Ne.symm; assumption)), h.hp], by rw [g (by first | assumption | (apply Ne.symm; assumption))]; exact h.bl, by rw [g (by first | assumption | (apply Ne.symm; assumption))]; exact h.wd, h.st.put (by first | assumption | (apply Ne.symm; assumption)) j v, h.pn.same (g (by first | assumption | (apply Ne.symm; assumption))) (g (by first | assumption | (apply Ne.symm; assumption))), by rw [g (by first | assumption | (apply Ne.symm; assumption))]; exact h.pl, by rw [g (by first | assumption | (apply Ne.symm; assumption))]; exact h.fw, h.nb, h.nt, h.wl, h.nd, h.wi⟩

theorem HeapAt.setPn (h : HeapAt σ i m) (j v : Nat) : HeapAt (σ.set i.pw (.cells (rowOf (tput 1 m.pnw j v)) el_side_Table_words true)) i { m with pnw := tput 1 m.pnw j v } := by
  obtain ⟨n1, n2, n3, n4, n5, n6, n7, n8, n9, n10, n11, n12, n13, n14, n15, n16, n17, n18, n19, n20, n21, n22, n23, n24, n25, n26, n27, n28, n29, n30, n31, n32, n33, n34, n35, n36⟩ := HIds.ne h.nd
  have g : ∀ {j'}, j' ≠ i.pw → (σ.set i.pw (.cells (rowOf (tput 1 m.pnw j v)) el_side_Table_words true))[j']? = σ[j']? := fun hj => List.getElem?_set_ne (Ne.symm hj)
  exact ⟨by rw [g (by first | assumption | (apply Ne.symm; assumption)), h.hp], by rw [g (by first | assumption | (apply Ne.symm; assumption))]; exact h.bl, by rw [g (by first | assumption | (apply Ne.symm; assumption))]; exact h.wd, h.st.same (g (by first | assumption | (apply Ne.symm; assumption))) (g (by first | assumption | (apply Ne.symm; assumption))), h.pn.put (by first | assumption | (apply Ne.symm; assumption)) j v, by rw [g (by first | assumption | (apply Ne.symm; assumption))]; exact h.pl, by rw [g (by first | assumption | (apply Ne.symm; assumption))]; exact h.fw, h.nb, h.nt, h.wl, h.nd, h.wi⟩

theorem HeapAt.setPl (h : HeapAt σ i m) (l : List (Int × Int)) : HeapAt (σ.set i.pl (.map (mpRow l))) i { m with pl := l } := by
  obtain ⟨n1, n2, n3, n4, n5, n6, n7, n8, n9, n10, n11, n12, n13, n14, n15, n16, n17, n18, n19, n20, n21, n22, n23, n24, n25, n26, n27, n28, n29, n30, n31, n32, n33, n34, n35, n36⟩ := HIds.ne h.nd
  have g : ∀ {j}, j ≠ i.pl → (σ.set i.pl (.map (mpRow l)))[j]? = σ[j]? := fun hj => List.getElem?_set_ne (Ne.symm hj)
  exact ⟨by rw [g (by first | assumption | (apply Ne.symm; assumption)), h.hp], by rw [g (by first | assumption | (apply Ne.symm; assumption))]; exact h.bl, by rw [g (by first | assumption | (apply Ne.symm; assumption))]; exact h.wd, h.st.same (g (by first | assumption | (apply Ne.symm; assumption))) (g (by first | assumption | (apply Ne.symm; assumption))), h.pn.same (g (by first | assumption | (apply Ne.symm; assumption))) (g (by first | assumption | (apply Ne.symm; assumption))), by rw [List.getElem?_set_self (getElem?_lt h.pl)], by rw [g (by first | assumption | (apply Ne.symm; assumption))]; exact h.fw, h.nb, h.nt, h.wl, h.nd, h.wi⟩

theorem HeapAt.setFw (h : HeapAt σ i m) (l : List (Int × Int)) : HeapAt (σ.set i.fw (.map (mpRow l))) i { m with fw := l } := by
  obtain ⟨n1, n2, n3, n4, n5, n6, n7, n8, n9, n10, n11, n12, n13, n14, n15, n16, n17, n18, n19, n20, n21, n22, n23, n24, n25, n26, n27, n28, n29, n30, n31, n32, n33, n34, n35, n36⟩ := HIds.ne h.nd
  have g : ∀ {j}, j ≠ i.fw → (σ.set i.fw (.map (mpRow l)))[j]? = σ[j]? := fun hj => List.getElem?_set_ne (Ne.symm hj)
  exact ⟨by rw [g (by first | assumption | (apply Ne.symm; assumption)), h.hp], by rw [g (by first | assumption | (apply Ne.symm; assumption))]; exact h.bl, by rw [g (by first | assumption | (apply Ne.symm; assumption))]; exact h.wd, h.st.same (g (by first | assumption | (apply Ne.symm; assumption))) (g (by first | assumption | (apply Ne.symm; assumption))), h.pn.same (g (by first | assumption | (apply Ne.symm; assumption))) (g (by first | assumption | (apply Ne.symm; assumption))), by rw [g (by first | assumption | (apply Ne.symm; assumption))]; exact h.pl, by rw [List.getElem?_set_self (getElem?_lt h.fw)], h.nb, h.nt, h.wl, h.nd, h.wi⟩

theorem HeapAt.st6 (h : HeapAt σ i m) (b : Int) : ∃ σ', st1 σ i.hb 6 (.int .i64 b) = some σ' ∧ HeapAt σ' i { m with births := b } ∧ Keeps i σ σ' := by
  obtain ⟨n1, n2, n3, n4, n5, n6, n7, n8, n9, n10, n11, n12, n13, n14, n15, n16, n17, n18, n19, n20, n21, n22, n23, n24, n25, n26, n27, n28, n29, n30, n31, n32, n33, n34, n35, n36⟩ := HIds.ne h.nd
  simp only [st1, h.hp]
  refine ⟨_, rfl, ?_, Keeps.set σ _ (by simp [HIds.l])⟩
  have g : ∀ {j o}, j ≠ i.hb → (σ.set i.hb o)[j]? = σ[j]? := fun hj => List.getElem?_set_ne (Ne.symm hj)
  exact ⟨by rw [List.getElem?_set_self (getElem?_lt h.hp)]; rfl, by rw [g (by first | assumption | (apply Ne.symm; assumption))]; exact h.bl, by rw [g (by first | assumption | (apply Ne.symm; assumption))]; exact h.wd, h.st.same (g (by first | assumption | (apply Ne.symm; assumption))) (g (by first | assumption | (apply Ne.symm; assumption))), h.pn.same (g (by first | assumption | (apply Ne.symm; assumption))) (g (by first | assumption | (apply Ne.symm; assumption))), by rw [g (by first | assumption | (apply Ne.symm; assumption))]; exact h.pl, by rw [g (by first | assumption | (apply Ne.symm; assumption))]; exact h.fw, h.nb, h.nt, h.wl, h.nd, h.wi⟩

theorem inRow_set (l : List Int) (a : Nat) (v : Int) : inRow (l.set a v) = (inRow l).set a (.int .i64 v) := by simp [inRow, List.map_set]
theorem getD_set_in (l : List Int) (a b : Nat) (v : Int) : (l.set a v).getD b 0 = if a = b ∧ a < l.length then v else l.getD b 0 := by
  simp only [List.getD_eq_getElem?_getD, List.getElem?_set]
  split
  · rename_i e; subst e
    split
    · rename_i h; simp [h]
    · rename_i h; simp [h, List.getElem?_eq_none (Nat.le_of_not_lt h)]
  · rename_i e; simp [e]

/-- One word. -/
theorem HeapAt.st1 (h : HeapAt σ i m) {a : Nat} (ha : a < m.wds.length) (v : Int) (hv : inI v) : AX.st1 σ i.wd a (.int .i64 v) = some (σ.set i.wd (.cells (inRow (m.wds.set a v)) el_heap_Heap_words true)) ∧ HeapAt (σ.set i.wd (.cells (inRow (m.wds.set a v)) el_heap_Heap_words true)) i { m with wds := m.wds.set a v } := by
  refine ⟨?_, h.setWd _ (by simp) fun b => ?_⟩
  · simp only [AX.st1, h.wd, inRow_length, ha, if_true, inRow_set]
  · rw [getD_set_in]
    split
    · exact hv
    · exact h.wi b

/-- A call that comes to a value, with a heap behind it, and nothing else turned. -/
def Turns (mm : Option (Value × AMem)) (σ : AMem) (i : HIds) (v : Value) (m' : HM) : Prop := ∃ σ', mm = some (v, σ') ∧ HeapAt σ' i m' ∧ Keeps i σ σ'

/-- field: which word a reference or a data word is. -/
def fieldM (m : HM) (a x : Int) (data : Bool) : Int × Int :=
  if hasM m a then
    let j := a.toNat / 2
    let first := a + 2 + (if data then refsAt m j else 0)
    if 0 ≤ x ∧ x < (if data then dataAt m j else refsAt m j) then (first + x, 0) else (0, 1)
  else (0, 4)

theorem fieldM_in (h : Inv m) {a x : Int} {data : Bool} {w : Int} (hf : fieldM m a x data = (w, 0)) : ∃ j t : Nat, Start m j ∧ a = ((2 * j : Nat) : Int) ∧ w = ((2 * j + 2 + t : Nat) : Int) ∧ 2 + t < sz m j := by
  unfold fieldM at hf
  split at hf
  · rename_i hh
    obtain ⟨j, rfl, hs⟩ := hasM_spec hh
    have ej : ((2 * j : Nat) : Int).toNat / 2 = j := by omega
    obtain ⟨z1, z2, z3, z4, z5, z6⟩ := h.size hs
    simp only [ej] at hf
    cases data with
    | false =>
      simp only [Bool.false_eq_true, if_false] at hf
      split at hf
      · rename_i hc
        have hw := congrArg Prod.fst hf
        simp only at hw
        exact ⟨j, x.toNat, hs, rfl, by omega, by omega⟩
      · have := congrArg Prod.snd hf
        simp at this
    | true =>
      simp only [if_true] at hf
      split at hf
      · rename_i hc
        have hw := congrArg Prod.fst hf
        simp only at hw
        exact ⟨j, (refsAt m j + x).toNat, hs, rfl, by omega, by omega⟩
      · have := congrArg Prod.snd hf
        simp at this
  · have := congrArg Prod.snd hf
    simp at this

/-- A word that is neither an identity nor a shape's number may hold anything. -/
theorem Inv.setWord (h : Inv m) {j t : Nat} (hs : Start m j) (ht : 2 + t < sz m j) (v : Int) : Inv { m with wds := m.wds.set (2 * j + 2 + t) v } := by
  have hkey : ∀ j', Start m j' → ∀ c, c < 2 → (m.wds.set (2 * j + 2 + t) v).getD (2 * j' + c) 0 = m.wds.getD (2 * j' + c) 0 := by
    intro j' hs' c hc
    rw [getD_set_in, if_neg]
    rintro ⟨e, _⟩
    have h1 := h.apart j j' hs hs'
    have hz := h.size hs'
    rcases Nat.lt_trichotomy j j' with hlt | rfl | hlt
    · have := h1 hlt; omega
    · omega
    · omega
  have key0 : ∀ j', Start m j' → (m.wds.set (2 * j + 2 + t) v).getD (2 * j') 0 = m.wds.getD (2 * j') 0 := fun j' hs' => hkey j' hs' 0 (by decide)
  have hsz : ∀ j', Start m j' → sz { m with wds := m.wds.set (2 * j + 2 + t) v } j' = sz m j' := fun j' hs' => by
    unfold sz; rw [hkey j' hs' 1 (by decide)]
  refine ⟨fun j' hs' => ?_, fun j' hs' => ?_, fun j1 j2 h1 h2 hlt => ?_, fun j' hs' => ?_, fun id a hg => ?_, h.brt, h.onc⟩
  · obtain ⟨r, d, k, hv, hn⟩ := h.good j' hs'
    exact ⟨r, d, k, hv, by rw [hkey j' hs' 1 (by decide)]; exact hn⟩
  · rw [hsz j' hs']; simpa using h.fit j' hs'
  · rw [hsz j1 h1]; exact h.apart j1 j2 h1 h2 hlt
  · have := h.idn j' hs'
    rw [← key0 j' hs'] at this
    exact this
  · obtain ⟨j', rfl, hs', he⟩ := h.plc id a hg
    exact ⟨j', rfl, hs', (key0 j' hs').trans he⟩

end Go.Proofs.Ytlaplcglpnlieaa
