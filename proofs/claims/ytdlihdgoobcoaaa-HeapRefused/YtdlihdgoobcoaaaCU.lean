/-
  contents, state, ints: what the laws compare.
-/
import Derived.Test.YtdlihdgoobcoaaaCS
set_option linter.unusedVariables false
set_option linter.unusedSimpArgs false
namespace Go.Proofs.Ytdlihdgoobcoaaa
open Go Go.AX
noncomputable local instance : Quiet := fullQuiet
variable {σ : AMem} {i : HIds} {m : HM}

def segL (m : HM) (a n : Nat) : List Int := (List.range' a n).map fun x => m.wds.getD x 0
theorem segL_cons (m : HM) (a n : Nat) : segL m a (n + 1) = m.wds.getD a 0 :: segL m (a + 1) n := by simp [segL, List.range'_succ]
theorem segL_length (m : HM) (a n : Nat) : (segL m a n).length = n := by simp [segL]

/-- A new slice of some ints is appended to a slice. -/
theorem push_to (σ : AMem) (s : SlV) (l l' : List Int) (c : Nat) (hl : l.length + l'.length ≤ 1000000) (hs : IntsAt 0 σ s l) (hne : l' ≠ []) :
    ∃ s' σ', appendD P 3 s (some ⟨σ.length, 0, none⟩, l'.length, c) (σ ++ [.cells (inRow l') 3 true]) = some (s', σ') ∧ Grows σ s σ' s' ∧ IntsAt 0 σ' s' (l ++ l') := by
  obtain ⟨s', σ', e, g, h⟩ := append_grows (σ ++ [.cells (inRow l') 3 true]) s l l' (some ⟨σ.length, 0, none⟩) c hl (hs.app _) hne (by
    simp only [firstA, ldN, List.getElem?_concat_length, inRow_length, Nat.mul_one, Nat.zero_add, Nat.le_refl, if_true, List.drop_zero]
    rw [List.take_of_length_le (by rw [inRow_length]; exact Nat.le_refl _)])
  exact ⟨s', σ', e, (Grows.app _ _ _).trans g, h⟩

theorem contents_l0_to (k : Nat) (hI : Inv m) {j : Nat} (hs : Start m j) (hb : Nat) (r d c : Int) (hr : r = refsAt m j) (hnb : hb ∉ i.l) : ∀ (n x f : Nat) (σ : AMem) (s : SlV) (l : List Int), HeapAt σ i m → Off i s → σ[hb]? = some (.cells [.int .i64 r, .int .i64 d, .int .i64 c] 23 true) → (∀ a, s.1 = some a → a.block ≠ hb) → IntsAt 0 σ s l → l.length + n ≤ 1000 → ((x + n : Nat) : Int) = refsAt m j → n < f →
    ∃ σ' s', d_law02_contents_l0 (k + 7) f (hptr i) ((2 * j : Nat) : Int) hb s (x : Int) σ = some (.exit 0, [.slice s'.1 s'.2.1 s'.2.2], σ') ∧ Grows σ s σ' s' ∧ IntsAt 0 σ' s' (l ++ segL m (2 * j + 2 + x) n)
  | 0, x, 0, σ, s, l, h, ho, hbx, hsb, hl, hn, hx, hf => by omega
  | 0, x, f + 1, σ, s, l, h, ho, hbx, hsb, hl, hn, hx, hf => by
    rw [d_law02_contents_l0]
    have l0 : ldI .i64 σ hb (0 + 0) = some r := by simp [ldI, ld1, hbx, toI]
    have q : decide ((x : Int) < r) = false := decide_eq_false (by omega)
    exact ⟨σ, s, by simp only [l0, Option.bind_some, q, cond_false], Grows.refl _ _, by simpa [segL] using hl⟩
  | n + 1, x, 0, σ, s, l, h, ho, hbx, hsb, hl, hn, hx, hf => by omega
  | n + 1, x, f + 1, σ, s, l, h, ho, hbx, hsb, hl, hn, hx, hf => by
    have l0 : ldI .i64 σ hb (0 + 0) = some r := by simp [ldI, ld1, hbx, toI]
    have q : decide ((x : Int) < r) = true := decide_eq_true (by omega)
    have hz := hI.size hs
    obtain ⟨τ, eR⟩ := Ref_to k h hI hs (x := x) (by omega)
    obtain ⟨s1, σ1, eA, g1, i1⟩ := push_to (σ ++ τ) s l [m.wds.getD (2 * j + 2 + x) 0] 1 (by simp only [List.length_cons, List.length_nil]; omega) (hl.app τ) (by simp)
    have g0 := (Grows.app σ s τ).trans g1
    obtain ⟨h1, o1⟩ := g0.heap h ho
    obtain ⟨b1, b2⟩ := g0.other hbx hsb
    obtain ⟨σ2, s2, e2, g2, i2⟩ := contents_l0_to k hI hs hb r d c hr hnb n (x + 1) f σ1 s1 (l ++ [m.wds.getD (2 * j + 2 + x) 0]) h1 o1 b1 b2 i1 (by simp; omega) (by omega) (by omega)
    refine ⟨σ2, s2, ?_, g0.trans g2, by rw [segL_cons, List.append_cons]; exact i2⟩
    rw [d_law02_contents_l0]
    have w1 : w64 ((x : Int) + 1) = ((x + 1 : Nat) : Int) := w64_in (by unfold inI; omega)
    have eA' : appendD P 3 s (some ⟨(σ ++ τ).length, 0, none⟩, 1, 1) (σ ++ τ ++ [.cells [.int .i64 (m.wds.getD (2 * j + 2 + x) 0)] 3 true]) = some (s1, σ1) := eA
    simp only [l0, Option.bind_some, q, cond_true, eR, r_ii_eq, allocK, eA', w1]
    exact e2

theorem contents_l1_to (k : Nat) (hI : Inv m) {j : Nat} (hs : Start m j) (hb : Nat) (r d c : Int) (hr : d = dataAt m j) (hnb : hb ∉ i.l) : ∀ (n x f : Nat) (σ : AMem) (s : SlV) (l : List Int), HeapAt σ i m → Off i s → σ[hb]? = some (.cells [.int .i64 r, .int .i64 d, .int .i64 c] 23 true) → (∀ a, s.1 = some a → a.block ≠ hb) → IntsAt 0 σ s l → l.length + n ≤ 1000 → ((x + n : Nat) : Int) = dataAt m j → n < f →
    ∃ σ' s', d_law02_contents_l1 (k + 7) f (hptr i) ((2 * j : Nat) : Int) hb s (x : Int) σ = some (.exit 2, [.slice s'.1 s'.2.1 s'.2.2], σ') ∧ Grows σ s σ' s' ∧ IntsAt 0 σ' s' (l ++ segL m (2 * j + 2 + (refsAt m j).toNat + x) n)
  | 0, x, 0, σ, s, l, h, ho, hbx, hsb, hl, hn, hx, hf => by omega
  | 0, x, f + 1, σ, s, l, h, ho, hbx, hsb, hl, hn, hx, hf => by
    rw [d_law02_contents_l1]
    have l0 : ldI .i64 σ hb (0 + 1) = some d := by simp [ldI, ld1, hbx, toI]
    have q : decide ((x : Int) < d) = false := decide_eq_false (by omega)
    exact ⟨σ, s, by simp only [l0, Option.bind_some, q, cond_false], Grows.refl _ _, by simpa [segL] using hl⟩
  | n + 1, x, 0, σ, s, l, h, ho, hbx, hsb, hl, hn, hx, hf => by omega
  | n + 1, x, f + 1, σ, s, l, h, ho, hbx, hsb, hl, hn, hx, hf => by
    have l0 : ldI .i64 σ hb (0 + 1) = some d := by simp [ldI, ld1, hbx, toI]
    have q : decide ((x : Int) < d) = true := decide_eq_true (by omega)
    have hz := hI.size hs
    obtain ⟨τ, eR⟩ := Data_to k h hI hs (x := x) (by omega)
    obtain ⟨s1, σ1, eA, g1, i1⟩ := push_to (σ ++ τ) s l [m.wds.getD (2 * j + 2 + (refsAt m j).toNat + x) 0] 1 (by simp only [List.length_cons, List.length_nil]; omega) (hl.app τ) (by simp)
    have g0 := (Grows.app σ s τ).trans g1
    obtain ⟨h1, o1⟩ := g0.heap h ho
    obtain ⟨b1, b2⟩ := g0.other hbx hsb
    obtain ⟨σ2, s2, e2, g2, i2⟩ := contents_l1_to k hI hs hb r d c hr hnb n (x + 1) f σ1 s1 (l ++ [m.wds.getD (2 * j + 2 + (refsAt m j).toNat + x) 0]) h1 o1 b1 b2 i1 (by simp; omega) (by omega) (by omega)
    refine ⟨σ2, s2, ?_, g0.trans g2, by rw [segL_cons, List.append_cons]; exact i2⟩
    rw [d_law02_contents_l1]
    have w1 : w64 ((x : Int) + 1) = ((x + 1 : Nat) : Int) := w64_in (by unfold inI; omega)
    have eA' : appendD P 3 s (some ⟨(σ ++ τ).length, 0, none⟩, 1, 1) (σ ++ τ ++ [.cells [.int .i64 (m.wds.getD (2 * j + 2 + (refsAt m j).toNat + x) 0)] 3 true]) = some (s1, σ1) := eA
    simp only [l0, Option.bind_some, q, cond_true, eR, r_ii_eq, allocK, eA', w1]
    exact e2

/-- What contents lists. -/
def contL (m : HM) (j : Nat) : List Int :=
  [m.wds.getD (2 * j) 0, refsAt m j, dataAt m j, kindAt m j] ++ segL m (2 * j + 2) (refsAt m j).toNat ++ segL m (2 * j + 2 + (refsAt m j).toNat) (dataAt m j).toNat ++ (if pinM m ((2 * j : Nat) : Int) then [1] else [])
theorem contL_length (hI : Inv m) {j : Nat} (hs : Start m j) : (contL m j).length ≤ 300 ∧ 4 ≤ (contL m j).length := by
  have hz := hI.size hs
  unfold contL
  simp only [List.length_append, segL_length, List.length_cons, List.length_nil]
  split <;> simp <;> omega

theorem IntsAt.up {lo : Nat} {s : SlV} {l : List Int} (h : IntsAt 0 σ s l) (hn : ∀ a, s.1 = some a → lo ≤ a.block) : IntsAt lo σ s l := by
  rcases h with h | ⟨b, _, rfl, h⟩
  · exact .inl h
  · exact .inr ⟨b, hn _ rfl, rfl, h⟩

/-- From a slice that began behind a memory: the memory is still there. -/
theorem Grows.behind {σ σ' : AMem} {τ : AMem} {s s' : SlV} (g : Grows (σ ++ τ) s σ' s') (hs : ∀ a, s.1 = some a → σ.length ≤ a.block) : (∃ τ', σ' = σ ++ τ') ∧ ∀ a, s'.1 = some a → σ.length ≤ a.block := by
  refine ⟨⟨σ'.drop σ.length, ?_⟩, ?_⟩
  · have hlen := g.len
    simp at hlen
    apply List.ext_getElem?
    intro q
    by_cases hq : q < σ.length
    · rw [List.getElem?_append_left hq, g.same q (by simp; omega) (fun a ha e => by have := hs a ha; omega), List.getElem?_append_left hq]
    · rw [List.getElem?_append_right (by omega), List.getElem?_drop]
      congr 1; omega
  · rcases g.new with rfl | hw
    · exact hs
    · intro a ha
      have := hw a ha
      simp at this; omega

theorem contents_to (k : Nat) (hk : 5000 ≤ k) (h : HeapAt σ i m) (hI : Inv m) {j : Nat} (hs : Start m j) : ∃ τ s, d_law02_contents (k + 8) (hptr i) ((2 * j : Nat) : Int) σ = some (.slice s.1 s.2.1 s.2.2, σ ++ τ) ∧ IntsAt σ.length (σ ++ τ) s (contL m j) := by
  have ht := h.nt
  have hj := hs.1
  have hz := hI.size hs
  have hji : inI ((2 * j : Nat) : Int) := by unfold inI; omega
  obtain ⟨τ1, e1⟩ := Shape_to (k + 1) h hs
  obtain ⟨σ1, hσ1⟩ : ∃ σ1, σ ++ τ1 = σ1 := ⟨_, rfl⟩
  rw [hσ1] at e1
  have h1 : HeapAt σ1 i m := hσ1 ▸ h.app τ1
  have hl1 : σ.length ≤ σ1.length := by rw [← hσ1]; simp
  obtain ⟨σ2, hσ2⟩ : ∃ σ2, σ1 ++ [AObj.cells [.int .i64 (refsAt m j), .int .i64 (dataAt m j), .int .i64 (kindAt m j)] 23 true] = σ2 := ⟨_, rfl⟩
  have est : ∀ x y z : Value, stN (σ1 ++ [AObj.cells [x, y, z] 23 true]) σ1.length 0 [.int .i64 (refsAt m j), .int .i64 (dataAt m j), .int .i64 (kindAt m j)] = some σ2 := by
    intro x y z; rw [← hσ2]; simp [stN, setRange]
  have h2 : HeapAt σ2 i m := hσ2 ▸ h1.app _
  have hbx : σ2[σ1.length]? = some (.cells [.int .i64 (refsAt m j), .int .i64 (dataAt m j), .int .i64 (kindAt m j)] 23 true) := by rw [← hσ2]; simp
  have hIdent := Ident_to (k + 1) h2 ((2 * j : Nat) : Int) hji
  rw [hasM_of hs, if_pos rfl, Int.toNat_natCast] at hIdent
  have l0 : ldI .i64 σ2 σ1.length (0 + 0) = some (refsAt m j) := by simp [ldI, ld1, hbx, toI]
  have l1 : ldI .i64 σ2 σ1.length (0 + 1) = some (dataAt m j) := by simp [ldI, ld1, hbx, toI]
  have l2 : ldI .i64 σ2 σ1.length (0 + 2) = some (kindAt m j) := by simp [ldI, ld1, hbx, toI]
  obtain ⟨l, hl⟩ : ∃ l, [m.wds.getD (2 * j) 0, refsAt m j, dataAt m j, kindAt m j] = l := ⟨_, rfl⟩
  have hll : l.length = 4 := by rw [← hl]; rfl
  obtain ⟨σ3, hσ3⟩ : ∃ σ3, σ2 ++ [AObj.cells (inRow l) 3 true] = σ3 := ⟨_, rfl⟩
  have h3 : HeapAt σ3 i m := hσ3 ▸ h2.app _
  have i3 : IntsAt 0 σ3 (some ⟨σ2.length, 0, none⟩, 4, 4) l := .inr ⟨σ2.length, Nat.zero_le _, by rw [hll], by rw [← hl]; simp, by rw [← hσ3]; simp⟩
  have hbx3 : σ3[σ1.length]? = some (.cells [.int .i64 (refsAt m j), .int .i64 (dataAt m j), .int .i64 (kindAt m j)] 23 true) := by
    rw [← hσ3, List.getElem?_append_left (getElem?_lt hbx)]; exact hbx
  have hl2 : σ2.length = σ1.length + 1 := by rw [← hσ2]; simp
  have hnb : σ1.length ∉ i.l := fun hm => by have := h1.lt _ hm; omega
  have off3 : Off i (some ⟨σ2.length, 0, none⟩, 4, 4) := by
    intro a ha hm
    cases ha
    have := h2.lt _ hm
    simp at this
  obtain ⟨σ4, s4, e4, g4, i4⟩ := contents_l0_to k hI hs σ1.length (refsAt m j) (dataAt m j) (kindAt m j) rfl hnb (refsAt m j).toNat 0 (k + 7) σ3 (some ⟨σ2.length, 0, none⟩, 4, 4) l h3 off3 hbx3 (by intro a ha; cases ha; simp only; omega) i3 (by omega) (by omega) (by omega)
  obtain ⟨h4, off4⟩ := g4.heap h3 off3
  obtain ⟨hbx4, ne4⟩ := g4.other hbx3 (by intro a ha; cases ha; simp only; omega)
  obtain ⟨σ5, s5, e5, g5, i5⟩ := contents_l1_to k hI hs σ1.length (refsAt m j) (dataAt m j) (kindAt m j) rfl hnb (dataAt m j).toNat 0 (k + 7) σ4 s4 _ h4 off4 hbx4 ne4 i4 (by simp [segL_length]; omega) (by omega) (by omega)
  obtain ⟨h5, off5⟩ := g5.heap h4 off4
  rw [Nat.add_zero] at i4
  rw [Nat.add_zero, Nat.add_zero] at i5
  rw [show ((0 : Nat) : Int) = 0 from rfl] at e4 e5
  have hP := Pinned_to (k + 2) h5 ((2 * j : Nat) : Int) hji
  have g35 := g4.trans g5
  have hrow : inRow l = [.int .i64 (m.wds.getD (2 * j) 0), .int .i64 (refsAt m j), .int .i64 (dataAt m j), .int .i64 (kindAt m j)] := by rw [← hl]; rfl
  have hσ3' : ∃ τ, σ3 = σ ++ τ := by
    refine ⟨τ1 ++ [AObj.cells [.int .i64 (refsAt m j), .int .i64 (dataAt m j), .int .i64 (kindAt m j)] 23 true] ++ [AObj.cells (inRow l) 3 true], ?_⟩
    rw [← hσ3, ← hσ2, ← hσ1]; simp
  obtain ⟨τ3, hτ3⟩ := hσ3'
  have hnew : ∀ a, (some ⟨σ2.length, 0, none⟩ : Option Addr) = some a → σ.length ≤ a.block := by
    intro a ha; cases ha; simp only; omega
  have fin : ∀ {σ' s'}, Grows σ3 (some ⟨σ2.length, 0, none⟩, 4, 4) σ' s' → IntsAt 0 σ' s' (contL m j) → d_law02_contents (k + 8) (hptr i) ((2 * j : Nat) : Int) σ = some (.slice s'.1 s'.2.1 s'.2.2, σ') →
      ∃ τ s, d_law02_contents (k + 8) (hptr i) ((2 * j : Nat) : Int) σ = some (.slice s.1 s.2.1 s.2.2, σ ++ τ) ∧ IntsAt σ.length (σ ++ τ) s (contL m j) := by
    intro σ' s' g hi he
    rw [hτ3] at g
    obtain ⟨⟨τ', rfl⟩, hb⟩ := g.behind hnew
    exact ⟨τ', s', he, hi.up hb⟩
  have pre : d_law02_contents (k + 8) (hptr i) ((2 * j : Nat) : Int) σ = ((bif pinM m ((2 * j : Nat) : Int) then (allocK σ5 (.cells [.int .i64 (1 : Int)] 3 true) fun h40 s41 => (appendD P 3 (s5.1, s5.2.1, s5.2.2) (some ⟨h40, 0, none⟩, 1, 1) s41).bind fun r42 => some (.normal, [.slice r42.1.1 r42.1.2.1 r42.1.2.2], r42.2)) else (some (.normal, [.slice s5.1 s5.2.1 s5.2.2], σ5)) : Option LOut).bind fun r43 => if r43.1 = .normal then (u_l r43.2.1 fun l44 => some (.slice l44.1 l44.2.1 l44.2.2, r43.2.2)) else none) := by
    rw [d_law02_contents]
    have e1' : d_heap_Heap_Shape (k + 7) (hptr i) ((2 * j : Nat) : Int) σ = _ := e1
    have hI' : d_heap_Heap_Ident (k + 7) (hptr i) ((2 * j : Nat) : Int) σ2 = _ := hIdent
    have hP' : d_heap_Heap_Pinned (k + 7) (hptr i) ((2 * j : Nat) : Int) σ5 = _ := hP
    simp only [e1', Option.bind_some, toT, List.length_cons, List.length_nil, Nat.zero_add, Nat.reduceAdd, if_true, List.head?_cons, a_iii_eq, List.tail_cons, toI_int, allocK, est, hI', r_ii_eq] at l0 l1 l2 ⊢
    simp only [l0, l1, l2, Option.bind_some, ← hrow, hσ3, e4, if_true, u_l_eq, e5, hP', toB_bool]
  cases hp : pinM m ((2 * j : Nat) : Int) with
  | false =>
    refine fin g35 ?_ ?_
    · unfold contL; rw [hp, hl]; simpa using i5
    · rw [pre, hp]; simp only [cond_false, Option.bind_some, if_true, u_l_eq]
  | true =>
    obtain ⟨s6, σ6, e6, g6, i6⟩ := push_to σ5 s5 _ [1] 1 (by simp [segL_length]; omega) i5 (by simp)
    refine fin (g35.trans g6) ?_ ?_
    · unfold contL; rw [hp, hl]; simpa using i6
    · rw [pre, hp]
      have e6' : appendD P 3 (s5.1, s5.2.1, s5.2.2) (some ⟨σ5.length, 0, none⟩, 1, 1) (σ5 ++ [.cells [.int .i64 1] 3 true]) = some (s6, σ6) := e6
      simp only [cond_true, allocK, e6', Option.bind_some, if_true, u_l_eq]

end Go.Proofs.Ytdlihdgoobcoaaa
