/-
  HeapMoves: what the law's function comes to.
-/
import Derived.Test.YtdlihdgoobcoaaaCE
set_option linter.unusedVariables false
set_option linter.unusedSimpArgs false
namespace Go.Proofs.Ytdlihdgoobcoaaa
open Go Go.AX
noncomputable local instance : Quiet := fullQuiet
variable {σ : AMem} {i : HIds} {m : HM}

theorem segL_like {m m' : HM} : ∀ (n a a' : Nat), (∀ q, q < n → m'.wds.getD (a' + q) 0 = m.wds.getD (a + q) 0) → segL m' a' n = segL m a n
  | 0, a, a', h => rfl
  | n + 1, a, a', h => by
    rw [segL_cons, segL_cons, segL_like n (a + 1) (a' + 1) (fun q hq => by have := h (q + 1) (by omega); rw [show a' + 1 + q = a' + (q + 1) from by omega, show a + 1 + q = a + (q + 1) from by omega]; exact this)]
    have := h 0 (by omega)
    rw [Nat.add_zero, Nat.add_zero] at this
    rw [this]

theorem contL_like (hI : Inv m) {m' : HM} {j j' : Nat} (hs : Start m j) (hw : ∀ c, c < sz m j → m'.wds.getD (2 * j' + c) 0 = m.wds.getD (2 * j + c) 0) (hp : pinM m' ((2 * j' : Nat) : Int) = pinM m ((2 * j : Nat) : Int)) : contL m' j' = contL m j := by
  have hz := hI.size hs
  have w1 := hw 1 (by omega)
  obtain ⟨_, _, er, ed⟩ := sz_of (m := m) (m' := m') (j := j) (j' := j') w1
  have ek : kindAt m' j' = kindAt m j := by unfold kindAt; rw [w1]
  have w0 := hw 0 (by omega)
  rw [Nat.add_zero, Nat.add_zero] at w0
  unfold contL
  rw [w0, er, ed, ek, hp, segL_like (m := m) (m' := m') (refsAt m j).toNat (2 * j + 2) (2 * j' + 2) (fun q hq => by
    have := hw (2 + q) (by omega)
    rw [Nat.add_assoc, Nat.add_assoc]; exact this), segL_like (m := m) (m' := m') (dataAt m j).toNat (2 * j + 2 + (refsAt m j).toNat) (2 * j' + 2 + (refsAt m j).toNat) (fun q hq => by
    have := hw (2 + (refsAt m j).toNat + q) (by omega)
    rw [Nat.add_assoc (2 * j'), Nat.add_assoc (2 * j'), Nat.add_assoc (2 * j), Nat.add_assoc (2 * j)]; exact this)]

/-- What Move has made of an object. -/
theorem move_obj (hI : Inv m) (hS : Sh m) {j t : Nat} (hs : Start m j) (ht : t < 32 * m.bls.length) (hfit : 2 * t + sz m j ≤ m.wds.length)
    (hap : ∀ o, Start m o → o ≠ j → 2 * o + sz m o ≤ 2 * t ∨ 2 * t + sz m j ≤ 2 * o) {o : Nat} (ho : Start m o) : Start (moveM m j t) (if o = j then t else o) ∧ contL (moveM m j t) (if o = j then t else o) = contL m o := by
  have hst := fun j' => start_move (m := m) hS (j := j) (t := t) (j' := j') hs.1 ht
  have hz := hI.size hs
  have hpl := hS.pl
  have tl := tget_lt 1 m.pnw j
  by_cases e : o = j
  · subst e
    rw [if_pos rfl]
    have h1 : Start (moveM m o t) t := (hst t).2 (.inl rfl)
    refine ⟨h1, contL_like hI hs (fun c hc => ?_) ?_⟩
    · rw [move_words hI hs hfit, if_pos (by omega), show 2 * o + (2 * t + c - 2 * t) = 2 * o + c from by omega]
    · unfold pinM
      rw [hasM_of h1, hasM_of hs, Int.toNat_natCast, Int.toNat_natCast, show 2 * t / 2 = t from by omega, show 2 * o / 2 = o from by omega]
      show (true && decide (tget 1 (tput 1 (tput 1 m.pnw o 0) t (tget 1 m.pnw o)) t = 1)) = _
      rw [tget_tput_same (.inl rfl) tl (by rw [tput_length]; omega)]
  · rw [if_neg e]
    have hzo := hI.size ho
    have hno : o ≠ t := by
      rintro rfl
      have := hap o ho e
      omega
    have h1 : Start (moveM m j t) o := (hst o).2 (.inr ⟨e, ho⟩)
    refine ⟨h1, contL_like hI ho (fun c hc => move_other hI hs hfit hap ho e (by omega) (by omega)) ?_⟩
    unfold pinM
    rw [hasM_of h1, hasM_of ho, Int.toNat_natCast, show 2 * o / 2 = o from by omega]
    show (true && decide (tget 1 (tput 1 (tput 1 m.pnw j 0) t (tget 1 m.pnw j)) o = 1)) = _
    rw [tget_tput_other (.inl rfl) tl (Ne.symm hno), tget_tput_other (.inl rfl) (by decide) (Ne.symm e)]

/-- As many objects as before. -/
theorem move_count (hI : Inv m) (hS : Sh m) {j t : Nat} (hs : Start m j) (ht : t < 32 * m.bls.length) (hfit : 2 * t + sz m j ≤ m.wds.length)
    (hap : ∀ o, Start m o → o ≠ j → 2 * o + sz m o ≤ 2 * t ∨ 2 * t + sz m j ≤ 2 * o) : (starts (moveM m j t) 0 (32 * (moveM m j t).bls.length)).length = (starts m 0 (32 * m.bls.length)).length := by
  have hst := fun j' => start_move (m := m) hS (j := j) (t := t) (j' := j') hs.1 ht
  have hz := hI.size hs
  have hno : ∀ o, Start m o → o ≠ j → o ≠ t := by
    intro o ho e he
    subst he
    have := hap o ho e
    have := hI.size ho
    omega
  have hp : (starts (moveM m j t) 0 (32 * (moveM m j t).bls.length)).Perm ((starts m 0 (32 * m.bls.length)).map fun o => if o = j then t else o) := by
    refine (List.perm_ext_iff_of_nodup (starts_nodup _ _) ?_).2 fun a => ?_
    · unfold List.Nodup
      rw [List.pairwise_map]
      refine List.Pairwise.imp_of_mem (fun {a b} ha hb hab => ?_) (starts_nodup (m := m) 0 (32 * m.bls.length))
      have ha := mem_all.1 ha
      have hb := mem_all.1 hb
      by_cases h1 : a = j
      · rw [if_pos h1, if_neg (fun h2 => hab (h1.trans h2.symm))]
        exact Ne.symm (hno b hb (fun h2 => hab (h1.trans h2.symm)))
      · rw [if_neg h1]
        by_cases h2 : b = j
        · rw [if_pos h2]; exact hno a ha h1
        · rw [if_neg h2]; exact hab
    · rw [mem_all, hst, List.mem_map]
      constructor
      · rintro (rfl | ⟨h1, h2⟩)
        · exact ⟨j, mem_all.2 hs, if_pos rfl⟩
        · exact ⟨a, mem_all.2 h2, if_neg h1⟩
      · rintro ⟨o, ho, rfl⟩
        have ho := mem_all.1 ho
        by_cases e : o = j
        · rw [if_pos e]; exact .inl rfl
        · rw [if_neg e]; exact .inr ⟨e, ho⟩
  rw [hp.length_eq, List.length_map]

theorem sz31 : szOf P 31 = some 1 := by kernel_rfl
theorem by31 : bytesOf P 31 = some 24 := by kernel_rfl
theorem zz31 : zerosOf P 31 = some (.slice none 0 0) := by kernel_rfl

def slRow (l : List SlV) : List Value := l.map fun s => .slice s.1 s.2.1 s.2.2
theorem slRow_len (l : List SlV) : (slRow l).length = l.length := by simp [slRow]

/-- The contents of some objects, as slices that lie in memory. -/
def Olds (σ : AMem) (m : HM) (L : List Nat) (ss : List SlV) : Prop := ss.length = L.length ∧ ∀ q (h : q < L.length) (h' : q < ss.length), IntsAt 0 σ ss[q] (contL m L[q])

theorem Hm_l0 (k : Nat) (hk : 5000 ≤ k) (hI : Inv m) (L : List Nat) (hL : ∀ j ∈ L, Start m j) (hL1 : L.length ≤ 5000) (s : SlV) : ∀ (n x f : Nat) (σ : AMem) (o : SlV) (ss : List SlV), HeapAt σ i m → IntsAt 0 σ s (addrs L) → SlAt 31 1 σ o x (slRow ss) → Off i o → (∀ a b, s.1 = some a → o.1 = some b → a.block ≠ b.block) →
    Olds σ m (L.take x) ss → (∀ t ∈ ss, ∀ a b, t.1 = some a → o.1 = some b → a.block ≠ b.block) → (∀ t ∈ ss, Off i t) → x + n = L.length → n < f →
    ∃ σ' o' ss', d_law02_HeapMoves_l0 (k + 10) f (hptr i) s.1 s.2.1 s.2.2 o (x : Int) σ = some (.exit 0, [.slice o'.1 o'.2.1 o'.2.2], σ') ∧ HeapAt σ' i m ∧ IntsAt 0 σ' s (addrs L) ∧ SlAt 31 1 σ' o' L.length (slRow ss') ∧ Olds σ' m L ss' ∧ (∀ t ∈ ss', Off i t) ∧ Off i o' ∧ σ.length ≤ σ'.length
  | 0, x, 0, σ, o, ss, h, hs, ho, hoff, hso, hss, hne, hsf, hx, hf => by omega
  | 0, x, f + 1, σ, o, ss, h, hs, ho, hoff, hso, hss, hne, hsf, hx, hf => by
    have hlen := hs.len
    rw [show (addrs L).length = L.length from by simp [addrs]] at hlen
    rw [d_law02_HeapMoves_l0]
    have q : decide ((x : Int) < ((s.2.1 : Nat) : Int)) = false := decide_eq_false (by omega)
    rw [List.take_of_length_le (by omega)] at hss
    obtain rfl : x = L.length := by omega
    exact ⟨σ, o, ss, by simp only [q, cond_false], h, hs, ho, hss, hsf, hoff, Nat.le_refl _⟩
  | n + 1, x, 0, σ, o, ss, h, hs, ho, hoff, hso, hss, hne, hsf, hx, hf => by omega
  | n + 1, x, f + 1, σ, o, ss, h, hs, ho, hoff, hso, hss, hne, hsf, hx, hf => by
    have al : (addrs L).length = L.length := by simp [addrs]
    have hxl : x < L.length := by omega
    have hxa : x < (addrs L).length := by omega
    have hst := hL _ (List.getElem_mem hxl)
    have hgx : (addrs L).getD x 0 = ((2 * L[x] : Nat) : Int) := addrs_getD L hxl
    obtain ⟨b1, e1, _, c1, ldA⟩ := ints_at hs hxa
    subst e1
    rw [hgx] at ldA
    obtain ⟨τ1, sc, eC, iC⟩ := contents_to (k + 2) (by omega) h hI hst
    have h1 := h.app τ1
    obtain ⟨o2, σ2, eA, g2, ho2⟩ := push_any sz31 by31 zz31 rfl rfl (by decide) (by decide) (by decide) (σ ++ τ1) o x (slRow ss) 1 1 [.slice sc.1 sc.2.1 sc.2.2] 31 (by omega) (by decide) rfl (ho.app τ1)
    have g := (Grows.app σ o τ1).trans g2
    obtain ⟨h2, off2⟩ := g.heap h hoff
    have hin : ∀ {t : SlV} {l : List Int}, IntsAt 0 σ t l → (∀ a b, t.1 = some a → o.1 = some b → a.block ≠ b.block) → IntsAt 0 σ2 t l ∧ (∀ a b, t.1 = some a → o2.1 = some b → a.block ≠ b.block) := by
      intro t l ht hn
      have hlt := ht.ge
      rcases ht with ht | ⟨b, p1, rfl, p3, p4⟩
      · refine ⟨.inl ht, fun a b ha => ?_⟩
        rw [ht.2] at ha; cases ha
      · obtain ⟨q1, q2⟩ := g.other p4 (fun a ha => Ne.symm (hn _ a rfl ha))
        exact ⟨.inr ⟨b, p1, rfl, p3, q1⟩, fun a b' ha hb' => by cases ha; exact Ne.symm (q2 _ hb')⟩
    obtain ⟨hs2, hso2⟩ := hin hs hso
    have hcs : IntsAt 0 σ2 sc (contL m L[x]) ∧ (∀ a b, sc.1 = some a → o2.1 = some b → a.block ≠ b.block) ∧ Off i sc := by
      have hge := iC.ge
      have hlo := iC.lo0
      rcases hlo with ht | ⟨b, p1, e, p3, p4⟩
      · refine ⟨.inl ht, fun a b ha => ?_, fun a ha => ?_⟩
        · rw [ht.2] at ha; cases ha
        · rw [ht.2] at ha; cases ha
      · have hb := hge ⟨b, 0, none⟩ (by rw [e])
        obtain ⟨q1, q2⟩ := g2.other p4 (fun a ha => by have := ho.lt a ha; have := hb.1; simp only at this; omega)
        refine ⟨.inr ⟨b, p1, e, p3, q1⟩, fun a b' ha hb' => ?_, fun a ha hm => ?_⟩
        · rw [e] at ha; cases ha; exact Ne.symm (q2 _ hb')
        · rw [e] at ha; cases ha
          have := h.lt _ hm
          have := hb.1
          simp only at this
          omega
    have hss2 : Olds σ2 m (L.take (x + 1)) (ss ++ [sc]) := by
      refine ⟨by rw [List.length_append, hss.1]; simp; omega, fun q hq hq' => ?_⟩
      have hsl : ss.length = x := by rw [hss.1]; simp; omega
      by_cases hqx : q < x
      · have := hss.2 q (by simp; omega) (by omega)
        rw [List.getElem_append_left (by omega)]
        simp only [List.getElem_take] at this ⊢
        exact (hin this (hne _ (List.getElem_mem _))).1
      · obtain rfl : q = x := by simp at hq; omega
        rw [List.getElem_append_right (by omega)]
        simp only [List.getElem_take, hsl, Nat.sub_self, List.getElem_cons_zero]
        exact hcs.1
    obtain ⟨σ3, o3, ss3, e3, h3, s3, p3, u3, f3, of3, len3⟩ := Hm_l0 k hk hI L hL hL1 (some ⟨b1, 0, none⟩, (addrs L).length, (addrs L).length) n (x + 1) f σ2 o2 (ss ++ [sc]) h2 hs2 (by
        have : slRow (ss ++ [sc]) = slRow ss ++ [.slice sc.1 sc.2.1 sc.2.2] := by simp [slRow]
        rw [this]; exact ho2) off2 hso2 hss2 (by
        intro t ht
        rcases List.mem_append.1 ht with ht | ht
        · obtain ⟨q, hq, rfl⟩ := List.mem_iff_getElem.1 ht
          have := hss.2 q (by rw [← hss.1]; exact hq) hq
          exact (hin this (hne _ ht)).2
        · simp at ht; subst ht; exact hcs.2.1) (by
        intro t ht
        rcases List.mem_append.1 ht with ht | ht
        · exact hsf t ht
        · simp at ht; subst ht; exact hcs.2.2) (by omega) (by omega)
    refine ⟨σ3, o3, ss3, ?_, h3, s3, p3, u3, f3, of3, by have := g.len; omega⟩
    rw [d_law02_HeapMoves_l0]
    have q : decide ((x : Int) < (((addrs L).length : Nat) : Int)) = true := decide_eq_true (by omega)
    have qx : (0 ≤ (x : Int) ∧ (x : Int) < (((addrs L).length : Nat) : Int)) = True := eq_true (by omega)
    have w6' : w64 ((x : Int) + 1) = ((x + 1 : Nat) : Int) := w64_in (by unfold inI; omega)
    have eC' : d_law02_contents (k + 10) (hptr i) ((2 * L[x] : Nat) : Int) σ = _ := eC
    have eA' : appendD P 31 (o.1, o.2.1, o.2.2) (some ⟨(σ ++ τ1).length, 0, none⟩, 1, 1) (σ ++ τ1 ++ [AObj.cells [.slice sc.1 sc.2.1 sc.2.2] 31 true]) = some (o2, σ2) := eA
    simp only [q, cond_true, qx, if_true, Option.bind_some, Nat.zero_add, Int.toNat_natCast, Nat.mul_one, ldA, eC', toS, allocK, eA', w6']
    exact e3

theorem ldS_row {o : SlV} {n x : Nat} {ss : List SlV} (h : SlAt 31 1 σ o n (slRow ss)) (hx : x < ss.length) (hn : ss.length = n) : ∃ b, o = (some ⟨b, 0, none⟩, n, n) ∧ ldS σ b x = some (ss[x].1, ss[x].2.1, ss[x].2.2) := by
  rcases h with ⟨h1, _, _⟩ | ⟨b, rfl, h1, h2, h3⟩
  · omega
  · refine ⟨b, rfl, ?_⟩
    simp only [ldS, ld1, h3]
    simp [slRow, List.getElem?_eq_getElem hx, toS]

theorem Hm_l1 (k : Nat) (hk : 1000000 ≤ k) {m0 : HM} (hI0 : Inv m0) (hI : Inv m) (L : List Nat) (hL0 : ∀ j ∈ L, Start m0 j) (hL1 : L.length ≤ 5000) (s o : SlV) (ss : List SlV) (hsl : ss.length = L.length) (code a b : Int) (g : Nat → Nat)
    (hg : ∀ j ∈ L, (if code = 0 ∧ ((2 * j : Nat) : Int) = a then b else ((2 * j : Nat) : Int)) = ((2 * g j : Nat) : Int) ∧ Start m (g j) ∧ contL m (g j) = contL m0 j) : ∀ (n x f : Nat) (σ : AMem), HeapAt σ i m → IntsAt 0 σ s (addrs L) → SlAt 31 1 σ o L.length (slRow ss) → Olds σ m0 L ss → x + n = L.length → n < f →
    ∃ τ, d_law02_HeapMoves_l1 (k + 10) f a b (hptr i) s.1 s.2.1 s.2.2 o.1 o.2.1 o.2.2 code (x : Int) σ = some (.exit 2, [], σ ++ τ)
  | 0, x, 0, σ, h, hs, ho, hss, hx, hf => by omega
  | 0, x, f + 1, σ, h, hs, ho, hss, hx, hf => by
    have hlen := hs.len
    rw [show (addrs L).length = L.length from by simp [addrs]] at hlen
    rw [d_law02_HeapMoves_l1]
    have q : decide ((x : Int) < ((s.2.1 : Nat) : Int)) = false := decide_eq_false (by omega)
    exact ⟨[], by simp only [q, cond_false, List.append_nil]⟩
  | n + 1, x, 0, σ, h, hs, ho, hss, hx, hf => by omega
  | n + 1, x, f + 1, σ, h, hs, ho, hss, hx, hf => by
    have al : (addrs L).length = L.length := by simp [addrs]
    have hxl : x < L.length := by omega
    have hxa : x < (addrs L).length := by omega
    have hmem := List.getElem_mem hxl
    obtain ⟨g1, g2, g3⟩ := hg _ hmem
    have hgx : (addrs L).getD x 0 = ((2 * L[x] : Nat) : Int) := addrs_getD L hxl
    have hs0 := hs
    have hnt := h.nt
    have hgl := g2.1
    obtain ⟨b1, e1, _, c1, ldA⟩ := ints_at hs hxa
    subst e1
    rw [hgx] at ldA
    obtain ⟨τ1, sc, eC, iC⟩ := contents_to (k + 2) (by omega) h hI g2
    have h1 := h.app τ1
    obtain ⟨b2, e2, ldB'⟩ := ldS_row (ho.app τ1) (x := x) (by omega) hsl
    subst e2
    have hold := hss.2 x hxl (by omega)
    obtain ⟨τ3, e3⟩ := Hm_l1 k hk hI0 hI L hL0 hL1 (some ⟨b1, 0, none⟩, (addrs L).length, (addrs L).length) (some ⟨b2, 0, none⟩, L.length, L.length) ss hsl code a b g hg n (x + 1) f (σ ++ τ1) h1 (hs0.app τ1) (ho.app τ1) ⟨hss.1, fun q p1 p2 => (hss.2 q p1 p2).app τ1⟩ (by omega) (by omega)
    refine ⟨τ1 ++ τ3, ?_⟩
    have hcl := (contL_length hI g2).1
    rw [g3] at hcl iC
    have eI := ints_to (k + 8) iC (hold.app τ1) (by omega) (by omega)
    have hH : d_heap_Heap_Has (k + 10) (hptr i) ((2 * g L[x] : Nat) : Int) σ = _ := Has_to (k + 6) h _ (by unfold inI; omega)
    rw [hasM_of g2] at hH
    rw [← List.append_assoc, ← e3, d_law02_HeapMoves_l1]
    have q : decide ((x : Int) < (((addrs L).length : Nat) : Int)) = true := decide_eq_true (by omega)
    have qx : (0 ≤ (x : Int) ∧ (x : Int) < (((addrs L).length : Nat) : Int)) = True := eq_true (by omega)
    have qy : (0 ≤ (x : Int) ∧ (x : Int) < ((L.length : Nat) : Int)) = True := eq_true (by omega)
    have w6' : w64 ((x : Int) + 1) = ((x + 1 : Nat) : Int) := w64_in (by unfold inI; omega)
    have eC' : d_law02_contents (k + 10) (hptr i) ((2 * g L[x] : Nat) : Int) σ = _ := eC
    have eI' : d_law02_ints (k + 10) (sc.1, sc.2.1, sc.2.2) (ss[x].1, ss[x].2.1, ss[x].2.2) (σ ++ τ1) = _ := eI
    have pick' : ((bif code == 0 then some ((((2 * L[x] : Nat) : Int) == a), σ) else some (false, σ)).bind fun r21 => (bif r21.1 then (some (.normal, [.int .i64 b], r21.2)) else (some (.normal, [.int .i64 ((2 * L[x] : Nat) : Int)], r21.2)) : Option LOut)) = some (.normal, [.int .i64 ((2 * g L[x] : Nat) : Int)], σ) := by
      rw [← g1]
      by_cases hc : code = 0
      · by_cases ha : ((2 * L[x] : Nat) : Int) = a
        · rw [if_pos ⟨hc, ha⟩, beq_iff_eq.2 hc, beq_iff_eq.2 ha]; rfl
        · rw [if_neg (fun h => ha h.2), beq_iff_eq.2 hc, beq_eq_false_iff_ne.2 ha]; rfl
      · rw [if_neg (fun h => hc h.1), beq_eq_false_iff_ne.2 hc]; rfl
    simp only [q, cond_true, qx, if_true, Option.bind_some, Nat.zero_add, Int.toNat_natCast, Nat.mul_one, ldA]
    rw [← Option.bind_assoc, pick']
    simp only [Option.bind_some, if_true, u_i_eq, hH, toB_bool, Bool.not_true, cond_false, eC', quietly_full, toS, qy, Nat.zero_add, Int.toNat_natCast, Nat.mul_one, ldB', eI', decide_true, w6']

theorem HeapMoves_to (k : Nat) (hk : 1000000 ≤ k) (b : Int) (p : Option Addr) (c2 : Nat) (l : List ActV) (hok : ∀ x ∈ l, x.ok) (u v : Int) (hu : inI u) (σ : AMem) (hA : ActsAt σ p l) (hp : l ≠ [] → ∀ a, p = some a → a.block < σ.length) :
    ∃ σ', law02_HeapMoves (k + 15) b (p, l.length, c2) u v σ = some (.bool true, σ') := by
  rw [law02_HeapMoves_is, d_law02_HeapMoves]
  rcases Made_to k (by omega) b p c2 l hok hA hp with ⟨_, hM⟩ | ⟨σ1, i, m, hmm, hM, h1, hI, hI2, k1, hid, hb60, hb12, _⟩
  · simp only [hM, Option.bind_some, toP, eqA_ptrs ⟨0, 0, none⟩, cond_true, alive_to, toB_bool]
    exact ⟨_, rfl⟩
  have hwl := h1.wl
  have hnt := h1.nt
  have hS := h1.sh
  obtain ⟨τ2, s, e2, i2⟩ := All_to (k + 8) (by omega) h1
  have e2' : d_heap_Heap_All (k + 14) (hptr i) σ1 = _ := e2
  have hsl := starts_len m 0 (32 * m.bls.length)
  obtain ⟨L, hLe⟩ : ∃ L, starts m 0 (32 * m.bls.length) = L := ⟨_, rfl⟩
  have hL : ∀ j ∈ L, Start m j := fun j hj => mem_all.1 (hLe ▸ hj)
  rw [hLe] at i2 hsl
  obtain ⟨σ3, o, ss, e3, h3, s3, p3, u3, f3, of3, len3⟩ := Hm_l0 (k + 4) (by omega) hI L hL (by omega) s L.length 0 (k + 14) (σ1 ++ τ2) (none, 0, 0) [] (h1.app τ2) i2.lo0 (SlAt.nil _ _ _) (by intro a ha; cases ha) (by intro a b _ hb; cases hb) ⟨by simp, by intro q hq; simp at hq⟩ (by intro t ht; cases ht) (by intro t ht; cases ht) (by omega) (by omega)
  have e3' : d_law02_HeapMoves_l0 (k + 14) (k + 14) (hptr i) s.1 s.2.1 s.2.2 (none, 0, 0) 0 (σ1 ++ τ2) = _ := e3
  obtain ⟨σ4, e4, h4, k4⟩ := Move_goes (k + 2) (by omega) h3 hI u v hu
  have e4' : d_heap_Heap_Move (k + 14) (hptr i) u v σ3 = _ := e4
  have hkp := moveR_keep hI hI2 hS u v
  have offs : Off i s := fun a ha hm => by have := (i2.ge a ha).1; have := h1.lt _ hm; omega
  have stays : ∀ {t : SlV} {l : List Int}, Off i t → IntsAt 0 σ3 t l → IntsAt 0 σ4 t l := by
    intro t l ht hi
    rcases hi with hi | ⟨q, q1, rfl, q3, q4⟩
    · exact .inl hi
    · exact .inr ⟨q, q1, rfl, q3, by rw [k4.same q (getElem?_lt q4) (ht _ rfl)]; exact q4⟩
  have s4 := stays offs s3
  have p4 : SlAt 31 1 σ4 o L.length (slRow ss) := p3.like fun a ha => k4.same _ (p3.lt a ha) (of3 a ha)
  have u4 : Olds σ4 m L ss := ⟨u3.1, fun q q1 q2 => stays (f3 _ (List.getElem_mem _)) (u3.2 q q1 q2)⟩
  have hss : ss.length = L.length := u3.1
  -- what Move came to
  have key : ∃ g : Nat → Nat, (∀ j ∈ L, (if (moveR m u v).1 = 0 ∧ ((2 * j : Nat) : Int) = u then v else ((2 * j : Nat) : Int)) = ((2 * g j : Nat) : Int) ∧ Start (moveR m u v).2 (g j) ∧ contL (moveR m u v).2 (g j) = contL m j) ∧
      (starts (moveR m u v).2 0 (32 * (moveR m u v).2.bls.length)).length = L.length ∧ ((moveR m u v).1 = 0 → fwdM (moveR m u v).2 u = v ∧ (getM (moveR m u v).2.fw u).isSome = true ∧ (u ≠ v → hasM (moveR m u v).2 u = false)) := by
    by_cases hc : (moveR m u v).1 = 0
    · unfold moveR at hc ⊢
      by_cases hh : hasM m u = true
      · rw [if_pos hh] at hc ⊢
        by_cases hfm : fitsM m v (sz m (u.toNat / 2)) u = 0
        · rw [if_pos hfm]
          obtain ⟨j, rfl, hs⟩ := hasM_spec hh
          rw [Int.toNat_natCast, show 2 * j / 2 = j from by omega] at hfm ⊢
          obtain ⟨t, rfl, ht, hfit, hap, _⟩ := moveR_ok hI hS hs hfm
          rw [Int.toNat_natCast, show 2 * t / 2 = t from by omega]
          refine ⟨fun o => if o = j then t else o, fun o ho => ?_, ?_, fun _ => ⟨?_, ?_, fun hne => ?_⟩⟩
          · obtain ⟨m1, m2⟩ := move_obj hI hS hs ht hfit hap (hL o ho)
            refine ⟨?_, m1, m2⟩
            by_cases e : o = j
            · subst e; simp
            · show _ = ((2 * (if o = j then t else o) : Nat) : Int)
              rw [if_neg (fun h => e (by omega)), if_neg e]
          · rw [move_count hI hS hs ht hfit hap, hLe]
          · show (getM (setM _ _ _) _).getD 0 = _
            rw [getM_set, if_pos rfl]; rfl
          · show (getM (setM _ _ _) _).isSome = true
            rw [getM_set, if_pos rfl]; rfl
          · cases hq : hasM (moveM m j t) ((2 * j : Nat) : Int) with
            | false => rfl
            | true =>
              obtain ⟨j', e, hs'⟩ := hasM_spec hq
              obtain rfl : j' = j := by omega
              rcases (start_move hS hs.1 ht).1 hs' with rfl | ⟨h5, _⟩
              · exact absurd rfl hne
              · exact absurd rfl h5
        · rw [if_neg hfm] at hc; exact absurd hc hfm
      · rw [if_neg hh] at hc; cases hc
    · have hm := hkp.err hc
      rw [hm]
      refine ⟨fun o => o, fun o ho => ⟨if_neg fun h => hc h.1, hL o ho, rfl⟩, by rw [hLe], fun h => absurd h hc⟩
  obtain ⟨g, hg, hcount, hok0⟩ := key
  have hI4 := hkp.inv
  generalize moveR m u v = r at *
  obtain ⟨code, m'⟩ := r
  simp only at *
  obtain ⟨τ5, e5⟩ := Hm_l1 (k + 4) (by omega) hI hI4 L hL (by omega) s o ss hss code u v g hg L.length 0 (k + 14) σ4 h4 s4 p4 u4 (by omega) (by omega)
  have e5' : d_law02_HeapMoves_l1 (k + 14) (k + 14) u v (hptr i) s.1 s.2.1 s.2.2 o.1 o.2.1 o.2.2 code 0 σ4 = _ := e5
  have h5 := h4.app τ5
  obtain ⟨τ6, s6, e6, i6⟩ := All_to (k + 8) (by omega) h5
  have e6' : d_heap_Heap_All (k + 14) (hptr i) (σ4 ++ τ5) = _ := e6
  have l6 := i6.len
  have l1 := s4.len
  rw [show (addrs (starts m' 0 (32 * m'.bls.length))).length = L.length from by simp [addrs, hcount]] at l6
  rw [show (addrs L).length = L.length from by simp [addrs]] at l1
  have hF : d_heap_Heap_Forward (k + 14) (hptr i) u (σ4 ++ τ5) = _ := Forward_to (k + 12) h5 u
  have hH : d_heap_Heap_Has (k + 14) (hptr i) u (σ4 ++ τ5) = _ := Has_to (k + 10) h5 u hu
  simp only [hM, Option.bind_some, toP, eqA_ptrs, cond_false, e2', toS, e3', if_true, u_l_eq, e4', toI_int, e5']
  by_cases hc : code = 0
  · obtain ⟨f1, f2, f3'⟩ := hok0 hc
    subst hc
    have ht : (bif (u != v) then (d_heap_Heap_Has (k + 14) (hptr i) u (σ4 ++ τ5)).bind fun r38 => (toB r38.1).bind fun b39 => some (b39, r38.2) else some (false, σ4 ++ τ5)) = some (false, σ4 ++ τ5) := by
      by_cases hne : u = v
      · simp [hne]
      · rw [hH, f3' hne]; simp [hne, toB]
    simp only [BEq.rfl, cond_true, hF, r_ii_eq, f1, f2, if_true, bne_self_eq_false, cond_false, Option.bind_some, ht, e6', toS, l6, l1, alive_to, toB_bool]
    exact ⟨_, rfl⟩
  · have : (code == 0) = false := by simpa using hc
    simp only [this, cond_false, Option.bind_some, if_true, e6', toS, l6, l1, BEq.rfl, cond_true, alive_to, toB_bool]
    exact ⟨_, rfl⟩

end Go.Proofs.Ytdlihdgoobcoaaa
