/-
  state and ints.
-/
import Derived.Test.YtdlihdgoobcoaaaCU
set_option linter.unusedVariables false
set_option linter.unusedSimpArgs false
namespace Go.Proofs.Ytdlihdgoobcoaaa
open Go Go.AX
noncomputable local instance : Quiet := fullQuiet
variable {σ : AMem} {i : HIds} {m : HM}

def blsL (l : List (Int × Int)) : List Int := l.flatMap fun p => [p.1, p.2]
def wfL (m : HM) (a n : Nat) : List Int := (List.range' a n).flatMap fun x => [m.wds.getD x 0, fwdM m (x : Int)]
def objL (m : HM) (L : List Nat) : List Int := L.flatMap fun j => ((2 * j : Nat) : Int) :: contL m j
/-- What state lists. -/
def stateL (m : HM) : List Int := [m.births, (usedN m : Int)] ++ blsL m.bls ++ wfL m 0 m.wds.length ++ objL m (starts m 0 (32 * m.bls.length))

theorem blsL_length (l : List (Int × Int)) : (blsL l).length = 2 * l.length := by
  induction l with
  | nil => rfl
  | cons p l ih => simp only [blsL, List.flatMap_cons, List.length_append, List.length_cons, List.length_nil] at ih ⊢; omega
theorem wfL_length (m : HM) (a n : Nat) : (wfL m a n).length = 2 * n := by
  induction n generalizing a with
  | zero => rfl
  | succ n ih => simp only [wfL, List.range'_succ, List.flatMap_cons, List.length_append, List.length_cons, List.length_nil] at ih ⊢; rw [ih]; omega
theorem objL_length (hI : Inv m) (L : List Nat) (hL : ∀ j ∈ L, Start m j) : (objL m L).length ≤ 301 * L.length := by
  induction L with
  | nil => simp [objL]
  | cons j L ih =>
    have h1 := (contL_length hI (hL j (by simp))).1
    have h2 := ih fun j hj => hL j (by simp [hj])
    simp only [objL, List.flatMap_cons, List.length_append, List.length_cons] at h2 ⊢
    omega

theorem state_l0_to (k : Nat) : ∀ (n x f : Nat) (σ : AMem) (s : SlV) (l : List Int), HeapAt σ i m → Off i s → IntsAt 0 σ s l → l.length ≤ 800000 → l.length = 2 + 2 * x → x + n = m.bls.length → n < f →
    ∃ σ' s', d_law02_state_l0 (k + 3) f (hptr i) s (x : Int) σ = some (.exit 0, [.slice s'.1 s'.2.1 s'.2.2], σ') ∧ Grows σ s σ' s' ∧ IntsAt 0 σ' s' (l ++ blsL (m.bls.drop x))
  | 0, x, 0, σ, s, l, h, ho, hl, hn, hln, hx, hf => by omega
  | 0, x, f + 1, σ, s, l, h, ho, hl, hn, hln, hx, hf => by
    rw [d_law02_state_l0]
    have q : decide ((x : Int) < ((m.bls.length : Nat) : Int)) = false := decide_eq_false (by omega)
    refine ⟨σ, s, by simp only [Blocks_to _ h, toI_int, Option.bind_some, q, cond_false], Grows.refl _ _, ?_⟩
    rw [List.drop_eq_nil_of_le (by omega)]
    simpa [blsL] using hl
  | n + 1, x, 0, σ, s, l, h, ho, hl, hn, hln, hx, hf => by omega
  | n + 1, x, f + 1, σ, s, l, h, ho, hl, hn, hln, hx, hf => by
    have ht := h.nt
    have hxl : x < m.bls.length := by omega
    have q : decide ((x : Int) < ((m.bls.length : Nat) : Int)) = true := decide_eq_true (by omega)
    obtain ⟨s1, σ1, eA, g0, i1⟩ := push_to σ s l [(m.bls.getD x (0, 0)).1, (m.bls.getD x (0, 0)).2] 2 (by simp only [List.length_cons, List.length_nil]; omega) hl (by simp)
    obtain ⟨h1, o1⟩ := g0.heap h ho
    obtain ⟨σ2, s2, e2, g2, i2⟩ := state_l0_to k n (x + 1) f σ1 s1 _ h1 o1 i1 (by simp; omega) (by simp; omega) (by omega) (by omega)
    refine ⟨σ2, s2, ?_, g0.trans g2, ?_⟩
    · rw [d_law02_state_l0]
      have w1 : w64 ((x : Int) + 1) = ((x + 1 : Nat) : Int) := w64_in (by unfold inI; omega)
      have eA' : appendD P 3 s (some ⟨σ.length, 0, none⟩, 2, 2) (σ ++ [.cells [.int .i64 (m.bls.getD x (0, 0)).1, .int .i64 (m.bls.getD x (0, 0)).2] 3 true]) = some (s1, σ1) := eA
      simp only [Blocks_to _ h, toI_int, Option.bind_some, q, cond_true, State_to _ h hxl, Space_to _ h hxl, allocK, eA', w1]
      exact e2
    · rw [List.append_assoc] at i2
      rw [List.drop_eq_getElem_cons hxl, blsL, List.flatMap_cons]
      have : m.bls.getD x (0, 0) = m.bls[x] := by simp [List.getElem?_eq_getElem hxl]
      rw [this] at i2
      exact i2

theorem state_l1_to (k : Nat) : ∀ (n x f : Nat) (σ : AMem) (s : SlV) (l : List Int), HeapAt σ i m → Off i s → IntsAt 0 σ s l → l.length + 2 * n ≤ 800000 → x + n = m.wds.length → n < f →
    ∃ σ' s', d_law02_state_l1 (k + 3) f (hptr i) s (x : Int) σ = some (.exit 2, [.slice s'.1 s'.2.1 s'.2.2], σ') ∧ Grows σ s σ' s' ∧ IntsAt 0 σ' s' (l ++ wfL m x n)
  | 0, x, 0, σ, s, l, h, ho, hl, hn, hx, hf => by omega
  | 0, x, f + 1, σ, s, l, h, ho, hl, hn, hx, hf => by
    have ht := h.nt
    have hw := h.wl
    rw [d_law02_state_l1]
    have w : w64 (((m.bls.length : Nat) : Int) * 64) = ((m.wds.length : Nat) : Int) := by rw [w64_in (by unfold inI; omega)]; omega
    have q : decide ((x : Int) < ((m.wds.length : Nat) : Int)) = false := decide_eq_false (by omega)
    refine ⟨σ, s, by simp only [Blocks_to _ h, toI_int, Option.bind_some, w, q, cond_false], Grows.refl _ _, ?_⟩
    simpa [wfL] using hl
  | n + 1, x, 0, σ, s, l, h, ho, hl, hn, hx, hf => by omega
  | n + 1, x, f + 1, σ, s, l, h, ho, hl, hn, hx, hf => by
    have ht := h.nt
    have hw := h.wl
    have w : w64 (((m.bls.length : Nat) : Int) * 64) = ((m.wds.length : Nat) : Int) := by rw [w64_in (by unfold inI; omega)]; omega
    have hxl : x < m.wds.length := by omega
    have q : decide ((x : Int) < ((m.wds.length : Nat) : Int)) = true := decide_eq_true (by omega)
    obtain ⟨s1, σ1, eA, g0, i1⟩ := push_to σ s l [m.wds.getD x 0, fwdM m (x : Int)] 2 (by simp only [List.length_cons, List.length_nil]; omega) hl (by simp)
    obtain ⟨h1, o1⟩ := g0.heap h ho
    obtain ⟨σ2, s2, e2, g2, i2⟩ := state_l1_to k n (x + 1) f σ1 s1 _ h1 o1 i1 (by simp; omega) (by omega) (by omega)
    refine ⟨σ2, s2, ?_, g0.trans g2, ?_⟩
    · rw [d_law02_state_l1]
      have w1 : w64 ((x : Int) + 1) = ((x + 1 : Nat) : Int) := w64_in (by unfold inI; omega)
      have eA' : appendD P 3 s (some ⟨σ.length, 0, none⟩, 2, 2) (σ ++ [.cells [.int .i64 (m.wds.getD x 0), .int .i64 (fwdM m (x : Int))] 3 true]) = some (s1, σ1) := eA
      have hW := Word_to (k + 1) h (x : Int)
      rw [if_pos (by omega), Int.toNat_natCast] at hW
      have hF := Forward_to (k + 1) h (x : Int)
      simp only [Blocks_to _ h, toI_int, Option.bind_some, w, q, cond_true, hW, hF, r_ii_eq, allocK, eA', w1]
      exact e2
    · rw [List.append_assoc] at i2
      rw [wfL, List.range'_succ, List.flatMap_cons]
      exact i2

theorem firstA_ints {σ : AMem} {lo : Nat} {s : SlV} {l : List Int} (h : IntsAt lo σ s l) : firstA σ 1 s.1 l.length = some (inRow l) := by
  rcases h with ⟨rfl, rfl⟩ | ⟨b, _, rfl, _, hc⟩
  · rfl
  · simp only [firstA, ldN, hc, inRow_length, Nat.mul_one, Nat.zero_add, Nat.le_refl, if_true, List.drop_zero]
    rw [List.take_of_length_le (by rw [inRow_length]; exact Nat.le_refl _)]

theorem state_l2_to (k : Nat) (hk : 5000 ≤ k) (hI : Inv m) (L : List Nat) (hL : ∀ j ∈ L, Start m j) (hLl : L.length ≤ 2048) (qa : Nat) : ∀ (n x f : Nat) (σ : AMem) (s : SlV) (l : List Int), HeapAt σ i m → Off i s → (L ≠ [] → σ[qa]? = some (.cells (inRow (addrs L)) 3 true)) → (L ≠ [] → ∀ a, s.1 = some a → a.block ≠ qa) → IntsAt 0 σ s l → l.length + 302 * n ≤ 1000000 → x + n = L.length → n < f →
    ∃ σ' s', d_law02_state_l2 (k + 8) f (hptr i) (if L = [] then none else some ⟨qa, 0, none⟩) L.length L.length s (x : Int) σ = some (.exit 4, [.slice s'.1 s'.2.1 s'.2.2], σ') ∧ Grows σ s σ' s' ∧ IntsAt 0 σ' s' (l ++ objL m (L.drop x))
  | 0, x, 0, σ, s, l, h, ho, hA, hne, hl, hn, hx, hf => by omega
  | 0, x, f + 1, σ, s, l, h, ho, hA, hne, hl, hn, hx, hf => by
    rw [d_law02_state_l2]
    have q : decide ((x : Int) < ((L.length : Nat) : Int)) = false := decide_eq_false (by omega)
    refine ⟨σ, s, by simp only [q, cond_false], Grows.refl _ _, ?_⟩
    rw [List.drop_eq_nil_of_le (by omega)]
    simpa [objL] using hl
  | n + 1, x, 0, σ, s, l, h, ho, hA, hne, hl, hn, hx, hf => by omega
  | n + 1, x, f + 1, σ, s, l, h, ho, hA, hne, hl, hn, hx, hf => by
    have ht := h.nt
    have hw := h.wl
    have hxl : x < L.length := by omega
    have hLne : L ≠ [] := fun e => by rw [e] at hxl; simp at hxl
    have hst := hL _ (List.getElem_mem hxl)
    have hcl := contL_length hI hst
    have hb := hA hLne
    have q : decide ((x : Int) < ((L.length : Nat) : Int)) = true := decide_eq_true (by omega)
    have ldx : ∀ {μ : AMem}, μ[qa]? = some (.cells (inRow (addrs L)) 3 true) → ldI .i64 μ qa (0 + x * 1) = some ((2 * L[x] : Nat) : Int) := by
      intro μ hm
      have hh : IntsAt 0 μ (some ⟨qa, 0, none⟩, (addrs L).length, (addrs L).length) (addrs L) := .inr ⟨qa, Nat.zero_le _, rfl, by simpa [addrs] using hLne, hm⟩
      rw [Nat.zero_add, Nat.mul_one, hh.ld (by simpa [addrs] using hxl), addrs_getD L hxl]
    obtain ⟨s1, σ1, eA, g0, i1⟩ := push_to σ s l [((2 * L[x] : Nat) : Int)] 1 (by simp only [List.length_cons, List.length_nil]; omega) hl (by simp)
    obtain ⟨h1, o1⟩ := g0.heap h ho
    obtain ⟨b1, n1⟩ := g0.other hb (hne hLne)
    obtain ⟨τ2, s2, eC, i2⟩ := contents_to k hk h1 hI hst
    obtain ⟨s3, σ3, eB, g3, i3⟩ := append_grows (σ1 ++ τ2) s1 _ (contL m L[x]) s2.1 s2.2.2 (by simp; omega) (i1.app τ2) (by intro e; rw [e] at hcl; simp at hcl) (firstA_ints i2)
    have g03 := (g0.trans (Grows.app σ1 s1 τ2)).trans g3
    obtain ⟨h3, o3⟩ := g03.heap h ho
    obtain ⟨b3, n3⟩ := g03.other hb (hne hLne)
    obtain ⟨σ4, s4, e4, g4, i4⟩ := state_l2_to k hk hI L hL hLl qa n (x + 1) f σ3 s3 _ h3 o3 (fun _ => b3) (fun _ => n3) i3 (by simp; omega) (by omega) (by omega)
    refine ⟨σ4, s4, ?_, g03.trans g4, ?_⟩
    · rw [d_law02_state_l2]
      rw [if_neg hLne] at e4 ⊢
      have w1 : w64 ((x : Int) + 1) = ((x + 1 : Nat) : Int) := w64_in (by unfold inI; omega)
      have eA' : appendD P 3 s (some ⟨σ.length, 0, none⟩, 1, 1) (σ ++ [.cells [.int .i64 ((2 * L[x] : Nat) : Int)] 3 true]) = some (s1, σ1) := eA
      have hs2 := i2.len
      have eB' : appendD P 3 (s1.1, s1.2.1, s1.2.2) (s2.1, s2.2.1, s2.2.2) (σ1 ++ τ2) = some (s3, σ3) := by rw [hs2]; exact eB
      simp only [q, cond_true]
      rw [if_pos (by omega)]
      simp only [Int.toNat_natCast, Option.bind_some, ldx hb, allocK, eA']
      rw [if_pos (by omega)]
      simp only [ldx b1, Option.bind_some, eC, toS, eB', w1]
      exact e4
    · rw [List.append_assoc, List.append_assoc] at i4
      rw [List.drop_eq_getElem_cons hxl, objL, List.flatMap_cons]
      exact i4

theorem state_to (k : Nat) (hk : 5000 ≤ k) (h : HeapAt σ i m) (hI : Inv m) : ∃ τ s, d_law02_state (k + 9) (hptr i) σ = some (.slice s.1 s.2.1 s.2.2, σ ++ τ) ∧ IntsAt σ.length (σ ++ τ) s (stateL m) := by
  have ht := h.nt
  have hw := h.wl
  have hB := Births_to (k + 6) h
  have hB' : d_heap_Heap_Births (k + 8) (hptr i) σ = _ := hB
  obtain ⟨τ1, e1⟩ := Used_to (k + 1) (by omega) h
  have e1' : d_heap_Heap_Used (k + 8) (hptr i) σ = _ := e1
  obtain ⟨σ1, hσ1⟩ : ∃ σ1, σ ++ τ1 = σ1 := ⟨_, rfl⟩
  rw [hσ1] at e1'
  have h1 : HeapAt σ1 i m := hσ1 ▸ h.app τ1
  have hl1 : σ.length ≤ σ1.length := by rw [← hσ1]; simp
  obtain ⟨l, hl⟩ : ∃ l, [m.births, (usedN m : Int)] = l := ⟨_, rfl⟩
  have hll : l.length = 2 := by rw [← hl]; rfl
  have hrow : inRow l = [.int .i64 m.births, .int .i64 (usedN m : Int)] := by rw [← hl]; rfl
  obtain ⟨σ2, hσ2⟩ : ∃ σ2, σ1 ++ [AObj.cells (inRow l) 3 true] = σ2 := ⟨_, rfl⟩
  have h2 : HeapAt σ2 i m := hσ2 ▸ h1.app _
  have i2 : IntsAt 0 σ2 (some ⟨σ1.length, 0, none⟩, 2, 2) l := .inr ⟨σ1.length, Nat.zero_le _, by rw [hll], by rw [← hl]; simp, by rw [← hσ2]; simp⟩
  have off2 : Off i (some ⟨σ1.length, 0, none⟩, 2, 2) := by
    intro a ha hm
    cases ha
    have := h1.lt _ hm
    simp at this
  obtain ⟨σ3, s3, e3, g3, i3⟩ := state_l0_to (k + 5) m.bls.length 0 (k + 8) σ2 _ l h2 off2 i2 (by omega) (by omega) (by omega) (by omega)
  obtain ⟨h3, off3⟩ := g3.heap h2 off2
  rw [List.drop_zero] at i3
  obtain ⟨σ4, s4, e4, g4, i4⟩ := state_l1_to (k + 5) m.wds.length 0 (k + 8) σ3 s3 _ h3 off3 i3 (by simp [blsL_length]; omega) (by omega) (by omega)
  obtain ⟨h4, off4⟩ := g4.heap h3 off3
  obtain ⟨τ5, sL, e5, iL⟩ := All_to (k + 2) (by omega) h4
  have e5' : d_heap_Heap_All (k + 8) (hptr i) σ4 = _ := e5
  have g5 : Grows σ2 _ (σ4 ++ τ5) s4 := (g3.trans g4).trans (Grows.app σ4 s4 τ5)
  obtain ⟨h5, off5⟩ := g5.heap h2 off2
  obtain ⟨L, hLd⟩ : ∃ L, starts m 0 (32 * m.bls.length) = L := ⟨_, rfl⟩
  have hL : ∀ j ∈ L, Start m j := fun j hj => mem_all.1 (hLd ▸ hj)
  have hLl : L.length ≤ 2048 := by rw [← hLd]; have := starts_len m 0 (32 * m.bls.length); omega
  rw [hLd] at iL
  have al : (addrs L).length = L.length := by simp [addrs]
  have hs4 : ∀ a, s4.1 = some a → a.block < σ4.length := by
    intro a ha
    rcases i4 with ⟨_, rfl⟩ | ⟨b, _, rfl, _, hc⟩
    · cases ha
    · cases ha; exact getElem?_lt hc
  have hqa : ∃ qa, sL = ((if L = [] then none else some ⟨qa, 0, none⟩), L.length, L.length) ∧ (L ≠ [] → (σ4 ++ τ5)[qa]? = some (.cells (inRow (addrs L)) 3 true)) ∧ (L ≠ [] → ∀ a, s4.1 = some a → a.block ≠ qa) := by
    rcases iL with ⟨he, rfl⟩ | ⟨b, hb1, rfl, hne, hc⟩
    · have : L = [] := by rw [he] at al; simp at al; exact List.length_eq_zero_iff.1 al.symm
      subst this
      exact ⟨0, rfl, fun h => absurd rfl h, fun h => absurd rfl h⟩
    · have hne' : L ≠ [] := fun e => hne (by rw [e]; rfl)
      refine ⟨b, by rw [if_neg hne', al], fun _ => hc, fun _ a ha e => ?_⟩
      have := hs4 a ha
      omega
  obtain ⟨qa, hsL, hqa1, hqa2⟩ := hqa
  obtain ⟨σ6, s6, e6, g6, i6⟩ := state_l2_to k hk hI L hL hLl qa L.length 0 (k + 8) (σ4 ++ τ5) s4 _ h5 off5 hqa1 hqa2 (i4.app τ5) (by simp [blsL_length, wfL_length]; omega) (by omega) (by omega)
  rw [List.drop_zero] at i6
  have g26 := g5.trans g6
  have hσ2' : σ2 = σ ++ (τ1 ++ [AObj.cells (inRow l) 3 true]) := by rw [← hσ2, ← hσ1]; simp
  rw [hσ2'] at g26
  obtain ⟨⟨τ', rfl⟩, hb⟩ := g26.behind (by intro a ha; cases ha; exact hl1)
  refine ⟨τ', s6, ?_, ?_⟩
  · rw [d_law02_state]
    have e3' : d_law02_state_l0 (k + 8) (k + 8) (hptr i) (some ⟨σ1.length, 0, none⟩, 2, 2) 0 σ2 = _ := e3
    have e4' : d_law02_state_l1 (k + 8) (k + 8) (hptr i) s3 0 σ3 = _ := e4
    have e6' : d_law02_state_l2 (k + 8) (k + 8) (hptr i) sL.1 sL.2.1 sL.2.2 s4 0 (σ4 ++ τ5) = some (.exit 4, [.slice s6.1 s6.2.1 s6.2.2], σ ++ τ') := by rw [hsL]; exact e6
    simp only [hB', Option.bind_some, toI_int, e1', allocK, ← hrow, hσ2, e3', if_true, u_l_eq, e4', e5', toS, e6']
  · refine (?_ : IntsAt 0 _ s6 (stateL m)).up hb
    unfold stateL
    rw [hLd, hl]
    exact i6

theorem ints_l0_to (k : Nat) (p q : Option Addr) (l l' : List Int) (hp : IntsAt 0 σ (p, l.length, l.length) l) (hq : IntsAt 0 σ (q, l'.length, l'.length) l') (hl : l.length = l'.length) (hb : l.length ≤ 1000000) : ∀ (n x f : Nat), x + n = l.length → n < f → (∀ y, y < x → l.getD y 0 = l'.getD y 0) →
    d_law02_ints_l0 k f p l.length l.length q l'.length l'.length (x : Int) σ = some (if l = l' then (.exit 0, [], σ) else (.ret, [.bool false], σ))
  | 0, x, 0, hx, hf, he => by omega
  | 0, x, f + 1, hx, hf, he => by
    rw [d_law02_ints_l0]
    have q : decide ((x : Int) < ((l.length : Nat) : Int)) = false := decide_eq_false (by omega)
    have : l = l' := by
      apply List.ext_getElem hl
      intro y h1 h2
      have := he y (by omega)
      simpa [List.getElem?_eq_getElem h1, List.getElem?_eq_getElem h2] using this
    simp only [q, cond_false]
    rw [if_pos this]
  | n + 1, x, 0, hx, hf, he => by omega
  | n + 1, x, f + 1, hx, hf, he => by
    rw [d_law02_ints_l0]
    have h1 : x < l.length := by omega
    have h2 : x < l'.length := by omega
    have c1 : decide ((x : Int) < ((l.length : Nat) : Int)) = true := decide_eq_true (by omega)
    have w1 : w64 ((x : Int) + 1) = ((x + 1 : Nat) : Int) := w64_in (by unfold inI; omega)
    rcases hp with ⟨e, _⟩ | ⟨b, hb1, e, hb2, hb3⟩
    · rw [e] at h1; simp at h1
    rcases hq with ⟨e', _⟩ | ⟨b', hb1', e', hb2', hb3'⟩
    · rw [e'] at h2; simp at h2
    cases e; cases e'
    have hp : IntsAt 0 σ (some ⟨b, 0, none⟩, l.length, l.length) l := .inr ⟨b, hb1, rfl, hb2, hb3⟩
    have hq : IntsAt 0 σ (some ⟨b', 0, none⟩, l'.length, l'.length) l' := .inr ⟨b', hb1', rfl, hb2', hb3'⟩
    simp only [c1, cond_true]
    rw [if_pos (by omega)]
    simp only [Option.bind_some, Int.toNat_natCast, Nat.mul_one, Nat.zero_add, hp.ld h1]
    rw [if_pos (by omega)]
    simp only [Option.bind_some, hq.ld h2, w1]
    by_cases hc : l.getD x 0 = l'.getD x 0
    · have : (l.getD x 0 != l'.getD x 0) = false := by simp only [hc, bne_self_eq_false]
      simp only [this, cond_false]
      exact ints_l0_to k _ _ l l' hp hq hl hb n (x + 1) f (by omega) (by omega) fun y hy => by
        by_cases e : y = x
        · rw [e]; exact hc
        · exact he y (by omega)
    · have : (l.getD x 0 != l'.getD x 0) = true := bne_iff_ne.2 hc
      simp only [this, cond_true]
      rw [if_neg (fun e => hc (by rw [e]))]

theorem IntsAt.form {lo : Nat} {s : SlV} {l : List Int} (h : IntsAt lo σ s l) : s = (s.1, l.length, l.length) := by
  rcases h with ⟨rfl, rfl⟩ | ⟨b, _, rfl, _⟩ <;> rfl

theorem ints_to (k : Nat) {lo lo' : Nat} {s s' : SlV} {l l' : List Int} (hp : IntsAt lo σ s l) (hq : IntsAt lo' σ s' l') (hb : l.length ≤ k) (hb' : l.length ≤ 1000000) : d_law02_ints (k + 2) s s' σ = some (.bool (decide (l = l')), σ) := by
  have f1 := hp.form
  have f2 := hq.form
  rw [f1] at hp
  rw [f2] at hq
  rw [f1, f2, d_law02_ints]
  by_cases hl : l.length = l'.length
  · have q : (((l.length : Nat) : Int) != ((l'.length : Nat) : Int)) = false := by rw [hl]; exact bne_self_eq_false _
    have e := ints_l0_to (k + 1) s.1 s'.1 l l' hp.lo0 hq.lo0 hl hb' l.length 0 (k + 1) (by omega) (by omega) (fun y hy => absurd hy (Nat.not_lt_zero _))
    rw [show ((0 : Nat) : Int) = 0 from rfl] at e
    simp only [q, cond_false, e]
    by_cases he : l = l'
    · simp only [he, if_true, Option.bind_some, decide_true]
    · simp only [he, if_false, Option.bind_some, decide_false, reduceCtorEq, if_true, u_t_eq]
  · have q : (((l.length : Nat) : Int) != ((l'.length : Nat) : Int)) = true := bne_iff_ne.2 (by omega)
    have : l ≠ l' := fun e => hl (by rw [e])
    simp only [q, cond_true, decide_eq_false this]

end Go.Proofs.Ytdlihdgoobcoaaa
