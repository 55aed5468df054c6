/-
  HeapClones: what the law's function comes to.
-/
import Derived.Test.YtdlihdgoobcoaaaCZ
set_option linter.unusedVariables false
set_option linter.unusedSimpArgs false
namespace Go.Proofs.Ytdlihdgoobcoaaa
open Go Go.AX
noncomputable local instance : Quiet := fullQuiet
variable {σ : AMem} {i : HIds} {m : HM}

theorem Clones_l0_to (k : Nat) (hk : 5000 ≤ k) (p : Option Addr) (c2 : Nat) (l : List ActV) (hl : l.length ≤ 60) (hok : ∀ x ∈ l, x.ok) (hi : l ≠ [] → ∀ a, p = some a → a.block ∉ i.l) : ∀ (n x f : Nat) (σ : AMem) (m : HM), HeapAt σ i m → Inv m → Inv2 m → ActsAt σ p l → x + n = l.length → m.births ≤ 60 + x → n < f →
    ∃ σ', d_law02_HeapClones_l0 (k + 13) f p l.length c2 (hptr i) (x : Int) σ = some (.exit 0, [], σ') ∧ Keeps i σ σ'
  | 0, x, 0, σ, m, h, hI, hI2, hA, hx, hb, hf => by omega
  | 0, x, f + 1, σ, m, h, hI, hI2, hA, hx, hb, hf => by
    rw [d_law02_HeapClones_l0]
    have q : decide ((x : Int) < ((l.length : Nat) : Int)) = false := decide_eq_false (by omega)
    exact ⟨σ, by simp only [q, cond_false], Keeps.refl _ _⟩
  | n + 1, x, 0, σ, m, h, hI, hI2, hA, hx, hb, hf => by omega
  | n + 1, x, f + 1, σ, m, h, hI, hI2, hA, hx, hb, hf => by
    have hxl : x < l.length := by omega
    obtain ⟨σ1, e1, h1, k1⟩ := do_goes k hk h hI (by omega) l[x] (hok _ (List.getElem_mem _))
    obtain ⟨I1, I2, b1, b2, bl, _⟩ := doR_keep hI hI2 h.sh l[x]
    obtain ⟨σ', e2, k2⟩ := Clones_l0_to k hk p c2 l hl hok hi n (x + 1) f σ1 _ h1 I1 I2 (hA.keep k1 hi) (by omega) (by omega) (by omega)
    refine ⟨σ', ?_, k1.trans k2⟩
    rcases hA with rfl | ⟨ab, T, rw', rfl, hcell⟩
    · simp at hxl
    rw [d_law02_HeapClones_l0]
    have q : decide ((x : Int) < ((l.length : Nat) : Int)) = true := decide_eq_true (by omega)
    have w1 : w64 ((x : Int) + 1) = ((x + 1 : Nat) : Int) := w64_in (by unfold inI; omega)
    have ld : ∀ q v, q < 7 → (l[x]).cells[q]? = some (.int .i64 v) → ldI .i64 σ ab (x * 7 + q) = some v := by
      intro q v hq hv
      simp only [ldI, ld1, hcell, actRow_get l x hxl q hq, hv, Option.bind_some, toI_int]
    simp only [q, cond_true]
    rw [if_pos (by omega)]
    have d0 := ld 0 l[x].k (by decide) rfl
    have d1 := ld 1 l[x].a (by decide) rfl
    have d2 := ld 2 l[x].b (by decide) rfl
    have d3 := ld 3 l[x].c (by decide) rfl
    have d4 := ld 4 l[x].r (by decide) rfl
    have d5 := ld 5 l[x].d (by decide) rfl
    have d6 := ld 6 l[x].s (by decide) rfl
    simp only [Option.bind_some, Nat.zero_add, Int.toNat_natCast, Nat.add_assoc, Nat.reduceAdd, Nat.add_zero] at d0 d1 d2 d3 d4 d5 d6 ⊢
    simp only [d0, d1, d2, d3, d4, d5, d6, Option.bind_some, e1, toI_int, w1]
    exact e2

theorem ActsAt.app {p : Option Addr} {l : List ActV} (h : ActsAt σ p l) (τ : AMem) : ActsAt (σ ++ τ) p l := by
  rcases h with h | ⟨ab, T, rw', rfl, h⟩
  · exact .inl h
  · exact .inr ⟨ab, T, rw', rfl, by rw [List.getElem?_append_left (getElem?_lt h)]; exact h⟩

theorem IntsAt.keep {lo : Nat} {σ' : AMem} {s : SlV} {l : List Int} (h : IntsAt lo σ s l) (hk : Keeps i σ σ') (hn : ∀ j ∈ i.l, j < lo) : IntsAt lo σ' s l := by
  rcases h with h | ⟨q, g1, g2, g3, g4⟩
  · exact .inl h
  · refine .inr ⟨q, g1, g2, g3, (hk.same q (getElem?_lt g4) fun hm => ?_).trans g4⟩
    have := hn _ hm
    omega

/-- The calls on one heap, and the state of the other. -/
theorem Clones_end (k : Nat) (hk : 1000000 ≤ k) {ia ib : HIds} (p' : Option Addr) (c2' : Nat) (l' : List ActV) (hok' : ∀ x ∈ l', x.ok) (hl' : l'.length ≤ 60) (hA : ActsAt σ p' l') (ha : HeapAt σ ia m) (hb : HeapAt σ ib m) (hI : Inv m) (hI2 : Inv2 m) (h60 : m.births ≤ 60)
    (hoff : l' ≠ [] → ∀ a, p' = some a → a.block ∉ ia.l) (hab : ∀ j ∈ ib.l, j ∉ ia.l) {lo : Nat} {s : SlV} (hs : IntsAt lo σ s (stateL m)) (hlo : ∀ j ∈ ia.l, j < lo) :
    ∃ σ', ((d_law02_HeapClones_l0 (k + 14) (k + 14) p' l'.length c2' (hptr ia) (0 : Int) σ).bind fun r32 => if r32.1 = .exit 0 then ((d_law02_state (k + 14) (hptr ib) r32.2.2).bind fun r33 => (toS r33.1).bind fun l34 => (d_law02_ints (k + 14) (l34.1, l34.2.1, l34.2.2) (s.1, s.2.1, s.2.2) r33.2).bind fun r35 => (toB r35.1).bind fun b36 => (bif b36 then (d_law02_alive (k + 14)  r35.2).bind fun r37 => (toB r37.1).bind fun b38 => some (b38, r37.2) else some (false, r35.2)).bind fun r39 => some (.bool r39.1, r39.2)) else none) = some (Value.bool true, σ') := by
  have ht := ha.nt
  have hw := ha.wl
  obtain ⟨σ1, e1, k1⟩ := Clones_l0_to (k + 1) (by omega) p' c2' l' hl' hok' hoff l'.length 0 (k + 14) σ m ha hI hI2 hA (by omega) (by omega) (by omega)
  have e1' : d_law02_HeapClones_l0 (k + 14) (k + 14) p' l'.length c2' (hptr ia) 0 σ = _ := e1
  have hb1 : HeapAt σ1 ib m := hb.like fun j hj => k1.same j (hb.lt j hj) (hab j hj)
  obtain ⟨τ2, s2, e2, i2⟩ := state_to (k + 5) (by omega) hb1 hI
  have e2' : d_law02_state (k + 14) (hptr ib) σ1 = _ := e2
  have hl := stateL_length hI ht hw
  have e3 := ints_to (k + 12) i2 ((hs.keep k1 hlo).app τ2) (by omega) (by omega)
  have e3' : d_law02_ints (k + 14) s2 s (σ1 ++ τ2) = _ := e3
  simp only [e1', Option.bind_some, if_true, e2', toS, e3', decide_true, toB_bool, cond_true, alive_to]
  exact ⟨_, rfl⟩

theorem HeapClones_to (k : Nat) (hk : 1000000 ≤ k) (b : Int) (p : Option Addr) (c2 : Nat) (l : List ActV) (hok : ∀ x ∈ l, x.ok) (p' : Option Addr) (c2' : Nat) (l' : List ActV) (hok' : ∀ x ∈ l', x.ok) (cl : Bool) (σ : AMem)
    (hA : ActsAt σ p l) (hp : l ≠ [] → ∀ a, p = some a → a.block < σ.length) (hA' : ActsAt σ p' l') (hp' : l' ≠ [] → ∀ a, p' = some a → a.block < σ.length) :
    ∃ σ', law02_HeapClones (k + 15) b (p, l.length, c2) (p', l'.length, c2') cl σ = some (.bool true, σ') := by
  rw [law02_HeapClones_is, d_law02_HeapClones]
  rcases Made_to k (by omega) b p c2 l hok hA hp with ⟨_, hM⟩ | ⟨σ1, i, m, _, hM, h1, hI, hI2, k1, hid, hb60, hb12, _⟩
  · simp only [hM, Option.bind_some, toP, eqA_ptrs ⟨0, 0, none⟩, cond_true, alive_to, toB_bool]
    exact ⟨_, rfl⟩
  have ht := h1.nt
  have hw := h1.wl
  have hG : ∀ μ : AMem, d_law02_Great (k + 14) (p', l'.length, c2') μ = some (.bool (decide (((l'.length : Nat) : Int) > 60)), μ) := fun μ => by
    rw [d_law02_Great]
  simp only [hM, Option.bind_some, toP, eqA_ptrs, cond_false, hG, toB_bool]
  by_cases g0 : ((l'.length : Nat) : Int) > 60
  · simp only [decide_eq_true g0, cond_true, alive_to, Option.bind_some, toB_bool]
    exact ⟨_, rfl⟩
  have hoff : l' ≠ [] → ∀ a, p' = some a → a.block ∉ i.l := fun hl a ha hm => by have := hp' hl a ha; have := hid _ hm; omega
  have hA1 := hA'.keep k1 hoff
  obtain ⟨τ2, i', e2, h2, hid2⟩ := Clone_to (k + 11) h1
  have e2' : d_heap_Heap_Clone (k + 14) (hptr i) σ1 = _ := e2
  obtain ⟨σ2, hσ2⟩ : ∃ σ2, σ1 ++ τ2 = σ2 := ⟨_, rfl⟩
  rw [hσ2] at e2' h2
  have h2i : HeapAt σ2 i m := hσ2 ▸ h1.app τ2
  have hA2 : ActsAt σ2 p' l' := hσ2 ▸ hA1.app τ2
  obtain ⟨τ3, s3, e3, i3⟩ := state_to (k + 5) (by omega) h2i hI
  have e3' : d_law02_state (k + 14) (hptr i) σ2 = _ := e3
  obtain ⟨σ3, hσ3⟩ : ∃ σ3, σ2 ++ τ3 = σ3 := ⟨_, rfl⟩
  rw [hσ3] at e3' i3
  have h3 : HeapAt σ3 i' m := hσ3 ▸ h2.app τ3
  have h3i : HeapAt σ3 i m := hσ3 ▸ h2i.app τ3
  have hA3 : ActsAt σ3 p' l' := hσ3 ▸ hA2.app τ3
  obtain ⟨τ4, s4, e4, i4⟩ := state_to (k + 5) (by omega) h3 hI
  have e4' : d_law02_state (k + 14) (hptr i') σ3 = _ := e4
  have hl := stateL_length hI ht hw
  have e5 := ints_to (k + 12) i4 (i3.app τ4) (by omega) (by omega)
  have e5' : d_law02_ints (k + 14) s4 s3 (σ3 ++ τ4) = _ := e5
  have hlo : ∀ j ∈ i.l, j < σ2.length := h2i.lt
  have hlo' : ∀ j ∈ i'.l, j < σ2.length := h2.lt
  have hl1 : ∀ j ∈ i.l, j < σ1.length := h1.lt
  have hoff' : l' ≠ [] → ∀ a, p' = some a → a.block ∉ i'.l := fun hl a ha hm => by
    have := hp' hl a ha
    have := hid2 _ hm
    have := k1.len
    omega
  simp only [decide_eq_false g0, cond_false, Option.bind_some, e2', toP, e3', toS, eqA_ptrs, e4', e5', decide_true, toB_bool, Bool.not_true]
  cases cl with
  | false =>
    simp only [cond_false, Option.bind_some, if_true, u_pp_eq]
    exact Clones_end k hk p' c2' l' hok' (by omega) (hA3.app τ4) (h3i.app τ4) (h3.app τ4) hI hI2 hb60 hoff (fun j hj hm => by have := hid2 j hj; have := hl1 j hm; omega) (i3.app τ4) hlo
  | true =>
    simp only [cond_true, Option.bind_some, if_true, u_pp_eq]
    exact Clones_end k hk p' c2' l' hok' (by omega) (hA3.app τ4) (h3.app τ4) (h3i.app τ4) hI hI2 hb60 hoff' (fun j hj hm => by have := hid2 j hm; have := hl1 j hj; omega) (i3.app τ4) hlo'

end Go.Proofs.Ytdlihdgoobcoaaa
