/-
  Looks at a heap: Blocks, State, Space, Shape, Ref, Data, Pinned, Forward; slices that grow.
-/
import Derived.Test.YtlaplcglpnlieaaCG
set_option linter.unusedVariables false
set_option linter.unusedSimpArgs false
namespace Go.Proofs.Ytlaplcglpnlieaa
open Go Go.AX
noncomputable local instance qCS : Quiet := fullQuiet
local instance nCS : Kn := ⟨true⟩
variable {σ : AMem} {i : HIds} {m : HM}

theorem Blocks_to (k : Nat) (h : HeapAt σ i m) : d_heap_Heap_Blocks (k + 2) (hptr i) σ = some (.int .i64 ((m.bls.length : Nat) : Int), σ) := by
  rw [d_heap_Heap_Blocks_eq, b_heap_Heap_Blocks, hmade_to _ h]
  simp only [Option.bind_some, toB_bool, Bool.not_true, cond_false, Nat.zero_add, Nat.add_zero, h.ld0]

theorem State_to (k : Nat) (h : HeapAt σ i m) {b : Nat} (hb : b < m.bls.length) : d_heap_Heap_State (k + 3) (hptr i) (b : Int) σ = some (.int .i64 (m.bls.getD b (0, 0)).1, σ) := by
  rw [d_heap_Heap_State_eq, b_heap_Heap_State]
  have q1 : decide ((b : Int) < 0) = false := decide_eq_false (by omega)
  have q2 : decide ((b : Int) ≥ ((m.bls.length : Nat) : Int)) = false := decide_eq_false (by omega)
  simp only [q1, cond_false, Blocks_to _ h, Option.bind_some, toI_int, q2, Nat.zero_add, Nat.add_zero, h.ld0]
  rw [if_pos (by omega)]
  simp only [Option.bind_some, Int.toNat_natCast, Nat.zero_add, (h.ldB hb).1]

theorem Space_to (k : Nat) (h : HeapAt σ i m) {b : Nat} (hb : b < m.bls.length) : d_heap_Heap_Space (k + 3) (hptr i) (b : Int) σ = some (.int .i64 (m.bls.getD b (0, 0)).2, σ) := by
  rw [d_heap_Heap_Space_eq, b_heap_Heap_Space]
  have q1 : decide ((b : Int) < 0) = false := decide_eq_false (by omega)
  have q2 : decide ((b : Int) ≥ ((m.bls.length : Nat) : Int)) = false := decide_eq_false (by omega)
  simp only [q1, cond_false, Blocks_to _ h, Option.bind_some, toI_int, q2, Nat.zero_add, Nat.add_zero, h.ld0]
  rw [if_pos (by omega)]
  simp only [Option.bind_some, Int.toNat_natCast, Nat.zero_add, (h.ldB hb).2]

def fwdM (m : HM) (a : Int) : Int := (getM m.fw a).getD 0
def pinM (m : HM) (a : Int) : Bool := hasM m a && decide (tget 1 m.pnw (a.toNat / 2) = 1)
def kindAt (m : HM) (j : Nat) : Int := (m.wds.getD (2 * j + 1) 0).tdiv 4096
theorem fieldM_ref (h : Inv m) {j x : Nat} (hs : Start m j) (hx : (x : Int) < refsAt m j) : fieldM m ((2 * j : Nat) : Int) (x : Int) false = (((2 * j + 2 + x : Nat) : Int), 0) := by
  unfold fieldM
  rw [hasM_of hs]
  simp only [if_true, show ((2 * j : Nat) : Int).toNat / 2 = j from by omega, Bool.false_eq_true, if_false]
  rw [if_pos (by omega)]
  congr 1
theorem fieldM_data (h : Inv m) {j x : Nat} (hs : Start m j) (hx : (x : Int) < dataAt m j) : fieldM m ((2 * j : Nat) : Int) (x : Int) true = (((2 * j + 2 + (refsAt m j).toNat + x : Nat) : Int), 0) := by
  have := h.size hs
  unfold fieldM
  rw [hasM_of hs]
  simp only [if_true, show ((2 * j : Nat) : Int).toNat / 2 = j from by omega]
  rw [if_pos (by omega)]
  congr 1
  omega

theorem size_sum (l : List Nat) : (l.map fun j => sz m j).sum ≤ 218 * l.length := by
  induction l with
  | nil => simp
  | cons j l ih =>
    have := szN_le (m.wds.getD (2 * j + 1) 0)
    simp only [List.map_cons, List.sum_cons, List.length_cons]
    unfold sz at ih ⊢; omega

def usedN (m : HM) : Nat := ((starts m 0 (32 * m.bls.length)).map fun j => sz m j).sum
theorem starts_len (m : HM) (lo n : Nat) : (starts m lo n).length ≤ n := by
  have : (starts m lo n).length ≤ (List.range' lo n).length := List.length_filter_le _ _
  simpa using this
/-- A slice that has grown, and what the memory keeps. -/
structure Grows (σ : AMem) (s : SlV) (σ' : AMem) (s' : SlV) : Prop where
  len : σ.length ≤ σ'.length
  same : ∀ q, q < σ.length → (∀ a, s.1 = some a → a.block ≠ q) → σ'[q]? = σ[q]?
  new : s' = s ∨ ∀ a, s'.1 = some a → σ.length ≤ a.block
theorem Grows.refl (σ : AMem) (s : SlV) : Grows σ s σ s := ⟨Nat.le_refl _, fun _ _ _ => rfl, .inl rfl⟩
theorem Grows.app (σ : AMem) (s : SlV) (τ : AMem) : Grows σ s (σ ++ τ) s := ⟨by simp, fun q hq _ => List.getElem?_append_left hq, .inl rfl⟩
theorem Grows.trans {a b c : AMem} {s t u : SlV} (h : Grows a s b t) (g : Grows b t c u) : Grows a s c u := by
  refine ⟨Nat.le_trans h.len g.len, fun q hq hn => ?_, ?_⟩
  · refine (g.same q (Nat.lt_of_lt_of_le hq h.len) fun x hx => ?_).trans (h.same q hq hn)
    rcases h.new with rfl | hw
    · exact hn x hx
    · have := hw x hx; omega
  · rcases g.new with rfl | hw
    · exact h.new
    · exact .inr fun x hx => Nat.le_trans h.len (hw x hx)
/-- A slice apart from a heap. -/
def Off (i : HIds) (s : SlV) : Prop := ∀ a, s.1 = some a → a.block ∉ i.l
theorem Grows.heap {σ' : AMem} {s s' : SlV} (g : Grows σ s σ' s') (h : HeapAt σ i m) (ho : Off i s) : HeapAt σ' i m ∧ Off i s' := by
  refine ⟨h.like fun j hj => g.same j (h.lt j hj) fun a ha e => ho a ha (e ▸ hj), ?_⟩
  rcases g.new with rfl | hw
  · exact ho
  · intro a ha hm
    have := hw a ha
    have := h.lt _ hm
    omega
theorem Grows.other {σ' : AMem} {s s' : SlV} (g : Grows σ s σ' s') {q : Nat} {o : AObj} (h : σ[q]? = some o) (hs : ∀ a, s.1 = some a → a.block ≠ q) : σ'[q]? = some o ∧ ∀ a, s'.1 = some a → a.block ≠ q := by
  have hq := getElem?_lt h
  refine ⟨(g.same q hq hs).trans h, ?_⟩
  rcases g.new with rfl | hw
  · exact hs
  · intro a ha e
    have := hw a ha
    omega
theorem IntsAt.lo0 {lo : Nat} {s : SlV} {l : List Int} (h : IntsAt lo σ s l) : IntsAt 0 σ s l := by
  rcases h with h | ⟨b, _, h⟩
  · exact .inl h
  · exact .inr ⟨b, Nat.zero_le _, h⟩

theorem append_grows (σ : AMem) (s : SlV) (l l' : List Int) (src : Option Addr) (c : Nat) (hl : l.length + l'.length ≤ 1000000) (hs : IntsAt 0 σ s l) (hne : l' ≠ []) (hx : firstA σ 1 src l'.length = some (inRow l')) :
    ∃ s' σ', appendD P ty_int s (src, l'.length, c) σ = some (s', σ') ∧ Grows σ s σ' s' ∧ IntsAt 0 σ' s' (l ++ l') := by
  have hp : 0 < l'.length := List.length_pos_iff.2 hne
  unfold appendD appendA
  simp only [sz3, by3, zz3, Option.bind_some, hx]
  have hz : (¬ (isTup (.int .i64 0) = false ∧ some 1 = some (Value.cells (.int .i64 0)).size ∧ 0 < (Value.cells (.int .i64 0)).size)) = False := by simp [isTup, Value.cells]
  simp only [hz, if_false]
  rcases hs with ⟨rfl, rfl⟩ | ⟨b, hb, rfl, hne', hcell⟩
  · have r : roomOk (0 + l'.length) 8 ∧ 0 < 8 := by
      unfold roomOk
      refine ⟨⟨?_, ?_⟩, by decide⟩ <;> simp at hl <;> omega
    simp only [show ¬ (0 + l'.length ≤ 0) from by omega, if_false, r, and_self, if_true, fixedB, cond_true, slK]
    refine ⟨_, _, rfl, ⟨by simp, fun q hq _ => List.getElem?_append_left hq, .inr fun a ha => by cases ha; exact Nat.le_refl _⟩, .inr ⟨σ.length, Nat.zero_le _, by simp, by simpa using hne, by simp⟩⟩
  · have r : roomOk (l.length + l'.length) 8 ∧ 0 < 8 := by
      unfold roomOk
      refine ⟨⟨?_, ?_⟩, by decide⟩ <;> omega
    have hb2 := getElem?_lt hcell
    have e1 : elemAt σ b = some ty_int := by simp [elemAt, hcell]
    have e2 : ldN σ b 0 (l.length * 1) = some (inRow l) := by
      simp only [ldN, hcell, inRow_length, Nat.mul_one, Nat.zero_add, Nat.le_refl, if_true, List.drop_zero]
      rw [List.take_of_length_le (by rw [inRow_length]; exact Nat.le_refl _)]
    have e3 : writableB σ b = true := by simp [writableB, hcell]
    simp only [show ¬ (l.length + l'.length ≤ l.length) from by omega, if_false, r, and_self, if_true, fixedB, Option.isSome_none, cond_false, Option.bind_some, e1, e2, e3, cond_true, slK]
    refine ⟨_, _, rfl, ⟨by simp, fun q hq hn => ?_, .inr fun a ha => ?_⟩, .inr ⟨σ.length, Nat.zero_le _, by simp, by simp [hne], ?_⟩⟩
    · rw [List.getElem?_append_left (by simpa using hq), List.getElem?_set_ne (hn _ rfl)]
    · cases ha; exact Nat.le_refl _
    · rw [inRow_append]
      simp

/-! CU -/

def segL (m : HM) (a n : Nat) : List Int := (List.range' a n).map fun x => m.wds.getD x 0
theorem segL_cons (m : HM) (a n : Nat) : segL m a (n + 1) = m.wds.getD a 0 :: segL m (a + 1) n := by simp [segL, List.range'_succ]
theorem segL_length (m : HM) (a n : Nat) : (segL m a n).length = n := by simp [segL]

/-- A new slice of some ints is appended to a slice. -/
theorem push_to (σ : AMem) (s : SlV) (l l' : List Int) (c : Nat) (hl : l.length + l'.length ≤ 1000000) (hs : IntsAt 0 σ s l) (hne : l' ≠ []) :
    ∃ s' σ', appendD P ty_int s (some ⟨σ.length, 0, none⟩, l'.length, c) (σ ++ [.cells (inRow l') ty_int true]) = some (s', σ') ∧ Grows σ s σ' s' ∧ IntsAt 0 σ' s' (l ++ l') := by
  obtain ⟨s', σ', e, g, h⟩ := append_grows (σ ++ [.cells (inRow l') ty_int true]) s l l' (some ⟨σ.length, 0, none⟩) c hl (hs.app _) hne (by
    simp only [firstA, ldN, List.getElem?_concat_length, inRow_length, Nat.mul_one, Nat.zero_add, Nat.le_refl, if_true, List.drop_zero]
    rw [List.take_of_length_le (by rw [inRow_length]; exact Nat.le_refl _)])
  exact ⟨s', σ', e, (Grows.app _ _ _).trans g, h⟩

theorem IntsAt.up {lo : Nat} {s : SlV} {l : List Int} (h : IntsAt 0 σ s l) (hn : ∀ a, s.1 = some a → lo ≤ a.block) : IntsAt lo σ s l := by
  rcases h with h | ⟨b, _, rfl, h⟩
  · exact .inl h
  · exact .inr ⟨b, hn _ rfl, rfl, h⟩

/-- From a slice that began behind a memory: the memory is still there. -/
theorem Grows.behind {σ σ' : AMem} {τ : AMem} {s s' : SlV} (g : Grows (σ ++ τ) s σ' s') (hs : ∀ a, s.1 = some a → σ.length ≤ a.block) : (∃ τ', σ' = σ ++ τ') ∧ ∀ a, s'.1 = some a → σ.length ≤ a.block := by
  refine ⟨⟨σ'.drop σ.length, ?_⟩, ?_⟩
  · have hlen := g.len
    simp at hlen
    apply List.ext_getElem?
    intro q
    by_cases hq : q < σ.length
    · rw [List.getElem?_append_left hq, g.same q (by simp; omega) (fun a ha e => by have := hs a ha; omega), List.getElem?_append_left hq]
    · rw [List.getElem?_append_right (by omega), List.getElem?_drop]
      congr 1; omega
  · rcases g.new with rfl | hw
    · exact hs
    · intro a ha
      have := hw a ha
      simp at this; omega


end Go.Proofs.Ytlaplcglpnlieaa
