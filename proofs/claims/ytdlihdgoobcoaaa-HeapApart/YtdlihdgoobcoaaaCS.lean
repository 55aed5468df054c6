/-
  Looks at a heap: Blocks, State, Space, Shape, Ref, Data, Pinned, Forward; slices that grow.
-/
import Derived.Test.YtdlihdgoobcoaaaCG
set_option linter.unusedVariables false
set_option linter.unusedSimpArgs false
namespace Go.Proofs.Ytdlihdgoobcoaaa
open Go Go.AX
noncomputable local instance : Quiet := fullQuiet
variable {σ : AMem} {i : HIds} {m : HM}

theorem Blocks_to (k : Nat) (h : HeapAt σ i m) : d_heap_Heap_Blocks (k + 2) (hptr i) σ = some (.int .i64 ((m.bls.length : Nat) : Int), σ) := by
  rw [d_heap_Heap_Blocks, hmade_to _ h]
  simp only [Option.bind_some, toB_bool, Bool.not_true, cond_false, Nat.zero_add, Nat.add_zero, h.ld0]

theorem State_to (k : Nat) (h : HeapAt σ i m) {b : Nat} (hb : b < m.bls.length) : d_heap_Heap_State (k + 3) (hptr i) (b : Int) σ = some (.int .i64 (m.bls.getD b (0, 0)).1, σ) := by
  rw [d_heap_Heap_State]
  have q1 : decide ((b : Int) < 0) = false := decide_eq_false (by omega)
  have q2 : decide ((b : Int) ≥ ((m.bls.length : Nat) : Int)) = false := decide_eq_false (by omega)
  simp only [q1, cond_false, Blocks_to _ h, Option.bind_some, toI_int, q2, Nat.zero_add, Nat.add_zero, h.ld0]
  rw [if_pos (by omega)]
  simp only [Option.bind_some, Int.toNat_natCast, Nat.zero_add, (h.ldB hb).1]

theorem Space_to (k : Nat) (h : HeapAt σ i m) {b : Nat} (hb : b < m.bls.length) : d_heap_Heap_Space (k + 3) (hptr i) (b : Int) σ = some (.int .i64 (m.bls.getD b (0, 0)).2, σ) := by
  rw [d_heap_Heap_Space]
  have q1 : decide ((b : Int) < 0) = false := decide_eq_false (by omega)
  have q2 : decide ((b : Int) ≥ ((m.bls.length : Nat) : Int)) = false := decide_eq_false (by omega)
  simp only [q1, cond_false, Blocks_to _ h, Option.bind_some, toI_int, q2, Nat.zero_add, Nat.add_zero, h.ld0]
  rw [if_pos (by omega)]
  simp only [Option.bind_some, Int.toNat_natCast, Nat.zero_add, (h.ldB hb).2]

def fwdM (m : HM) (a : Int) : Int := (getM m.fw a).getD 0
theorem Forward_to (k : Nat) (h : HeapAt σ i m) (a : Int) : d_heap_Heap_Forward (k + 2) (hptr i) a σ = some (.tuple #[.int .i64 (fwdM m a), .int .i64 (if (getM m.fw a).isSome then 0 else 4)], σ) := by
  rw [d_heap_Heap_Forward]
  simp only [hmade_to _ h, Option.bind_some, toB_bool, Bool.not_true, cond_false, Nat.zero_add, h.ld5, ldMO, ldMap, h.fw, mapGet_mp]
  unfold fwdM
  cases getM m.fw a with
  | none => rfl
  | some t => rfl

def pinM (m : HM) (a : Int) : Bool := hasM m a && decide (tget 1 m.pnw (a.toNat / 2) = 1)
theorem Pinned_to (k : Nat) (h : HeapAt σ i m) (a : Int) (ha : inI a) : d_heap_Heap_Pinned (k + 5) (hptr i) a σ = some (.bool (pinM m a), σ) := by
  have ht := h.nt
  rw [d_heap_Heap_Pinned, Has_to _ h a ha]
  simp only [Option.bind_some, toB_bool]
  unfold pinM
  cases hh : hasM m a with
  | false => simp only [cond_false, Option.bind_some, Bool.false_and]
  | true =>
    obtain ⟨j, rfl, hs⟩ := hasM_spec hh
    have hj := hs.1
    have t1 : ((2 * j : Nat) : Int).tdiv 2 = (j : Int) := by
      rw [show ((2 * j : Nat) : Int).tdiv 2 = (((2 * j) / 2 : Nat) : Int) from rfl]; omega
    have e1 : w64 (j : Int) = (j : Int) := w64_in (by unfold inI; omega)
    have hG : d_side_Table_Get (k + 4) (some ⟨i.pn, 0, none⟩) (j : Int) σ = some (.int .i64 (tget 1 m.pnw j : Int), σ) := by
      have := Get_to (k + 1) h.pn (j : Int)
      rw [if_pos (by omega), Int.toNat_natCast] at this
      exact this
    have hb : (((tget 1 m.pnw j : Nat) : Int) == 1) = decide (tget 1 m.pnw j = 1) := by
      by_cases hq : tget 1 m.pnw j = 1
      · simp [hq]
      · have : ¬ ((tget 1 m.pnw j : Nat) : Int) = 1 := by omega
        simp [hq, this]
    simp only [cond_true, Nat.zero_add, h.ld3, Option.bind_some, show ((2 : Int) = 0) = False from by simp, if_false, t1, e1, hG, toI_int, Bool.true_and, show ((2 * j : Nat) : Int).toNat / 2 = j from by omega, hb]

def kindAt (m : HM) (j : Nat) : Int := (m.wds.getD (2 * j + 1) 0).tdiv 4096
theorem Shape_to (k : Nat) (h : HeapAt σ i m) {j : Nat} (hs : Start m j) : ∃ τ, d_heap_Heap_Shape (k + 6) (hptr i) ((2 * j : Nat) : Int) σ = some (.tuple #[.agg #[.int .i64 (refsAt m j), .int .i64 (dataAt m j), .int .i64 (kindAt m j)], .int .i64 0], σ ++ τ) := by
  have hw := h.wl
  have ht := h.nt
  have hj := hs.1
  rw [d_heap_Heap_Shape]
  simp only [allocK]
  have h1 := h.app [AObj.cells [Value.int .i64 0, .int .i64 0, .int .i64 0] 23 true]
  obtain ⟨τ, hsh⟩ := shape_to (k + 4) (m.wds.getD (2 * j + 1) 0) (h.wi _) (σ ++ [AObj.cells [Value.int .i64 0, .int .i64 0, .int .i64 0] 23 true])
  have e1 : w64 (((2 * j : Nat) : Int) + 1) = ((2 * j + 1 : Nat) : Int) := w64_in (by unfold inI; omega)
  simp only [object_to _ h1 _ (show inI ((2 * j : Nat) : Int) by unfold inI; omega), hasM_of hs, if_true, Option.bind_some, toI_int, bne_self_eq_false, cond_false, Nat.zero_add, h1.ld1', e1, Int.toNat_natCast, Nat.mul_one]
  rw [if_pos (by omega)]
  simp only [h1.ldW (show 2 * j + 1 < m.wds.length by omega), Option.bind_some, hsh, a_iii_eq]
  rw [show ((m.wds.getD (2 * j + 1) 0).tmod 4096).tdiv 16 = dataAt m j from rfl, show (m.wds.getD (2 * j + 1) 0).tmod 16 = refsAt m j from rfl, show (m.wds.getD (2 * j + 1) 0).tdiv 4096 = kindAt m j from rfl]
  refine ⟨[AObj.cells [.int .i64 (refsAt m j), .int .i64 (dataAt m j), .int .i64 (kindAt m j)] 23 true] ++ τ, ?_⟩
  have e2 : ∀ x y z u v w : Value, stN (σ ++ [AObj.cells [x, y, z] 23 true] ++ τ) σ.length 0 [u, v, w] = some (σ ++ [AObj.cells [u, v, w] 23 true] ++ τ) := by
    intro x y z u v w; simp [stN, setRange]
  have e3 : ∀ u v w : Value, ldN (σ ++ [AObj.cells [u, v, w] 23 true] ++ τ) σ.length 0 3 = some [u, v, w] := by
    intro u v w; simp [ldN]
  rw [← List.append_assoc]
  simp only [e2, Option.bind_some, e3, resOf]

theorem fieldM_ref (h : Inv m) {j x : Nat} (hs : Start m j) (hx : (x : Int) < refsAt m j) : fieldM m ((2 * j : Nat) : Int) (x : Int) false = (((2 * j + 2 + x : Nat) : Int), 0) := by
  unfold fieldM
  rw [hasM_of hs]
  simp only [if_true, show ((2 * j : Nat) : Int).toNat / 2 = j from by omega, Bool.false_eq_true, if_false]
  rw [if_pos (by omega)]
  congr 1
theorem fieldM_data (h : Inv m) {j x : Nat} (hs : Start m j) (hx : (x : Int) < dataAt m j) : fieldM m ((2 * j : Nat) : Int) (x : Int) true = (((2 * j + 2 + (refsAt m j).toNat + x : Nat) : Int), 0) := by
  have := h.size hs
  unfold fieldM
  rw [hasM_of hs]
  simp only [if_true, show ((2 * j : Nat) : Int).toNat / 2 = j from by omega]
  rw [if_pos (by omega)]
  congr 1
  omega

theorem Ref_to (k : Nat) (h : HeapAt σ i m) (hI : Inv m) {j x : Nat} (hs : Start m j) (hx : (x : Int) < refsAt m j) : ∃ τ, d_heap_Heap_Ref (k + 7) (hptr i) ((2 * j : Nat) : Int) (x : Int) σ = some (.tuple #[.int .i64 (m.wds.getD (2 * j + 2 + x) 0), .int .i64 0], σ ++ τ) := by
  have hw := h.wl
  have ht := h.nt
  have hj := hs.1
  have hf := hI.fit j hs
  have hz := hI.size hs
  obtain ⟨τ, e⟩ := field_to k h hI ((2 * j : Nat) : Int) (x : Int) (by unfold inI; omega) false
  rw [fieldM_ref hI hs hx] at e
  refine ⟨τ, ?_⟩
  rw [d_heap_Heap_Ref]
  simp only [e, Option.bind_some, r_ii_eq, bne_self_eq_false, cond_false, Nat.zero_add, (h.app τ).ld1']
  rw [if_pos (by omega)]
  simp only [Int.toNat_natCast, Nat.mul_one, Option.bind_some, Nat.zero_add, (h.app τ).ldW (show 2 * j + 2 + x < m.wds.length by omega)]
theorem Data_to (k : Nat) (h : HeapAt σ i m) (hI : Inv m) {j x : Nat} (hs : Start m j) (hx : (x : Int) < dataAt m j) : ∃ τ, d_heap_Heap_Data (k + 7) (hptr i) ((2 * j : Nat) : Int) (x : Int) σ = some (.tuple #[.int .i64 (m.wds.getD (2 * j + 2 + (refsAt m j).toNat + x) 0), .int .i64 0], σ ++ τ) := by
  have hw := h.wl
  have ht := h.nt
  have hj := hs.1
  have hf := hI.fit j hs
  have hz := hI.size hs
  obtain ⟨τ, e⟩ := field_to k h hI ((2 * j : Nat) : Int) (x : Int) (by unfold inI; omega) true
  rw [fieldM_data hI hs hx] at e
  refine ⟨τ, ?_⟩
  rw [d_heap_Heap_Data]
  simp only [e, Option.bind_some, r_ii_eq, bne_self_eq_false, cond_false, Nat.zero_add, (h.app τ).ld1']
  rw [if_pos (by omega)]
  simp only [Int.toNat_natCast, Nat.mul_one, Option.bind_some, Nat.zero_add, (h.app τ).ldW (show 2 * j + 2 + (refsAt m j).toNat + x < m.wds.length by omega)]

theorem size_sum (l : List Nat) : (l.map fun j => sz m j).sum ≤ 218 * l.length := by
  induction l with
  | nil => simp
  | cons j l ih =>
    have := szN_le (m.wds.getD (2 * j + 1) 0)
    simp only [List.map_cons, List.sum_cons, List.length_cons]
    unfold sz at ih ⊢; omega

theorem Used_l0_to (k lo : Nat) (L : List Nat) (hL : ∀ j ∈ L, Start m j) (hl : L.length ≤ 5000) (s : SlV) : ∀ (n x f acc : Nat) (σ : AMem), HeapAt σ i m → IntsAt lo σ s (addrs L) → x + n = L.length → acc ≤ 218 * x → n < f →
    ∃ τ, d_heap_Heap_Used_l0 (k + 3) f (hptr i) s.1 s.2.1 s.2.2 (L.length : Int) (acc : Int) (x : Int) σ = some (.exit 0, [.int .i64 (((acc + ((L.drop x).map fun j => sz m j).sum : Nat)) : Int)], σ ++ τ)
  | 0, x, 0, acc, σ, h, hs, hx, ha, hf => by omega
  | 0, x, f + 1, acc, σ, h, hs, hx, ha, hf => by
    rw [d_heap_Heap_Used_l0]
    have q : decide ((x : Int) < (L.length : Int)) = false := decide_eq_false (by omega)
    refine ⟨[], ?_⟩
    rw [List.drop_eq_nil_of_le (by omega)]
    simp only [q, cond_false, List.append_nil, List.map_nil, List.sum_nil, Nat.add_zero]
  | n + 1, x, 0, acc, σ, h, hs, hx, ha, hf => by omega
  | n + 1, x, f + 1, acc, σ, h, hs, hx, ha, hf => by
    have hxl : x < L.length := by omega
    have hst := hL _ (List.getElem_mem hxl)
    have hlen := hs.len
    have al : (addrs L).length = L.length := by simp [addrs]
    have hz := szN_le (m.wds.getD (2 * L[x] + 1) 0)
    obtain ⟨τ, e⟩ := size_to k h hst.1
    obtain ⟨τ', e'⟩ := Used_l0_to k lo L hL hl s n (x + 1) f (acc + sz m L[x]) (σ ++ τ) (h.app τ) (hs.app τ) (by omega) (by unfold sz; omega) (by omega)
    refine ⟨τ ++ τ', ?_⟩
    rw [List.drop_eq_getElem_cons hxl, List.map_cons, List.sum_cons, ← Nat.add_assoc, ← List.append_assoc, ← e']
    rcases hs with ⟨he, _⟩ | ⟨b, hb1, rfl, hb2, hb3⟩
    · rw [he] at al; simp at al; omega
    rw [d_heap_Heap_Used_l0]
    have q : decide ((x : Int) < (L.length : Int)) = true := decide_eq_true (by omega)
    have w1 : w64 ((x : Int) + 1) = ((x + 1 : Nat) : Int) := w64_in (by unfold inI; omega)
    have w2 : w64 ((acc : Int) + (sz m L[x] : Int)) = ((acc + sz m L[x] : Nat) : Int) := w64_in (by unfold inI sz; omega)
    have ldx : ldI .i64 σ b x = some ((2 * L[x] : Nat) : Int) := by
      have hh : IntsAt lo σ (some ⟨b, 0, none⟩, (addrs L).length, (addrs L).length) (addrs L) := .inr ⟨b, hb1, rfl, hb2, hb3⟩
      rw [hh.ld (by omega), addrs_getD L hxl]
    simp only [q, cond_true]
    rw [if_pos (by omega)]
    simp only [Option.bind_some, Nat.zero_add, Int.toNat_natCast, Nat.mul_one, ldx, e, toI_int, w1, w2]

def usedN (m : HM) : Nat := ((starts m 0 (32 * m.bls.length)).map fun j => sz m j).sum
theorem starts_len (m : HM) (lo n : Nat) : (starts m lo n).length ≤ n := by
  have : (starts m lo n).length ≤ (List.range' lo n).length := List.length_filter_le _ _
  simpa using this
theorem Used_to (k : Nat) (hk : 5000 ≤ k) (h : HeapAt σ i m) : ∃ τ, d_heap_Heap_Used (k + 7) (hptr i) σ = some (.int .i64 (usedN m : Int), σ ++ τ) := by
  have ht := h.nt
  obtain ⟨τ, s, e, hs⟩ := All_to k hk h
  have hl := starts_len m 0 (32 * m.bls.length)
  obtain ⟨τ', e'⟩ := Used_l0_to (k + 3) σ.length (starts m 0 (32 * m.bls.length)) (fun j hj => mem_all.1 hj) (by omega) s (starts m 0 (32 * m.bls.length)).length 0 (k + 6) 0 (σ ++ τ) (h.app τ) hs (by omega) (by omega) (by omega)
  have hlen := hs.len
  have al : (addrs (starts m 0 (32 * m.bls.length))).length = (starts m 0 (32 * m.bls.length)).length := by simp [addrs]
  rw [al] at hlen
  refine ⟨τ ++ τ', ?_⟩
  rw [d_heap_Heap_Used]
  have e0 : d_heap_Heap_Used_l0 (k + 6) (k + 6) (hptr i) s.1 s.2.1 s.2.2 ((starts m 0 (32 * m.bls.length)).length : Int) 0 0 (σ ++ τ) = _ := e'
  simp only [e, Option.bind_some, toS, hlen] at e0 ⊢
  rw [← hlen] at e0 ⊢
  rw [e0]
  simp only [Option.bind_some, if_true, u_i_eq, List.drop_zero, Nat.zero_add, List.append_assoc]
  rfl

/-- A slice that has grown, and what the memory keeps. -/
structure Grows (σ : AMem) (s : SlV) (σ' : AMem) (s' : SlV) : Prop where
  len : σ.length ≤ σ'.length
  same : ∀ q, q < σ.length → (∀ a, s.1 = some a → a.block ≠ q) → σ'[q]? = σ[q]?
  new : s' = s ∨ ∀ a, s'.1 = some a → σ.length ≤ a.block
theorem Grows.refl (σ : AMem) (s : SlV) : Grows σ s σ s := ⟨Nat.le_refl _, fun _ _ _ => rfl, .inl rfl⟩
theorem Grows.app (σ : AMem) (s : SlV) (τ : AMem) : Grows σ s (σ ++ τ) s := ⟨by simp, fun q hq _ => List.getElem?_append_left hq, .inl rfl⟩
theorem Grows.trans {a b c : AMem} {s t u : SlV} (h : Grows a s b t) (g : Grows b t c u) : Grows a s c u := by
  refine ⟨Nat.le_trans h.len g.len, fun q hq hn => ?_, ?_⟩
  · refine (g.same q (Nat.lt_of_lt_of_le hq h.len) fun x hx => ?_).trans (h.same q hq hn)
    rcases h.new with rfl | hw
    · exact hn x hx
    · have := hw x hx; omega
  · rcases g.new with rfl | hw
    · exact h.new
    · exact .inr fun x hx => Nat.le_trans h.len (hw x hx)
/-- A slice apart from a heap. -/
def Off (i : HIds) (s : SlV) : Prop := ∀ a, s.1 = some a → a.block ∉ i.l
theorem Grows.heap {σ' : AMem} {s s' : SlV} (g : Grows σ s σ' s') (h : HeapAt σ i m) (ho : Off i s) : HeapAt σ' i m ∧ Off i s' := by
  refine ⟨h.like fun j hj => g.same j (h.lt j hj) fun a ha e => ho a ha (e ▸ hj), ?_⟩
  rcases g.new with rfl | hw
  · exact ho
  · intro a ha hm
    have := hw a ha
    have := h.lt _ hm
    omega
theorem Grows.other {σ' : AMem} {s s' : SlV} (g : Grows σ s σ' s') {q : Nat} {o : AObj} (h : σ[q]? = some o) (hs : ∀ a, s.1 = some a → a.block ≠ q) : σ'[q]? = some o ∧ ∀ a, s'.1 = some a → a.block ≠ q := by
  have hq := getElem?_lt h
  refine ⟨(g.same q hq hs).trans h, ?_⟩
  rcases g.new with rfl | hw
  · exact hs
  · intro a ha e
    have := hw a ha
    omega
theorem IntsAt.lo0 {lo : Nat} {s : SlV} {l : List Int} (h : IntsAt lo σ s l) : IntsAt 0 σ s l := by
  rcases h with h | ⟨b, _, h⟩
  · exact .inl h
  · exact .inr ⟨b, Nat.zero_le _, h⟩

theorem append_grows (σ : AMem) (s : SlV) (l l' : List Int) (src : Option Addr) (c : Nat) (hl : l.length + l'.length ≤ 1000000) (hs : IntsAt 0 σ s l) (hne : l' ≠ []) (hx : firstA σ 1 src l'.length = some (inRow l')) :
    ∃ s' σ', appendD P 3 s (src, l'.length, c) σ = some (s', σ') ∧ Grows σ s σ' s' ∧ IntsAt 0 σ' s' (l ++ l') := by
  have hp : 0 < l'.length := List.length_pos_iff.2 hne
  unfold appendD appendA
  simp only [sz3, by3, zz3, Option.bind_some, hx]
  have hz : (¬ (isTup (.int .i64 0) = false ∧ some 1 = some (Value.cells (.int .i64 0)).size ∧ 0 < (Value.cells (.int .i64 0)).size)) = False := by simp [isTup, Value.cells]
  simp only [hz, if_false]
  rcases hs with ⟨rfl, rfl⟩ | ⟨b, hb, rfl, hne', hcell⟩
  · have r : roomOk (0 + l'.length) 8 ∧ 0 < 8 := by
      unfold roomOk
      refine ⟨⟨?_, ?_⟩, by decide⟩ <;> simp at hl <;> omega
    simp only [show ¬ (0 + l'.length ≤ 0) from by omega, if_false, r, and_self, if_true, fixedB, cond_true, slK]
    refine ⟨_, _, rfl, ⟨by simp, fun q hq _ => List.getElem?_append_left hq, .inr fun a ha => by cases ha; exact Nat.le_refl _⟩, .inr ⟨σ.length, Nat.zero_le _, by simp, by simpa using hne, by simp⟩⟩
  · have r : roomOk (l.length + l'.length) 8 ∧ 0 < 8 := by
      unfold roomOk
      refine ⟨⟨?_, ?_⟩, by decide⟩ <;> omega
    have hb2 := getElem?_lt hcell
    have e1 : elemAt σ b = some 3 := by simp [elemAt, hcell]
    have e2 : ldN σ b 0 (l.length * 1) = some (inRow l) := by
      simp only [ldN, hcell, inRow_length, Nat.mul_one, Nat.zero_add, Nat.le_refl, if_true, List.drop_zero]
      rw [List.take_of_length_le (by rw [inRow_length]; exact Nat.le_refl _)]
    have e3 : writableB σ b = true := by simp [writableB, hcell]
    simp only [show ¬ (l.length + l'.length ≤ l.length) from by omega, if_false, r, and_self, if_true, fixedB, Option.isSome_none, cond_false, Option.bind_some, e1, e2, e3, cond_true, slK]
    refine ⟨_, _, rfl, ⟨by simp, fun q hq hn => ?_, .inr fun a ha => ?_⟩, .inr ⟨σ.length, Nat.zero_le _, by simp, by simp [hne], ?_⟩⟩
    · rw [List.getElem?_append_left (by simpa using hq), List.getElem?_set_ne (hn _ rfl)]
    · cases ha; exact Nat.le_refl _
    · rw [inRow_append]
      simp

/-! CU -/

def segL (m : HM) (a n : Nat) : List Int := (List.range' a n).map fun x => m.wds.getD x 0
theorem segL_cons (m : HM) (a n : Nat) : segL m a (n + 1) = m.wds.getD a 0 :: segL m (a + 1) n := by simp [segL, List.range'_succ]
theorem segL_length (m : HM) (a n : Nat) : (segL m a n).length = n := by simp [segL]

/-- A new slice of some ints is appended to a slice. -/
theorem push_to (σ : AMem) (s : SlV) (l l' : List Int) (c : Nat) (hl : l.length + l'.length ≤ 1000000) (hs : IntsAt 0 σ s l) (hne : l' ≠ []) :
    ∃ s' σ', appendD P 3 s (some ⟨σ.length, 0, none⟩, l'.length, c) (σ ++ [.cells (inRow l') 3 true]) = some (s', σ') ∧ Grows σ s σ' s' ∧ IntsAt 0 σ' s' (l ++ l') := by
  obtain ⟨s', σ', e, g, h⟩ := append_grows (σ ++ [.cells (inRow l') 3 true]) s l l' (some ⟨σ.length, 0, none⟩) c hl (hs.app _) hne (by
    simp only [firstA, ldN, List.getElem?_concat_length, inRow_length, Nat.mul_one, Nat.zero_add, Nat.le_refl, if_true, List.drop_zero]
    rw [List.take_of_length_le (by rw [inRow_length]; exact Nat.le_refl _)])
  exact ⟨s', σ', e, (Grows.app _ _ _).trans g, h⟩

theorem contents_l0_to (k : Nat) (hI : Inv m) {j : Nat} (hs : Start m j) (hb : Nat) (r d c : Int) (hr : r = refsAt m j) (hnb : hb ∉ i.l) : ∀ (n x f : Nat) (σ : AMem) (s : SlV) (l : List Int), HeapAt σ i m → Off i s → σ[hb]? = some (.cells [.int .i64 r, .int .i64 d, .int .i64 c] 23 true) → (∀ a, s.1 = some a → a.block ≠ hb) → IntsAt 0 σ s l → l.length + n ≤ 1000 → ((x + n : Nat) : Int) = refsAt m j → n < f →
    ∃ σ' s', d_law02_contents_l0 (k + 7) f (hptr i) ((2 * j : Nat) : Int) hb s (x : Int) σ = some (.exit 0, [.slice s'.1 s'.2.1 s'.2.2], σ') ∧ Grows σ s σ' s' ∧ IntsAt 0 σ' s' (l ++ segL m (2 * j + 2 + x) n)
  | 0, x, 0, σ, s, l, h, ho, hbx, hsb, hl, hn, hx, hf => by omega
  | 0, x, f + 1, σ, s, l, h, ho, hbx, hsb, hl, hn, hx, hf => by
    rw [d_law02_contents_l0]
    have l0 : ldI .i64 σ hb (0 + 0) = some r := by simp [ldI, ld1, hbx, toI]
    have q : decide ((x : Int) < r) = false := decide_eq_false (by omega)
    exact ⟨σ, s, by simp only [l0, Option.bind_some, q, cond_false], Grows.refl _ _, by simpa [segL] using hl⟩
  | n + 1, x, 0, σ, s, l, h, ho, hbx, hsb, hl, hn, hx, hf => by omega
  | n + 1, x, f + 1, σ, s, l, h, ho, hbx, hsb, hl, hn, hx, hf => by
    have l0 : ldI .i64 σ hb (0 + 0) = some r := by simp [ldI, ld1, hbx, toI]
    have q : decide ((x : Int) < r) = true := decide_eq_true (by omega)
    have hz := hI.size hs
    obtain ⟨τ, eR⟩ := Ref_to k h hI hs (x := x) (by omega)
    obtain ⟨s1, σ1, eA, g1, i1⟩ := push_to (σ ++ τ) s l [m.wds.getD (2 * j + 2 + x) 0] 1 (by simp only [List.length_cons, List.length_nil]; omega) (hl.app τ) (by simp)
    have g0 := (Grows.app σ s τ).trans g1
    obtain ⟨h1, o1⟩ := g0.heap h ho
    obtain ⟨b1, b2⟩ := g0.other hbx hsb
    obtain ⟨σ2, s2, e2, g2, i2⟩ := contents_l0_to k hI hs hb r d c hr hnb n (x + 1) f σ1 s1 (l ++ [m.wds.getD (2 * j + 2 + x) 0]) h1 o1 b1 b2 i1 (by simp; omega) (by omega) (by omega)
    refine ⟨σ2, s2, ?_, g0.trans g2, by rw [segL_cons, List.append_cons]; exact i2⟩
    rw [d_law02_contents_l0]
    have w1 : w64 ((x : Int) + 1) = ((x + 1 : Nat) : Int) := w64_in (by unfold inI; omega)
    have eA' : appendD P 3 s (some ⟨(σ ++ τ).length, 0, none⟩, 1, 1) (σ ++ τ ++ [.cells [.int .i64 (m.wds.getD (2 * j + 2 + x) 0)] 3 true]) = some (s1, σ1) := eA
    simp only [l0, Option.bind_some, q, cond_true, eR, r_ii_eq, allocK, eA', w1]
    exact e2

theorem contents_l1_to (k : Nat) (hI : Inv m) {j : Nat} (hs : Start m j) (hb : Nat) (r d c : Int) (hr : d = dataAt m j) (hnb : hb ∉ i.l) : ∀ (n x f : Nat) (σ : AMem) (s : SlV) (l : List Int), HeapAt σ i m → Off i s → σ[hb]? = some (.cells [.int .i64 r, .int .i64 d, .int .i64 c] 23 true) → (∀ a, s.1 = some a → a.block ≠ hb) → IntsAt 0 σ s l → l.length + n ≤ 1000 → ((x + n : Nat) : Int) = dataAt m j → n < f →
    ∃ σ' s', d_law02_contents_l1 (k + 7) f (hptr i) ((2 * j : Nat) : Int) hb s (x : Int) σ = some (.exit 2, [.slice s'.1 s'.2.1 s'.2.2], σ') ∧ Grows σ s σ' s' ∧ IntsAt 0 σ' s' (l ++ segL m (2 * j + 2 + (refsAt m j).toNat + x) n)
  | 0, x, 0, σ, s, l, h, ho, hbx, hsb, hl, hn, hx, hf => by omega
  | 0, x, f + 1, σ, s, l, h, ho, hbx, hsb, hl, hn, hx, hf => by
    rw [d_law02_contents_l1]
    have l0 : ldI .i64 σ hb (0 + 1) = some d := by simp [ldI, ld1, hbx, toI]
    have q : decide ((x : Int) < d) = false := decide_eq_false (by omega)
    exact ⟨σ, s, by simp only [l0, Option.bind_some, q, cond_false], Grows.refl _ _, by simpa [segL] using hl⟩
  | n + 1, x, 0, σ, s, l, h, ho, hbx, hsb, hl, hn, hx, hf => by omega
  | n + 1, x, f + 1, σ, s, l, h, ho, hbx, hsb, hl, hn, hx, hf => by
    have l0 : ldI .i64 σ hb (0 + 1) = some d := by simp [ldI, ld1, hbx, toI]
    have q : decide ((x : Int) < d) = true := decide_eq_true (by omega)
    have hz := hI.size hs
    obtain ⟨τ, eR⟩ := Data_to k h hI hs (x := x) (by omega)
    obtain ⟨s1, σ1, eA, g1, i1⟩ := push_to (σ ++ τ) s l [m.wds.getD (2 * j + 2 + (refsAt m j).toNat + x) 0] 1 (by simp only [List.length_cons, List.length_nil]; omega) (hl.app τ) (by simp)
    have g0 := (Grows.app σ s τ).trans g1
    obtain ⟨h1, o1⟩ := g0.heap h ho
    obtain ⟨b1, b2⟩ := g0.other hbx hsb
    obtain ⟨σ2, s2, e2, g2, i2⟩ := contents_l1_to k hI hs hb r d c hr hnb n (x + 1) f σ1 s1 (l ++ [m.wds.getD (2 * j + 2 + (refsAt m j).toNat + x) 0]) h1 o1 b1 b2 i1 (by simp; omega) (by omega) (by omega)
    refine ⟨σ2, s2, ?_, g0.trans g2, by rw [segL_cons, List.append_cons]; exact i2⟩
    rw [d_law02_contents_l1]
    have w1 : w64 ((x : Int) + 1) = ((x + 1 : Nat) : Int) := w64_in (by unfold inI; omega)
    have eA' : appendD P 3 s (some ⟨(σ ++ τ).length, 0, none⟩, 1, 1) (σ ++ τ ++ [.cells [.int .i64 (m.wds.getD (2 * j + 2 + (refsAt m j).toNat + x) 0)] 3 true]) = some (s1, σ1) := eA
    simp only [l0, Option.bind_some, q, cond_true, eR, r_ii_eq, allocK, eA', w1]
    exact e2

/-- What contents lists. -/
def contL (m : HM) (j : Nat) : List Int :=
  [m.wds.getD (2 * j) 0, refsAt m j, dataAt m j, kindAt m j] ++ segL m (2 * j + 2) (refsAt m j).toNat ++ segL m (2 * j + 2 + (refsAt m j).toNat) (dataAt m j).toNat ++ (if pinM m ((2 * j : Nat) : Int) then [1] else [])
theorem contL_length (hI : Inv m) {j : Nat} (hs : Start m j) : (contL m j).length ≤ 300 ∧ 4 ≤ (contL m j).length := by
  have hz := hI.size hs
  unfold contL
  simp only [List.length_append, segL_length, List.length_cons, List.length_nil]
  split <;> simp <;> omega

theorem IntsAt.up {lo : Nat} {s : SlV} {l : List Int} (h : IntsAt 0 σ s l) (hn : ∀ a, s.1 = some a → lo ≤ a.block) : IntsAt lo σ s l := by
  rcases h with h | ⟨b, _, rfl, h⟩
  · exact .inl h
  · exact .inr ⟨b, hn _ rfl, rfl, h⟩

/-- From a slice that began behind a memory: the memory is still there. -/
theorem Grows.behind {σ σ' : AMem} {τ : AMem} {s s' : SlV} (g : Grows (σ ++ τ) s σ' s') (hs : ∀ a, s.1 = some a → σ.length ≤ a.block) : (∃ τ', σ' = σ ++ τ') ∧ ∀ a, s'.1 = some a → σ.length ≤ a.block := by
  refine ⟨⟨σ'.drop σ.length, ?_⟩, ?_⟩
  · have hlen := g.len
    simp at hlen
    apply List.ext_getElem?
    intro q
    by_cases hq : q < σ.length
    · rw [List.getElem?_append_left hq, g.same q (by simp; omega) (fun a ha e => by have := hs a ha; omega), List.getElem?_append_left hq]
    · rw [List.getElem?_append_right (by omega), List.getElem?_drop]
      congr 1; omega
  · rcases g.new with rfl | hw
    · exact hs
    · intro a ha
      have := hw a ha
      simp at this; omega

theorem contents_to (k : Nat) (hk : 5000 ≤ k) (h : HeapAt σ i m) (hI : Inv m) {j : Nat} (hs : Start m j) : ∃ τ s, d_law02_contents (k + 8) (hptr i) ((2 * j : Nat) : Int) σ = some (.slice s.1 s.2.1 s.2.2, σ ++ τ) ∧ IntsAt σ.length (σ ++ τ) s (contL m j) := by
  have ht := h.nt
  have hj := hs.1
  have hz := hI.size hs
  have hji : inI ((2 * j : Nat) : Int) := by unfold inI; omega
  obtain ⟨τ1, e1⟩ := Shape_to (k + 1) h hs
  obtain ⟨σ1, hσ1⟩ : ∃ σ1, σ ++ τ1 = σ1 := ⟨_, rfl⟩
  rw [hσ1] at e1
  have h1 : HeapAt σ1 i m := hσ1 ▸ h.app τ1
  have hl1 : σ.length ≤ σ1.length := by rw [← hσ1]; simp
  obtain ⟨σ2, hσ2⟩ : ∃ σ2, σ1 ++ [AObj.cells [.int .i64 (refsAt m j), .int .i64 (dataAt m j), .int .i64 (kindAt m j)] 23 true] = σ2 := ⟨_, rfl⟩
  have est : ∀ x y z : Value, stN (σ1 ++ [AObj.cells [x, y, z] 23 true]) σ1.length 0 [.int .i64 (refsAt m j), .int .i64 (dataAt m j), .int .i64 (kindAt m j)] = some σ2 := by
    intro x y z; rw [← hσ2]; simp [stN, setRange]
  have h2 : HeapAt σ2 i m := hσ2 ▸ h1.app _
  have hbx : σ2[σ1.length]? = some (.cells [.int .i64 (refsAt m j), .int .i64 (dataAt m j), .int .i64 (kindAt m j)] 23 true) := by rw [← hσ2]; simp
  have hIdent := Ident_to (k + 1) h2 ((2 * j : Nat) : Int) hji
  rw [hasM_of hs, if_pos rfl, Int.toNat_natCast] at hIdent
  have l0 : ldI .i64 σ2 σ1.length (0 + 0) = some (refsAt m j) := by simp [ldI, ld1, hbx, toI]
  have l1 : ldI .i64 σ2 σ1.length (0 + 1) = some (dataAt m j) := by simp [ldI, ld1, hbx, toI]
  have l2 : ldI .i64 σ2 σ1.length (0 + 2) = some (kindAt m j) := by simp [ldI, ld1, hbx, toI]
  obtain ⟨l, hl⟩ : ∃ l, [m.wds.getD (2 * j) 0, refsAt m j, dataAt m j, kindAt m j] = l := ⟨_, rfl⟩
  have hll : l.length = 4 := by rw [← hl]; rfl
  obtain ⟨σ3, hσ3⟩ : ∃ σ3, σ2 ++ [AObj.cells (inRow l) 3 true] = σ3 := ⟨_, rfl⟩
  have h3 : HeapAt σ3 i m := hσ3 ▸ h2.app _
  have i3 : IntsAt 0 σ3 (some ⟨σ2.length, 0, none⟩, 4, 4) l := .inr ⟨σ2.length, Nat.zero_le _, by rw [hll], by rw [← hl]; simp, by rw [← hσ3]; simp⟩
  have hbx3 : σ3[σ1.length]? = some (.cells [.int .i64 (refsAt m j), .int .i64 (dataAt m j), .int .i64 (kindAt m j)] 23 true) := by
    rw [← hσ3, List.getElem?_append_left (getElem?_lt hbx)]; exact hbx
  have hl2 : σ2.length = σ1.length + 1 := by rw [← hσ2]; simp
  have hnb : σ1.length ∉ i.l := fun hm => by have := h1.lt _ hm; omega
  have off3 : Off i (some ⟨σ2.length, 0, none⟩, 4, 4) := by
    intro a ha hm
    cases ha
    have := h2.lt _ hm
    simp at this
  obtain ⟨σ4, s4, e4, g4, i4⟩ := contents_l0_to k hI hs σ1.length (refsAt m j) (dataAt m j) (kindAt m j) rfl hnb (refsAt m j).toNat 0 (k + 7) σ3 (some ⟨σ2.length, 0, none⟩, 4, 4) l h3 off3 hbx3 (by intro a ha; cases ha; simp only; omega) i3 (by omega) (by omega) (by omega)
  obtain ⟨h4, off4⟩ := g4.heap h3 off3
  obtain ⟨hbx4, ne4⟩ := g4.other hbx3 (by intro a ha; cases ha; simp only; omega)
  obtain ⟨σ5, s5, e5, g5, i5⟩ := contents_l1_to k hI hs σ1.length (refsAt m j) (dataAt m j) (kindAt m j) rfl hnb (dataAt m j).toNat 0 (k + 7) σ4 s4 _ h4 off4 hbx4 ne4 i4 (by simp [segL_length]; omega) (by omega) (by omega)
  obtain ⟨h5, off5⟩ := g5.heap h4 off4
  rw [Nat.add_zero] at i4
  rw [Nat.add_zero, Nat.add_zero] at i5
  rw [show ((0 : Nat) : Int) = 0 from rfl] at e4 e5
  have hP := Pinned_to (k + 2) h5 ((2 * j : Nat) : Int) hji
  have g35 := g4.trans g5
  have hrow : inRow l = [.int .i64 (m.wds.getD (2 * j) 0), .int .i64 (refsAt m j), .int .i64 (dataAt m j), .int .i64 (kindAt m j)] := by rw [← hl]; rfl
  have hσ3' : ∃ τ, σ3 = σ ++ τ := by
    refine ⟨τ1 ++ [AObj.cells [.int .i64 (refsAt m j), .int .i64 (dataAt m j), .int .i64 (kindAt m j)] 23 true] ++ [AObj.cells (inRow l) 3 true], ?_⟩
    rw [← hσ3, ← hσ2, ← hσ1]; simp
  obtain ⟨τ3, hτ3⟩ := hσ3'
  have hnew : ∀ a, (some ⟨σ2.length, 0, none⟩ : Option Addr) = some a → σ.length ≤ a.block := by
    intro a ha; cases ha; simp only; omega
  have fin : ∀ {σ' s'}, Grows σ3 (some ⟨σ2.length, 0, none⟩, 4, 4) σ' s' → IntsAt 0 σ' s' (contL m j) → d_law02_contents (k + 8) (hptr i) ((2 * j : Nat) : Int) σ = some (.slice s'.1 s'.2.1 s'.2.2, σ') →
      ∃ τ s, d_law02_contents (k + 8) (hptr i) ((2 * j : Nat) : Int) σ = some (.slice s.1 s.2.1 s.2.2, σ ++ τ) ∧ IntsAt σ.length (σ ++ τ) s (contL m j) := by
    intro σ' s' g hi he
    rw [hτ3] at g
    obtain ⟨⟨τ', rfl⟩, hb⟩ := g.behind hnew
    exact ⟨τ', s', he, hi.up hb⟩
  have pre : d_law02_contents (k + 8) (hptr i) ((2 * j : Nat) : Int) σ = ((bif pinM m ((2 * j : Nat) : Int) then (allocK σ5 (.cells [.int .i64 (1 : Int)] 3 true) fun h40 s41 => (appendD P 3 (s5.1, s5.2.1, s5.2.2) (some ⟨h40, 0, none⟩, 1, 1) s41).bind fun r42 => some (.normal, [.slice r42.1.1 r42.1.2.1 r42.1.2.2], r42.2)) else (some (.normal, [.slice s5.1 s5.2.1 s5.2.2], σ5)) : Option LOut).bind fun r43 => if r43.1 = .normal then (u_l r43.2.1 fun l44 => some (.slice l44.1 l44.2.1 l44.2.2, r43.2.2)) else none) := by
    rw [d_law02_contents]
    have e1' : d_heap_Heap_Shape (k + 7) (hptr i) ((2 * j : Nat) : Int) σ = _ := e1
    have hI' : d_heap_Heap_Ident (k + 7) (hptr i) ((2 * j : Nat) : Int) σ2 = _ := hIdent
    have hP' : d_heap_Heap_Pinned (k + 7) (hptr i) ((2 * j : Nat) : Int) σ5 = _ := hP
    simp only [e1', Option.bind_some, toT, List.length_cons, List.length_nil, Nat.zero_add, Nat.reduceAdd, if_true, List.head?_cons, a_iii_eq, List.tail_cons, toI_int, allocK, est, hI', r_ii_eq] at l0 l1 l2 ⊢
    simp only [l0, l1, l2, Option.bind_some, ← hrow, hσ3, e4, if_true, u_l_eq, e5, hP', toB_bool]
  cases hp : pinM m ((2 * j : Nat) : Int) with
  | false =>
    refine fin g35 ?_ ?_
    · unfold contL; rw [hp, hl]; simpa using i5
    · rw [pre, hp]; simp only [cond_false, Option.bind_some, if_true, u_l_eq]
  | true =>
    obtain ⟨s6, σ6, e6, g6, i6⟩ := push_to σ5 s5 _ [1] 1 (by simp [segL_length]; omega) i5 (by simp)
    refine fin (g35.trans g6) ?_ ?_
    · unfold contL; rw [hp, hl]; simpa using i6
    · rw [pre, hp]
      have e6' : appendD P 3 (s5.1, s5.2.1, s5.2.2) (some ⟨σ5.length, 0, none⟩, 1, 1) (σ5 ++ [.cells [.int .i64 1] 3 true]) = some (s6, σ6) := e6
      simp only [cond_true, allocK, e6', Option.bind_some, if_true, u_l_eq]


/-! CY -/

def blsL (l : List (Int × Int)) : List Int := l.flatMap fun p => [p.1, p.2]
def wfL (m : HM) (a n : Nat) : List Int := (List.range' a n).flatMap fun x => [m.wds.getD x 0, fwdM m (x : Int)]
def objL (m : HM) (L : List Nat) : List Int := L.flatMap fun j => ((2 * j : Nat) : Int) :: contL m j
/-- What state lists. -/
def stateL (m : HM) : List Int := [m.births, (usedN m : Int)] ++ blsL m.bls ++ wfL m 0 m.wds.length ++ objL m (starts m 0 (32 * m.bls.length))

theorem blsL_length (l : List (Int × Int)) : (blsL l).length = 2 * l.length := by
  induction l with
  | nil => rfl
  | cons p l ih => simp only [blsL, List.flatMap_cons, List.length_append, List.length_cons, List.length_nil] at ih ⊢; omega
theorem wfL_length (m : HM) (a n : Nat) : (wfL m a n).length = 2 * n := by
  induction n generalizing a with
  | zero => rfl
  | succ n ih => simp only [wfL, List.range'_succ, List.flatMap_cons, List.length_append, List.length_cons, List.length_nil] at ih ⊢; rw [ih]; omega
theorem objL_length (hI : Inv m) (L : List Nat) (hL : ∀ j ∈ L, Start m j) : (objL m L).length ≤ 301 * L.length := by
  induction L with
  | nil => simp [objL]
  | cons j L ih =>
    have h1 := (contL_length hI (hL j (by simp))).1
    have h2 := ih fun j hj => hL j (by simp [hj])
    simp only [objL, List.flatMap_cons, List.length_append, List.length_cons] at h2 ⊢
    omega

theorem stateL_length (hI : Inv m) (hl : m.bls.length ≤ 64) (hw : m.wds.length = 64 * m.bls.length) : (stateL m).length ≤ 800000 := by
  have h1 := objL_length hI (starts m 0 (32 * m.bls.length)) (fun j hj => mem_all.1 hj)
  have h2 := starts_len m 0 (32 * m.bls.length)
  unfold stateL
  simp only [List.length_append, blsL_length, wfL_length, List.length_cons, List.length_nil]
  omega

theorem state_l0_to (k : Nat) : ∀ (n x f : Nat) (σ : AMem) (s : SlV) (l : List Int), HeapAt σ i m → Off i s → IntsAt 0 σ s l → l.length ≤ 800000 → l.length = 2 + 2 * x → x + n = m.bls.length → n < f →
    ∃ σ' s', d_law02_state_l0 (k + 3) f (hptr i) s (x : Int) σ = some (.exit 0, [.slice s'.1 s'.2.1 s'.2.2], σ') ∧ Grows σ s σ' s' ∧ IntsAt 0 σ' s' (l ++ blsL (m.bls.drop x))
  | 0, x, 0, σ, s, l, h, ho, hl, hn, hln, hx, hf => by omega
  | 0, x, f + 1, σ, s, l, h, ho, hl, hn, hln, hx, hf => by
    rw [d_law02_state_l0]
    have q : decide ((x : Int) < ((m.bls.length : Nat) : Int)) = false := decide_eq_false (by omega)
    refine ⟨σ, s, by simp only [Blocks_to _ h, toI_int, Option.bind_some, q, cond_false], Grows.refl _ _, ?_⟩
    rw [List.drop_eq_nil_of_le (by omega)]
    simpa [blsL] using hl
  | n + 1, x, 0, σ, s, l, h, ho, hl, hn, hln, hx, hf => by omega
  | n + 1, x, f + 1, σ, s, l, h, ho, hl, hn, hln, hx, hf => by
    have ht := h.nt
    have hxl : x < m.bls.length := by omega
    have q : decide ((x : Int) < ((m.bls.length : Nat) : Int)) = true := decide_eq_true (by omega)
    obtain ⟨s1, σ1, eA, g0, i1⟩ := push_to σ s l [(m.bls.getD x (0, 0)).1, (m.bls.getD x (0, 0)).2] 2 (by simp only [List.length_cons, List.length_nil]; omega) hl (by simp)
    obtain ⟨h1, o1⟩ := g0.heap h ho
    obtain ⟨σ2, s2, e2, g2, i2⟩ := state_l0_to k n (x + 1) f σ1 s1 _ h1 o1 i1 (by simp; omega) (by simp; omega) (by omega) (by omega)
    refine ⟨σ2, s2, ?_, g0.trans g2, ?_⟩
    · rw [d_law02_state_l0]
      have w1 : w64 ((x : Int) + 1) = ((x + 1 : Nat) : Int) := w64_in (by unfold inI; omega)
      have eA' : appendD P 3 s (some ⟨σ.length, 0, none⟩, 2, 2) (σ ++ [.cells [.int .i64 (m.bls.getD x (0, 0)).1, .int .i64 (m.bls.getD x (0, 0)).2] 3 true]) = some (s1, σ1) := eA
      simp only [Blocks_to _ h, toI_int, Option.bind_some, q, cond_true, State_to _ h hxl, Space_to _ h hxl, allocK, eA', w1]
      exact e2
    · rw [List.append_assoc] at i2
      rw [List.drop_eq_getElem_cons hxl, blsL, List.flatMap_cons]
      have : m.bls.getD x (0, 0) = m.bls[x] := by simp [List.getElem?_eq_getElem hxl]
      rw [this] at i2
      exact i2

theorem state_l1_to (k : Nat) : ∀ (n x f : Nat) (σ : AMem) (s : SlV) (l : List Int), HeapAt σ i m → Off i s → IntsAt 0 σ s l → l.length + 2 * n ≤ 800000 → x + n = m.wds.length → n < f →
    ∃ σ' s', d_law02_state_l1 (k + 3) f (hptr i) s (x : Int) σ = some (.exit 2, [.slice s'.1 s'.2.1 s'.2.2], σ') ∧ Grows σ s σ' s' ∧ IntsAt 0 σ' s' (l ++ wfL m x n)
  | 0, x, 0, σ, s, l, h, ho, hl, hn, hx, hf => by omega
  | 0, x, f + 1, σ, s, l, h, ho, hl, hn, hx, hf => by
    have ht := h.nt
    have hw := h.wl
    rw [d_law02_state_l1]
    have w : w64 (((m.bls.length : Nat) : Int) * 64) = ((m.wds.length : Nat) : Int) := by rw [w64_in (by unfold inI; omega)]; omega
    have q : decide ((x : Int) < ((m.wds.length : Nat) : Int)) = false := decide_eq_false (by omega)
    refine ⟨σ, s, by simp only [Blocks_to _ h, toI_int, Option.bind_some, w, q, cond_false], Grows.refl _ _, ?_⟩
    simpa [wfL] using hl
  | n + 1, x, 0, σ, s, l, h, ho, hl, hn, hx, hf => by omega
  | n + 1, x, f + 1, σ, s, l, h, ho, hl, hn, hx, hf => by
    have ht := h.nt
    have hw := h.wl
    have w : w64 (((m.bls.length : Nat) : Int) * 64) = ((m.wds.length : Nat) : Int) := by rw [w64_in (by unfold inI; omega)]; omega
    have hxl : x < m.wds.length := by omega
    have q : decide ((x : Int) < ((m.wds.length : Nat) : Int)) = true := decide_eq_true (by omega)
    obtain ⟨s1, σ1, eA, g0, i1⟩ := push_to σ s l [m.wds.getD x 0, fwdM m (x : Int)] 2 (by simp only [List.length_cons, List.length_nil]; omega) hl (by simp)
    obtain ⟨h1, o1⟩ := g0.heap h ho
    obtain ⟨σ2, s2, e2, g2, i2⟩ := state_l1_to k n (x + 1) f σ1 s1 _ h1 o1 i1 (by simp; omega) (by omega) (by omega)
    refine ⟨σ2, s2, ?_, g0.trans g2, ?_⟩
    · rw [d_law02_state_l1]
      have w1 : w64 ((x : Int) + 1) = ((x + 1 : Nat) : Int) := w64_in (by unfold inI; omega)
      have eA' : appendD P 3 s (some ⟨σ.length, 0, none⟩, 2, 2) (σ ++ [.cells [.int .i64 (m.wds.getD x 0), .int .i64 (fwdM m (x : Int))] 3 true]) = some (s1, σ1) := eA
      have hW := Word_to (k + 1) h (x : Int)
      rw [if_pos (by omega), Int.toNat_natCast] at hW
      have hF := Forward_to (k + 1) h (x : Int)
      simp only [Blocks_to _ h, toI_int, Option.bind_some, w, q, cond_true, hW, hF, r_ii_eq, allocK, eA', w1]
      exact e2
    · rw [List.append_assoc] at i2
      rw [wfL, List.range'_succ, List.flatMap_cons]
      exact i2

theorem firstA_ints {σ : AMem} {lo : Nat} {s : SlV} {l : List Int} (h : IntsAt lo σ s l) : firstA σ 1 s.1 l.length = some (inRow l) := by
  rcases h with ⟨rfl, rfl⟩ | ⟨b, _, rfl, _, hc⟩
  · rfl
  · simp only [firstA, ldN, hc, inRow_length, Nat.mul_one, Nat.zero_add, Nat.le_refl, if_true, List.drop_zero]
    rw [List.take_of_length_le (by rw [inRow_length]; exact Nat.le_refl _)]

theorem state_l2_to (k : Nat) (hk : 5000 ≤ k) (hI : Inv m) (L : List Nat) (hL : ∀ j ∈ L, Start m j) (hLl : L.length ≤ 2048) (qa : Nat) : ∀ (n x f : Nat) (σ : AMem) (s : SlV) (l : List Int), HeapAt σ i m → Off i s → (L ≠ [] → σ[qa]? = some (.cells (inRow (addrs L)) 3 true)) → (L ≠ [] → ∀ a, s.1 = some a → a.block ≠ qa) → IntsAt 0 σ s l → l.length + 302 * n ≤ 1000000 → x + n = L.length → n < f →
    ∃ σ' s', d_law02_state_l2 (k + 8) f (hptr i) (if L = [] then none else some ⟨qa, 0, none⟩) L.length L.length s (x : Int) σ = some (.exit 4, [.slice s'.1 s'.2.1 s'.2.2], σ') ∧ Grows σ s σ' s' ∧ IntsAt 0 σ' s' (l ++ objL m (L.drop x))
  | 0, x, 0, σ, s, l, h, ho, hA, hne, hl, hn, hx, hf => by omega
  | 0, x, f + 1, σ, s, l, h, ho, hA, hne, hl, hn, hx, hf => by
    rw [d_law02_state_l2]
    have q : decide ((x : Int) < ((L.length : Nat) : Int)) = false := decide_eq_false (by omega)
    refine ⟨σ, s, by simp only [q, cond_false], Grows.refl _ _, ?_⟩
    rw [List.drop_eq_nil_of_le (by omega)]
    simpa [objL] using hl
  | n + 1, x, 0, σ, s, l, h, ho, hA, hne, hl, hn, hx, hf => by omega
  | n + 1, x, f + 1, σ, s, l, h, ho, hA, hne, hl, hn, hx, hf => by
    have ht := h.nt
    have hw := h.wl
    have hxl : x < L.length := by omega
    have hLne : L ≠ [] := fun e => by rw [e] at hxl; simp at hxl
    have hst := hL _ (List.getElem_mem hxl)
    have hcl := contL_length hI hst
    have hb := hA hLne
    have q : decide ((x : Int) < ((L.length : Nat) : Int)) = true := decide_eq_true (by omega)
    have ldx : ∀ {μ : AMem}, μ[qa]? = some (.cells (inRow (addrs L)) 3 true) → ldI .i64 μ qa (0 + x * 1) = some ((2 * L[x] : Nat) : Int) := by
      intro μ hm
      have hh : IntsAt 0 μ (some ⟨qa, 0, none⟩, (addrs L).length, (addrs L).length) (addrs L) := .inr ⟨qa, Nat.zero_le _, rfl, by simpa [addrs] using hLne, hm⟩
      rw [Nat.zero_add, Nat.mul_one, hh.ld (by simpa [addrs] using hxl), addrs_getD L hxl]
    obtain ⟨s1, σ1, eA, g0, i1⟩ := push_to σ s l [((2 * L[x] : Nat) : Int)] 1 (by simp only [List.length_cons, List.length_nil]; omega) hl (by simp)
    obtain ⟨h1, o1⟩ := g0.heap h ho
    obtain ⟨b1, n1⟩ := g0.other hb (hne hLne)
    obtain ⟨τ2, s2, eC, i2⟩ := contents_to k hk h1 hI hst
    obtain ⟨s3, σ3, eB, g3, i3⟩ := append_grows (σ1 ++ τ2) s1 _ (contL m L[x]) s2.1 s2.2.2 (by simp; omega) (i1.app τ2) (by intro e; rw [e] at hcl; simp at hcl) (firstA_ints i2)
    have g03 := (g0.trans (Grows.app σ1 s1 τ2)).trans g3
    obtain ⟨h3, o3⟩ := g03.heap h ho
    obtain ⟨b3, n3⟩ := g03.other hb (hne hLne)
    obtain ⟨σ4, s4, e4, g4, i4⟩ := state_l2_to k hk hI L hL hLl qa n (x + 1) f σ3 s3 _ h3 o3 (fun _ => b3) (fun _ => n3) i3 (by simp; omega) (by omega) (by omega)
    refine ⟨σ4, s4, ?_, g03.trans g4, ?_⟩
    · rw [d_law02_state_l2]
      rw [if_neg hLne] at e4 ⊢
      have w1 : w64 ((x : Int) + 1) = ((x + 1 : Nat) : Int) := w64_in (by unfold inI; omega)
      have eA' : appendD P 3 s (some ⟨σ.length, 0, none⟩, 1, 1) (σ ++ [.cells [.int .i64 ((2 * L[x] : Nat) : Int)] 3 true]) = some (s1, σ1) := eA
      have hs2 := i2.len
      have eB' : appendD P 3 (s1.1, s1.2.1, s1.2.2) (s2.1, s2.2.1, s2.2.2) (σ1 ++ τ2) = some (s3, σ3) := by rw [hs2]; exact eB
      simp only [q, cond_true]
      rw [if_pos (by omega)]
      simp only [Int.toNat_natCast, Option.bind_some, ldx hb, allocK, eA']
      rw [if_pos (by omega)]
      simp only [ldx b1, Option.bind_some, eC, toS, eB', w1]
      exact e4
    · rw [List.append_assoc, List.append_assoc] at i4
      rw [List.drop_eq_getElem_cons hxl, objL, List.flatMap_cons]
      exact i4

theorem state_to (k : Nat) (hk : 5000 ≤ k) (h : HeapAt σ i m) (hI : Inv m) : ∃ τ s, d_law02_state (k + 9) (hptr i) σ = some (.slice s.1 s.2.1 s.2.2, σ ++ τ) ∧ IntsAt σ.length (σ ++ τ) s (stateL m) := by
  have ht := h.nt
  have hw := h.wl
  have hB := Births_to (k + 6) h
  have hB' : d_heap_Heap_Births (k + 8) (hptr i) σ = _ := hB
  obtain ⟨τ1, e1⟩ := Used_to (k + 1) (by omega) h
  have e1' : d_heap_Heap_Used (k + 8) (hptr i) σ = _ := e1
  obtain ⟨σ1, hσ1⟩ : ∃ σ1, σ ++ τ1 = σ1 := ⟨_, rfl⟩
  rw [hσ1] at e1'
  have h1 : HeapAt σ1 i m := hσ1 ▸ h.app τ1
  have hl1 : σ.length ≤ σ1.length := by rw [← hσ1]; simp
  obtain ⟨l, hl⟩ : ∃ l, [m.births, (usedN m : Int)] = l := ⟨_, rfl⟩
  have hll : l.length = 2 := by rw [← hl]; rfl
  have hrow : inRow l = [.int .i64 m.births, .int .i64 (usedN m : Int)] := by rw [← hl]; rfl
  obtain ⟨σ2, hσ2⟩ : ∃ σ2, σ1 ++ [AObj.cells (inRow l) 3 true] = σ2 := ⟨_, rfl⟩
  have h2 : HeapAt σ2 i m := hσ2 ▸ h1.app _
  have i2 : IntsAt 0 σ2 (some ⟨σ1.length, 0, none⟩, 2, 2) l := .inr ⟨σ1.length, Nat.zero_le _, by rw [hll], by rw [← hl]; simp, by rw [← hσ2]; simp⟩
  have off2 : Off i (some ⟨σ1.length, 0, none⟩, 2, 2) := by
    intro a ha hm
    cases ha
    have := h1.lt _ hm
    simp at this
  obtain ⟨σ3, s3, e3, g3, i3⟩ := state_l0_to (k + 5) m.bls.length 0 (k + 8) σ2 _ l h2 off2 i2 (by omega) (by omega) (by omega) (by omega)
  obtain ⟨h3, off3⟩ := g3.heap h2 off2
  rw [List.drop_zero] at i3
  obtain ⟨σ4, s4, e4, g4, i4⟩ := state_l1_to (k + 5) m.wds.length 0 (k + 8) σ3 s3 _ h3 off3 i3 (by simp [blsL_length]; omega) (by omega) (by omega)
  obtain ⟨h4, off4⟩ := g4.heap h3 off3
  obtain ⟨τ5, sL, e5, iL⟩ := All_to (k + 2) (by omega) h4
  have e5' : d_heap_Heap_All (k + 8) (hptr i) σ4 = _ := e5
  have g5 : Grows σ2 _ (σ4 ++ τ5) s4 := (g3.trans g4).trans (Grows.app σ4 s4 τ5)
  obtain ⟨h5, off5⟩ := g5.heap h2 off2
  obtain ⟨L, hLd⟩ : ∃ L, starts m 0 (32 * m.bls.length) = L := ⟨_, rfl⟩
  have hL : ∀ j ∈ L, Start m j := fun j hj => mem_all.1 (hLd ▸ hj)
  have hLl : L.length ≤ 2048 := by rw [← hLd]; have := starts_len m 0 (32 * m.bls.length); omega
  rw [hLd] at iL
  have al : (addrs L).length = L.length := by simp [addrs]
  have hs4 : ∀ a, s4.1 = some a → a.block < σ4.length := by
    intro a ha
    rcases i4 with ⟨_, rfl⟩ | ⟨b, _, rfl, _, hc⟩
    · cases ha
    · cases ha; exact getElem?_lt hc
  have hqa : ∃ qa, sL = ((if L = [] then none else some ⟨qa, 0, none⟩), L.length, L.length) ∧ (L ≠ [] → (σ4 ++ τ5)[qa]? = some (.cells (inRow (addrs L)) 3 true)) ∧ (L ≠ [] → ∀ a, s4.1 = some a → a.block ≠ qa) := by
    rcases iL with ⟨he, rfl⟩ | ⟨b, hb1, rfl, hne, hc⟩
    · have : L = [] := by rw [he] at al; simp at al; exact List.length_eq_zero_iff.1 al.symm
      subst this
      exact ⟨0, rfl, fun h => absurd rfl h, fun h => absurd rfl h⟩
    · have hne' : L ≠ [] := fun e => hne (by rw [e]; rfl)
      refine ⟨b, by rw [if_neg hne', al], fun _ => hc, fun _ a ha e => ?_⟩
      have := hs4 a ha
      omega
  obtain ⟨qa, hsL, hqa1, hqa2⟩ := hqa
  obtain ⟨σ6, s6, e6, g6, i6⟩ := state_l2_to k hk hI L hL hLl qa L.length 0 (k + 8) (σ4 ++ τ5) s4 _ h5 off5 hqa1 hqa2 (i4.app τ5) (by simp [blsL_length, wfL_length]; omega) (by omega) (by omega)
  rw [List.drop_zero] at i6
  have g26 := g5.trans g6
  have hσ2' : σ2 = σ ++ (τ1 ++ [AObj.cells (inRow l) 3 true]) := by rw [← hσ2, ← hσ1]; simp
  rw [hσ2'] at g26
  obtain ⟨⟨τ', rfl⟩, hb⟩ := g26.behind (by intro a ha; cases ha; exact hl1)
  refine ⟨τ', s6, ?_, ?_⟩
  · rw [d_law02_state]
    have e3' : d_law02_state_l0 (k + 8) (k + 8) (hptr i) (some ⟨σ1.length, 0, none⟩, 2, 2) 0 σ2 = _ := e3
    have e4' : d_law02_state_l1 (k + 8) (k + 8) (hptr i) s3 0 σ3 = _ := e4
    have e6' : d_law02_state_l2 (k + 8) (k + 8) (hptr i) sL.1 sL.2.1 sL.2.2 s4 0 (σ4 ++ τ5) = some (.exit 4, [.slice s6.1 s6.2.1 s6.2.2], σ ++ τ') := by rw [hsL]; exact e6
    simp only [hB', Option.bind_some, toI_int, e1', allocK, ← hrow, hσ2, e3', if_true, u_l_eq, e4', e5', toS, e6']
  · refine (?_ : IntsAt 0 _ s6 (stateL m)).up hb
    unfold stateL
    rw [hLd, hl]
    exact i6

theorem ints_l0_to (k : Nat) (p q : Option Addr) (l l' : List Int) (hp : IntsAt 0 σ (p, l.length, l.length) l) (hq : IntsAt 0 σ (q, l'.length, l'.length) l') (hl : l.length = l'.length) (hb : l.length ≤ 1000000) : ∀ (n x f : Nat), x + n = l.length → n < f → (∀ y, y < x → l.getD y 0 = l'.getD y 0) →
    d_law02_ints_l0 k f p l.length l.length q l'.length l'.length (x : Int) σ = some (if l = l' then (.exit 0, [], σ) else (.ret, [.bool false], σ))
  | 0, x, 0, hx, hf, he => by omega
  | 0, x, f + 1, hx, hf, he => by
    rw [d_law02_ints_l0]
    have q : decide ((x : Int) < ((l.length : Nat) : Int)) = false := decide_eq_false (by omega)
    have : l = l' := by
      apply List.ext_getElem hl
      intro y h1 h2
      have := he y (by omega)
      simpa [List.getElem?_eq_getElem h1, List.getElem?_eq_getElem h2] using this
    simp only [q, cond_false]
    rw [if_pos this]
  | n + 1, x, 0, hx, hf, he => by omega
  | n + 1, x, f + 1, hx, hf, he => by
    rw [d_law02_ints_l0]
    have h1 : x < l.length := by omega
    have h2 : x < l'.length := by omega
    have c1 : decide ((x : Int) < ((l.length : Nat) : Int)) = true := decide_eq_true (by omega)
    have w1 : w64 ((x : Int) + 1) = ((x + 1 : Nat) : Int) := w64_in (by unfold inI; omega)
    rcases hp with ⟨e, _⟩ | ⟨b, hb1, e, hb2, hb3⟩
    · rw [e] at h1; simp at h1
    rcases hq with ⟨e', _⟩ | ⟨b', hb1', e', hb2', hb3'⟩
    · rw [e'] at h2; simp at h2
    cases e; cases e'
    have hp : IntsAt 0 σ (some ⟨b, 0, none⟩, l.length, l.length) l := .inr ⟨b, hb1, rfl, hb2, hb3⟩
    have hq : IntsAt 0 σ (some ⟨b', 0, none⟩, l'.length, l'.length) l' := .inr ⟨b', hb1', rfl, hb2', hb3'⟩
    simp only [c1, cond_true]
    rw [if_pos (by omega)]
    simp only [Option.bind_some, Int.toNat_natCast, Nat.mul_one, Nat.zero_add, hp.ld h1]
    rw [if_pos (by omega)]
    simp only [Option.bind_some, hq.ld h2, w1]
    by_cases hc : l.getD x 0 = l'.getD x 0
    · have : (l.getD x 0 != l'.getD x 0) = false := by simp only [hc, bne_self_eq_false]
      simp only [this, cond_false]
      exact ints_l0_to k _ _ l l' hp hq hl hb n (x + 1) f (by omega) (by omega) fun y hy => by
        by_cases e : y = x
        · rw [e]; exact hc
        · exact he y (by omega)
    · have : (l.getD x 0 != l'.getD x 0) = true := bne_iff_ne.2 hc
      simp only [this, cond_true]
      rw [if_neg (fun e => hc (by rw [e]))]

theorem IntsAt.form {lo : Nat} {s : SlV} {l : List Int} (h : IntsAt lo σ s l) : s = (s.1, l.length, l.length) := by
  rcases h with ⟨rfl, rfl⟩ | ⟨b, _, rfl, _⟩ <;> rfl

theorem ints_to (k : Nat) {lo lo' : Nat} {s s' : SlV} {l l' : List Int} (hp : IntsAt lo σ s l) (hq : IntsAt lo' σ s' l') (hb : l.length ≤ k) (hb' : l.length ≤ 1000000) : d_law02_ints (k + 2) s s' σ = some (.bool (decide (l = l')), σ) := by
  have f1 := hp.form
  have f2 := hq.form
  rw [f1] at hp
  rw [f2] at hq
  rw [f1, f2, d_law02_ints]
  by_cases hl : l.length = l'.length
  · have q : (((l.length : Nat) : Int) != ((l'.length : Nat) : Int)) = false := by rw [hl]; exact bne_self_eq_false _
    have e := ints_l0_to (k + 1) s.1 s'.1 l l' hp.lo0 hq.lo0 hl hb' l.length 0 (k + 1) (by omega) (by omega) (fun y hy => absurd hy (Nat.not_lt_zero _))
    rw [show ((0 : Nat) : Int) = 0 from rfl] at e
    simp only [q, cond_false, e]
    by_cases he : l = l'
    · simp only [he, if_true, Option.bind_some, decide_true]
    · simp only [he, if_false, Option.bind_some, decide_false, reduceCtorEq, if_true, u_t_eq]
  · have q : (((l.length : Nat) : Int) != ((l'.length : Nat) : Int)) = true := bne_iff_ne.2 (by omega)
    have : l ≠ l' := fun e => hl (by rw [e])
    simp only [q, cond_true, decide_eq_false this]

end Go.Proofs.Ytdlihdgoobcoaaa
