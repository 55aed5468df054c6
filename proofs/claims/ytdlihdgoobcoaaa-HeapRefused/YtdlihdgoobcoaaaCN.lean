/-
  What the calls that change a heap come to (second part): references, data words, pins, forwards.
-/
import Derived.Test.YtdlihdgoobcoaaaCM
set_option linter.unusedVariables false
set_option linter.unusedSimpArgs false
namespace Go.Proofs.Ytdlihdgoobcoaaa
open Go Go.AX
noncomputable local instance : Quiet := fullQuiet
variable {σ : AMem} {i : HIds} {m : HM}

/-- A call that changes a heap: it comes to an error number, and leaves a heap. -/
def Goes (mm : Option (Value × AMem)) (σ : AMem) (i : HIds) (r : Int × HM) : Prop :=
  ∃ σ', mm = some (.int .i64 r.1, σ') ∧ HeapAt σ' i r.2 ∧ Keeps i σ σ'

theorem Goes.same (h : HeapAt σ i m) (τ : AMem) {code : Int} {mm : Option (Value × AMem)} (he : mm = some (.int .i64 code, σ ++ τ)) {r : Int × HM} (hr : r = (code, m)) : Goes mm σ i r :=
  ⟨σ ++ τ, by rw [hr]; exact he, by rw [hr]; exact h.app τ, Keeps.app i σ τ⟩

theorem Goes.to {mm mm' : Option (Value × AMem)} {r : Int × HM} (h : Goes mm σ i r) (f : ∀ σ', mm = some (.int .i64 r.1, σ') → mm' = some (.int .i64 r.1, σ')) : Goes mm' σ i r := by
  obtain ⟨σ', e, g⟩ := h
  exact ⟨σ', f σ' e, g⟩

/-- A heap with another word. -/
def wordM (m : HM) (a : Nat) (v : Int) : HM := { m with wds := m.wds.set a v }

/-- A store into a word that is no object's head. -/
theorem store_goes (h : HeapAt σ i m) (hI : Inv m) (τ : AMem) {j t : Nat} (hs : Start m j) (ht : 2 + t < sz m j) (v : Int) (hv : inI v) {mm : Option (Value × AMem)}
    (he : mm = (AX.st1 (σ ++ τ) i.wd (2 * j + 2 + t) (.int .i64 v)).bind fun s => some (.int .i64 0, s)) : Goes mm σ i (0, wordM m (2 * j + 2 + t) v) := by
  have hf := hI.fit j hs
  obtain ⟨e, h'⟩ := (h.app τ).st1 (show 2 * j + 2 + t < m.wds.length by omega) v hv
  rw [e] at he
  exact ⟨_, he, h', (Keeps.app i σ τ).trans (Keeps.set _ _ (by simp [HIds.l]))⟩

def setRefR (m : HM) (a x v : Int) : Int × HM :=
  if (fieldM m a x false).2 = 0 then (if v ≠ 0 ∧ hasM m v = false then (1, m) else (0, wordM m (fieldM m a x false).1.toNat v)) else ((fieldM m a x false).2, m)
def setDataR (m : HM) (a x v : Int) : Int × HM :=
  if (fieldM m a x true).2 = 0 then (0, wordM m (fieldM m a x true).1.toNat v) else ((fieldM m a x true).2, m)
def pinR (m : HM) (a : Int) (v : Nat) : Int × HM := if hasM m a then (0, { m with pnw := tput 1 m.pnw (a.toNat / 2) v }) else (4, m)
def pokeR (m : HM) (a v : Int) : Int × HM :=
  if 0 ≤ a ∧ a < (m.wds.length : Int) then (match findM m a.toNat with
    | none => (4, m)
    | some j => if ((2 * j + 2 : Nat) : Int) ≤ a ∧ a < ((2 * j + 2 : Nat) : Int) + refsAt m j + dataAt m j then (0, wordM m a.toNat v) else (4, m)) else (1, m)

theorem SetRef_goes (k : Nat) (h : HeapAt σ i m) (hI : Inv m) (a x v : Int) (ha : inI a) (hv : inI v) : Goes (d_heap_Heap_SetRef (k + 7) (hptr i) a x v σ) σ i (setRefR m a x v) := by
  unfold setRefR
  obtain ⟨τ, hf⟩ := field_to k h hI a x ha false
  rw [d_heap_Heap_SetRef]
  simp only [hf, Option.bind_some, r_ii_eq]
  generalize hfm : fieldM m a x false = w at hf ⊢
  obtain ⟨w, c⟩ := w
  by_cases hc : c = 0
  · subst hc
    obtain ⟨j, t, hs, rfl, rfl, ht⟩ := fieldM_in hI hfm
    have hfit := hI.fit j hs
    have tail : Goes ((hptr i).bind fun a7 => (ldS (σ ++ τ) a7.block (a7.off + 1)).bind fun l8 => if 0 ≤ ((2 * j + 2 + t : Nat) : Int) ∧ ((2 * j + 2 + t : Nat) : Int) < (l8.2.1 : Nat) then l8.1.bind fun a9 => (AX.st1 (σ ++ τ) a9.block (a9.off + ((2 * j + 2 + t : Nat) : Int).toNat * 1) (.int .i64 v)).bind fun s10 => some (.int .i64 (0 : Int), s10) else none) σ i (0, wordM m (2 * j + 2 + t) v) := by
      refine store_goes h hI τ hs ht v hv ?_
      simp only [Option.bind_some, Nat.zero_add, (h.app τ).ld1']
      rw [if_pos (by omega)]
      simp only [Option.bind_some, Nat.zero_add, Int.toNat_natCast, Nat.mul_one]
    by_cases hv0 : v = 0
    · subst hv0
      simp only [bne_self_eq_false, cond_false, Option.bind_some, ne_eq, not_true_eq_false, false_and, if_false, if_true, Int.toNat_natCast]
      exact tail
    · have q : (v != 0) = true := by simpa using hv0
      simp only [bne_self_eq_false, cond_false, q, cond_true, Has_to (k + 2) (h.app τ) v hv, Option.bind_some, toB_bool]
      cases hasM m v with
      | true =>
        simp only [Bool.not_true, cond_false, if_true, Bool.true_eq_false, and_false, if_false, Int.toNat_natCast]
        exact tail
      | false => exact Goes.same h τ rfl (by simp [hv0])
  · have q : (c != 0) = true := by simpa using hc
    simp only [q, cond_true]
    exact Goes.same h τ rfl (by simp [hc])

theorem SetData_goes (k : Nat) (h : HeapAt σ i m) (hI : Inv m) (a x v : Int) (ha : inI a) (hv : inI v) : Goes (d_heap_Heap_SetData (k + 7) (hptr i) a x v σ) σ i (setDataR m a x v) := by
  unfold setDataR
  obtain ⟨τ, hf⟩ := field_to k h hI a x ha true
  rw [d_heap_Heap_SetData]
  simp only [hf, Option.bind_some, r_ii_eq]
  generalize hfm : fieldM m a x true = w at hf ⊢
  obtain ⟨w, c⟩ := w
  by_cases hc : c = 0
  · subst hc
    obtain ⟨j, t, hs, rfl, rfl, ht⟩ := fieldM_in hI hfm
    have hfit := hI.fit j hs
    simp only [bne_self_eq_false, cond_false, if_true, Int.toNat_natCast]
    refine store_goes h hI τ hs ht v hv ?_
    simp only [Option.bind_some, Nat.zero_add, (h.app τ).ld1']
    rw [if_pos (by omega)]
    simp only [Option.bind_some, Nat.zero_add, Int.toNat_natCast, Nat.mul_one]
  · have q : (c != 0) = true := by simpa using hc
    simp only [q, cond_true]
    exact Goes.same h τ rfl (by simp [hc])

/-- What pins are does not matter to the rest. -/
theorem Inv.pins (h : Inv m) (l : List (BitVec 64)) : Inv { m with pnw := l } := ⟨h.good, h.fit, h.apart, h.idn, h.plc, h.brt, h.onc⟩
theorem Inv.forwards (h : Inv m) (l : List (Int × Int)) : Inv { m with fw := l } := ⟨h.good, h.fit, h.apart, h.idn, h.plc, h.brt, h.onc⟩

theorem pin_goes (k : Nat) (h : HeapAt σ i m) (a : Int) (ha : inI a) (v : Nat) (hv : v < 2) : Goes (d_heap_Heap_pin (k + 10) (hptr i) a (v : Int) σ) σ i (pinR m a v) := by
  rw [d_heap_Heap_pin]
  simp only [object_to _ h a ha, Option.bind_some, toI_int]
  cases hh : hasM m a with
  | false => exact Goes.same h [] (code := 4) (by simp) (by simp [pinR, hh])
  | true =>
    obtain ⟨j, rfl, hs⟩ := hasM_spec hh
    have ej : ((2 * j : Nat) : Int).toNat / 2 = j := by omega
    unfold pinR
    rw [hh, ej]
    have ht := h.nt
    have hj := hs.1
    have t1 : ((2 * j : Nat) : Int).tdiv 2 = (j : Int) := by
      rw [show ((2 * j : Nat) : Int).tdiv 2 = (((2 * j) / 2 : Nat) : Int) from rfl]; omega
    have e1 : w64 (j : Int) = (j : Int) := w64_in (by unfold inI; omega)
    obtain ⟨τ, hset⟩ := Set_to k h.pn hj (show v < 2 ^ 1 by omega)
    simp only [if_true, bne_self_eq_false, cond_false, Nat.zero_add, h.ld3, Option.bind_some, t1, e1, show ((2 : Int) = 0) = False from by simp, if_false, hset, toI_int]
    exact ⟨_, rfl, (h.app τ).setPn j v, (Keeps.app i σ τ).trans (Keeps.set _ _ (by simp [HIds.l]))⟩

theorem Pin_goes (k : Nat) (h : HeapAt σ i m) (a : Int) (ha : inI a) : Goes (d_heap_Heap_Pin (k + 11) (hptr i) a σ) σ i (pinR m a 1) := by
  refine (pin_goes k h a ha 1 (by decide)).to fun σ' e => ?_
  rw [d_heap_Heap_Pin]
  simp only [show (1 : Int) = ((1 : Nat) : Int) from rfl, e, Option.bind_some, toI_int]

theorem Unpin_goes (k : Nat) (h : HeapAt σ i m) (a : Int) (ha : inI a) : Goes (d_heap_Heap_Unpin (k + 11) (hptr i) a σ) σ i (pinR m a 0) := by
  refine (pin_goes k h a ha 0 (by decide)).to fun σ' e => ?_
  rw [d_heap_Heap_Unpin]
  simp only [show (0 : Int) = ((0 : Nat) : Int) from rfl, e, Option.bind_some, toI_int]

theorem Forget_to (k : Nat) (h : HeapAt σ i m) : d_heap_Heap_Forget (k + 2) (hptr i) σ = some (.int .i64 ((m.fw.length : Nat) : Int), σ.set i.fw (.map [])) ∧ HeapAt (σ.set i.fw (.map [])) i { m with fw := [] } ∧ Keeps i σ (σ.set i.fw (.map [])) := by
  refine ⟨?_, h.setFw [], Keeps.set _ _ (by simp [HIds.l])⟩
  rw [d_heap_Heap_Forget]
  simp only [hmade_to _ h, Option.bind_some, toB_bool, Bool.not_true, cond_false, Nat.zero_add, h.ld5, ldMO, ldMap, h.fw, stMO]
  simp [mpRow]

theorem Word_to (k : Nat) (h : HeapAt σ i m) (a : Int) : d_heap_Heap_Word (k + 2) (hptr i) a σ = some (if 0 ≤ a ∧ a < (m.wds.length : Int) then .tuple #[.int .i64 (m.wds.getD a.toNat 0), .int .i64 0] else .tuple #[.int .i64 0, .int .i64 1], σ) := by
  rw [d_heap_Heap_Word]
  simp only [hmade_to _ h, Option.bind_some, toB_bool, Bool.not_true, cond_false]
  by_cases h0 : 0 ≤ a
  · simp only [show decide (a < 0) = false from by simp; omega, cond_false, Nat.zero_add, h.ld1', Option.bind_some]
    by_cases h1 : a < (m.wds.length : Int)
    · simp only [show decide (a ≥ ((m.wds.length : Nat) : Int)) = false from by simp; omega, cond_false, show (0 ≤ a ∧ a < (m.wds.length : Int)) from ⟨h0, h1⟩, and_self, if_true, Option.bind_some, Nat.zero_add, Nat.mul_one, h.ldW (show a.toNat < m.wds.length by omega)]
    · simp only [show decide (a ≥ ((m.wds.length : Nat) : Int)) = true from by simp; omega, cond_true, show ¬ (0 ≤ a ∧ a < (m.wds.length : Int)) from by omega, if_false]
  · simp only [show decide (a < 0) = true from by simp; omega, cond_true, Option.bind_some, show ¬ (0 ≤ a ∧ a < (m.wds.length : Int)) from by omega, if_false]

theorem Poke_goes (k : Nat) (hk : 5000 ≤ k) (h : HeapAt σ i m) (hI : Inv m) (a v : Int) (hv : inI v) : Goes (d_heap_Heap_Poke (k + 11) (hptr i) a v σ) σ i (pokeR m a v) := by
  have hw := h.wl
  have ht := h.nt
  rw [d_heap_Heap_Poke]
  simp only [Word_to _ h, Option.bind_some]
  by_cases h0 : 0 ≤ a ∧ a < (m.wds.length : Int)
  rotate_left
  · simp only [h0, if_false, r_ii_eq]
    exact Goes.same h [] (code := 1) (by simp) (by simp [pokeR, h0])
  obtain ⟨n, rfl⟩ : ∃ n : Nat, a = (n : Int) := ⟨a.toNat, by omega⟩
  obtain ⟨τ, hF⟩ := Find_to k hk h (n : Int)
  have hfi : findI m (n : Int) = findM m n := by unfold findI; rw [if_pos h0, Int.toNat_natCast]
  rw [hfi] at hF
  simp only [h0, and_self, if_true, r_ii_eq, bne_self_eq_false, cond_false, hF, Option.bind_some]
  unfold pokeR
  rw [if_pos h0, Int.toNat_natCast]
  cases hq : findM m n with
  | none =>
    simp only [r_ii_eq]
    exact Goes.same h τ (code := 4) (by simp) rfl
  | some j =>
    obtain ⟨hs, _, p2, p1⟩ := findM_spec hq
    obtain ⟨z1, z2, z3, z4, z5, z6⟩ := hI.size hs
    have hj := hs.1
    have e1 : w64 (((2 * j : Nat) : Int) + 1) = ((2 * j + 1 : Nat) : Int) := w64_in (by unfold inI; omega)
    have e2 : w64 (((2 * j : Nat) : Int) + 2) = ((2 * j + 2 : Nat) : Int) := w64_in (by unfold inI; omega)
    have e3 : w64 (((2 * j + 2 : Nat) : Int) + refsAt m j) = ((2 * j + 2 : Nat) : Int) + refsAt m j := w64_in (by unfold inI; omega)
    have e4 : w64 (((2 * j + 2 : Nat) : Int) + refsAt m j + dataAt m j) = ((2 * j + 2 : Nat) : Int) + refsAt m j + dataAt m j := w64_in (by unfold inI; omega)
    obtain ⟨τ1, hsh⟩ := shape_to (k + 9) (m.wds.getD (2 * j + 1) 0) (h.wi _) (σ ++ τ)
    have hst : ∀ (μ : AMem) (x y z : Value) (u v w : Value) T, stN (μ ++ [.cells [x, y, z] T true]) μ.length 0 [u, v, w] = some (μ ++ [.cells [u, v, w] T true]) := by
      intro μ x y z u v w T; simp [stN, setRange]
    have q1 : (0 ≤ ((2 * j + 1 : Nat) : Int) ∧ ((2 * j + 1 : Nat) : Int) < ((m.wds.length : Nat) : Int)) = True := eq_true (by omega)
    simp only [r_ii_eq, bne_self_eq_false, cond_false, Nat.zero_add, (h.app τ).ld1', e1, Option.bind_some, q1, if_true, Int.toNat_natCast, Nat.mul_one, (h.app τ).ldW (show 2 * j + 1 < m.wds.length by omega), hsh, a_iii_eq, allocK, hst, e2]
    rw [show ((m.wds.getD (2 * j + 1) 0).tmod 4096).tdiv 16 = dataAt m j from rfl, show (m.wds.getD (2 * j + 1) 0).tmod 16 = refsAt m j from rfl]
    generalize hμ : (σ ++ τ ++ τ1 ++ [AObj.cells [Value.int .i64 (refsAt m j), .int .i64 (dataAt m j), .int .i64 ((m.wds.getD (2 * j + 1) 0).tdiv 4096)] 23 true]) = μ
    obtain ⟨τ2, hμ'⟩ : ∃ τ2, μ = σ ++ τ2 := ⟨τ ++ (τ1 ++ [AObj.cells [Value.int .i64 (refsAt m j), .int .i64 (dataAt m j), .int .i64 ((m.wds.getD (2 * j + 1) 0).tdiv 4096)] 23 true]), by rw [← hμ]; simp⟩
    have l0 : ldI .i64 μ (σ ++ τ ++ τ1).length 0 = some (refsAt m j) := by rw [← hμ, ldI_new]; simp [toI]
    have l1 : ldI .i64 μ (σ ++ τ ++ τ1).length 1 = some (dataAt m j) := by rw [← hμ, ldI_new]; simp [toI]
    simp only [l0, l1, Option.bind_some, e3, e4]
    by_cases c1 : n < 2 * j + 2
    · simp only [show decide ((n : Int) < ((2 * j + 2 : Nat) : Int)) = true from by simp; omega, cond_true, Option.bind_some]
      exact Goes.same h τ2 (code := 4) (by rw [hμ']) (if_neg (by omega))
    · simp only [show decide ((n : Int) < ((2 * j + 2 : Nat) : Int)) = false from by simp; omega, cond_false, Option.bind_some]
      by_cases c2 : (n : Int) ≥ ((2 * j + 2 : Nat) : Int) + refsAt m j + dataAt m j
      · simp only [show decide ((n : Int) ≥ ((2 * j + 2 : Nat) : Int) + refsAt m j + dataAt m j) = true from decide_eq_true c2, cond_true]
        exact Goes.same h τ2 (code := 4) (by rw [hμ']) (if_neg (by omega))
      · simp only [show decide ((n : Int) ≥ ((2 * j + 2 : Nat) : Int) + refsAt m j + dataAt m j) = false from decide_eq_false c2, cond_false]
        obtain ⟨t, rfl⟩ : ∃ t, n = 2 * j + 2 + t := ⟨n - (2 * j + 2), by omega⟩
        rw [if_pos (by omega)]
        refine store_goes h hI τ2 hs (show 2 + t < sz m j by omega) v hv ?_
        rw [hμ']
        simp only [(h.app τ2).ld1', Option.bind_some, Nat.zero_add]
        rw [if_pos ⟨trivial, by omega⟩]

end Go.Proofs.Ytdlihdgoobcoaaa
