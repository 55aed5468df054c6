/-
  Claim, ClaimLarge.
-/
import Derived.Test.YtdlihdgoobcoaaaCC
set_option linter.unusedVariables false
set_option linter.unusedSimpArgs false
namespace Go.Proofs.Ytdlihdgoobcoaaa
open Go Go.AX
noncomputable local instance : Quiet := fullQuiet
variable {σ : AMem} {i : HIds} {m : HM}

theorem eqA_blk (x y : Int) : eqA P ty_heap_block (.agg #[.int .i64 x, .int .i64 y]) (.agg #[.int .i64 0, .int .i64 0]) = (bif x == 0 then some (y == 0) else some false) := by kernel_rfl

theorem claim_c1_to (k : Nat) (x y : Int) (σ : AMem) : ∃ τ, d_heap_Heap_claim_c1 (k + 1) x y σ = some (.bool (!(bif x == 0 then y == 0 else false)), σ ++ τ) := by
  rw [d_heap_Heap_claim_c1]
  simp only [allocK, ldI_new, Nat.zero_add, List.getElem?_cons_zero, List.getElem?_cons_succ, Option.bind_some, toI_int]
  rw [eqA_blk]
  cases x == 0 <;> exact ⟨_, rfl⟩

/-- The first of n blocks that is not free. -/
def usedM (l : List (Int × Int)) (b : Nat) : Nat → Nat → Option Nat
  | 0, _ => none
  | n + 1, x => if (l.getD (b + x) (0, 0)).1 = 0 ∧ (l.getD (b + x) (0, 0)).2 = 0 then usedM l b n (x + 1) else some x

theorem Index_l0_to (k : Nat) {b c : Nat} (c2 : Nat) (v : Value) (hv : ∀ x y σ, ∃ τ, d_callV_ii_t k v [.agg #[.int .i64 x, .int .i64 y]] σ = some (.bool (!(bif x == 0 then y == 0 else false)), σ ++ τ)) : ∀ (n x f : Nat) (σ : AMem), HeapAt σ i m → b + c ≤ m.bls.length → x + n = c → n < f →
    ∃ τ, d_slices_IndexFunc_heap_block_l0 k f (some ⟨i.bl, b * 2, none⟩) c c2 v (c : Int) (x : Int) σ = some (match usedM m.bls b n x with | some x' => (.ret, [.int .i64 (x' : Int)], σ ++ τ) | none => (.exit 0, [], σ ++ τ))
  | 0, x, 0, σ, h, hb, hx, hf => by omega
  | 0, x, f + 1, σ, h, hb, hx, hf => by
    rw [d_slices_IndexFunc_heap_block_l0]
    have q : decide ((x : Int) < (c : Int)) = false := decide_eq_false (by omega)
    exact ⟨[], by simp only [q, cond_false, usedM, List.append_nil]⟩
  | n + 1, x, 0, σ, h, hb, hx, hf => by omega
  | n + 1, x, f + 1, σ, h, hb, hx, hf => by
    have ht := h.nt
    have q : decide ((x : Int) < (c : Int)) = true := decide_eq_true (by omega)
    have hbx : b + x < m.bls.length := by omega
    obtain ⟨l1, l2⟩ := h.ldB hbx
    have a1 : ldI .i64 σ i.bl (b * 2 + x * 2) = some (m.bls.getD (b + x) (0, 0)).1 := by rw [← l1]; congr 1; omega
    have a2 : ldI .i64 σ i.bl (b * 2 + x * 2 + 1) = some (m.bls.getD (b + x) (0, 0)).2 := by rw [← l2]; congr 1; omega
    obtain ⟨τ, hcall⟩ := hv (m.bls.getD (b + x) (0, 0)).1 (m.bls.getD (b + x) (0, 0)).2 σ
    have w1 : w64 ((x : Int) + 1) = ((x + 1 : Nat) : Int) := w64_in (by unfold inI; omega)
    obtain ⟨τ2, ih⟩ := Index_l0_to k c2 v hv n (x + 1) f (σ ++ τ) (h.app τ) hb (by omega) (by omega)
    rw [d_slices_IndexFunc_heap_block_l0]
    simp only [q, cond_true]
    rw [if_pos (by omega)]
    simp only [Option.bind_some, Int.toNat_natCast, a1, a2, hcall, toB_bool, w1]
    rw [usedM]
    by_cases g1 : (m.bls.getD (b + x) (0, 0)).1 = 0
    · by_cases g2 : (m.bls.getD (b + x) (0, 0)).2 = 0
      · rw [if_pos ⟨g1, g2⟩]
        simp only [g1, g2, BEq.rfl, cond_true, Bool.not_true, cond_false]
        refine ⟨τ ++ τ2, ?_⟩
        rw [ih, List.append_assoc]
      · rw [if_neg (fun hh => g2 hh.2)]
        have p2 : ((m.bls.getD (b + x) (0, 0)).2 == 0) = false := by simpa using g2
        simp only [g1, BEq.rfl, cond_true, p2, Bool.not_false]
        exact ⟨τ, rfl⟩
    · rw [if_neg (fun hh => g1 hh.1)]
      have p1 : ((m.bls.getD (b + x) (0, 0)).1 == 0) = false := by simpa using g1
      simp only [p1, cond_false, Bool.not_false, cond_true]
      exact ⟨τ, rfl⟩

/-- Blocks from one on, claimed. -/
def clM (l : List (Int × Int)) (b : Nat) (e : Int × Int) : Nat → Nat → List (Int × Int)
  | 0, _ => l
  | n + 1, x => clM (l.set (b + x) e) b e n (x + 1)
theorem clM_length (b : Nat) (e : Int × Int) : ∀ (n x : Nat) (l : List (Int × Int)), (clM l b e n x).length = l.length
  | 0, x, l => rfl
  | n + 1, x, l => by rw [clM, clM_length b e n]; simp

theorem claim_l0_to (k : Nat) {b c : Nat} (e : Int × Int) (hb3 : Nat) : ∀ (n x f : Nat) (σ : AMem) (m : HM), HeapAt σ i m → hb3 ∉ i.l → (∃ T, σ[hb3]? = some (.cells [.int .i64 e.1, .int .i64 e.2] T true)) → b + c ≤ m.bls.length → x + n = c → n < f →
    ∃ σ', d_heap_Heap_claim_l0 k f (hptr i) (b : Int) hb3 (c : Int) (x : Int) σ = some (.exit 1, [], σ') ∧ HeapAt σ' i { m with bls := clM m.bls b e n x } ∧ Keeps i σ σ'
  | 0, x, 0, σ, m, h, hn, hbox, hb, hx, hf => by omega
  | 0, x, f + 1, σ, m, h, hn, hbox, hb, hx, hf => by
    rw [d_heap_Heap_claim_l0]
    have q : decide ((x : Int) < (c : Int)) = false := decide_eq_false (by omega)
    exact ⟨σ, by simp only [q, cond_false], h, Keeps.refl _ _⟩
  | n + 1, x, 0, σ, m, h, hn, hbox, hb, hx, hf => by omega
  | n + 1, x, f + 1, σ, m, h, hn, hbox, hb, hx, hf => by
    have ht := h.nt
    obtain ⟨T, hbox⟩ := hbox
    have q : decide ((x : Int) < (c : Int)) = true := decide_eq_true (by omega)
    obtain ⟨e1, h1⟩ := h.stB (b := b + x) (by omega) e.1 e.2
    have k1 : Keeps i σ (σ.set i.bl (.cells (blRow (m.bls.set (b + x) (e.1, e.2))) el_heap_Heap_blocks true)) := Keeps.set _ _ (by simp [HIds.l])
    obtain ⟨σ', e2, h2, k2⟩ := claim_l0_to k e hb3 n (x + 1) f _ _ h1 hn ⟨T, (k1.same _ (getElem?_lt hbox) hn).trans hbox⟩ (by show b + c ≤ (m.bls.set _ _).length; rw [List.length_set]; omega) (by omega) (by omega)
    refine ⟨σ', ?_, h2, k1.trans k2⟩
    have w1 : w64 ((x : Int) + 1) = ((x + 1 : Nat) : Int) := w64_in (by unfold inI; omega)
    have w2 : w64 ((b : Int) + (x : Int)) = ((b + x : Nat) : Int) := w64_in (by unfold inI; omega)
    have l0 : ldI .i64 σ hb3 0 = some e.1 := by simp [ldI, ld1, hbox, toI]
    have l1 : ldI .i64 σ hb3 1 = some e.2 := by simp [ldI, ld1, hbox, toI]
    rw [d_heap_Heap_claim_l0]
    simp only [q, cond_true, Option.bind_some, Nat.add_zero, Nat.zero_add, h.ld0, l0, l1, w1, w2]
    rw [if_pos (by omega)]
    simp only [Option.bind_some, Int.toNat_natCast, e1]
    exact e2

theorem slice_blocks (h : HeapAt σ i m) {a b : Nat} (hab : a < b) (hb : b ≤ m.bls.length) :
    sliceD ty_heap_block 2 (some ⟨i.bl, 0, none⟩, m.bls.length, m.bls.length) (some (.int .i64 (a : Int))) (some (.int .i64 (b : Int))) none σ = some (some ⟨i.bl, a * 2, none⟩, b - a, m.bls.length - a) := by
  have e1 : elemAt σ i.bl = some ty_heap_block := by simp only [elemAt, h.bl]
  have c1 : (0 ≤ (b : Int) ∧ (b : Int) ≤ ((m.bls.length : Nat) : Int)) := by omega
  have c2 : (0 ≤ (a : Int) ∧ (a : Int) ≤ ((b : Nat) : Int)) := by omega
  simp only [sliceD, Option.isSome_none, Bool.not_false, Bool.true_or, cond_true, bound, Int.toNat_natCast]
  rw [if_pos c1, if_pos c2, if_neg (by omega)]
  simp [e1]

def claimR (m : HM) (b c x y x' y' : Int) : Int × HM :=
  if 1 ≤ b ∧ b < (m.bls.length : Int) ∧ 1 ≤ c ∧ c ≤ (m.bls.length : Int) - b ∧ okSp y = true then
    (if usedM m.bls b.toNat c.toNat 0 = none then (0, { m with bls := (clM m.bls b.toNat (x', y') c.toNat 0).set b.toNat (x, y) }) else (8, m)) else (1, m)

theorem claim_goes (k : Nat) (hk : 5000 ≤ k) (h : HeapAt σ i m) (b c x y x' y' : Int) (hb : inI b) (hc : inI c) : Goes (d_heap_Heap_claim (k + 6) (hptr i) b c x y x' y' σ) σ i (claimR m b c x y x' y') := by
  unfold claimR
  have ht := h.nt
  have hnb := h.nb
  rw [d_heap_Heap_claim]
  simp only [allocK]
  obtain ⟨μ0, hμ0⟩ : ∃ μ0, σ ++ [AObj.cells [Value.int .i64 x, .int .i64 y] ty_heap_block true] = μ0 := ⟨_, rfl⟩
  rw [hμ0]
  obtain ⟨μ1, hμ1⟩ : ∃ μ1, μ0 ++ [AObj.cells [Value.int .i64 x', .int .i64 y'] ty_heap_block true] = μ1 := ⟨_, rfl⟩
  rw [hμ1]
  have hE : μ1 = σ ++ [AObj.cells [Value.int .i64 x, .int .i64 y] ty_heap_block true, AObj.cells [Value.int .i64 x', .int .i64 y'] ty_heap_block true] := by rw [← hμ1, ← hμ0]; simp
  have h1 : HeapAt μ1 i m := by rw [hE]; exact h.app _
  have k1 : Keeps i σ μ1 := by rw [hE]; exact Keeps.app i σ _
  have hl0 : μ0.length = σ.length + 1 := by rw [← hμ0]; simp
  have hx0 : μ1[σ.length]? = some (AObj.cells [Value.int .i64 x, .int .i64 y] ty_heap_block true) := by rw [hE]; simp
  have hx1 : μ1[μ0.length]? = some (AObj.cells [Value.int .i64 x', .int .i64 y'] ty_heap_block true) := by rw [← hμ1]; simp
  have hn0 : σ.length ∉ i.l := fun hm => Nat.lt_irrefl _ (h.lt _ hm)
  have hn1 : μ0.length ∉ i.l := fun hm => by have := h.lt _ hm; omega
  have ly : ldI .i64 μ1 σ.length 1 = some y := by simp [ldI, ld1, hx0, toI]
  have fail : ∀ {r}, r = ((1 : Int), m) → Goes (some (Value.int .i64 1, μ1)) σ i r := fun hr => Goes.same h [AObj.cells [Value.int .i64 x, .int .i64 y] ty_heap_block true, AObj.cells [Value.int .i64 x', .int .i64 y'] ty_heap_block true] (by rw [hE]) hr
  simp only [hmade_to _ h1, there_h _ h1, Option.bind_some, toB_bool, Bool.not_true, cond_false, Nat.zero_add, Nat.add_zero, h1.ld0, ly]
  by_cases g0 : 1 ≤ b ∧ b < (m.bls.length : Int)
  rotate_left
  · simp only [decide_eq_false g0, Bool.not_false, cond_true, Option.bind_some]
    exact fail (if_neg (by omega))
  obtain ⟨n, rfl⟩ : ∃ n : Nat, b = (n : Int) := ⟨b.toNat, by omega⟩
  simp only [decide_eq_true g0, Bool.not_true, cond_false, Option.bind_some]
  by_cases g1 : c < 1
  · simp only [decide_eq_true g1, cond_true, Option.bind_some]
    exact fail (if_neg (by omega))
  have e1 : w64 (((m.bls.length : Nat) : Int) - (n : Int)) = ((m.bls.length - n : Nat) : Int) := by rw [w64_in (by unfold inI; omega)]; omega
  simp only [decide_eq_false g1, cond_false, Option.bind_some, h1.ld0, e1]
  by_cases g2 : c > ((m.bls.length - n : Nat) : Int)
  · simp only [decide_eq_true g2, cond_true, Option.bind_some]
    exact fail (if_neg (by omega))
  obtain ⟨w, rfl⟩ : ∃ w : Nat, c = (w : Int) := ⟨c.toNat, by omega⟩
  have hsp := space_to (k + 4) y μ1
  generalize okSp y = ok at hsp ⊢
  simp only [decide_eq_false g2, cond_false, Option.bind_some, ly, hsp, toB_bool]
  cases ok with
  | false =>
    simp only [Bool.not_false, cond_true]
    exact fail (if_neg (by simp))
  | true =>
    rw [if_pos ⟨g0.1, g0.2, by omega, by omega, rfl⟩, Int.toNat_natCast, Int.toNat_natCast]
    have e2 : w64 ((n : Int) + (w : Int)) = ((n + w : Nat) : Int) := w64_in (by unfold inI; omega)
    have hw : n + w ≤ m.bls.length := by omega
    simp only [Bool.not_true, cond_false, h1.ld0, e2, slice_blocks h1 (show n < n + w by omega) hw, Option.bind_some, Nat.add_sub_cancel_left]
    rw [d_slices_ContainsFunc_heap_block, d_slices_IndexFunc_heap_block]
    have hv : ∀ x y σ, ∃ τ, d_callV_ii_t (k + 3) (.func (.func 93) #[] #[]) [.agg #[.int .i64 x, .int .i64 y]] σ = some (.bool (!(bif x == 0 then y == 0 else false)), σ ++ τ) := by
      intro x y σ
      exact claim_c1_to (k + 2) x y σ
    obtain ⟨τ, hidx⟩ := Index_l0_to (k + 3) (b := n) (c := w) (m.bls.length - n) (.func (.func 93) #[] #[]) hv w 0 (k + 3) μ1 h1 hw (by omega) (by omega)
    rw [show ((0 : Nat) : Int) = 0 from rfl] at hidx
    cases hu : usedM m.bls n w 0 with
    | some x0 =>
      rw [hu] at hidx
      simp only [hidx, Option.bind_some, if_true, u_i_eq, toI_int, toB_bool, reduceCtorEq, if_false]
      have q : decide ((x0 : Int) ≥ 0) = true := decide_eq_true (by omega)
      simp only [q, cond_true]
      exact Goes.same h ([AObj.cells [Value.int .i64 x, .int .i64 y] ty_heap_block true, AObj.cells [Value.int .i64 x', .int .i64 y'] ty_heap_block true] ++ τ) (code := 8) (by rw [hE, List.append_assoc]) rfl
    | none =>
      rw [hu] at hidx
      have q : decide ((-1 : Int) ≥ 0) = false := by decide
      simp only [hidx, Option.bind_some, if_true, toI_int, toB_bool, q, cond_false]
      have h2 := h1.app τ
      have k2 : Keeps i μ1 (μ1 ++ τ) := Keeps.app i μ1 τ
      have hy1 := (k2.same _ (getElem?_lt hx1) hn1).trans hx1
      obtain ⟨σ3, e3, h3, k3⟩ := claim_l0_to (k + 5) (b := n) (c := w) (x', y') μ0.length w 0 (k + 5) (μ1 ++ τ) m h2 hn1 ⟨_, hy1⟩ hw (by omega) (by omega)
      rw [show ((0 : Nat) : Int) = 0 from rfl] at e3
      have hy0 := (k3.same _ (getElem?_lt ((k2.same _ (getElem?_lt hx0) hn0).trans hx0)) hn0).trans ((k2.same _ (getElem?_lt hx0) hn0).trans hx0)
      have l0 : ldI .i64 σ3 σ.length 0 = some x := by simp [ldI, ld1, hy0, toI]
      have l1 : ldI .i64 σ3 σ.length 1 = some y := by simp [ldI, ld1, hy0, toI]
      have hlen : (clM m.bls n (x', y') w 0).length = m.bls.length := clM_length _ _ _ _ _
      obtain ⟨e4, h4⟩ := h3.stB (b := n) (by show n < (clM _ _ _ _ _).length; omega) x y
      simp only [e3, Option.bind_some, if_true, h3.ld0, l0, l1]
      rw [if_pos (by show 0 ≤ (n : Int) ∧ (n : Int) < (((clM m.bls n (x', y') w 0).length : Nat) : Int); omega)]
      simp only [Option.bind_some, Nat.zero_add, Int.toNat_natCast, e4]
      exact ⟨_, rfl, h4, ((k1.trans k2).trans k3).trans (Keeps.set _ _ (by simp [HIds.l]))⟩

theorem Claim_goes (k : Nat) (hk : 5000 ≤ k) (h : HeapAt σ i m) (b s : Int) (hb : inI b) : Goes (d_heap_Heap_Claim (k + 7) (hptr i) b s σ) σ i (claimR m b 1 1 s 0 0) := by
  refine (claim_goes k hk h b 1 1 s 0 0 hb (by unfold inI; decide)).to fun σ' e => ?_
  rw [d_heap_Heap_Claim, e]
  simp only [Option.bind_some, toI_int]
theorem ClaimLarge_goes (k : Nat) (hk : 5000 ≤ k) (h : HeapAt σ i m) (b c s : Int) (hb : inI b) (hc : inI c) : Goes (d_heap_Heap_ClaimLarge (k + 7) (hptr i) b c s σ) σ i (claimR m b c 2 s 3 s) := by
  refine (claim_goes k hk h b c 2 s 3 s hb hc).to fun σ' e => ?_
  rw [d_heap_Heap_ClaimLarge, e]
  simp only [Option.bind_some, toI_int]

end Go.Proofs.Ytdlihdgoobcoaaa
