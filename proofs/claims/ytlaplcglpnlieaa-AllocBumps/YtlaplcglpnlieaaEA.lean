/-
  The allocator in memory; a new block; an area.
-/
import Derived.Test.YtlaplcglpnlieaaCS
set_option linter.unusedVariables false
set_option linter.unusedSimpArgs false
namespace Go.Proofs.Ytlaplcglpnlieaa
open Go Go.AX
noncomputable local instance qEA : Quiet := fullQuiet
local instance nEA : Kn := ⟨true⟩
variable {σ : AMem} {i : HIds} {m : HM}

/-- An allocator: space, policy, cursor, limit, and those for overflow. -/
structure AS where
  s : Int
  p : Int
  c : Int
  l : Int
  oc : Int
  ol : Int
def AS.row (a : AS) (hb : Nat) : List Value := [.pointer (some ⟨hb, 0, none⟩), .int .i64 a.s, .int .i64 a.p, .int .i64 a.c, .int .i64 a.l, .int .i64 a.oc, .int .i64 a.ol]
def AlAt (σ : AMem) (ab : Nat) (i : HIds) (a : AS) : Prop := σ[ab]? = some (.cells (a.row i.hb) ty_alloc_Allocator true)
structure AS.ok (a : AS) : Prop where
  s0 : 0 ≤ a.s ∧ a.s < 8
  p0 : 0 ≤ a.p ∧ a.p < 5
  c0 : 0 ≤ a.c ∧ a.c ≤ 10000
  l0 : 0 ≤ a.l ∧ a.l ≤ 10000
  oc0 : 0 ≤ a.oc ∧ a.oc ≤ 10000
  ol0 : 0 ≤ a.ol ∧ a.ol ≤ 10000
abbrev aptr (ab : Nat) : Option Addr := some ⟨ab, 0, none⟩

variable {ab : Nat} {a : AS}
theorem AlAt.ldH (h : AlAt σ ab i a) : ldP σ ab 0 = some (hptr i) := by unfold AlAt AS.row at h; simp [ldP, ld1, h, toP]
theorem AlAt.l1 (h : AlAt σ ab i a) : ldI .i64 σ ab 1 = some a.s := by unfold AlAt AS.row at h; simp [ldI, ld1, h, toI]
theorem AlAt.l2 (h : AlAt σ ab i a) : ldI .i64 σ ab 2 = some a.p := by unfold AlAt AS.row at h; simp [ldI, ld1, h, toI]
theorem AlAt.l3 (h : AlAt σ ab i a) : ldI .i64 σ ab 3 = some a.c := by unfold AlAt AS.row at h; simp [ldI, ld1, h, toI]
theorem AlAt.l4 (h : AlAt σ ab i a) : ldI .i64 σ ab 4 = some a.l := by unfold AlAt AS.row at h; simp [ldI, ld1, h, toI]
theorem AlAt.l5 (h : AlAt σ ab i a) : ldI .i64 σ ab 5 = some a.oc := by unfold AlAt AS.row at h; simp [ldI, ld1, h, toI]
theorem AlAt.l6 (h : AlAt σ ab i a) : ldI .i64 σ ab 6 = some a.ol := by unfold AlAt AS.row at h; simp [ldI, ld1, h, toI]
theorem AlAt.lt (h : AlAt σ ab i a) : ab < σ.length := getElem?_lt h
theorem AlAt.like {σ' : AMem} (h : AlAt σ ab i a) (hs : σ'[ab]? = σ[ab]?) : AlAt σ' ab i a := by unfold AlAt; rw [hs]; exact h
theorem AlAt.app (h : AlAt σ ab i a) (τ : AMem) : AlAt (σ ++ τ) ab i a := h.like (List.getElem?_append_left h.lt)
theorem AlAt.keep {σ' : AMem} (h : AlAt σ ab i a) (k : Keeps i σ σ') (hab : ab ∉ i.l) : AlAt σ' ab i a := h.like (k.same ab h.lt hab)
theorem AlAt.put (h : AlAt σ ab i a) (a' : AS) : AlAt (σ.set ab (.cells (a'.row i.hb) ty_alloc_Allocator true)) ab i a' := by
  unfold AlAt; rw [List.getElem?_set_self h.lt]

theorem AlAt.st (h : AlAt σ ab i a) (o : Nat) (vs : List Value) (a' : AS) (hv : setRange (a.row i.hb) o vs = a'.row i.hb) (hl : o + vs.length ≤ 7) : stN σ ab o vs = some (σ.set ab (.cells (a'.row i.hb) ty_alloc_Allocator true)) := by
  have h' := h
  unfold AlAt at h'
  simp only [stN, h']
  rw [if_pos (by simpa [AS.row] using hl), hv]
theorem AlAt.st1 (h : AlAt σ ab i a) (o : Nat) (v : Value) (a' : AS) (hv : (a.row i.hb).set o v = a'.row i.hb) (hl : o < 7) : AX.st1 σ ab o v = some (σ.set ab (.cells (a'.row i.hb) ty_alloc_Allocator true)) := by
  have h' := h
  unfold AlAt at h'
  simp only [AX.st1, h']
  rw [if_pos (by simpa [AS.row] using hl), hv]

/-- Nothing has turned but the parts of a heap, and one object. -/
structure KeepA (i : HIds) (ab : Nat) (σ σ' : AMem) : Prop where
  len : σ.length ≤ σ'.length
  same : ∀ j, j < σ.length → j ∉ i.l → j ≠ ab → σ'[j]? = σ[j]?
theorem KeepA.of {σ' : AMem} (h : Keeps i σ σ') : KeepA i ab σ σ' := ⟨h.len, fun j h1 h2 _ => h.same j h1 h2⟩
theorem KeepA.trans {x y z : AMem} (h : KeepA i ab x y) (g : KeepA i ab y z) : KeepA i ab x z :=
  ⟨Nat.le_trans h.len g.len, fun j h1 h2 h3 => (g.same j (Nat.lt_of_lt_of_le h1 h.len) h2 h3).trans (h.same j h1 h2 h3)⟩
theorem KeepA.app (σ τ : AMem) : KeepA i ab σ (σ ++ τ) := .of (Keeps.app i σ τ)
theorem KeepA.set (σ : AMem) (o : AObj) : KeepA i ab σ (σ.set ab o) := ⟨by simp, fun j _ _ h => List.getElem?_set_ne fun e => h e.symm⟩
theorem KeepA.refl (σ : AMem) : KeepA i ab σ σ := .of (Keeps.refl i σ)
theorem HeapAt.setA (h : HeapAt σ i m) (hab : ab ∉ i.l) (o : AObj) : HeapAt (σ.set ab o) i m := h.like fun j hj => List.getElem?_set_ne fun e => hab (by rw [e]; exact hj)

theorem eqAl (x : Addr) : eqA P pt_alloc_Allocator (.pointer (some x)) (.pointer none) = some false := by kernel_rfl
theorem eqHp (x : Addr) : eqA P pt_heap_Heap (.pointer (some x)) (.pointer none) = some false := by kernel_rfl

theorem amade_to (k : Nat) (hA : AlAt σ ab i a) : d_alloc_Allocator_made (k + 1) (aptr ab) σ = some (.bool true, σ) := by
  rw [d_alloc_Allocator_made_eq, b_alloc_Allocator_made]
  simp only [eqAl, Option.bind_some, Bool.not_false, cond_true, Nat.zero_add, Nat.add_zero, hA.ldH, eqHp]

/-! A new block -/

def free1 (m : HM) : Nat → Nat → Option Nat
  | 0, _ => none
  | n + 1, x => if (m.bls.getD x (0, 0)).1 = 0 ∧ (m.bls.getD x (0, 0)).2 = 0 then some x else free1 m n (x + 1)
def freeB (m : HM) : Option Nat := free1 m (m.bls.length - 1) 1
def claim1 (m : HM) (b : Nat) (s : Int) : HM := (claimR m (b : Int) 1 1 s 0 0).2

theorem claim_one (m : HM) {x : Nat} {s : Int} (h1 : 1 ≤ x) (hx : x < m.bls.length) (hs : 0 ≤ s ∧ s < 8) :
    claimR m (x : Int) 1 1 s 0 0 = if (m.bls.getD x (0, 0)).1 = 0 ∧ (m.bls.getD x (0, 0)).2 = 0 then (0, claim1 m x s) else (8, m) := by
  have e : (1 ≤ (x : Int) ∧ (x : Int) < (m.bls.length : Int) ∧ (1 : Int) ≤ 1 ∧ (1 : Int) ≤ (m.bls.length : Int) - (x : Int) ∧ okSp s = true) := ⟨by omega, by omega, by omega, by omega, by unfold okSp; simpa using hs⟩
  have u : usedM m.bls x 1 0 = if (m.bls.getD x (0, 0)).1 = 0 ∧ (m.bls.getD x (0, 0)).2 = 0 then none else some 0 := by
    simp only [usedM, Nat.add_zero]
  unfold claim1 claimR
  rw [if_pos e, Int.toNat_natCast, show (1 : Int).toNat = 1 from rfl, u]
  by_cases hf : (m.bls.getD x (0, 0)).1 = 0 ∧ (m.bls.getD x (0, 0)).2 = 0
  · simp only [hf, and_self, if_true]
  · simp only [hf, if_false]; simp

theorem free1_spec {n x b : Nat} (h : free1 m n x = some b) : x ≤ b ∧ b < x + n ∧ (m.bls.getD b (0, 0)).1 = 0 ∧ (m.bls.getD b (0, 0)).2 = 0 := by
  induction n generalizing x with
  | zero => cases h
  | succ n ih =>
    unfold free1 at h
    split at h
    · cases h; omega
    · have := ih h; omega

def area2 (x y : Int) : AObj := .cells [.int .i64 x, .int .i64 y] ty_alloc_area true

theorem begin_l0_to (k : Nat) (hk : 5000 ≤ k) (hab : ab ∉ i.l) (hs : 0 ≤ a.s ∧ a.s < 8) {h1 : Nat} (hh1 : h1 ∉ i.l) (hha : h1 ≠ ab) : ∀ (n x f : Nat) (σ : AMem), HeapAt σ i m → AlAt σ ab i a → σ[h1]? = some (area2 0 0) → 1 ≤ x → x + n = m.bls.length → n < f →
    ∃ σ', d_alloc_Allocator_begin_l0 (k + 8) f (aptr ab) h1 (x : Int) σ = some (match free1 m n x with | some b => (.ret, [.bool true], σ') | none => (.exit 0, [], σ')) ∧ HeapAt σ' i (match free1 m n x with | some b => claim1 m b a.s | none => m) ∧
      σ'[h1]? = some (match free1 m n x with | some b => area2 (64 * (b : Int)) (64 * (b : Int) + 64) | none => area2 0 0) ∧ σ.length ≤ σ'.length ∧ ∀ q, q < σ.length → q ∉ i.l → q ≠ h1 → σ'[q]? = σ[q]?
  | n, x, 0, σ, h, hA, hc, hx, hn, hf => by omega
  | 0, x, f + 1, σ, h, hA, hc, hx, hn, hf => by
    rw [d_alloc_Allocator_begin_l0_eq, b_alloc_Allocator_begin_l0]
    refine ⟨σ, ?_, h, hc, Nat.le_refl _, fun _ _ _ _ => rfl⟩
    simp only [Option.bind_some, Nat.add_zero, hA.ldH, Blocks_to (k + 6) h, toI_int, decide_eq_false (show ¬ (x : Int) < ((m.bls.length : Nat) : Int) by omega), cond_false, free1]
  | n + 1, x, f + 1, σ, h, hA, hc, hx, hn, hf => by
    have hnt := h.nt
    obtain ⟨σ1, e1, g1, k1⟩ := Claim_goes (k + 1) (by omega) h (x : Int) a.s (by unfold inI; omega)
    have hA1 := hA.keep k1 hab
    rw [claim_one m hx (by omega) hs] at e1 g1
    have hc1 := (k1.same h1 (getElem?_lt hc) hh1).trans hc
    have w1 : w64 ((x : Int) + 1) = ((x + 1 : Nat) : Int) := w64_in (by unfold inI; omega)
    have w2 : w64 ((x : Int) * 64) = 64 * (x : Int) := by rw [w64_in (by unfold inI; omega)]; omega
    have w3 : w64 (((x + 1 : Nat) : Int) * 64) = 64 * (x : Int) + 64 := by rw [w64_in (by unfold inI; omega)]; omega
    rw [d_alloc_Allocator_begin_l0_eq, b_alloc_Allocator_begin_l0]
    simp only [Option.bind_some, Nat.add_zero, hA.ldH, Blocks_to (k + 6) h, toI_int, decide_eq_true (show (x : Int) < ((m.bls.length : Nat) : Int) by omega), cond_true, Nat.zero_add, hA.l1, e1, free1]
    by_cases hfr : (m.bls.getD x (0, 0)).1 = 0 ∧ (m.bls.getD x (0, 0)).2 = 0
    · simp only [hfr, and_self, if_true] at g1 ⊢
      refine ⟨σ1.set h1 (area2 (64 * (x : Int)) (64 * (x : Int) + 64)), ?_, g1.like fun j hj => List.getElem?_set_ne fun e => hh1 (by rw [e]; exact hj), by rw [List.getElem?_set_self (getElem?_lt hc1)], by simpa using k1.len, fun q hq h2 h3 => by rw [List.getElem?_set_ne (fun e => h3 e.symm)]; exact k1.same q hq h2⟩
      simp only [beq_self_eq_true, cond_true, w1, w2, w3, stN, hc1, area2]
      rfl
    · simp only [hfr, if_false] at g1 ⊢
      obtain ⟨σ2, e2, g2, c2, l2, s2⟩ := begin_l0_to k hk hab hs hh1 hha n (x + 1) f σ1 g1 hA1 hc1 (by omega) (by omega) (by omega)
      refine ⟨σ2, ?_, g2, c2, Nat.le_trans k1.len l2, fun q hq h2 h3 => by rw [s2 q (Nat.lt_of_lt_of_le hq k1.len) h2 h3]; exact k1.same q hq h2⟩
      simp only [show ((8 : Int) == 0) = false from rfl, cond_false, w1, e2]

/-- A new block: its beginning, its end; whether there is one; the heap then. -/
def begV (m : HM) : Int × Int × Bool := match freeB m with | some b => (64 * (b : Int), 64 * (b : Int) + 64, true) | none => (0, 0, false)
def begM (m : HM) (s : Int) : HM := match freeB m with | some b => claim1 m b s | none => m

theorem begin_to (k : Nat) (hk : 5000 ≤ k) (h : HeapAt σ i m) (hA : AlAt σ ab i a) (hab : ab ∉ i.l) (hs : 0 ≤ a.s ∧ a.s < 8) :
    ∃ σ', d_alloc_Allocator_begin (k + 9) (aptr ab) σ = some (.tuple #[.agg #[.int .i64 (begV m).1, .int .i64 (begV m).2.1], .bool (begV m).2.2], σ') ∧ HeapAt σ' i (begM m a.s) ∧ Keeps i σ σ' := by
  have hnt := h.nt; have hnb := h.nb
  have hlt := hA.lt
  obtain ⟨σ1, e1, g1, c1, l1, s1⟩ := begin_l0_to k hk hab hs (h1 := σ.length) (fun hm => Nat.lt_irrefl _ (h.lt _ hm)) (by omega) (m.bls.length - 1) 1 (k + 8) (σ ++ [area2 0 0]) (h.app _) (hA.app _) (by simp) (Nat.le_refl _) (by omega) (by omega)
  have kp : Keeps i σ σ1 := ⟨by simp at l1; omega, fun q hq h2 => by rw [s1 q (by simp; omega) h2 (by omega), List.getElem?_append_left hq]⟩
  rw [d_alloc_Allocator_begin_eq, b_alloc_Allocator_begin]
  simp only [allocK, show (AObj.cells [.int .i64 0, .int .i64 0] ty_alloc_area true) = area2 0 0 from rfl]
  rw [show ((1 : Nat) : Int) = 1 from rfl] at e1
  unfold begV begM freeB
  simp only [e1]
  cases hfr : free1 m (m.bls.length - 1) 1 with
  | none =>
    simp only [hfr] at g1 c1
    refine ⟨σ1.set σ.length (area2 0 0), ?_, g1.like fun j hj => List.getElem?_set_ne fun e => Nat.lt_irrefl σ.length (by have := h.lt _ hj; omega), kp.trans ⟨by simp, fun q hq h2 => ?_⟩⟩
    · simp only [Option.bind_some, if_true, stN, c1, area2, ldN]
      simp [setRange, resOf, List.getElem?_set_self (getElem?_lt c1)]
    · rcases Nat.lt_trichotomy q σ.length with e | e | e
      · rw [List.getElem?_set_ne (by omega)]
      · rw [e, List.getElem?_set_self (getElem?_lt c1), c1]
      · rw [List.getElem?_set_ne (by omega)]
  | some b =>
    simp only [hfr] at g1 c1
    refine ⟨σ1, ?_, g1, kp⟩
    simp only [Option.bind_some, show (AExit.ret = AExit.exit 0) = False from by simp, if_false, if_true, u_t_eq, ldN, c1, area2]
    rfl

/-! An area: at place o of the allocator -/

def spcI (m : HM) (b : Int) : Int := if 0 ≤ b ∧ b < (m.bls.length : Int) then (m.bls.getD b.toNat (0, 0)).2 else -1
theorem Space_e (k : Nat) (h : HeapAt σ i m) (b : Int) : d_heap_Heap_Space (k + 3) (hptr i) b σ = some (.int .i64 (spcI m b), σ) := by
  unfold spcI
  by_cases hb : 0 ≤ b ∧ b < (m.bls.length : Int)
  · rw [if_pos hb]
    obtain ⟨n, rfl⟩ : ∃ n : Nat, b = (n : Int) := ⟨b.toNat, by omega⟩
    rw [Int.toNat_natCast]
    exact Space_to k h (by omega)
  · rw [if_neg hb, d_heap_Heap_Space_eq, b_heap_Heap_Space]
    by_cases h0 : b < 0
    · simp only [decide_eq_true h0, cond_true, Option.bind_some]
    · simp only [decide_eq_false h0, cond_false, Blocks_to k h, Option.bind_some, toI_int, decide_eq_true (show b ≥ ((m.bls.length : Nat) : Int) by omega), cond_true]

end Go.Proofs.Ytlaplcglpnlieaa
