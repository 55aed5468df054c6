/-
  Areas, bumped, large; New; Alloc, whatever the policy places.
-/
import Derived.Test.YtlaplcglpnlieaaEA
set_option linter.unusedVariables false
set_option linter.unusedSimpArgs false
namespace Go.Proofs.Ytlaplcglpnlieaa
open Go Go.AX
noncomputable local instance qEB : Quiet := fullQuiet
local instance nEB : Kn := ⟨true⟩
variable {σ : AMem} {i : HIds} {m : HM} {ab : Nat} {a : AS}

def AS.cu (a : AS) (v : Bool) : Int := bif v then a.oc else a.c
def AS.li (a : AS) (v : Bool) : Int := bif v then a.ol else a.l
def AS.put (a : AS) (v : Bool) (x y : Int) : AS := bif v then { a with oc := x, ol := y } else { a with c := x, l := y }
def ofs (v : Bool) : Nat := bif v then 5 else 3
theorem AlAt.lc (h : AlAt σ ab i a) (v : Bool) : ldI .i64 σ ab (ofs v) = some (a.cu v) := match v with | false => h.l3 | true => h.l5
theorem AlAt.ll (h : AlAt σ ab i a) (v : Bool) : ldI .i64 σ ab (ofs v + 1) = some (a.li v) := match v with | false => h.l4 | true => h.l6
theorem AlAt.stA (h : AlAt σ ab i a) (v : Bool) (x y : Int) : stN σ ab (ofs v) [.int .i64 x, .int .i64 y] = some (σ.set ab (.cells ((a.put v x y).row i.hb) ty_alloc_Allocator true)) := by
  cases v
  · exact h.st 3 _ (a.put false x y) rfl (by simp)
  · exact h.st 5 _ (a.put true x y) rfl (by simp)
theorem AlAt.stC (h : AlAt σ ab i a) (v : Bool) (x : Int) : AX.st1 σ ab (ofs v) (.int .i64 x) = some (σ.set ab (.cells ((a.put v x (a.li v)).row i.hb) ty_alloc_Allocator true)) := by
  cases v
  · exact h.st1 3 _ (a.put false x a.l) rfl (by decide)
  · exact h.st1 5 _ (a.put true x a.ol) rfl (by decide)
theorem AS.ok.cu (h : a.ok) (v : Bool) : 0 ≤ a.cu v ∧ a.cu v ≤ 10000 ∧ 0 ≤ a.li v ∧ a.li v ≤ 10000 := by
  have h1 := h.c0; have h2 := h.l0; have h3 := h.oc0; have h4 := h.ol0
  cases v <;> simp only [AS.cu, AS.li, cond_true, cond_false] <;> omega
theorem AS.ok.put (h : a.ok) (v : Bool) {x y : Int} (hx : 0 ≤ x ∧ x ≤ 10000) (hy : 0 ≤ y ∧ y ≤ 10000) : (a.put v x y).ok := by
  cases v
  · exact ⟨h.s0, h.p0, hx, hy, h.oc0, h.ol0⟩
  · exact ⟨h.s0, h.p0, h.c0, h.l0, hx, hy⟩
theorem put_s (a : AS) (v : Bool) (x y : Int) : (a.put v x y).s = a.s := by cases v <;> rfl
theorem put_p (a : AS) (v : Bool) (x y : Int) : (a.put v x y).p = a.p := by cases v <;> rfl
theorem put_cu (a : AS) (v : Bool) (x y : Int) : (a.put v x y).cu v = x ∧ (a.put v x y).li v = y := by cases v <;> exact ⟨rfl, rfl⟩
theorem put_put (a : AS) (v : Bool) (x y z w : Int) : (a.put v x y).put v z w = a.put v z w := by cases v <;> rfl

theorem stN2 (μ : AMem) (T : TypeId) (p q x y : Value) : stN (μ ++ [.cells [p, q] T true]) μ.length 0 [x, y] = some (μ ++ [.cells [x, y] T true]) := by
  simp [stN, setRange]
theorem ld2 (μ : AMem) (T : TypeId) (x y : Int) : ldI .i64 (μ ++ [.cells [.int .i64 x, .int .i64 y] T true]) μ.length 0 = some x ∧ ldI .i64 (μ ++ [.cells [.int .i64 x, .int .i64 y] T true]) μ.length 1 = some y := by
  simp [ldI, ld1, toI]

theorem has_to (k : Nat) (hA : AlAt σ ab i a) (ho : a.ok) (v : Bool) (w : Int) : d_alloc_area_has (k + 1) (some ⟨ab, ofs v, none⟩) w σ = some (.bool (decide (a.li v - a.cu v ≥ w)), σ) := by
  have := ho.cu v
  rw [d_alloc_area_has_eq, b_alloc_area_has]
  simp only [Option.bind_some, Nat.add_zero, hA.lc, hA.ll, w64_in (show inI (a.li v - a.cu v) by unfold inI; omega)]

theorem take_to (k : Nat) (hA : AlAt σ ab i a) (ho : a.ok) (v : Bool) {w : Int} (hw : 0 ≤ w ∧ w ≤ 1000) : d_alloc_area_take (k + 1) (some ⟨ab, ofs v, none⟩) w σ = some (.int .i64 (a.cu v), σ.set ab (.cells ((a.put v (a.cu v + w) (a.li v)).row i.hb) ty_alloc_Allocator true)) := by
  have := ho.cu v
  rw [d_alloc_area_take_eq, b_alloc_area_take]
  have e1 : w64 (a.cu v + w) = a.cu v + w := w64_in (by unfold inI; omega)
  have e2 : w64 (a.cu v + w - w) = a.cu v := by rw [w64_in (by unfold inI; omega)]; omega
  simp only [Option.bind_some, Nat.add_zero, hA.lc, e1, hA.stC, (hA.put _).lc, put_cu, e2]

/-- What a policy's function comes to: an address and whether there is one; a heap, an allocator. -/
abbrev PR := (Int × Bool) × HM × AS
def Puts (mm : Option (Value × AMem)) (σ : AMem) (i : HIds) (ab : Nat) (r : PR) : Prop :=
  ∃ σ', mm = some (.tuple #[.int .i64 r.1.1, .bool r.1.2], σ') ∧ HeapAt σ' i r.2.1 ∧ AlAt σ' ab i r.2.2 ∧ KeepA i ab σ σ'

def bumpR (m : HM) (a : AS) (v : Bool) (w : Int) : PR :=
  if a.li v - a.cu v ≥ w then ((a.cu v, true), m, a.put v (a.cu v + w) (a.li v))
  else match freeB m with
    | some b => ((64 * (b : Int), true), claim1 m b a.s, a.put v (64 * (b : Int) + w) (64 * (b : Int) + 64))
    | none => ((0, false), m, a)

theorem bumped_to (k : Nat) (hk : 5000 ≤ k) (h : HeapAt σ i m) (hA : AlAt σ ab i a) (hab : ab ∉ i.l) (ho : a.ok) (v : Bool) {w : Int} (hw : 0 ≤ w ∧ w ≤ 1000) :
    Puts (d_alloc_Allocator_bumped (k + 10) (aptr ab) (some ⟨ab, ofs v, none⟩) w σ) σ i ab (bumpR m a v w) := by
  have hcu := ho.cu v
  have hnt := h.nt
  rw [d_alloc_Allocator_bumped_eq, b_alloc_Allocator_bumped]
  simp only [has_to (k + 8) hA ho v w, Option.bind_some, toB_bool]
  unfold bumpR
  by_cases q : a.li v - a.cu v ≥ w
  · rw [if_pos q]
    simp only [decide_eq_true q, Bool.not_true, cond_false, Option.bind_some, if_true, take_to (k + 8) hA ho v hw, toI_int]
    exact ⟨_, rfl, h.setA hab _, hA.put _, KeepA.set _ _⟩
  · rw [if_neg q]
    obtain ⟨σ1, e1, g1, k1⟩ := begin_to k hk h hA hab ho.s0
    have hA1 := hA.keep k1 hab
    simp only [decide_eq_false q, Bool.not_false, cond_true, e1, Option.bind_some, toT, List.length_cons, List.length_nil, List.head?_cons, List.tail_cons, a_ii_eq, toB_bool, allocK, stN2, Nat.zero_add, Nat.reduceAdd, if_true]
    unfold begV begM at *
    cases hfr : freeB m with
    | none =>
      simp only [hfr] at g1 ⊢
      simp only [Bool.not_false, cond_true, Option.bind_some, show (AExit.ret = AExit.normal) = False from by simp, if_false, if_true, u_it_eq]
      exact ⟨_, rfl, g1.app _, hA1.app _, (KeepA.of k1).trans (KeepA.app _ _)⟩
    | some b =>
      simp only [hfr] at g1 ⊢
      have hb := free1_spec hfr
      obtain ⟨l0, l1⟩ := ld2 σ1 ty_alloc_area (64 * (b : Int)) (64 * (b : Int) + 64)
      have hA2 := hA1.app [.cells [.int .i64 (64 * (b : Int)), .int .i64 (64 * (b : Int) + 64)] ty_alloc_area true]
      have hA3 := hA2.put (a.put v (64 * (b : Int)) (64 * (b : Int) + 64))
      have ho3 : (a.put v (64 * (b : Int)) (64 * (b : Int) + 64)).ok := ho.put v (by omega) (by omega)
      have t3 := take_to (k + 8) hA3 ho3 v hw
      rw [(put_cu _ _ _ _).1, (put_cu _ _ _ _).2, put_put] at t3
      simp only [Bool.not_true, cond_false, l0, l1, Option.bind_some, hA2.stA, if_true, t3, toI_int]
      exact ⟨_, rfl, ((g1.app _).setA hab _).setA hab _, hA3.put _, (((KeepA.of k1).trans (KeepA.app _ _)).trans (KeepA.set _ _)).trans (KeepA.set _ _)⟩

theorem bump_place_to (k : Nat) (hk : 5000 ≤ k) (h : HeapAt σ i m) (hA : AlAt σ ab i a) (hab : ab ∉ i.l) (ho : a.ok) {w : Int} (hw : 0 ≤ w ∧ w ≤ 1000) :
    Puts (d_alloc_bump_place (k + 11) (aptr ab) w σ) σ i ab (bumpR m a false w) := by
  obtain ⟨σ1, e1, g1, a1, k1⟩ := bumped_to k hk (h.app [.cells [] ty_alloc_bump true]) (hA.app _) hab ho false hw
  rw [d_alloc_bump_place_eq, b_alloc_bump_place]
  refine ⟨σ1, ?_, g1, a1, (KeepA.app _ _).trans k1⟩
  rw [show ofs false = 3 from rfl] at e1
  simp only [allocK, Option.bind_some, Nat.zero_add, e1, r_it_eq]

/-! Large objects -/

theorem claimR_err {b c x y x' y' : Int} (h : (claimR m b c x y x' y').1 ≠ 0) : (claimR m b c x y x' y').2 = m := by
  unfold claimR at *
  split at h
  · split at h
    · exact absurd rfl h
    · rename_i h1 h2; rw [if_pos h1, if_neg h2]
  · rename_i h1; rw [if_neg h1]

def lgF (m : HM) (c : Nat) (s : Int) : Nat → Nat → Option Nat
  | 0, _ => none
  | n + 1, x => if x + c ≤ m.bls.length then (if (claimR m (x : Int) (c : Int) 2 s 3 s).1 = 0 then some x else lgF m c s n (x + 1)) else none

theorem large_l0_to (k : Nat) (hk : 5000 ≤ k) (hab : ab ∉ i.l) {c : Nat} (hc : c ≤ 100) : ∀ (n x f : Nat) (σ : AMem), HeapAt σ i m → AlAt σ ab i a → x ≤ 100 → m.bls.length < x + n → n < f →
    ∃ σ', d_alloc_Allocator_large_l0 (k + 8) f (aptr ab) (c : Int) (x : Int) σ = some (match lgF m c a.s n x with | some b => (.ret, [.int .i64 (64 * (b : Int)), .bool true], σ') | none => (.exit 0, [], σ')) ∧ HeapAt σ' i (match lgF m c a.s n x with | some b => (claimR m (b : Int) (c : Int) 2 a.s 3 a.s).2 | none => m) ∧ Keeps i σ σ'
  | n, x, 0, σ, h, hA, hx, hn, hf => by omega
  | n, x, f + 1, σ, h, hA, hx, hn, hf => by
    have hnt := h.nt
    have w0 : w64 ((x : Int) + (c : Int)) = ((x + c : Nat) : Int) := w64_in (by unfold inI; omega)
    rw [d_alloc_Allocator_large_l0_eq, b_alloc_Allocator_large_l0]
    simp only [Option.bind_some, Nat.add_zero, Nat.zero_add, hA.ldH, Blocks_to (k + 6) h, toI_int, w0]
    by_cases q : x + c ≤ m.bls.length
    · obtain ⟨n, rfl⟩ : ∃ n', n = n' + 1 := ⟨n - 1, by omega⟩
      obtain ⟨σ1, e1, g1, k1⟩ := ClaimLarge_goes (k + 1) (by omega) h (x : Int) (c : Int) a.s (by unfold inI; omega) (by unfold inI; omega)
      simp only [decide_eq_true (show ((x + c : Nat) : Int) ≤ ((m.bls.length : Nat) : Int) by omega), cond_true, hA.l1, Option.bind_some, e1, toI_int, lgF, if_pos q]
      by_cases q2 : (claimR m (x : Int) (c : Int) 2 a.s 3 a.s).1 = 0
      · refine ⟨σ1, ?_, ?_, k1⟩
        · simp only [q2, beq_self_eq_true, cond_true, if_true]
          rw [show w64 ((x : Int) * 64) = 64 * (x : Int) from by rw [w64_in (by unfold inI; omega)]; omega]
        · simp only [q2, if_true]; exact g1
      · rw [claimR_err q2] at g1
        obtain ⟨σ2, e2, g2, k2⟩ := large_l0_to k hk hab hc n (x + 1) f σ1 g1 (hA.keep k1 hab) (by omega) (by omega) (by omega)
        refine ⟨σ2, ?_, ?_, k1.trans k2⟩
        · simp only [show ((claimR m (x : Int) (c : Int) 2 a.s 3 a.s).1 == 0) = false from by simpa using q2, cond_false, if_neg q2]
          rw [show w64 ((x : Int) + 1) = ((x + 1 : Nat) : Int) from w64_in (by unfold inI; omega)]
          exact e2
        · simp only [if_neg q2]; exact g2
    · have z : lgF m c a.s n x = none := by
        cases n with
        | zero => rfl
        | succ n => simp only [lgF, if_neg q]
      refine ⟨σ, ?_, ?_, Keeps.refl _ _⟩
      · simp only [decide_eq_false (show ¬ ((x + c : Nat) : Int) ≤ ((m.bls.length : Nat) : Int) by omega), cond_false, z]
      · simp only [z]; exact h

def largeR (m : HM) (a : AS) (w : Int) : PR :=
  match lgF m ((w.toNat + 63) / 64) a.s m.bls.length 1 with
  | some b => ((64 * (b : Int), true), (claimR m (b : Int) (((w.toNat + 63) / 64 : Nat) : Int) 2 a.s 3 a.s).2, a)
  | none => ((0, false), m, a)

theorem large_to (k : Nat) (hk : 5000 ≤ k) (h : HeapAt σ i m) (hA : AlAt σ ab i a) (hab : ab ∉ i.l) {w : Int} (hw : 0 ≤ w ∧ w ≤ 1000) :
    Puts (d_alloc_Allocator_large (k + 9) (aptr ab) w σ) σ i ab (largeR m a w) := by
  have hnt := h.nt
  obtain ⟨w, rfl⟩ : ∃ n : Nat, w = (n : Int) := ⟨w.toNat, by omega⟩
  have e1 : w64 (w64 (w64 ((w : Int) + 64) - 1)) = w64 (w64 ((w : Int) + 64) - 1) := by
    rw [w64_in (show inI ((w : Int) + 64) by unfold inI; omega), w64_in (show inI ((w : Int) + 64 - 1) by unfold inI; omega), w64_in (by unfold inI; omega)]
  have e2 : w64 ((w64 (w64 ((w : Int) + 64) - 1)).tdiv 64) = (((w + 63) / 64 : Nat) : Int) := by
    rw [w64_in (show inI ((w : Int) + 64) by unfold inI; omega), w64_in (show inI ((w : Int) + 64 - 1) by unfold inI; omega), show (w : Int) + 64 - 1 = ((w + 63 : Nat) : Int) from by omega, show (((w + 63 : Nat) : Int).tdiv 64) = (((w + 63) / 64 : Nat) : Int) from rfl]
    exact w64_in (by unfold inI; omega)
  obtain ⟨σ1, e3, g1, k1⟩ := large_l0_to k hk hab (c := (w + 63) / 64) (a := a) (by omega) m.bls.length 1 (k + 8) σ h hA (by omega) (by omega) (by omega)
  rw [show ((1 : Nat) : Int) = 1 from rfl] at e3
  rw [d_alloc_Allocator_large_eq, b_alloc_Allocator_large]
  rw [if_neg (by decide)]
  unfold largeR Puts
  simp only [e2, e3, Int.toNat_natCast, Option.bind_some]
  cases hl : lgF m ((w + 63) / 64) a.s m.bls.length 1 with
  | none =>
    simp only [hl] at g1 ⊢
    exact ⟨σ1, by simp only [if_true], g1, hA.keep k1 hab, KeepA.of k1⟩
  | some b =>
    simp only [hl] at g1 ⊢
    exact ⟨σ1, by simp only [show (AExit.ret = AExit.exit 0) = False from by simp, if_false, if_true, u_it_eq], g1, hA.keep k1 hab, KeepA.of k1⟩

end Go.Proofs.Ytlaplcglpnlieaa
