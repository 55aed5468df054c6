/-
  AllocBumps: what the law's function comes to.
-/
import Derived.Test.YtlaplcglpnlieaaEK
import Derived.Test.YtlaplcglpnlieaaCW
import Derived.Test.YtlaplcglpnlieaaLGS
set_option linter.unusedVariables false
set_option linter.unusedSimpArgs false
namespace Go.Proofs.Ytlaplcglpnlieaa
open Go Go.AX
noncomputable local instance qED : Quiet := fullQuiet
local instance nED : Kn := ⟨true⟩
variable {σ : AMem} {i : HIds} {m : HM} {ab : Nat} {a : AS}

/-- The cursor is the end of the last object; and the limit is its block's. -/
def BJ (a : AS) (e : Int) : Prop := (a.c = 0 ∧ a.l = 0 ∧ e = 0) ∨ (a.c = e ∧ ∃ b : Nat, 1 ≤ b ∧ b < 64 ∧ a.l = 64 * (b : Int) + 64 ∧ 64 * (b : Int) < e ∧ e ≤ 64 * (b : Int) + 64)

def prB (m : HM) (a : AS) (w : Int) : PR := if w > 32 then largeR m a w else bumpR m a false w
def alB (m : HM) (a : AS) (r d c : Int) : (Int × Int) × HM × AS := allocF m a r d c (prB m a (words r d c))

theorem prB_ok (h : Inv m) (h2 : Inv2 m) (hl : m.bls.length ≤ 64) (ho : a.ok) {w : Int} (hw : 0 ≤ w ∧ w ≤ 1000) : PrOk m a (prB m a w) := by
  unfold prB
  split
  · exact largeR_ok h h2 hl ho w
  · exact bumpR_ok h h2 hl ho false hw

theorem prB_sh (hS : Sh m) (w : Int) : Sh (prB m a w).2.1 := by
  unfold prB
  split
  · unfold largeR
    split
    · exact claimR_sh hS _ _ _ _ _ _
    · exact hS
  · unfold bumpR
    split
    · exact hS
    · split
      · exact claimR_sh hS _ _ _ _ _ _
      · exact hS

theorem AllocB_to (k : Nat) (hk : 5000 ≤ k) (h : HeapAt σ i m) (hA : AlAt σ ab i a) (hab : ab ∉ i.l) (ho : a.ok) (hI : Inv m) (hI2 : Inv2 m) (hb : m.births < 1000000) (hp : a.p = 3) (r d c : Int) :
    AGoes (d_alloc_Allocator_Alloc (k + 13) (aptr ab) r d c σ) σ i ab (alB m a r d c) := by
  have hw := words_nonneg r d c
  have hw' : 0 ≤ words r d c ∧ words r d c ≤ 1000 := by omega
  have P := prB_ok hI hI2 h.nt ho hw'
  refine Alloc_to k hk h hA hab ho _ (fun hv σ0 g0 A0 => ?_) (fun _ => P.inv) (fun _ => by rw [P.brt]; exact hb) (fun _ => P.adr) (fun _ => P.s)
  unfold prB plV
  by_cases q : words r d c > 32
  · rw [if_pos q, if_pos q, show fn_alloc_Allocator_large = fn_alloc_Allocator_large from rfl, callV_pi_it_alloc_Allocator_large]
    exact large_to (k + 3) (by omega) g0 A0 hab hw'
  · rw [if_neg q, if_neg q, hp, show (3 : Int).toNat = 3 from rfl, callV_bump]
    exact bump_place_to (k + 1) (by omega) g0 A0 hab ho hw'

theorem alB_no {r d c : Int} (hv : (alB m a r d c).1.2 ≠ 0) : (alB m a r d c).2.2 = a := by
  have no : ∀ w, (prB m a w).1.2 = false → (prB m a w).2.2 = a := by
    intro w h
    unfold prB at *
    split
    · rename_i q
      rw [if_pos q] at h
      unfold largeR at *
      split <;> rfl
    · rename_i q
      rw [if_neg q] at h
      unfold bumpR at *
      split at h
      · cases h
      · rename_i q2
        rw [if_neg q2]
        split at h
        · cases h
        · rfl
  unfold alB allocF at *
  split
  · rename_i q0
    rw [if_pos q0] at hv
    split
    · rename_i q1
      rw [if_pos q1] at hv
      split
      · rename_i q2
        rw [if_pos q2] at hv
        split
        · rename_i q3
          rw [if_pos q3] at hv
          exact absurd rfl hv
        · rfl
      · rfl
    · rename_i q1
      exact no _ (by simpa using q1)
  · rfl

theorem alB_ok {r d c : Int} (hz : (alB m a r d c).1.2 = 0) : valid r d c = true ∧ (prB m a (words r d c)).1.2 = true ∧ (alB m a r d c).1.1 = (prB m a (words r d c)).1.1 ∧ (alB m a r d c).2.2 = (prB m a (words r d c)).2.2 := by
  unfold alB allocF at *
  split at hz
  · rename_i q0
    split at hz
    · rename_i q1
      split at hz
      · rename_i q2
        split at hz
        · rename_i q3
          rw [if_pos q0, if_pos q1, if_pos q2, if_pos q3]
          exact ⟨q0, q1, rfl, rfl⟩
        · cases hz
      · cases hz
    · cases hz
  · cases hz

/-- The law, of one call. -/
theorem bump_law {e r d c : Int} (hl : m.bls.length ≤ 64) (hJ : BJ a e) (hz : (alB m a r d c).1.2 = 0) :
    (words r d c ≤ 32 → (((alB m a r d c).1.1 = e ∨ (alB m a r d c).1.1.tmod 64 = 0) ∧ ((alB m a r d c).1.1 = e ∨ ¬ e > 0 ∨ ¬ e.tmod 64 + words r d c ≤ 64 ∨ ¬ e.tmod 64 > 0)) ∧ BJ (alB m a r d c).2.2 ((alB m a r d c).1.1 + words r d c)) ∧
    (¬ words r d c ≤ 32 → BJ (alB m a r d c).2.2 e) := by
  obtain ⟨hv, hok, e1, e2⟩ := alB_ok hz
  have hw := words_pos hv
  rw [e1, e2]
  clear e1 e2 hz
  refine ⟨fun hw2 => ?_, fun hw2 => ?_⟩
  · rw [show prB m a (words r d c) = bumpR m a false (words r d c) from if_neg (by omega)] at hok ⊢
    unfold bumpR at hok ⊢
    by_cases q : a.li false - a.cu false ≥ words r d c
    · rw [if_pos q]
      simp only [AS.li, AS.cu, AS.put, cond_false] at q ⊢
      rcases hJ with ⟨h1, h2, h3⟩ | ⟨h1, b, hb1, hb2, hb3, hb4, hb5⟩
      · omega
      · refine ⟨⟨.inl h1, .inl h1⟩, .inr ⟨rfl, b, hb1, hb2, hb3, ?_, ?_⟩⟩ <;> omega
    · rw [if_neg q] at hok ⊢
      simp only [AS.li, AS.cu, AS.put, cond_false] at q ⊢
      cases hf : freeB m with
      | none => rw [hf] at hok; cases hok
      | some b =>
        have hb := free1_spec hf
        dsimp only
        have t0 : (64 * (b : Int)).tmod 64 = 0 := by rw [Int.tmod_eq_emod_of_nonneg (by omega)]; omega
        refine ⟨⟨.inr t0, .inr ?_⟩, .inr ⟨rfl, b, hb.1, by omega, rfl, by omega, by omega⟩⟩
        rcases hJ with ⟨h1, h2, h3⟩ | ⟨h1, b', hb1, hb2, hb3, hb4, hb5⟩
        · exact .inl (by omega)
        · rw [Int.tmod_eq_emod_of_nonneg (by omega)]
          by_cases q2 : e = 64 * (b' : Int) + 64
          · exact .inr (.inr (by omega))
          · exact .inr (.inl (by omega))
  · rw [show prB m a (words r d c) = largeR m a (words r d c) from if_pos (by omega)]
    unfold largeR
    split <;> exact hJ

theorem shape_ld {p : Option Addr} {l : List Sh3} (h : SlRow shapeE σ p l) {x : Nat} (hx : x < l.length) : ∃ q, p = some ⟨q, 0, none⟩ ∧ q < σ.length ∧ ldI .i64 σ q (x * 3) = some l[x].r ∧ ldI .i64 σ q (x * 3 + 1) = some l[x].d ∧ ldI .i64 σ q (x * 3 + 2) = some l[x].c := by
  obtain ⟨q, h1, h2, h3⟩ := h.ld shapeE_ok hx
  have a0 := h3 0 (by decide)
  have a1 := h3 1 (by decide)
  have a2 := h3 2 (by decide)
  refine ⟨q, h1, h2, ?_, ?_, ?_⟩
  · unfold ldI; rw [show ld1 σ q (x * 3) = _ from a0]; rfl
  · unfold ldI; rw [show ld1 σ q (x * 3 + 1) = _ from a1]; rfl
  · unfold ldI; rw [show ld1 σ q (x * 3 + 2) = _ from a2]; rfl
theorem bool_ld {p : Option Addr} {l : List Bool} (h : SlRow boolE σ p l) {x : Nat} (hx : x < l.length) : ∃ q, p = some ⟨q, 0, none⟩ ∧ ldB σ q x = some l[x] := by
  obtain ⟨q, h1, h2, h3⟩ := h.ld boolE_ok hx
  have a0 := h3 0 (by decide)
  refine ⟨q, h1, ?_⟩
  unfold ldB; rw [show ld1 σ q x = _ from (by have := a0; simpa [boolE] using this)]; rfl

theorem BJ.range {e : Int} (h : BJ a e) : 0 ≤ e ∧ e ≤ 4096 := by
  rcases h with ⟨_, _, h⟩ | ⟨_, b, h1, h2, h3, h4, h5⟩ <;> omega

theorem placeR_fail {x r d c : Int} (h : (placeR m x r d c).2.1 ≠ 0) : (placeR m x r d c).2.2 = m := (placeR_cases m x r d c).2 h |>.2

theorem Bumps_l0_to (k : Nat) (hk : 5000 ≤ k) {σ0 : AMem} {p1 p2 : Option Addr} {c1 c2 : Nat} {l1 : List Sh3} {l2 : List Bool} (S1 : SlRow shapeE σ0 p1 l1) (S2 : SlRow boolE σ0 p2 l2) (hl : l1.length ≤ 60)
    (hi : ∀ q ∈ i.l, σ0.length ≤ q) (hab : ab ∉ i.l) (hab0 : σ0.length ≤ ab) : ∀ (n x f : Nat) (σ : AMem) (m : HM) (a : AS) (e : Int), HeapAt σ i m → AlAt σ ab i a → a.ok → a.p = 3 → Inv m → Inv2 m → m.births ≤ x → BJ a e → (∀ q, q < σ0.length → σ[q]? = σ0[q]?) → x + n = l1.length → n < f →
    ∃ σ', d_law05_AllocBumps_l0 (k + 13) f p1 l1.length c1 p2 l2.length c2 (hptr i) (aptr ab) e (x : Int) σ = some (.exit 0, [], σ')
  | n, x, 0, σ, m, a, e, h, hA, ho, hp, hI, hI2, hb, hJ, hs, hx, hf => by omega
  | 0, x, f + 1, σ, m, a, e, h, hA, ho, hp, hI, hI2, hb, hJ, hs, hx, hf => by
    rw [d_law05_AllocBumps_l0_eq, b_law05_AllocBumps_l0]
    exact ⟨σ, by simp only [decide_eq_false (show ¬ (x : Int) < ((l1.length : Nat) : Int) by omega), cond_false]⟩
  | n + 1, x, f + 1, σ, m, a, e, h, hA, ho, hp, hI, hI2, hb, hJ, hs, hx, hf => by
    have hxl : x < l1.length := by omega
    have T1 := S1.like hs
    obtain ⟨q1, rfl, hq1, f0, f1, f2⟩ := shape_ld T1 hxl
    obtain ⟨qq, hqq, hq0, _⟩ := S1.ld shapeE_ok hxl
    cases hqq
    have qx : (0 ≤ (x : Int) ∧ (x : Int) < ((l1.length : Nat) : Int)) = True := eq_true (by omega)
    have w1 : w64 ((x : Int) + 1) = ((x + 1 : Nat) : Int) := w64_in (by unfold inI; omega)
    have he := hJ.range
    obtain ⟨σ1, e1, h1, A1, K1⟩ := AllocB_to k hk h hA hab ho hI hI2 (by omega) hp l1[x].r l1[x].d l1[x].c
    have Wd := words_nonneg l1[x].r l1[x].d l1[x].c
    have ok := allocF_ok hI hI2 ho (r := l1[x].r) (d := l1[x].d) (c := l1[x].c) (pr := prB m a (words l1[x].r l1[x].d l1[x].c)) (fun _ => prB_ok hI hI2 h.nt ho (by omega)) (fun _ => prB_sh h.sh _)
    have ok' : AlOk m a (alB m a l1[x].r l1[x].d l1[x].c) := ok
    have hs1 : ∀ q, q < σ0.length → σ1[q]? = σ0[q]? := fun q hq => by
      rw [K1.same q (by have := h.lt i.hb (by simp [HIds.l]); have := hi i.hb (by simp [HIds.l]); omega) (fun hm => by have := hi q hm; omega) (by omega)]; exact hs q hq
    rw [d_law05_AllocBumps_l0_eq, b_law05_AllocBumps_l0]
    simp only [decide_eq_true (show (x : Int) < ((l1.length : Nat) : Int) by omega), cond_true, qx, if_true, Option.bind_some, Int.toNat_natCast, Nat.zero_add, Nat.add_assoc, Nat.reduceAdd, f0, f1, f2, e1, r_ii_eq]
    generalize hal : alB m a l1[x].r l1[x].d l1[x].c = al at *
    obtain ⟨⟨ad, code⟩, m', a'⟩ := al
    dsimp only at *
    have b1 := ok'.b1; have b2 := ok'.b2
    dsimp only at b1 b2
    by_cases hc : code = 0
    rotate_left
    · have hn : a' = a := by have := alB_no (m := m) (a := a) (r := l1[x].r) (d := l1[x].d) (c := l1[x].c) (by rw [hal]; exact hc); rw [hal] at this; exact this
      obtain ⟨σ', e2⟩ := Bumps_l0_to k hk (c1 := c1) (c2 := c2) S1 S2 hl hi hab hab0 n (x + 1) f σ1 m' a' e h1 A1 ok'.ok (by rw [hn]; exact hp) ok'.inv ok'.inv2 (by omega) (by rw [hn]; exact hJ) hs1 (by omega) (by omega)
      refine ⟨σ', ?_⟩
      simp only [show (code != 0) = true from by simpa using hc, cond_true, w1, e2]
    · subst hc
      obtain ⟨L1, L2⟩ := bump_law (m := m) (a := a) (e := e) (r := l1[x].r) (d := l1[x].d) (c := l1[x].c) h.nt hJ (by rw [hal])
      rw [hal] at L1 L2
      dsimp only at L1 L2
      obtain ⟨hv, _, e3, _⟩ := alB_ok (m := m) (a := a) (r := l1[x].r) (d := l1[x].d) (c := l1[x].c) (by rw [hal])
      rw [hal] at e3
      dsimp only at e3
      have had := (prB_ok hI hI2 h.nt ho (w := words l1[x].r l1[x].d l1[x].c) (by omega)).adr
      rw [← e3] at had
      obtain ⟨g0, g1, g2⟩ : ldI .i64 σ1 q1 (x * 3) = some l1[x].r ∧ ldI .i64 σ1 q1 (x * 3 + 1) = some l1[x].d ∧ ldI .i64 σ1 q1 (x * 3 + 2) = some l1[x].c := by
        obtain ⟨q', hq', _, r0, r1, r2⟩ := shape_ld (S1.like hs1) hxl
        cases hq'; exact ⟨r0, r1, r2⟩
      obtain ⟨τ2, e4⟩ := heap_Words_to (k + 11) l1[x].r l1[x].d l1[x].c σ1
      obtain ⟨σ2, hσ2⟩ : ∃ σ2, σ1 ++ τ2 = σ2 := ⟨_, rfl⟩
      rw [hσ2] at e4
      have h2 : HeapAt σ2 i m' := hσ2 ▸ h1.app _
      have A2 : AlAt σ2 ab i a' := hσ2 ▸ A1.app _
      have hs2 : ∀ q, q < σ0.length → σ2[q]? = σ0[q]? := fun q hq => by
        have : q < σ1.length := by have := h1.lt i.hb (by simp [HIds.l]); have := hi i.hb (by simp [HIds.l]); omega
        rw [← hσ2, List.getElem?_append_left this]; exact hs1 q hq
      have hw := words_pos hv
      have wm : ∀ e : Int, 0 ≤ e → e.tmod 64 = e % 64 := fun e h => Int.tmod_eq_emod_of_nonneg h
      -- behind the tests
      have fin : ∀ e', BJ a' e' → ∃ σ', (u_i [Value.int .i64 e'] fun n31 => (bif decide ((x : Int) < ((l2.length : Nat) : Int)) then if 0 ≤ (x : Int) ∧ (x : Int) < (l2.length : Nat) then p2.bind fun a32 => (ldB σ2 a32.block (a32.off + x * 1)).bind fun b33 => some (b33, σ2) else none else some (false, σ2)).bind fun r34 => (bif r34.1 then ((d_heap_Heap_Kill (k + 13) (hptr i) ad r34.2).bind fun r35 => (toI .i64 r35.1).bind fun n36 => some (.normal, [], r35.2)) else (some (.normal, [], r34.2)) : Option LOut).bind fun r37 => if r37.1 = .normal then (d_law05_AllocBumps_l0 (k + 13) f (some ⟨q1, 0, none⟩) l1.length c1 p2 l2.length c2 (hptr i) (aptr ab) n31 ((x + 1 : Nat) : Int) r37.2.2) else none) = some (AExit.exit 0, [], σ') := by
        intro e' hJ'
        obtain ⟨bo, eb⟩ : ∃ bo, (bif decide ((x : Int) < ((l2.length : Nat) : Int)) then if 0 ≤ (x : Int) ∧ (x : Int) < (l2.length : Nat) then p2.bind fun a32 => (ldB σ2 a32.block (a32.off + x * 1)).bind fun b33 => some (b33, σ2) else none else some (false, σ2)) = some (bo, σ2) := by
          by_cases q : x < l2.length
          · obtain ⟨q2, rfl, hb2⟩ := bool_ld (S2.like hs2) q
            rw [decide_eq_true (show (x : Int) < ((l2.length : Nat) : Int) by omega), cond_true, if_pos (by omega)]
            simp only [Option.bind_some, Nat.zero_add, Nat.mul_one, hb2]
            exact ⟨_, rfl⟩
          · rw [decide_eq_false (show ¬ (x : Int) < ((l2.length : Nat) : Int) by omega), cond_false]
            exact ⟨_, rfl⟩
        simp only [u_i_eq, eb, Option.bind_some]
        cases bo with
        | false =>
          obtain ⟨σ', e5⟩ := Bumps_l0_to k hk (c1 := c1) (c2 := c2) S1 S2 hl hi hab hab0 n (x + 1) f σ2 m' a' e' h2 A2 ok'.ok (by rw [ok'.p]; exact hp) ok'.inv ok'.inv2 (by omega) hJ' hs2 (by omega) (by omega)
          exact ⟨σ', by simp only [cond_false, Option.bind_some, if_true, e5]⟩
        | true =>
          obtain ⟨σ3, e6, h3, k3⟩ := Kill_goes (k + 1) h2 ok'.inv ad (by unfold inI; omega)
          have A3 := A2.keep k3 hab
          have kk := killR_keep ok'.inv ok'.inv2 h2.sh ad
          have kb : (killR m' ad).2.births = m'.births := by unfold killR killM; split <;> rfl
          obtain ⟨σ', e5⟩ := Bumps_l0_to k hk (c1 := c1) (c2 := c2) S1 S2 hl hi hab hab0 n (x + 1) f σ3 (killR m' ad).2 a' e' h3 A3 ok'.ok (by rw [ok'.p]; exact hp) kk.inv kk.inv2 (by rw [kb]; omega) hJ' (fun q hq => by
            rw [k3.same q (by have := h2.lt i.hb (by simp [HIds.l]); have := hi i.hb (by simp [HIds.l]); omega) (fun hm => by have := hi q hm; omega)]; exact hs2 q hq) (by omega) (by omega)
          exact ⟨σ', by simp only [cond_true, e6, Option.bind_some, toI_int, if_true, e5]⟩
      simp only [bne_self_eq_false, cond_false, g0, g1, g2, Option.bind_some, e4, toI_int, w1]
      by_cases q32 : words l1[x].r l1[x].d l1[x].c ≤ 32
      · obtain ⟨⟨La, Lb⟩, Lc⟩ := L1 q32
        have hr2 := Lc.range
        have w2 : w64 (ad + words l1[x].r l1[x].d l1[x].c) = ad + words l1[x].r l1[x].d l1[x].c := w64_in (by unfold inI; omega)
        have w3 : w64 (e.tmod 64 + words l1[x].r l1[x].d l1[x].c) = e.tmod 64 + words l1[x].r l1[x].d l1[x].c := by rw [wm _ he.1]; exact w64_in (by unfold inI; omega)
        obtain ⟨σ', e9⟩ := fin _ Lc
        refine ⟨σ', ?_⟩
        rw [← e9]
        simp only [decide_eq_true q32, cond_true, w2, w3, show ((64 : Int) = 0) = False from by simp, if_false]
        by_cases qa : ad = e
        · simp only [show (ad != e) = false from by simpa using qa, cond_false, Option.bind_some, if_true]
        · have Lb' := Lb.resolve_left qa
          have La' := La.resolve_left qa
          simp only [show (ad != e) = true from by simpa using qa, cond_true, La', bne_self_eq_false, Option.bind_some, cond_false]
          by_cases qb : e > 0
          · have Lc' := Lb'.resolve_left (fun hh => hh qb)
            simp only [decide_eq_true qb, cond_true]
            by_cases qc : e.tmod 64 + words l1[x].r l1[x].d l1[x].c ≤ 64
            · have Ld := Lc'.resolve_left (fun hh => hh qc)
              simp only [decide_eq_true qc, cond_true, decide_eq_false Ld, Option.bind_some, cond_false, if_true]
            · simp only [decide_eq_false qc, cond_false, Option.bind_some, if_true]
          · simp only [decide_eq_false qb, cond_false, Option.bind_some, if_true]
      · obtain ⟨σ', e9⟩ := fin _ (L2 q32)
        refine ⟨σ', ?_⟩
        rw [← e9]
        simp only [decide_eq_false q32, cond_false, Option.bind_some, if_true]

theorem few_to (k : Nat) (b : Int) (σ : AMem) : d_law05_few (k + 1) b σ = some (.bool (decide (b ≤ 12 ∨ b > 64)), σ) := by
  rw [d_law05_few_eq, b_law05_few]
  by_cases q : b ≤ 12
  · simp [q]
  · simp [q]

theorem law_alive (k : Nat) (σ : AMem) : d_law05_alive (k + 1) σ = some (.bool true, σ) := d_law05_alive_eq k σ

theorem AllocBumps_to (k : Nat) (hk : 1000000 ≤ k) {σ : AMem} (b : Int) (hb : inI b) (p1 : Option Addr) (c1 : Nat) (l1 : List Sh3) (ok1 : ∀ y ∈ l1, y.ok) (S1 : SlRow shapeE σ p1 l1) (p2 : Option Addr) (c2 : Nat) (l2 : List Bool) (ok2 : ∀ y ∈ l2, boolE.ok y) (S2 : SlRow boolE σ p2 l2) :
    ∃ σ', fn P (XK Kn.b) H (k + 15) fn_law05_AllocBumps [.int .i64 b, .slice p1 l1.length c1, .slice p2 l2.length c2] σ = some (.bool true, σ') := by
  rw [show [Value.int .i64 b, .slice p1 l1.length c1, .slice p2 l2.length c2] = [.int .i64 b, .slice (p1, l1.length, c1).1 (p1, l1.length, c1).2.1 (p1, l1.length, c1).2.2, .slice (p2, l2.length, c2).1 (p2, l2.length, c2).2.1 (p2, l2.length, c2).2.2] from rfl, law05_AllocBumps_is, d_law05_AllocBumps_eq, b_law05_AllocBumps]
  by_cases g3 : 2 ≤ b ∧ b ≤ 64
  rotate_left
  · have e1 : d_heap_New (k + 14) b σ = _ := New_bad (k + 13) b g3 σ
    simp only [e1, Option.bind_some, r_pi_eq, show ((1 : Int) != 0) = true from rfl, cond_true, law_alive, toB_bool]
    exact ⟨_, rfl⟩
  obtain ⟨n, rfl⟩ : ∃ n : Nat, b = (n : Int) := ⟨b.toNat, by omega⟩
  obtain ⟨σ1, i, e1, h1, lo1, k1⟩ := New_to (k + 9) (n := n) (by omega) (by omega) σ
  have e1' : d_heap_New (k + 14) (n : Int) σ = _ := e1
  have e2 : d_law05_few (k + 14) (n : Int) σ1 = _ := few_to (k + 13) (n : Int) σ1
  simp only [e1', Option.bind_some, r_pi_eq, bne_self_eq_false, cond_false, e2, toB_bool]
  by_cases g4 : (n : Int) ≤ 12 ∨ (n : Int) > 64
  rotate_left
  · simp only [decide_eq_false g4, Bool.not_false, cond_true, Option.bind_some, law_alive, toB_bool]
    exact ⟨_, rfl⟩
  simp only [decide_eq_true g4, Bool.not_true, cond_false, Option.bind_some]
  by_cases g5 : ((l1.length : Nat) : Int) > 60
  · simp only [decide_eq_true g5, cond_true, Option.bind_some, law_alive, toB_bool]
    exact ⟨_, rfl⟩
  simp only [decide_eq_false g5, cond_false, Option.bind_some]
  obtain ⟨σ2, e3, τ3, rfl⟩ := ANew_to (k + 11) h1 0 3
  rw [if_pos (by omega)] at e3
  have e3' : d_alloc_New (k + 14) (hptr i) 0 3 σ1 = _ := e3
  have hnab : (σ1 ++ τ3).length ∉ i.l := fun hm => by have := h1.lt _ hm; simp at this; omega
  obtain ⟨σ4, e4⟩ := Bumps_l0_to (ab := (σ1 ++ τ3).length) (k + 1) (by omega) (c1 := c1) (c2 := c2) S1 S2 (by omega) lo1 hnab (by have := k1.len; simp; omega) l1.length 0 (k + 14) (σ1 ++ τ3 ++ [AObj.cells ((⟨0, 3, 0, 0, 0, 0⟩ : AS).row i.hb) ty_alloc_Allocator true]) (newM n) ⟨0, 3, 0, 0, 0, 0⟩ 0 ((h1.app _).app _) (by unfold AlAt; simp) ⟨by decide, by decide, by decide, by decide, by decide, by decide⟩ rfl (Inv.new n) (Inv2.new n) (Int.le_refl _) (.inl ⟨rfl, rfl, rfl⟩) (fun q hq => by
    have hl := k1.len
    rw [List.append_assoc, List.getElem?_append_left (by omega)]
    exact k1.same q hq fun hm => by have := lo1 q hm; omega) (by omega) (by omega)
  have e4' : d_law05_AllocBumps_l0 (k + 14) (k + 14) p1 l1.length c1 p2 l2.length c2 (hptr i) (aptr (σ1 ++ τ3).length) 0 0 (σ1 ++ τ3 ++ [AObj.cells ((⟨0, 3, 0, 0, 0, 0⟩ : AS).row i.hb) ty_alloc_Allocator true]) = _ := e4
  simp only [e3', Option.bind_some, r_pi_eq, e4', if_true, law_alive, toB_bool]
  exact ⟨_, rfl⟩

end Go.Proofs.Ytlaplcglpnlieaa
