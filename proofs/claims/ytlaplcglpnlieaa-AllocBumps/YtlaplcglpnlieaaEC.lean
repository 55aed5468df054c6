/-
  Alloc, whatever the policy places; New; Reset, Cursor, Space, Policy.
-/
import Derived.Test.YtlaplcglpnlieaaEB
import Derived.Test.YtlaplcglpnlieaaCN
import Derived.Test.YtlaplcglpnlieaaHV
set_option linter.unusedVariables false
set_option linter.unusedSimpArgs false
namespace Go.Proofs.Ytlaplcglpnlieaa
open Go Go.AX
noncomputable local instance qEC : Quiet := fullQuiet
local instance nEC : Kn := ⟨true⟩
variable {σ : AMem} {i : HIds} {m : HM} {ab : Nat} {a : AS}

def polT : Nat → TypeId
  | 0 => ty_alloc_first
  | 1 => ty_alloc_best
  | 2 => ty_alloc_next
  | 3 => ty_alloc_bump
  | _ => ty_alloc_lines
def polV (n : Nat) : Value := .iface (polT n) (.agg #[])
def polO : AObj := .cells [polV 0, polV 1, polV 2, polV 3, polV 4] ty_alloc_policy true
theorem policies_to (k : Nat) (σ : AMem) : d_alloc_policies (k + 1) σ = some (.slice (some ⟨σ.length, 0, none⟩) 5 5, σ ++ [polO]) := by
  rw [d_alloc_policies_eq, b_alloc_policies]; rfl
def plV (p w : Int) : Value := if w > 32 then .func (.func fn_alloc_Allocator_large) #[] #[] else .func (.method "dustcart/alloc.place") #[polV p.toNat] #[]

/-- Alloc, by what is placed. -/
def allocF (m : HM) (a : AS) (r d c : Int) (pr : PR) : (Int × Int) × HM × AS :=
  if valid r d c = true then
    (if pr.1.2 = true then
      (if spcI pr.2.1 (pr.1.1.tdiv 64) = a.s then
        (if (placeR pr.2.1 pr.1.1 r d c).2.1 = 0 then ((pr.1.1, 0), (placeR pr.2.1 pr.1.1 r d c).2.2, pr.2.2) else ((0, 6), (placeR pr.2.1 pr.1.1 r d c).2.2, a))
      else ((0, 6), pr.2.1, a))
    else ((0, 6), pr.2.1, pr.2.2))
  else ((0, 2), m, a)

def AGoes (mm : Option (Value × AMem)) (σ : AMem) (i : HIds) (ab : Nat) (r : (Int × Int) × HM × AS) : Prop :=
  ∃ σ', mm = some (.tuple #[.int .i64 r.1.1, .int .i64 r.1.2], σ') ∧ HeapAt σ' i r.2.1 ∧ AlAt σ' ab i r.2.2 ∧ KeepA i ab σ σ'

theorem stN7 (μ : AMem) (T : TypeId) (p q x y z u w p' q' x' y' z' u' w' : Value) : stN (μ ++ [.cells [p, q, x, y, z, u, w] T true]) μ.length 0 [p', q', x', y', z', u', w'] = some (μ ++ [.cells [p', q', x', y', z', u', w'] T true]) := by
  simp [stN, setRange]

set_option maxHeartbeats 1000000 in
theorem Alloc_to (k : Nat) (hk : 5000 ≤ k) (h : HeapAt σ i m) (hA : AlAt σ ab i a) (hab : ab ∉ i.l) (ho : a.ok) {r d c : Int} (pr : PR)
    (hp : valid r d c = true → ∀ σ0, HeapAt σ0 i m → AlAt σ0 ab i a → Puts (d_callV_pi_it (k + 12) (plV a.p (words r d c)) [.pointer (aptr ab), .int .i64 (words r d c)] σ0) σ0 i ab pr)
    (hI : valid r d c = true → Inv pr.2.1) (hb : valid r d c = true → pr.2.1.births < 1000000) (hadr : valid r d c = true → 0 ≤ pr.1.1 ∧ pr.1.1 ≤ 10000) (hps : valid r d c = true → pr.2.2.s = a.s) :
    AGoes (d_alloc_Allocator_Alloc (k + 13) (aptr ab) r d c σ) σ i ab (allocF m a r d c pr) := by
  have hlt := hA.lt
  rw [d_alloc_Allocator_Alloc_eq, b_alloc_Allocator_Alloc]
  simp only [allocK]
  obtain ⟨μ0, hμ0⟩ : ∃ μ0, σ ++ [AObj.cells [Value.int .i64 r, .int .i64 d, .int .i64 c] ty_api_Shape true] = μ0 := ⟨_, rfl⟩
  rw [hμ0]
  have h0 : HeapAt μ0 i m := hμ0 ▸ h.app _
  have A0 : AlAt μ0 ab i a := hμ0 ▸ hA.app _
  have K0 : KeepA i ab σ μ0 := hμ0 ▸ KeepA.app σ _
  have S0 : μ0[σ.length]? = some (AObj.cells [Value.int .i64 r, .int .i64 d, .int .i64 c] ty_api_Shape true) := by rw [← hμ0]; simp
  have bx : ∀ {μ : AMem}, μ[σ.length]? = some (AObj.cells [Value.int .i64 r, .int .i64 d, .int .i64 c] ty_api_Shape true) → ldI .i64 μ σ.length 0 = some r ∧ ldI .i64 μ σ.length 1 = some d ∧ ldI .i64 μ σ.length 2 = some c := by
    intro μ hm; simp [ldI, ld1, hm, toI]
  obtain ⟨b0, b1, b2⟩ := bx S0
  obtain ⟨τ1, e1⟩ := heap_Valid_to (k + 11) r d c μ0
  simp only [amade_to (k + 11) A0, Option.bind_some, toB_bool, Bool.not_true, cond_false, Nat.zero_add, Nat.reduceAdd, b0, b1, b2, e1]
  unfold allocF
  cases hv : valid r d c with
  | false =>
    simp only [Bool.not_false, cond_true, Bool.false_eq_true, if_false]
    exact ⟨μ0 ++ τ1, rfl, h0.app _, A0.app _, K0.trans (KeepA.app _ _)⟩
  | true =>
    have ha1 := hadr hv
    obtain ⟨τ2, e2⟩ := heap_Words_to (k + 10) r d c (μ0 ++ τ1)
    have S1 : (μ0 ++ τ1)[σ.length]? = some (AObj.cells [Value.int .i64 r, .int .i64 d, .int .i64 c] ty_api_Shape true) := by rw [List.getElem?_append_left (getElem?_lt S0)]; exact S0
    obtain ⟨c0, c1, c2⟩ := bx S1
    obtain ⟨μ2, hμ2⟩ : ∃ μ2, μ0 ++ τ1 ++ τ2 = μ2 := ⟨_, rfl⟩
    rw [hμ2] at e2
    have h2 : HeapAt μ2 i m := hμ2 ▸ (h0.app _).app _
    have A2 : AlAt μ2 ab i a := hμ2 ▸ (A0.app _).app _
    have K2 : KeepA i ab σ μ2 := hμ2 ▸ (K0.trans (KeepA.app _ _)).trans (KeepA.app _ _)
    have S2 : μ2[σ.length]? = some (AObj.cells [Value.int .i64 r, .int .i64 d, .int .i64 c] ty_api_Shape true) := by rw [← hμ2, List.getElem?_append_left (getElem?_lt S1)]; exact S1
    obtain ⟨μ3, hμ3⟩ : ∃ μ3, μ2 ++ [polO] = μ3 := ⟨_, rfl⟩
    have e3 : d_alloc_policies (k + 12) μ2 = _ := policies_to (k + 11) μ2
    rw [hμ3] at e3
    have h3 : HeapAt μ3 i m := hμ3 ▸ h2.app _
    have A3 : AlAt μ3 ab i a := hμ3 ▸ A2.app _
    have K3 : KeepA i ab σ μ3 := hμ3 ▸ K2.trans (KeepA.app _ _)
    have S3 : μ3[σ.length]? = some (AObj.cells [Value.int .i64 r, .int .i64 d, .int .i64 c] ty_api_Shape true) := by rw [← hμ3, List.getElem?_append_left (getElem?_lt S2)]; exact S2
    have p0 := ho.p0
    have lp : ld1 μ3 μ2.length a.p.toNat = some (polV a.p.toNat) := by
      rw [← hμ3]; unfold polO; rw [ld1_new]
      obtain ⟨n, hn⟩ : ∃ n : Nat, a.p = (n : Int) := ⟨a.p.toNat, by omega⟩
      rw [hn, Int.toNat_natCast]
      match n, (show n < 5 by omega) with
      | 0, _ => rfl
      | 1, _ => rfl
      | 2, _ => rfl
      | 3, _ => rfl
      | 4, _ => rfl
    have hnil : ∀ (n : Nat) (K : Value → Option (Value × AMem)), nilV (polV n) K = K (polV n) := fun _ _ => rfl
    obtain ⟨μ4, hμ4⟩ : ∃ μ4, μ3 ++ [AObj.cells (a.row i.hb) ty_alloc_Allocator true] = μ4 := ⟨_, rfl⟩
    have h4 : HeapAt μ4 i m := hμ4 ▸ h3.app _
    have A4 : AlAt μ4 ab i a := hμ4 ▸ A3.app _
    have K4 : KeepA i ab σ μ4 := hμ4 ▸ K3.trans (KeepA.app _ _)
    have S4 : μ4[σ.length]? = some (AObj.cells [Value.int .i64 r, .int .i64 d, .int .i64 c] ty_api_Shape true) := by rw [← hμ4, List.getElem?_append_left (getElem?_lt S3)]; exact S3
    have W4 : AlAt μ4 μ3.length i a := by unfold AlAt; rw [← hμ4]; simp
    have n3 : μ3.length ∉ i.l := fun hm => Nat.lt_irrefl _ (h3.lt _ hm)
    have ns : σ.length ∉ i.l := fun hm => Nat.lt_irrefl _ (h.lt _ hm)
    have lab3 := A3.lt
    have l03 := K3.len
    obtain ⟨μ5, e5, h5, A5, K5⟩ := hp hv μ4 h4 A4
    have W5 : AlAt μ5 μ3.length i a := W4.like (K5.same _ W4.lt n3 (by omega))
    have S5 : μ5[σ.length]? = some (AObj.cells [Value.int .i64 r, .int .i64 d, .int .i64 c] ty_api_Shape true) := by rw [K5.same _ (getElem?_lt S4) ns (by omega)]; exact S4
    have K05 := K4.trans K5
    simp only [Bool.not_true, cond_false, c0, c1, c2, e2, Option.bind_some, toI_int, e3, toS, A3.l2, Nat.zero_add, Nat.mul_one, lp, hnil]
    rw [if_pos (show 0 ≤ a.p ∧ a.p < ((5 : Nat) : Int) by omega)]
    have hsel : ∀ (K : LOut → Option (Value × AMem)), ((bif decide (words r d c > 32) then (some (AExit.normal, [Value.func (.func fn_alloc_Allocator_large) #[] #[]], μ3)) else (some (AExit.normal, [(Value.func (.method "dustcart/alloc.place") #[polV a.p.toNat] #[])], μ3)) : Option LOut).bind K) = K (.normal, [plV a.p (words r d c)], μ3) := by
      intro K
      unfold plV
      by_cases q : words r d c > 32
      · rw [decide_eq_true q, if_pos q]; rfl
      · rw [decide_eq_false q, if_neg q]; rfl
    have hst : stN (μ3 ++ [AObj.cells [.pointer none, .int .i64 (0 : Int), .int .i64 (0 : Int), .int .i64 (0 : Int), .int .i64 (0 : Int), .int .i64 (0 : Int), .int .i64 (0 : Int)] ty_alloc_Allocator true]) μ3.length 0 [.pointer (hptr i), .int .i64 a.s, .int .i64 a.p, .int .i64 a.c, .int .i64 a.l, .int .i64 a.oc, .int .i64 a.ol] = some μ4 := by
      rw [stN7, ← hμ4]; rfl
    rw [hsel]
    simp only [if_true, u_f_eq, Option.bind_some, A3.ldH, A3.l1, A3.l2, A3.l3, A3.l4, A3.l5, A3.l6, hst, e5, r_it_eq]
    cases hok : pr.1.2 with
    | false =>
      simp only [Bool.not_false, cond_true, Bool.false_eq_true, if_false]
      exact ⟨μ5, rfl, h5, A5, K05⟩
    | true =>
      have wq : w64 (pr.1.1.tdiv 64) = pr.1.1.tdiv 64 := by
        rw [Int.tdiv_eq_ediv_of_nonneg ha1.1]; exact w64_in (by unfold inI; omega)
      have e6 : d_heap_Heap_Space (k + 12) (hptr i) (pr.1.1.tdiv 64) μ5 = _ := Space_e (k + 9) h5 (pr.1.1.tdiv 64)
      simp only [Bool.not_true, cond_false, A5.ldH, Option.bind_some, wq, e6, toI_int, A5.l1, hps hv, if_true]
      rw [if_neg (by decide)]
      have restore : ∀ {μ : AMem} {a' : AS}, AlAt μ ab i a' → stN μ ab 0 [.pointer (hptr i), .int .i64 a.s, .int .i64 a.p, .int .i64 a.c, .int .i64 a.l, .int .i64 a.oc, .int .i64 a.ol] = some (μ.set ab (.cells (a.row i.hb) ty_alloc_Allocator true)) := fun hh => hh.st 0 _ a rfl (by simp)
      by_cases q : spcI pr.2.1 (pr.1.1.tdiv 64) = a.s
      · obtain ⟨s0, s1, s2⟩ := bx S5
        obtain ⟨μ6, e7, h6, k6⟩ := Place_to k hk h5 (hI hv) (hb hv) pr.1.1 r d c (by unfold inI; omega)
        have A6 := A5.keep k6 hab
        have W6 : AlAt μ6 μ3.length i a := W5.keep k6 n3
        have K06 := K05.trans (KeepA.of k6)
        simp only [q, beq_self_eq_true, cond_true, s0, s1, s2, Option.bind_some, e7, r_ii_eq, if_true, u_i_eq]
        by_cases q2 : (placeR pr.2.1 pr.1.1 r d c).2.1 = 0
        · simp only [q2, bne_self_eq_false, cond_false, if_true]
          exact ⟨μ6, rfl, h6, A6, K06⟩
        · simp only [show ((placeR pr.2.1 pr.1.1 r d c).2.1 != 0) = true from by simpa using q2, cond_true, if_neg q2, W6.ldH, W6.l1, W6.l2, W6.l3, W6.l4, W6.l5, W6.l6, Option.bind_some, restore A6]
          exact ⟨_, rfl, h6.setA hab _, A6.put a, K06.trans (KeepA.set _ _)⟩
      · simp only [show (spcI pr.2.1 (pr.1.1.tdiv 64) == a.s) = false from by simpa using q, cond_false, Option.bind_some, if_true, u_i_eq, show ((5 : Int) != 0) = true from rfl, cond_true, if_neg q, W5.ldH, W5.l1, W5.l2, W5.l3, W5.l4, W5.l5, W5.l6, restore A5]
        exact ⟨_, rfl, h5.setA hab _, A5.put a, K05.trans (KeepA.set _ _)⟩

theorem ANew_to (k : Nat) (h : HeapAt σ i m) (s p : Int) : ∃ σ1, d_alloc_New (k + 3) (hptr i) s p σ = (if (0 ≤ s ∧ s < 8) ∧ (0 ≤ p ∧ p < 5) then some (.tuple #[.pointer (aptr σ1.length), .int .i64 0], σ1 ++ [AObj.cells ((⟨s, p, 0, 0, 0, 0⟩ : AS).row i.hb) ty_alloc_Allocator true]) else some (.tuple #[.pointer none, .int .i64 1], σ1)) ∧ ∃ τ, σ1 = σ ++ τ := by
  have hnb := h.nb
  rw [d_alloc_New_eq, b_alloc_New]
  have q0 : (((m.bls.length : Nat) : Int) == 0) = false := beq_eq_false_iff_ne.2 (by omega)
  simp only [Blocks_to k h, Option.bind_some, toI_int, q0, cond_false]
  by_cases h1 : s < 0
  · refine ⟨σ, ?_, [], by simp⟩
    simp only [decide_eq_true h1, Option.bind_some, cond_true, if_neg (show ¬ ((0 ≤ s ∧ s < 8) ∧ (0 ≤ p ∧ p < 5)) by omega)]
  simp only [decide_eq_false h1, Option.bind_some, cond_false]
  by_cases h2 : s ≥ 8
  · refine ⟨σ, ?_, [], by simp⟩
    simp only [decide_eq_true h2, Option.bind_some, cond_true, if_neg (show ¬ ((0 ≤ s ∧ s < 8) ∧ (0 ≤ p ∧ p < 5)) by omega)]
  simp only [decide_eq_false h2, Option.bind_some, cond_false]
  by_cases h3 : p < 0
  · refine ⟨σ, ?_, [], by simp⟩
    simp only [decide_eq_true h3, Option.bind_some, cond_true, if_neg (show ¬ ((0 ≤ s ∧ s < 8) ∧ (0 ≤ p ∧ p < 5)) by omega)]
  simp only [decide_eq_false h3, Option.bind_some, cond_false, policies_to, toS]
  by_cases h4 : p ≥ ((5 : Nat) : Int)
  · refine ⟨σ ++ [polO], ?_, [polO], rfl⟩
    simp only [decide_eq_true h4, cond_true, if_neg (show ¬ ((0 ≤ s ∧ s < 8) ∧ (0 ≤ p ∧ p < 5)) by omega)]
  · refine ⟨σ ++ [polO], ?_, [polO], rfl⟩
    simp only [decide_eq_false h4, cond_false, if_pos (show (0 ≤ s ∧ s < 8) ∧ (0 ≤ p ∧ p < 5) by omega), allocK]
    rfl

theorem callV_bump (k : Nat) (p : Option Addr) (n : Int) (σ : AMem) : d_callV_pi_it k (.func (.method "dustcart/alloc.place") #[polV 3] #[]) [.pointer p, .int .i64 n] σ = d_alloc_bump_place k p n σ := by
  simp only [d_callV_pi_it, d_alloc_bump_place, hide_eq]; kernel_rfl

end Go.Proofs.Ytlaplcglpnlieaa
