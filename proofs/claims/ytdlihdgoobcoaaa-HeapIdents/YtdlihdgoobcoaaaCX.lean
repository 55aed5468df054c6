/-
  Calls one by one, and all of them: do, Made.
-/
import Derived.Test.YtdlihdgoobcoaaaCW
set_option linter.unusedVariables false
set_option linter.unusedSimpArgs false
namespace Go.Proofs.Ytdlihdgoobcoaaa
open Go Go.AX
noncomputable local instance : Quiet := fullQuiet
variable {σ : AMem} {i : HIds} {m : HM}

/-- A call as it is given: kind, A, B, C, and a shape. -/
structure ActV where
  k : Int
  a : Int
  b : Int
  c : Int
  r : Int
  d : Int
  s : Int
def ActV.cells (x : ActV) : List Value := [.int .i64 x.k, .int .i64 x.a, .int .i64 x.b, .int .i64 x.c, .int .i64 x.r, .int .i64 x.d, .int .i64 x.s]
def ActV.ok (x : ActV) : Prop := inI x.k ∧ inI x.a ∧ inI x.b ∧ inI x.c ∧ inI x.r ∧ inI x.d ∧ inI x.s

theorem Does.after {μ : AMem} {mm : Option (Value × AMem)} (h : Does mm μ i m) (hk : Keeps i σ μ) : Does mm σ i m := by
  obtain ⟨code, m', σ', e, h1, h2, r⟩ := h
  exact ⟨code, m', σ', e, h1, hk.trans h2, r⟩

theorem do_does (k : Nat) (hk : 5000 ≤ k) (h : HeapAt σ i m) (hI : Inv m) (hb : m.births < 1000000) (x : ActV) (hx : x.ok) : Does (d_law02_do (k + 13) (hptr i) x.k x.a x.b x.c x.r x.d x.s σ) σ i m := by
  obtain ⟨h1, h2, h3, h4, h5, h6, h7⟩ := hx
  rw [d_law02_do]
  simp only [allocK]
  obtain ⟨μ, hμ⟩ : ∃ μ, σ ++ [AObj.cells [Value.int .i64 x.k, .int .i64 x.a, .int .i64 x.b, .int .i64 x.c, .int .i64 x.r, .int .i64 x.d, .int .i64 x.s] ty_dustcartlaw02_Act true] = μ := ⟨_, rfl⟩
  have hm0 : HeapAt μ i m := hμ ▸ h.app _
  have k0 : Keeps i σ μ := hμ ▸ Keeps.app i σ _
  have hbox : μ[σ.length]? = some (AObj.cells [Value.int .i64 x.k, .int .i64 x.a, .int .i64 x.b, .int .i64 x.c, .int .i64 x.r, .int .i64 x.d, .int .i64 x.s] ty_dustcartlaw02_Act true) := by rw [← hμ]; simp
  have l0 : ldI .i64 μ σ.length 0 = some x.k := by simp [ldI, ld1, hbox, toI]
  have l1 : ldI .i64 μ σ.length 1 = some x.a := by simp [ldI, ld1, hbox, toI]
  have l2 : ldI .i64 μ σ.length 2 = some x.b := by simp [ldI, ld1, hbox, toI]
  have l3 : ldI .i64 μ σ.length 3 = some x.c := by simp [ldI, ld1, hbox, toI]
  have l4 : ldI .i64 μ σ.length 4 = some x.r := by simp [ldI, ld1, hbox, toI]
  have l5 : ldI .i64 μ σ.length 5 = some x.d := by simp [ldI, ld1, hbox, toI]
  have l6 : ldI .i64 μ σ.length 6 = some x.s := by simp [ldI, ld1, hbox, toI]
  rw [hμ]
  refine Does.after ?_ k0
  simp only [Nat.zero_add, Nat.reduceAdd, l0, Option.bind_some]
  have step : ∀ (n : Int) {A B : Option (Value × AMem)}, (x.k = n → Does A μ i m) → (x.k ≠ n → Does B μ i m) → Does (bif x.k == n then A else B) μ i m := by
    intro n A B hA hB
    by_cases hq : x.k = n
    · rw [show (x.k == n) = true from by simpa using hq, cond_true]; exact hA hq
    · rw [show (x.k == n) = false from by simpa using hq, cond_false]; exact hB hq
  refine step 0 (fun _ => ?_) fun _ => step 1 (fun _ => ?_) fun _ => step 2 (fun _ => ?_) fun _ => step 3 (fun _ => ?_) fun _ => ?_
  · obtain ⟨code, m', σ', e, r⟩ := Claim_does (k + 5) (by omega) hm0 hI x.a x.b h2
    refine ⟨code, m', σ', ?_, r⟩
    have e' : d_heap_Heap_Claim (k + 12) (hptr i) x.a x.b μ = _ := e
    simp only [l1, l2, Option.bind_some, e', toI_int]
  · obtain ⟨code, m', σ', e, r⟩ := ClaimLarge_does (k + 5) (by omega) hm0 hI x.a x.b x.c h2 h3
    refine ⟨code, m', σ', ?_, r⟩
    have e' : d_heap_Heap_ClaimLarge (k + 12) (hptr i) x.a x.b x.c μ = _ := e
    simp only [l1, l2, l3, Option.bind_some, e', toI_int]
  · obtain ⟨code, m', σ', e, r⟩ := Release_does (k + 5) (by omega) hm0 hI x.a
    refine ⟨code, m', σ', ?_, r⟩
    have e' : d_heap_Heap_Release (k + 12) (hptr i) x.a μ = _ := e
    simp only [l1, Option.bind_some, e', toI_int]
  · obtain ⟨code, m', σ', e, r⟩ := Retag_does (k + 7) (by omega) hm0 hI x.a x.b
    refine ⟨code, m', σ', ?_, r⟩
    have e' : d_heap_Heap_Retag (k + 12) (hptr i) x.a x.b μ = _ := e
    simp only [l1, l2, Option.bind_some, e', toI_int]
  have c4 : ∀ (n : Int), x.k = n → (x.k == n) = true := fun n hq => by simpa using hq
  have c0 : ∀ (n : Int), x.k ≠ n → (x.k == n) = false := fun n hq => by simpa using hq
  by_cases q4 : x.k = 4
  · obtain ⟨id, code, m', σ', e, g1, g2, g3, g4, g5, g6⟩ := Place_to k hk hm0 hI hb x.a x.r x.d x.s h2
    refine ⟨code, m', σ', ?_, g1, g2, g3, ?_, ?_, by rw [g4], fun hc => (g6 hc).2⟩
    · simp only [c4 4 q4, cond_true, l1, l4, l5, l6, Option.bind_some, e, r_ii_eq, if_true, u_i_eq]
    · by_cases hc : code = 0
      · rw [(g5 hc).2]; omega
      · rw [(g6 hc).2]; exact Int.le_refl _
    · by_cases hc : code = 0
      · rw [(g5 hc).2]; omega
      · rw [(g6 hc).2]; omega
  simp only [c0 4 q4, cond_false]
  by_cases q5 : x.k = 5
  · obtain ⟨code, m', σ', e, r⟩ := Kill_does k hm0 hI x.a h2
    refine ⟨code, m', σ', ?_, r⟩
    simp only [c4 5 q5, cond_true, l1, Option.bind_some, e, toI_int, reduceCtorEq, if_false, if_true, u_i_eq]
  simp only [c0 5 q5, cond_false]
  by_cases q6 : x.k = 6
  · obtain ⟨code, m', σ', e, r⟩ := Move_does k hk hm0 hI x.a x.b h2
    refine ⟨code, m', σ', ?_, r⟩
    simp only [c4 6 q6, cond_true, l1, l2, Option.bind_some, e, toI_int, reduceCtorEq, if_false, if_true, u_i_eq]
  simp only [c0 6 q6, cond_false]
  by_cases q7 : x.k = 7
  · obtain ⟨code, m', σ', e, r⟩ := SetRef_does (k + 5) hm0 hI x.a x.b x.c h2 h4
    have e' : d_heap_Heap_SetRef (k + 12) (hptr i) x.a x.b x.c μ = _ := e
    refine ⟨code, m', σ', ?_, r⟩
    simp only [c4 7 q7, cond_true, l1, l2, l3, Option.bind_some, e', toI_int, reduceCtorEq, if_false, if_true, u_i_eq]
  simp only [c0 7 q7, cond_false]
  by_cases q8 : x.k = 8
  · obtain ⟨code, m', σ', e, r⟩ := SetData_does (k + 5) hm0 hI x.a x.b x.c h2 h4
    have e' : d_heap_Heap_SetData (k + 12) (hptr i) x.a x.b x.c μ = _ := e
    refine ⟨code, m', σ', ?_, r⟩
    simp only [c4 8 q8, cond_true, l1, l2, l3, Option.bind_some, e', toI_int, reduceCtorEq, if_false, if_true, u_i_eq]
  simp only [c0 8 q8, cond_false]
  by_cases q9 : x.k = 9
  · obtain ⟨code, m', σ', e, r⟩ := Poke_does (k + 1) (by omega) hm0 hI x.a x.b h3
    have e' : d_heap_Heap_Poke (k + 12) (hptr i) x.a x.b μ = _ := e
    refine ⟨code, m', σ', ?_, r⟩
    simp only [c4 9 q9, cond_true, l1, l2, Option.bind_some, e', toI_int, reduceCtorEq, if_false, if_true, u_i_eq]
  simp only [c0 9 q9, cond_false]
  by_cases q10 : x.k = 10
  · obtain ⟨code, m', σ', e, r⟩ := Pin_does (k + 1) hm0 hI x.a h2
    have e' : d_heap_Heap_Pin (k + 12) (hptr i) x.a μ = _ := e
    refine ⟨code, m', σ', ?_, r⟩
    simp only [c4 10 q10, cond_true, l1, Option.bind_some, e', toI_int, reduceCtorEq, if_false, if_true, u_i_eq]
  simp only [c0 10 q10, cond_false]
  by_cases q11 : x.k = 11
  · obtain ⟨code, m', σ', e, r⟩ := Unpin_does (k + 1) hm0 hI x.a h2
    have e' : d_heap_Heap_Unpin (k + 12) (hptr i) x.a μ = _ := e
    refine ⟨code, m', σ', ?_, r⟩
    simp only [c4 11 q11, cond_true, l1, Option.bind_some, e', toI_int, reduceCtorEq, if_false, if_true, u_i_eq]
  simp only [c0 11 q11, cond_false]
  by_cases q12 : x.k = 12
  · obtain ⟨e, g1, g2⟩ := Forget_to (k + 10) hm0
    have e' : d_heap_Heap_Forget (k + 12) (hptr i) μ = _ := e
    refine ⟨0, _, _, ?_, g1, g2, hI.forwards _, Int.le_refl _, by show m.births ≤ m.births + 1; omega, rfl, fun hc => absurd rfl hc⟩
    simp only [c4 12 q12, cond_true, Option.bind_some, e', toI_int, reduceCtorEq, if_false, if_true, u_i_eq]
  · simp only [c0 12 q12, cond_false, Option.bind_some, if_true, u_i_eq]
    exact Does.same hm0 hI [] 0 (by rw [List.append_nil])

def actRow : List ActV → List Value
  | [] => []
  | x :: l => x.cells ++ actRow l
theorem actRow_get : ∀ (l : List ActV) (x : Nat) (hx : x < l.length) (q : Nat), q < 7 → (actRow l)[x * 7 + q]? = (l[x]).cells[q]?
  | [], x, hx, _, _ => by simp at hx
  | y :: l, 0, hx, q, hq => by
    simp only [actRow, Nat.zero_mul, Nat.zero_add, List.getElem_cons_zero]
    rw [List.getElem?_append_left (by simp [ActV.cells]; omega)]
  | y :: l, x + 1, hx, q, hq => by
    have ih := actRow_get l x (by simpa using hx) q hq
    simp only [actRow, List.getElem_cons_succ]
    rw [List.getElem?_append_right (by simp [ActV.cells]; omega), ← ih]
    congr 1
    simp [ActV.cells]; omega

/-- The calls, as a slice in memory. -/
def ActsAt (σ : AMem) (p : Option Addr) (l : List ActV) : Prop := l = [] ∨ ∃ ab T rw, p = some ⟨ab, 0, none⟩ ∧ σ[ab]? = some (.cells (actRow l) T rw)
theorem ActsAt.keep {σ σ' : AMem} {p : Option Addr} {l : List ActV} (h : ActsAt σ p l) (hk : Keeps i σ σ') (hi : l ≠ [] → ∀ a, p = some a → a.block ∉ i.l) : ActsAt σ' p l := by
  by_cases hl : l = []
  · exact .inl hl
  rcases h with h | ⟨ab, T, rw', rfl, h⟩
  · exact .inl h
  · exact .inr ⟨ab, T, rw', rfl, (hk.same _ (getElem?_lt h) (hi hl _ rfl)).trans h⟩

theorem Made_l0_to (k : Nat) (hk : 5000 ≤ k) (p : Option Addr) (c2 : Nat) (l : List ActV) (hl : l.length ≤ 60) (hok : ∀ x ∈ l, x.ok) (hi : l ≠ [] → ∀ a, p = some a → a.block ∉ i.l) : ∀ (n x f : Nat) (σ : AMem) (m : HM), HeapAt σ i m → Inv m → ActsAt σ p l → x + n = l.length → m.births ≤ x → n < f →
    ∃ σ' m', d_law02_Made_l0 (k + 13) f p l.length c2 (hptr i) (x : Int) σ = some (.exit 0, [], σ') ∧ HeapAt σ' i m' ∧ Inv m' ∧ Keeps i σ σ' ∧ m'.births ≤ (l.length : Int)
  | 0, x, 0, σ, m, h, hI, hA, hx, hb, hf => by omega
  | 0, x, f + 1, σ, m, h, hI, hA, hx, hb, hf => by
    rw [d_law02_Made_l0]
    have q : decide ((x : Int) < ((l.length : Nat) : Int)) = false := decide_eq_false (by omega)
    exact ⟨σ, m, by simp only [q, cond_false], h, hI, Keeps.refl _ _, by omega⟩
  | n + 1, x, 0, σ, m, h, hI, hA, hx, hb, hf => by omega
  | n + 1, x, f + 1, σ, m, h, hI, hA, hx, hb, hf => by
    have hxl : x < l.length := by omega
    obtain ⟨code, m1, σ1, e1, h1, k1, I1, b1, b2, _, _⟩ := do_does k hk h hI (by omega) l[x] (hok _ (List.getElem_mem _))
    obtain ⟨σ', m', e2, h2, I2, k2, b3⟩ := Made_l0_to k hk p c2 l hl hok hi n (x + 1) f σ1 m1 h1 I1 (hA.keep k1 hi) (by omega) (by omega) (by omega)
    refine ⟨σ', m', ?_, h2, I2, k1.trans k2, b3⟩
    rcases hA with rfl | ⟨ab, T, rw', rfl, hcell⟩
    · simp at hxl
    rw [d_law02_Made_l0]
    have q : decide ((x : Int) < ((l.length : Nat) : Int)) = true := decide_eq_true (by omega)
    have w1 : w64 ((x : Int) + 1) = ((x + 1 : Nat) : Int) := w64_in (by unfold inI; omega)
    have ld : ∀ q v, q < 7 → (l[x]).cells[q]? = some (.int .i64 v) → ldI .i64 σ ab (x * 7 + q) = some v := by
      intro q v hq hv
      simp only [ldI, ld1, hcell, actRow_get l x hxl q hq, hv, Option.bind_some, toI_int]
    simp only [q, cond_true]
    rw [if_pos (by omega)]
    have d0 := ld 0 l[x].k (by decide) rfl
    have d1 := ld 1 l[x].a (by decide) rfl
    have d2 := ld 2 l[x].b (by decide) rfl
    have d3 := ld 3 l[x].c (by decide) rfl
    have d4 := ld 4 l[x].r (by decide) rfl
    have d5 := ld 5 l[x].d (by decide) rfl
    have d6 := ld 6 l[x].s (by decide) rfl
    simp only [Option.bind_some, Nat.zero_add, Int.toNat_natCast, Nat.add_assoc, Nat.reduceAdd, Nat.add_zero] at d0 d1 d2 d3 d4 d5 d6 ⊢
    simp only [d0, d1, d2, d3, d4, d5, d6, Option.bind_some, e1, toI_int, w1]
    exact e2

/-- What Made comes to: no heap, or one that holds together. -/
theorem Made_to (k : Nat) (hk : 5000 ≤ k) (b : Int) (p : Option Addr) (c2 : Nat) (l : List ActV) (hok : ∀ x ∈ l, x.ok) (hA : ActsAt σ p l) (hp : l ≠ [] → ∀ a, p = some a → a.block < σ.length) :
    d_law02_Made (k + 14) b (p, l.length, c2) σ = some (.pointer none, σ) ∨
    ∃ σ' i m, d_law02_Made (k + 14) b (p, l.length, c2) σ = some (.pointer (hptr i), σ') ∧ HeapAt σ' i m ∧ Inv m ∧ Keeps i σ σ' ∧ (∀ j ∈ i.l, σ.length ≤ j) ∧ m.births ≤ 60 := by
  rw [d_law02_Made, d_law02_Great]
  simp only [Option.bind_some, toB_bool]
  by_cases g0 : ((l.length : Nat) : Int) > 60
  · left; simp only [decide_eq_true g0, cond_true, Option.bind_some]
  simp only [decide_eq_false g0, cond_false, Option.bind_some]
  by_cases g1 : b > 12
  · left; simp only [decide_eq_true g1, cond_true]
  simp only [decide_eq_false g1, cond_false]
  by_cases g2 : 2 ≤ b ∧ b ≤ 64
  rotate_left
  · left
    have := New_bad (k + 12) b g2 σ
    simp only [this, Option.bind_some, r_pi_eq]
    rfl
  right
  obtain ⟨n, rfl⟩ : ∃ n : Nat, b = (n : Int) := ⟨b.toNat, by omega⟩
  obtain ⟨σ1, i, e1, h1, hid, k1⟩ := New_to (k + 8) (n := n) (by omega) (by omega) σ
  have hi : l ≠ [] → ∀ a, p = some a → a.block ∉ i.l := fun hl a ha hm => by have := hp hl a ha; have := hid _ hm; omega
  obtain ⟨σ', m', e2, h2, I2, k2, b2⟩ := Made_l0_to k hk p c2 l (by omega) hok hi l.length 0 (k + 13) σ1 (newM n) h1 (Inv.new n) (hA.keep k1 hi) (by omega) (by show (0 : Int) ≤ _; omega) (by omega)
  rw [show ((0 : Nat) : Int) = 0 from rfl] at e2
  refine ⟨σ', i, m', ?_, h2, I2, k1.trans k2, hid, by omega⟩
  have e1' : d_heap_New (k + 13) (n : Int) σ = _ := e1
  simp only [e1', Option.bind_some, r_pi_eq, bne_self_eq_false, cond_false, e2, if_true]

end Go.Proofs.Ytdlihdgoobcoaaa
