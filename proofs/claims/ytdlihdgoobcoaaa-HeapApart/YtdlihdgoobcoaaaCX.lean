/-
  Calls one by one, and all of them: do, Made.
-/
import Derived.Test.YtdlihdgoobcoaaaCW
import Derived.Test.YtdlihdgoobcoaaaCJ
set_option linter.unusedVariables false
set_option linter.unusedSimpArgs false
namespace Go.Proofs.Ytdlihdgoobcoaaa
open Go Go.AX
noncomputable local instance : Quiet := fullQuiet
variable {σ : AMem} {i : HIds} {m : HM}

/-- A call as it is given: kind, A, B, C, and a shape. -/
structure ActV where
  k : Int
  a : Int
  b : Int
  c : Int
  r : Int
  d : Int
  s : Int
def ActV.cells (x : ActV) : List Value := [.int .i64 x.k, .int .i64 x.a, .int .i64 x.b, .int .i64 x.c, .int .i64 x.r, .int .i64 x.d, .int .i64 x.s]
def ActV.ok (x : ActV) : Prop := inI x.k ∧ inI x.a ∧ inI x.b ∧ inI x.c ∧ inI x.r ∧ inI x.d ∧ inI x.s

theorem Goes.after {μ : AMem} {mm : Option (Value × AMem)} {r : Int × HM} (h : Goes mm μ i r) (hk : Keeps i σ μ) : Goes mm σ i r := by
  obtain ⟨σ', e, h1, h2⟩ := h
  exact ⟨σ', e, h1, hk.trans h2⟩

/-- What a call does to a heap. -/
def doR (m : HM) (x : ActV) : Int × HM :=
  if x.k = 0 then claimR m x.a 1 1 x.b 0 0 else if x.k = 1 then claimR m x.a x.b 2 x.c 3 x.c else if x.k = 2 then releaseR m x.a else if x.k = 3 then retagR m x.a x.b else
  if x.k = 4 then (placeR m x.a x.r x.d x.s).2 else if x.k = 5 then killR m x.a else if x.k = 6 then moveR m x.a x.b else if x.k = 7 then setRefR m x.a x.b x.c else
  if x.k = 8 then setDataR m x.a x.b x.c else if x.k = 9 then pokeR m x.a x.b else if x.k = 10 then pinR m x.a 1 else if x.k = 11 then pinR m x.a 0 else
  if x.k = 12 then (0, { m with fw := [] }) else (0, m)

theorem keep_if {c : Prop} [Decidable c] {r r' : Int × HM} (h : c → Keep1 m r) (h' : ¬ c → Keep1 m r') : Keep1 m (if c then r else r') := by
  split
  · exact h ‹_›
  · exact h' ‹_›
theorem doR_keep (h : Inv m) (h2 : Inv2 m) (hS : Sh m) (x : ActV) : Keep1 m (doR m x) := by
  unfold doR
  refine keep_if (fun _ => claimR_keep h h2 _ _ _ _ _ _) fun _ => ?_
  refine keep_if (fun _ => claimR_keep h h2 _ _ _ _ _ _) fun _ => ?_
  refine keep_if (fun _ => releaseR_keep h h2 _) fun _ => ?_
  refine keep_if (fun _ => retagR_keep h h2 _ _) fun _ => ?_
  refine keep_if (fun _ => placeR_keep h h2 hS _ _ _ _) fun _ => ?_
  refine keep_if (fun _ => killR_keep h h2 hS _) fun _ => ?_
  refine keep_if (fun _ => moveR_keep h h2 hS _ _) fun _ => ?_
  refine keep_if (fun _ => setRefR_keep h h2 _ _ _) fun _ => ?_
  refine keep_if (fun _ => setDataR_keep h h2 _ _ _) fun _ => ?_
  refine keep_if (fun _ => pokeR_keep h h2 _ _) fun _ => ?_
  refine keep_if (fun _ => pinR_keep h h2 _ _) fun _ => ?_
  refine keep_if (fun _ => pinR_keep h h2 _ _) fun _ => ?_
  refine keep_if (fun _ => forget_keep h h2) fun _ => ?_
  exact Keep1.same h h2 _

theorem do_goes (k : Nat) (hk : 5000 ≤ k) (h : HeapAt σ i m) (hI : Inv m) (hb : m.births < 1000000) (x : ActV) (hx : x.ok) : Goes (d_law02_do (k + 13) (hptr i) x.k x.a x.b x.c x.r x.d x.s σ) σ i (doR m x) := by
  obtain ⟨h1, h2, h3, h4, h5, h6, h7⟩ := hx
  rw [d_law02_do]
  simp only [allocK]
  obtain ⟨μ, hμ⟩ : ∃ μ, σ ++ [AObj.cells [Value.int .i64 x.k, .int .i64 x.a, .int .i64 x.b, .int .i64 x.c, .int .i64 x.r, .int .i64 x.d, .int .i64 x.s] ty_dustcartlaw02_Act true] = μ := ⟨_, rfl⟩
  have hm0 : HeapAt μ i m := hμ ▸ h.app _
  have k0 : Keeps i σ μ := hμ ▸ Keeps.app i σ _
  have hbox : μ[σ.length]? = some (AObj.cells [Value.int .i64 x.k, .int .i64 x.a, .int .i64 x.b, .int .i64 x.c, .int .i64 x.r, .int .i64 x.d, .int .i64 x.s] ty_dustcartlaw02_Act true) := by rw [← hμ]; simp
  have l0 : ldI .i64 μ σ.length 0 = some x.k := by simp [ldI, ld1, hbox, toI]
  have l1 : ldI .i64 μ σ.length 1 = some x.a := by simp [ldI, ld1, hbox, toI]
  have l2 : ldI .i64 μ σ.length 2 = some x.b := by simp [ldI, ld1, hbox, toI]
  have l3 : ldI .i64 μ σ.length 3 = some x.c := by simp [ldI, ld1, hbox, toI]
  have l4 : ldI .i64 μ σ.length 4 = some x.r := by simp [ldI, ld1, hbox, toI]
  have l5 : ldI .i64 μ σ.length 5 = some x.d := by simp [ldI, ld1, hbox, toI]
  have l6 : ldI .i64 μ σ.length 6 = some x.s := by simp [ldI, ld1, hbox, toI]
  rw [hμ]
  refine Goes.after ?_ k0
  unfold doR
  simp only [Nat.zero_add, Nat.reduceAdd, l0, Option.bind_some]
  have step : ∀ (n : Int) {A B : Option (Value × AMem)} {r r' : Int × HM}, (x.k = n → Goes A μ i r) → (x.k ≠ n → Goes B μ i r') → Goes (bif x.k == n then A else B) μ i (if x.k = n then r else r') := by
    intro n A B r r' hA hB
    by_cases hq : x.k = n
    · rw [show (x.k == n) = true from by simpa using hq, cond_true, if_pos hq]; exact hA hq
    · rw [show (x.k == n) = false from by simpa using hq, cond_false, if_neg hq]; exact hB hq
  refine step 0 (fun _ => ?_) fun _ => step 1 (fun _ => ?_) fun _ => step 2 (fun _ => ?_) fun _ => step 3 (fun _ => ?_) fun _ => ?_
  · refine (Claim_goes (k + 5) (by omega) hm0 x.a x.b h2).to fun σ' e => ?_
    have e' : d_heap_Heap_Claim (k + 12) (hptr i) x.a x.b μ = _ := e
    simp only [l1, l2, Option.bind_some, e', toI_int]
  · refine (ClaimLarge_goes (k + 5) (by omega) hm0 x.a x.b x.c h2 h3).to fun σ' e => ?_
    have e' : d_heap_Heap_ClaimLarge (k + 12) (hptr i) x.a x.b x.c μ = _ := e
    simp only [l1, l2, l3, Option.bind_some, e', toI_int]
  · refine (Release_goes (k + 5) (by omega) hm0 x.a).to fun σ' e => ?_
    have e' : d_heap_Heap_Release (k + 12) (hptr i) x.a μ = _ := e
    simp only [l1, Option.bind_some, e', toI_int]
  · refine (Retag_goes (k + 7) (by omega) hm0 x.a x.b).to fun σ' e => ?_
    have e' : d_heap_Heap_Retag (k + 12) (hptr i) x.a x.b μ = _ := e
    simp only [l1, l2, Option.bind_some, e', toI_int]
  have c4 : ∀ (n : Int), x.k = n → (x.k == n) = true := fun n hq => by simpa using hq
  have c0 : ∀ (n : Int), x.k ≠ n → (x.k == n) = false := fun n hq => by simpa using hq
  by_cases q4 : x.k = 4
  · obtain ⟨σ', e, g1, g2⟩ := Place_to k hk hm0 hI hb x.a x.r x.d x.s h2
    rw [if_pos q4]
    refine ⟨σ', ?_, g1, g2⟩
    simp only [c4 4 q4, cond_true, l1, l4, l5, l6, Option.bind_some, e, r_ii_eq, if_true, u_i_eq]
  simp only [c0 4 q4, cond_false]
  rw [if_neg q4]
  by_cases q5 : x.k = 5
  · rw [if_pos q5]
    refine (Kill_goes k hm0 hI x.a h2).to fun σ' e => ?_
    have e' : d_heap_Heap_Kill (k + 12) (hptr i) x.a μ = _ := e
    simp only [c4 5 q5, cond_true, l1, l2, l3, Option.bind_some, e', toI_int, reduceCtorEq, if_false, if_true, u_i_eq]
  simp only [c0 5 q5, cond_false]
  rw [if_neg q5]
  by_cases q6 : x.k = 6
  · rw [if_pos q6]
    refine (Move_goes k hk hm0 hI x.a x.b h2).to fun σ' e => ?_
    have e' : d_heap_Heap_Move (k + 12) (hptr i) x.a x.b μ = _ := e
    simp only [c4 6 q6, cond_true, l1, l2, l3, Option.bind_some, e', toI_int, reduceCtorEq, if_false, if_true, u_i_eq]
  simp only [c0 6 q6, cond_false]
  rw [if_neg q6]
  by_cases q7 : x.k = 7
  · rw [if_pos q7]
    refine (SetRef_goes (k + 5) hm0 hI x.a x.b x.c h2 h4).to fun σ' e => ?_
    have e' : d_heap_Heap_SetRef (k + 12) (hptr i) x.a x.b x.c μ = _ := e
    simp only [c4 7 q7, cond_true, l1, l2, l3, Option.bind_some, e', toI_int, reduceCtorEq, if_false, if_true, u_i_eq]
  simp only [c0 7 q7, cond_false]
  rw [if_neg q7]
  by_cases q8 : x.k = 8
  · rw [if_pos q8]
    refine (SetData_goes (k + 5) hm0 hI x.a x.b x.c h2 h4).to fun σ' e => ?_
    have e' : d_heap_Heap_SetData (k + 12) (hptr i) x.a x.b x.c μ = _ := e
    simp only [c4 8 q8, cond_true, l1, l2, l3, Option.bind_some, e', toI_int, reduceCtorEq, if_false, if_true, u_i_eq]
  simp only [c0 8 q8, cond_false]
  rw [if_neg q8]
  by_cases q9 : x.k = 9
  · rw [if_pos q9]
    refine (Poke_goes (k + 1) (by omega) hm0 hI x.a x.b h3).to fun σ' e => ?_
    have e' : d_heap_Heap_Poke (k + 12) (hptr i) x.a x.b μ = _ := e
    simp only [c4 9 q9, cond_true, l1, l2, l3, Option.bind_some, e', toI_int, reduceCtorEq, if_false, if_true, u_i_eq]
  simp only [c0 9 q9, cond_false]
  rw [if_neg q9]
  by_cases q10 : x.k = 10
  · rw [if_pos q10]
    refine (Pin_goes (k + 1) hm0 x.a h2).to fun σ' e => ?_
    have e' : d_heap_Heap_Pin (k + 12) (hptr i) x.a μ = _ := e
    simp only [c4 10 q10, cond_true, l1, l2, l3, Option.bind_some, e', toI_int, reduceCtorEq, if_false, if_true, u_i_eq]
  simp only [c0 10 q10, cond_false]
  rw [if_neg q10]
  by_cases q11 : x.k = 11
  · rw [if_pos q11]
    refine (Unpin_goes (k + 1) hm0 x.a h2).to fun σ' e => ?_
    have e' : d_heap_Heap_Unpin (k + 12) (hptr i) x.a μ = _ := e
    simp only [c4 11 q11, cond_true, l1, l2, l3, Option.bind_some, e', toI_int, reduceCtorEq, if_false, if_true, u_i_eq]
  simp only [c0 11 q11, cond_false]
  rw [if_neg q11]
  by_cases q12 : x.k = 12
  · rw [if_pos q12]
    obtain ⟨e, g1, g2⟩ := Forget_to (k + 10) hm0
    have e' : d_heap_Heap_Forget (k + 12) (hptr i) μ = _ := e
    refine ⟨_, ?_, g1, g2⟩
    simp only [c4 12 q12, cond_true, Option.bind_some, e', toI_int, reduceCtorEq, if_false, if_true, u_i_eq]
  · rw [if_neg q12]
    simp only [c0 12 q12, cond_false, Option.bind_some, if_true, u_i_eq]
    exact Goes.same hm0 [] (code := 0) (by rw [List.append_nil]) rfl

def actRow : List ActV → List Value
  | [] => []
  | x :: l => x.cells ++ actRow l
theorem actRow_get : ∀ (l : List ActV) (x : Nat) (hx : x < l.length) (q : Nat), q < 7 → (actRow l)[x * 7 + q]? = (l[x]).cells[q]?
  | [], x, hx, _, _ => by simp at hx
  | y :: l, 0, hx, q, hq => by
    simp only [actRow, Nat.zero_mul, Nat.zero_add, List.getElem_cons_zero]
    rw [List.getElem?_append_left (by simp [ActV.cells]; omega)]
  | y :: l, x + 1, hx, q, hq => by
    have ih := actRow_get l x (by simpa using hx) q hq
    simp only [actRow, List.getElem_cons_succ]
    rw [List.getElem?_append_right (by simp [ActV.cells]; omega), ← ih]
    congr 1
    simp [ActV.cells]; omega

/-- The calls, as a slice in memory. -/
def ActsAt (σ : AMem) (p : Option Addr) (l : List ActV) : Prop := l = [] ∨ ∃ ab T rw, p = some ⟨ab, 0, none⟩ ∧ σ[ab]? = some (.cells (actRow l) T rw)
theorem ActsAt.keep {σ σ' : AMem} {p : Option Addr} {l : List ActV} (h : ActsAt σ p l) (hk : Keeps i σ σ') (hi : l ≠ [] → ∀ a, p = some a → a.block ∉ i.l) : ActsAt σ' p l := by
  by_cases hl : l = []
  · exact .inl hl
  rcases h with h | ⟨ab, T, rw', rfl, h⟩
  · exact .inl h
  · exact .inr ⟨ab, T, rw', rfl, (hk.same _ (getElem?_lt h) (hi hl _ rfl)).trans h⟩

/-- Calls, one after the other. -/
def runM (m : HM) (l : List ActV) : HM := l.foldl (fun m x => (doR m x).2) m
/-- What a heap is that calls have made. -/
def madeM (b : Int) (l : List ActV) : Option HM := if l.length ≤ 60 ∧ b ≤ 12 ∧ 2 ≤ b then some (runM (newM b.toNat) l) else none

theorem Made_l0_to (k : Nat) (hk : 5000 ≤ k) (p : Option Addr) (c2 : Nat) (l : List ActV) (hl : l.length ≤ 60) (hok : ∀ x ∈ l, x.ok) (hi : l ≠ [] → ∀ a, p = some a → a.block ∉ i.l) : ∀ (n x f : Nat) (σ : AMem) (m : HM), HeapAt σ i m → Inv m → Inv2 m → ActsAt σ p l → x + n = l.length → m.births ≤ x → n < f →
    ∃ σ', d_law02_Made_l0 (k + 13) f p l.length c2 (hptr i) (x : Int) σ = some (.exit 0, [], σ') ∧ HeapAt σ' i (runM m (l.drop x)) ∧ Inv (runM m (l.drop x)) ∧ Inv2 (runM m (l.drop x)) ∧ Keeps i σ σ' ∧ (runM m (l.drop x)).births ≤ (l.length : Int) ∧ (runM m (l.drop x)).bls.length = m.bls.length
  | 0, x, 0, σ, m, h, hI, hI2, hA, hx, hb, hf => by omega
  | 0, x, f + 1, σ, m, h, hI, hI2, hA, hx, hb, hf => by
    rw [d_law02_Made_l0]
    have q : decide ((x : Int) < ((l.length : Nat) : Int)) = false := decide_eq_false (by omega)
    rw [List.drop_eq_nil_of_le (show l.length ≤ x by omega)]
    exact ⟨σ, by simp only [q, cond_false], h, hI, hI2, Keeps.refl _ _, by show m.births ≤ _; omega, rfl⟩
  | n + 1, x, 0, σ, m, h, hI, hI2, hA, hx, hb, hf => by omega
  | n + 1, x, f + 1, σ, m, h, hI, hI2, hA, hx, hb, hf => by
    have hxl : x < l.length := by omega
    obtain ⟨σ1, e1, h1, k1⟩ := do_goes k hk h hI (by omega) l[x] (hok _ (List.getElem_mem _))
    obtain ⟨I1, I2, b1, b2, bl, _⟩ := doR_keep hI hI2 h.sh l[x]
    rw [List.drop_eq_getElem_cons hxl, show runM m (l[x] :: l.drop (x + 1)) = runM (doR m l[x]).2 (l.drop (x + 1)) from rfl]
    obtain ⟨σ', e2, h2, I3, I4, k2, b3, b4⟩ := Made_l0_to k hk p c2 l hl hok hi n (x + 1) f σ1 _ h1 I1 I2 (hA.keep k1 hi) (by omega) (by omega) (by omega)
    refine ⟨σ', ?_, h2, I3, I4, k1.trans k2, b3, b4.trans bl⟩
    rcases hA with rfl | ⟨ab, T, rw', rfl, hcell⟩
    · simp at hxl
    rw [d_law02_Made_l0]
    have q : decide ((x : Int) < ((l.length : Nat) : Int)) = true := decide_eq_true (by omega)
    have w1 : w64 ((x : Int) + 1) = ((x + 1 : Nat) : Int) := w64_in (by unfold inI; omega)
    have ld : ∀ q v, q < 7 → (l[x]).cells[q]? = some (.int .i64 v) → ldI .i64 σ ab (x * 7 + q) = some v := by
      intro q v hq hv
      simp only [ldI, ld1, hcell, actRow_get l x hxl q hq, hv, Option.bind_some, toI_int]
    simp only [q, cond_true]
    rw [if_pos (by omega)]
    have d0 := ld 0 l[x].k (by decide) rfl
    have d1 := ld 1 l[x].a (by decide) rfl
    have d2 := ld 2 l[x].b (by decide) rfl
    have d3 := ld 3 l[x].c (by decide) rfl
    have d4 := ld 4 l[x].r (by decide) rfl
    have d5 := ld 5 l[x].d (by decide) rfl
    have d6 := ld 6 l[x].s (by decide) rfl
    simp only [Option.bind_some, Nat.zero_add, Int.toNat_natCast, Nat.add_assoc, Nat.reduceAdd, Nat.add_zero] at d0 d1 d2 d3 d4 d5 d6 ⊢
    simp only [d0, d1, d2, d3, d4, d5, d6, Option.bind_some, e1, toI_int, w1]
    exact e2

/-- What Made comes to: no heap, or one that holds together. -/
theorem Made_to (k : Nat) (hk : 5000 ≤ k) (b : Int) (p : Option Addr) (c2 : Nat) (l : List ActV) (hok : ∀ x ∈ l, x.ok) (hA : ActsAt σ p l) (hp : l ≠ [] → ∀ a, p = some a → a.block < σ.length) :
    (madeM b l = none ∧ d_law02_Made (k + 14) b (p, l.length, c2) σ = some (.pointer none, σ)) ∨
    ∃ σ' i m, madeM b l = some m ∧ d_law02_Made (k + 14) b (p, l.length, c2) σ = some (.pointer (hptr i), σ') ∧ HeapAt σ' i m ∧ Inv m ∧ Inv2 m ∧ Keeps i σ σ' ∧ (∀ j ∈ i.l, σ.length ≤ j) ∧ m.births ≤ 60 ∧ m.bls.length ≤ 12 ∧ (m.bls.length : Int) = b := by
  unfold madeM
  rw [d_law02_Made, d_law02_Great]
  simp only [Option.bind_some, toB_bool]
  by_cases g0 : ((l.length : Nat) : Int) > 60
  · left; rw [if_neg (by omega)]; refine ⟨rfl, ?_⟩; simp only [decide_eq_true g0, cond_true, Option.bind_some]
  simp only [decide_eq_false g0, cond_false, Option.bind_some]
  by_cases g1 : b > 12
  · left; rw [if_neg (by omega)]; refine ⟨rfl, ?_⟩; simp only [decide_eq_true g1, cond_true]
  simp only [decide_eq_false g1, cond_false]
  by_cases g2 : 2 ≤ b ∧ b ≤ 64
  rotate_left
  · left
    rw [if_neg (by omega)]
    refine ⟨rfl, ?_⟩
    have := New_bad (k + 12) b g2 σ
    simp only [this, Option.bind_some, r_pi_eq]
    rfl
  right
  obtain ⟨n, rfl⟩ : ∃ n : Nat, b = (n : Int) := ⟨b.toNat, by omega⟩
  rw [if_pos (by omega), Int.toNat_natCast]
  obtain ⟨σ1, i, e1, h1, hid, k1⟩ := New_to (k + 8) (n := n) (by omega) (by omega) σ
  have hi : l ≠ [] → ∀ a, p = some a → a.block ∉ i.l := fun hl a ha hm => by have := hp hl a ha; have := hid _ hm; omega
  obtain ⟨σ', e2, h2, I2, I3, k2, b2, b3⟩ := Made_l0_to k hk p c2 l (by omega) hok hi l.length 0 (k + 13) σ1 (newM n) h1 (Inv.new n) (Inv2.new n) (hA.keep k1 hi) (by omega) (by show (0 : Int) ≤ _; omega) (by omega)
  rw [show ((0 : Nat) : Int) = 0 from rfl] at e2
  rw [List.drop_zero] at h2 I2 I3 b2 b3
  have hnl : (newM n).bls.length = n := by simp [newM]
  refine ⟨σ', i, _, rfl, ?_, h2, I2, I3, k1.trans k2, hid, by omega, by omega, by rw [b3, hnl]⟩
  have e1' : d_heap_New (k + 13) (n : Int) σ = _ := e1
  simp only [e1', Option.bind_some, r_pi_eq, bne_self_eq_false, cond_false, e2, if_true]

end Go.Proofs.Ytdlihdgoobcoaaa
