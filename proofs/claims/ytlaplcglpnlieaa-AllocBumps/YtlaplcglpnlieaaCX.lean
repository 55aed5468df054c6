/-
  Calls one by one, and all of them: do, Made.
-/
import Derived.Test.YtlaplcglpnlieaaCW
import Derived.Test.YtlaplcglpnlieaaCJ
set_option linter.unusedVariables false
set_option linter.unusedSimpArgs false
namespace Go.Proofs.Ytlaplcglpnlieaa
open Go Go.AX
noncomputable local instance qCX : Quiet := fullQuiet
local instance nCX : Kn := ⟨true⟩
variable {σ : AMem} {i : HIds} {m : HM}

/-- A call as it is given: kind, A, B, C, and a shape. -/
structure ActV where
  k : Int
  a : Int
  b : Int
  c : Int
  r : Int
  d : Int
  s : Int
def ActV.cells (x : ActV) : List Value := [.int .i64 x.k, .int .i64 x.a, .int .i64 x.b, .int .i64 x.c, .int .i64 x.r, .int .i64 x.d, .int .i64 x.s]
def ActV.ok (x : ActV) : Prop := inI x.k ∧ inI x.a ∧ inI x.b ∧ inI x.c ∧ inI x.r ∧ inI x.d ∧ inI x.s

theorem Goes.after {μ : AMem} {mm : Option (Value × AMem)} {r : Int × HM} (h : Goes mm μ i r) (hk : Keeps i σ μ) : Goes mm σ i r := by
  obtain ⟨σ', e, h1, h2⟩ := h
  exact ⟨σ', e, h1, hk.trans h2⟩

/-- What a call does to a heap. -/
def doR (m : HM) (x : ActV) : Int × HM :=
  if x.k = 0 then claimR m x.a 1 1 x.b 0 0 else if x.k = 1 then claimR m x.a x.b 2 x.c 3 x.c else if x.k = 2 then releaseR m x.a else if x.k = 3 then retagR m x.a x.b else
  if x.k = 4 then (placeR m x.a x.r x.d x.s).2 else if x.k = 5 then killR m x.a else if x.k = 6 then moveR m x.a x.b else if x.k = 7 then setRefR m x.a x.b x.c else
  if x.k = 8 then setDataR m x.a x.b x.c else if x.k = 9 then pokeR m x.a x.b else if x.k = 10 then pinR m x.a 1 else if x.k = 11 then pinR m x.a 0 else
  if x.k = 12 then (0, { m with fw := [] }) else (0, m)

theorem keep_if {c : Prop} [Decidable c] {r r' : Int × HM} (h : c → Keep1 m r) (h' : ¬ c → Keep1 m r') : Keep1 m (if c then r else r') := by
  split
  · exact h ‹_›
  · exact h' ‹_›
theorem doR_keep (h : Inv m) (h2 : Inv2 m) (hS : Sh m) (x : ActV) : Keep1 m (doR m x) := by
  unfold doR
  refine keep_if (fun _ => claimR_keep h h2 _ _ _ _ _ _) fun _ => ?_
  refine keep_if (fun _ => claimR_keep h h2 _ _ _ _ _ _) fun _ => ?_
  refine keep_if (fun _ => releaseR_keep h h2 _) fun _ => ?_
  refine keep_if (fun _ => retagR_keep h h2 _ _) fun _ => ?_
  refine keep_if (fun _ => placeR_keep h h2 hS _ _ _ _) fun _ => ?_
  refine keep_if (fun _ => killR_keep h h2 hS _) fun _ => ?_
  refine keep_if (fun _ => moveR_keep h h2 hS _ _) fun _ => ?_
  refine keep_if (fun _ => setRefR_keep h h2 _ _ _) fun _ => ?_
  refine keep_if (fun _ => setDataR_keep h h2 _ _ _) fun _ => ?_
  refine keep_if (fun _ => pokeR_keep h h2 _ _) fun _ => ?_
  refine keep_if (fun _ => pinR_keep h h2 _ _) fun _ => ?_
  refine keep_if (fun _ => pinR_keep h h2 _ _) fun _ => ?_
  refine keep_if (fun _ => forget_keep h h2) fun _ => ?_
  exact Keep1.same h h2 _

def actRow : List ActV → List Value
  | [] => []
  | x :: l => x.cells ++ actRow l
theorem actRow_get : ∀ (l : List ActV) (x : Nat) (hx : x < l.length) (q : Nat), q < 7 → (actRow l)[x * 7 + q]? = (l[x]).cells[q]?
  | [], x, hx, _, _ => by simp at hx
  | y :: l, 0, hx, q, hq => by
    simp only [actRow, Nat.zero_mul, Nat.zero_add, List.getElem_cons_zero]
    rw [List.getElem?_append_left (by simp [ActV.cells]; omega)]
  | y :: l, x + 1, hx, q, hq => by
    have ih := actRow_get l x (by simpa using hx) q hq
    simp only [actRow, List.getElem_cons_succ]
    rw [List.getElem?_append_right (by simp [ActV.cells]; omega), ← ih]
    congr 1
    simp [ActV.cells]; omega

/-- The calls, as a slice in memory. -/
def ActsAt (σ : AMem) (p : Option Addr) (l : List ActV) : Prop := l = [] ∨ ∃ ab T rw, p = some ⟨ab, 0, none⟩ ∧ σ[ab]? = some (.cells (actRow l) T rw)
theorem ActsAt.keep {σ σ' : AMem} {p : Option Addr} {l : List ActV} (h : ActsAt σ p l) (hk : Keeps i σ σ') (hi : l ≠ [] → ∀ a, p = some a → a.block ∉ i.l) : ActsAt σ' p l := by
  by_cases hl : l = []
  · exact .inl hl
  rcases h with h | ⟨ab, T, rw', rfl, h⟩
  · exact .inl h
  · exact .inr ⟨ab, T, rw', rfl, (hk.same _ (getElem?_lt h) (hi hl _ rfl)).trans h⟩

/-- Calls, one after the other. -/
def runM (m : HM) (l : List ActV) : HM := l.foldl (fun m x => (doR m x).2) m
/-- What a heap is that calls have made. -/
def madeM (b : Int) (l : List ActV) : Option HM := if l.length ≤ 60 ∧ b ≤ 12 ∧ 2 ≤ b then some (runM (newM b.toNat) l) else none

end Go.Proofs.Ytlaplcglpnlieaa
