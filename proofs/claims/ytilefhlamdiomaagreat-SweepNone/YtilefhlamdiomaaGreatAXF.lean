/-
  Words in which the printed functions are written.
-/
import Derived.Test.YtilefhlamdiomaaGreatAX19
namespace Go.AX
open Go
variable {ρ : Type}

abbrev w64 (n : Int) : Int := IntKind.i64.wrap n
abbrev u64 (n : Int) : Int := IntKind.u64.wrap n

/-- A new object. -/
def allocK (σ : AMem) (o : AObj) (K : Nat → AMem → Option ρ) : Option ρ := K σ.length (σ ++ [o])

theorem allocK_eq (σ : AMem) (o : AObj) (K : Nat → AMem → Option ρ) : allocK σ o K = K σ.length (σ ++ [o]) := rfl

/-- maps.Clone. -/
def cloneA (args : List Value) (σ : AMem) : Option (Value × AMem) :=
  match args with
  | [.map none] => some (.map none, σ)
  | [.map (some r)] => (ldMap σ r).bind fun es => some (.map (some σ.length), σ ++ [.map es])
  | _ => none

def isTrue1 (x : Option (Value × AMem)) : Bool := match x with
  | some (.bool b, _) => b
  | _ => false

theorem isTrue1_spec {x : Option (Value × AMem)} (h : isTrue1 x = true) : ∃ σ, x = some (.bool true, σ) := by
  unfold isTrue1 at h
  split at h
  · subst h; exact ⟨_, rfl⟩
  · cases h

/-- What has been run from nothing, and came to true. -/
def trueA (args : List Value) (σ : AMem) : Option (Value × AMem) :=
  match args with
  | [] => some (.bool true, σ)
  | _ => none

theorem known_true {P : Program} {a : FuncId} {call : CallF} (hc : CallOk P call) (ha : a ≠ YF) (h : isTrue1 (call a [] []) = true) : CallOk P (fun f args σ => if f = a then trueA args σ else none) := by
  refine ⟨?_, fun args σ v σ' hh => (by rw [if_neg (Ne.symm ha)] at hh; cases hh)⟩
  intro f args σ v σ' _ hh
  split at hh
  rotate_left
  · cases hh
  rename_i hf
  subst hf
  unfold trueA at hh
  split at hh
  rotate_left
  · cases hh
  cases hh
  obtain ⟨σ0, hrun⟩ := isTrue1_spec h
  obtain ⟨_, _, hF, hcall⟩ := hc.fn _ _ _ _ _ ha hrun
  refine ⟨Nat.le_refl _, fun _ => List.prefix_rfl, hF, fun μ w cargs hR hfr ha => ?_⟩
  have h0 : R P (fun _ => none) [] w := ⟨fun h o k h1 _ => by simp at h1, fun h k h1 => (by cases h1), fun h h' k k' h1 => (by cases h1)⟩
  refine (hcall (fun _ => none) w cargs h0 (fun _ _ _ => rfl) (by obtain ⟨c⟩ := cargs; cases ha; exact .nil)).mono ?_
  rintro e w' ⟨μ', v', rfl, hv, hR', hS⟩
  cases hv
  have hfr : ∀ b, b < w.heap.size → w'.heap[b]? = w.heap[b]? := fun b hb => hS.frame b hb fun h k _ h1 => (by cases h1)
  refine ⟨μ, _, rfl, .bool _, ⟨?_, ?_, hR.inj⟩, ⟨Nat.le_refl _, fun _ _ => rfl, fun _ _ h => h, fun h k h1 h2 => absurd h2 (by omega), hS.size, hS.tape, hS.os, hS.output, fun b hb _ => hfr b hb⟩⟩
  · intro h o k h1 h2
    rw [hfr _ (hR.lt _ _ h2)]
    exact hR.obj h o k h1 h2
  · intro h k h2
    exact Nat.lt_of_lt_of_le (hR.lt _ _ h2) hS.size

/-- A round, at a record whose registers are known. -/
theorem round_eq [Quiet] {P : Program} {X : Ext} {H : FuncId → Hints} {k h : Nat} {f : FuncId} {regs : Regs} {vs : List Value} {σ : AMem} {F : Func} {c : Code} {x : Array Tmp × Code × Code} (hs : σ[h]? = some (.loop f .ready regs)) (hX : X YF = none)
    (hF : P.funcs[f]? = some F) (hc : F.body = some c) (hx : theRange c = some x) (hr : ranges c = 1) (hl : vs.length = x.1.toList.length) :
    callVal P (fn P X H (k + 1)) (.func (.yield h) #[] #[]) vs σ =
      exec P (fn P X H k) f (H f) k x.2.1 (Value × AMem) (setPs x.1.toList vs regs) σ fun y r s => roundMid P (fn P X H k) f (H f) k h x.2.2 y r s := by
  simp only [callVal, fn, hX]
  rw [show Nat.beq YF YF = true from rfl, cond_true]
  simp only [roundF, setLoop, hs, if_true, hF, hc, hx, Option.bind_some, hr, hl, and_self]

/-- Many rounds, or calls, are enough. -/
def Ev {β : Type} (g : Nat → Nat → Option β) (Q : β → Prop) : Prop := ∃ k0 n0 r, Q r ∧ ∀ k n, k0 ≤ k → n0 ≤ n → g k n = some r

theorem Ev.mono {β : Type} {g : Nat → Nat → Option β} {Q Q' : β → Prop} (h : Ev g Q) (hq : ∀ r, Q r → Q' r) : Ev g Q' :=
  let ⟨k0, n0, r, h1, h2⟩ := h; ⟨k0, n0, r, hq r h1, h2⟩

theorem Ev.pure {β : Type} {r : β} {Q : β → Prop} (h : Q r) : Ev (fun _ _ => some r) Q := ⟨0, 0, r, h, fun _ _ _ _ => rfl⟩

theorem Ev.of_eq {β : Type} {g : Nat → Nat → Option β} {r : β} {Q : β → Prop} (he : ∀ k n, g k n = some r) (h : Q r) : Ev g Q := ⟨0, 0, r, h, fun _ _ _ _ => he _ _⟩

theorem Ev.bind {β γ : Type} {g : Nat → Nat → Option β} {f : Nat → Nat → β → Option γ} {Q : γ → Prop} {Q1 : β → Prop} (h : Ev g Q1) (hf : ∀ r, Q1 r → Ev (fun k n => f k n r) Q) : Ev (fun k n => (g k n).bind (f k n)) Q := by
  obtain ⟨k0, n0, r, h1, h2⟩ := h
  obtain ⟨k1, n1, r', g1, g2⟩ := hf r h1
  exact ⟨max k0 k1, max n0 n1, r', g1, fun k n hk hn => by
    show (g k n).bind (f k n) = some r'
    rw [h2 k n (by omega) (by omega)]; exact g2 k n (by omega) (by omega)⟩

/-- A call: one level more. -/
theorem Ev.call {β : Type} {g : Nat → Option β} {f : Nat → Nat → Option β} {Q : β → Prop} (he : ∀ k, g (k + 1) = f k k) (h : Ev f Q) : Ev (fun k _ => g k) Q := by
  obtain ⟨k0, n0, r, h1, h2⟩ := h
  refine ⟨max k0 n0 + 1, 0, r, h1, fun k n hk _ => ?_⟩
  obtain ⟨k', rfl⟩ : ∃ m, k = m + 1 := ⟨k - 1, by omega⟩
  show g (k' + 1) = some r
  rw [he]; exact h2 k' k' (by omega) (by omega)

/-- A round: one more. -/
theorem Ev.round {β : Type} {g f : Nat → Nat → Option β} {Q : β → Prop} (he : ∀ k n, g k (n + 1) = f k n) (h : Ev f Q) : Ev g Q := by
  obtain ⟨k0, n0, r, h1, h2⟩ := h
  refine ⟨k0, n0 + 1, r, h1, fun k n hk hn => ?_⟩
  obtain ⟨n', rfl⟩ : ∃ m, n = m + 1 := ⟨n - 1, by omega⟩
  rw [he]; exact h2 k n' hk (by omega)

/-- A loop, with as many rounds as levels. -/
theorem Ev.diag {β : Type} {g : Nat → Nat → Option β} {Q : β → Prop} (h : Ev g Q) : Ev (fun k _ => g k k) Q := by
  obtain ⟨k0, n0, r, h1, h2⟩ := h
  exact ⟨max k0 n0, 0, r, h1, fun k n hk _ => h2 k k (by omega) (by omega)⟩

set_option linter.unusedVariables false in
theorem Ev.diag' {β : Type} {g : Nat → Nat → Option β} {Q : β → Prop} (h : Ev g Q) : Ev (fun k n => g k k) Q := h.diag

/-- A call that comes to something: what any run of it shows. -/
def cL : Code → Code | .seq a _ => a | c => c
def cR : Code → Code | .seq _ b => b | c => c
def cB : Code → Code | .block _ b => b | .loop b => b | .scope b => b | c => c
def cT : Code → Code | .cond _ a _ => a | c => c
def cE : Code → Code | .cond _ _ b => b | c => c
def bodyC (f : Func) : Code := f.body.getD .skip

end Go.AX
