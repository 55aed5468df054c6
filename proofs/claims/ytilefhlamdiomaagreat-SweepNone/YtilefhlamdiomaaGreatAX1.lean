/-
  The relation between the abstract memory and the world.
-/
import Derived.Test.YtilefhlamdiomaaGreatAX0
namespace Go.AX
open Go

theorem not_YF {ρ : Type} {f : FuncId} {m : Option ρ} {r : ρ} (h : (bif Nat.beq f YF then none else m) = some r) : f ≠ YF ∧ m = some r := by
  cases hb : Nat.beq f YF with
  | true => rw [hb] at h; cases h
  | false => rw [hb] at h; exact ⟨fun he => (by rw [he] at hb; cases hb), h⟩

/-- Where an abstract object lies: its block, the offset in it, the cells of an element, the cells that the object has, and the cells that it may grow to. -/
structure Blk where
  b : Nat
  o : Nat
  s : Nat
  n : Nat
  m : Nat

abbrev Mu := Nat → Option Blk

mutual
inductive RV (μ : Mu) : Value → Value → Prop
  | bool (b : Bool) : RV μ (.bool b) (.bool b)
  | int (k : IntKind) (n : Int) : RV μ (.int k n) (.int k n)
  | string (s : ByteArray) : RV μ (.string s) (.string s)
  | ptrNil : RV μ (.pointer none) (.pointer none)
  | ptr {a : Addr} {k : Blk} (h : μ a.block = some k) (hs : a.spot = none) : RV μ (.pointer (some a)) (.pointer (some ⟨k.b, k.o + a.off, none⟩))
  | sliceNil : RV μ (.slice none 0 0) (.slice none 0 0)
  | sliceZ {a : Addr} {z : Nat} (x : Addr) (hz : a.spot = some z) : RV μ (.slice (some a) 0 0) (.slice (some x) 0 0)
  | slice {a : Addr} {k : Blk} {l c c' : Nat} (h : μ a.block = some k) (hs : a.spot = none) (hl : l ≤ c) (hc : c ≤ c') (hm : a.off + c' * k.s ≤ k.m) : RV μ (.slice (some a) l c) (.slice (some ⟨k.b, k.o + a.off, none⟩) l c')
  | sliceEnd {a : Addr} {k : Blk} {o c' : Nat} (h : μ a.block = some k) (hs : a.spot = none) (hm : o + c' * k.s ≤ k.m) :
      RV μ (.slice (some a) 0 0) (.slice (some ⟨k.b, k.o + o, none⟩) 0 c')
  | mapNil : RV μ (.map none) (.map none)
  | map {r : Nat} {k : Blk} (h : μ r = some k) : RV μ (.map (some r)) (.map (some k.b))
  | nilFunc : RV μ .nilFunc .nilFunc
  | nilIface : RV μ .nilIface .nilIface
  | func {f : Fn} {a a' b b' : Array Value} (hf : ∀ l, f ≠ .yield l) (ha : RVs μ a.toList a'.toList) (hb : RVs μ b.toList b'.toList) : RV μ (.func f a b) (.func f a' b')
  | yield {h : Nat} {k : Blk} (hh : μ h = some k) : RV μ (.func (.yield h) #[] #[]) (.func (.yield k.b) #[] #[])
  | iface {t : TypeId} {v v' : Value} (h : RV μ v v') : RV μ (.iface t v) (.iface t v')
  | agg {a a' : Array Value} (h : RVs μ a.toList a'.toList) (hl : ∀ v ∈ a.toList, v.oneCell' = true) : RV μ (.agg a) (.agg a')
  | tuple {a a' : Array Value} (h : RVs μ a.toList a'.toList) : RV μ (.tuple a) (.tuple a')
inductive RVs (μ : Mu) : List Value → List Value → Prop
  | nil : RVs μ [] []
  | cons {v v' : Value} {vs vs' : List Value} (h : RV μ v v') (t : RVs μ vs vs') : RVs μ (v :: vs) (v' :: vs')
end

def Mu.le (μ μ' : Mu) : Prop := ∀ h k, μ h = some k → μ' h = some k
theorem Mu.le_refl (μ : Mu) : μ.le μ := fun _ _ h => h
theorem Mu.le_trans {a b c : Mu} (h : a.le b) (g : b.le c) : a.le c := fun _ _ e => g _ _ (h _ _ e)

mutual
theorem RV.mono {μ μ' : Mu} (hm : μ.le μ') : ∀ {v v' : Value}, RV μ v v' → RV μ' v v'
  | _, _, .bool b => .bool b
  | _, _, .int k n => .int k n
  | _, _, .string s => .string s
  | _, _, .ptrNil => .ptrNil
  | _, _, .ptr h hs => .ptr (hm _ _ h) hs
  | _, _, .sliceNil => .sliceNil
  | _, _, .sliceZ x hz => .sliceZ x hz
  | _, _, .slice h hs hl hc hm' => .slice (hm _ _ h) hs hl hc hm'
  | _, _, .sliceEnd h hs hm' => .sliceEnd (hm _ _ h) hs hm'
  | _, _, .mapNil => .mapNil
  | _, _, .map h => .map (hm _ _ h)
  | _, _, .nilFunc => .nilFunc
  | _, _, .nilIface => .nilIface
  | _, _, .func hf ha hb => .func hf (RVs.mono hm ha) (RVs.mono hm hb)
  | _, _, .yield hh => .yield (hm _ _ hh)
  | _, _, .iface h => .iface (RV.mono hm h)
  | _, _, .agg h hl => .agg (RVs.mono hm h) hl
  | _, _, .tuple h => .tuple (RVs.mono hm h)
theorem RVs.mono {μ μ' : Mu} (hm : μ.le μ') : ∀ {v v' : List Value}, RVs μ v v' → RVs μ' v v'
  | _, _, .nil => .nil
  | _, _, .cons h t => .cons (RV.mono hm h) (RVs.mono hm t)
end

theorem RVs.length {μ : Mu} : ∀ {v v' : List Value}, RVs μ v v' → v.length = v'.length
  | _, _, .nil => rfl
  | _, _, .cons _ t => by simp [RVs.length t]

theorem RVs.get {μ : Mu} : ∀ {v v' : List Value}, RVs μ v v' → ∀ (i : Nat) (x : Value), v[i]? = some x → ∃ x', v'[i]? = some x' ∧ RV μ x x'
  | _, _, .nil, i, x, h => by simp at h
  | _, _, .cons h t, 0, x, hx => by simp at hx; subst hx; exact ⟨_, by simp, h⟩
  | _, _, .cons h t, i + 1, x, hx => by simpa using RVs.get t i x (by simpa using hx)

theorem RVs.append {μ : Mu} : ∀ {v v' u u' : List Value}, RVs μ v v' → RVs μ u u' → RVs μ (v ++ u) (v' ++ u')
  | _, _, _, _, .nil, h => h
  | _, _, _, _, .cons h t, g => .cons h (RVs.append t g)

theorem RVs.of_get {μ : Mu} : ∀ {v v' : List Value}, v.length = v'.length → (∀ (i : Nat) x x', v[i]? = some x → v'[i]? = some x' → RV μ x x') → RVs μ v v'
  | [], [], _, _ => .nil
  | [], _ :: _, h, _ => by simp at h
  | _ :: _, [], h, _ => by simp at h
  | x :: xs, y :: ys, h, g => .cons (g 0 x y (by simp) (by simp)) (RVs.of_get (by simpa using h) fun i a b ha hb => g (i + 1) a b (by simpa using ha) (by simpa using hb))

theorem RVs.take {μ : Mu} : ∀ {v v' : List Value} (n : Nat), RVs μ v v' → RVs μ (v.take n) (v'.take n)
  | _, _, _, .nil => by simp; exact .nil
  | _, _, 0, .cons _ _ => by simp; exact .nil
  | _, _, n + 1, .cons h t => by simp; exact .cons h (RVs.take n t)

theorem RVs.drop {μ : Mu} : ∀ {v v' : List Value} (n : Nat), RVs μ v v' → RVs μ (v.drop n) (v'.drop n)
  | _, _, _, .nil => by simp; exact .nil
  | _, _, 0, .cons h t => by simp; exact .cons h t
  | _, _, n + 1, .cons h t => by simp; exact RVs.drop n t

theorem RVs.rep {μ : Mu} {z z' : List Value} (h : RVs μ z z') : ∀ n : Nat, RVs μ (rep n z) (rep n z')
  | 0 => by simp [AX.rep]; exact .nil
  | n + 1 => by
    have e : ∀ y : List Value, AX.rep (n + 1) y = y ++ AX.rep n y := fun y => by simp [AX.rep, List.replicate_succ]
    rw [e, e]; exact h.append (RVs.rep h n)

theorem RV.leaf {μ : Mu} {v v' : Value} (h : RV μ v v') : v'.oneCell' = v.oneCell' := by cases h <;> rfl

theorem RVs.leaf {μ : Mu} : ∀ {v v' : List Value}, RVs μ v v' → (∀ x ∈ v, x.oneCell' = true) → ∀ x ∈ v', x.oneCell' = true
  | _, _, .nil, _, x, hx => by simp at hx
  | _, _, .cons h t, g, x, hx => by
    rcases List.mem_cons.1 hx with rfl | hx
    · rw [h.leaf]; exact g _ (by simp)
    · exact RVs.leaf t (fun y hy => g y (by simp [hy])) x hx

theorem RV.leafOk {μ : Mu} {v : Value} (h : leafOk v = true) : RV μ v v := by
  unfold AX.leafOk at h
  split at h
  · exact .bool _
  · exact .int _ _
  · exact .string _
  · exact .ptrNil
  · exact .sliceNil
  · exact .mapNil
  · exact .nilFunc
  · exact .nilIface
  · cases h
  · rename_i f a b hne
    simp at h
    obtain ⟨ha, hb⟩ := h
    refine .func (fun l hl => hne l hl) ?_ ?_
    · simp [ha]; exact .nil
    · simp [hb]; exact .nil
  · simp at h

theorem leafOk_one {v : Value} (h : leafOk v = true) : v.oneCell' = true := by
  cases v <;> first | rfl | simp [leafOk] at h

theorem RVs.leafOk {μ : Mu} : ∀ {vs : List Value}, vs.all AX.leafOk = true → RVs μ vs vs
  | [], _ => .nil
  | v :: vs, h => by
    simp at h
    exact .cons (.leafOk h.1) (RVs.leafOk (by simpa using h.2))

theorem RV.constOk {μ : Mu} {v : Value} (h : constOk v = true) : RV μ v v := by
  unfold AX.constOk at h
  split at h
  · exact .agg (.leafOk h) fun x hx => leafOk_one (by simp only [List.all_eq_true] at h; exact h x hx)
  · exact .tuple (.leafOk h)
  · exact .leafOk h

inductive REs (μ : Mu) : List (Int × Value) → List MapEntry → Prop
  | nil : REs μ [] []
  | cons {k : Int} {v : Value} {e : MapEntry} {es : List (Int × Value)} {es' : List MapEntry} (hk : e.key = .int .i64 k) (hv : RV μ v e.val) (t : REs μ es es') : REs μ ((k, v) :: es) (e :: es')

theorem REs.mono {μ μ' : Mu} (hm : μ.le μ') : ∀ {v : List (Int × Value)} {v' : List MapEntry}, REs μ v v' → REs μ' v v'
  | _, _, .nil => .nil
  | _, _, .cons hk hv t => .cons hk (hv.mono hm) (REs.mono hm t)

/-- Registers and temporaries. -/
def RegR (μ : Mu) (regs : Regs) (tmps : Array Value) : Prop :=
  regs.length ≤ tmps.size ∧ ∀ (t : Nat) (v : Value), regs.getD t none = some v → ∃ v', tmps[t]? = some v' ∧ RV μ v v'

theorem RegR.mono {μ μ' : Mu} {regs : Regs} {tmps : Array Value} (h : RegR μ regs tmps) (hm : μ.le μ') : RegR μ' regs tmps :=
  ⟨h.1, fun t v ht => let ⟨v', h1, h2⟩ := h.2 t v ht; ⟨v', h1, h2.mono hm⟩⟩

/-- The jump by which a round is left. -/
def jumpOf : AExit → Option Code
  | .normal => none
  | .exit id => some (.exit id)
  | .ret => some .ret

def StR : LSt → Loop → Prop
  | .ready, r => r.state = .ready ∧ r.pending = none
  | .busy, r => r.state = .busy
  | .done x, r => r.state = .done ∧ r.pending = jumpOf x

/-- The record of a range over a function. -/
def LoopR (P : Program) (μ : Mu) (f : FuncId) (st : LSt) (regs : Regs) (r : Loop) : Prop :=
  (∃ F c, P.funcs[f]? = some F ∧ F.body = some c ∧ theRange c = some (r.params, r.assign, r.body)) ∧ RegR μ regs r.tmps ∧ StR st r

/-- An abstract object that cells of a block stand for. -/
def ObjR (P : Program) (μ : Mu) (o : AObj) (k : Blk) (x : Option Obj) : Prop :=
  match o with
  | .cells vs T rw => ∃ c T' fz, x = some (.cells c T' fz) ∧ vs.length = k.n ∧ k.n ≤ k.m ∧ k.o + k.m ≤ c.size ∧ k.s = P.cellsOf T ∧ (rw = true → fz = (0, 0)) ∧
      (∀ v ∈ vs, v.oneCell' = true) ∧ RVs μ vs ((c.toList.drop k.o).take k.n)
  | .map es => ∃ entries clock, x = some (.map entries clock) ∧ REs μ es entries.toList
  | .loop f st regs => ∃ r, x = some (.loop r) ∧ LoopR P μ f st regs r
  | .dead => True

def alive (σ : AMem) (h : Nat) : Prop := ∃ o, σ[h]? = some o ∧ o ≠ .dead

def writable (σ : AMem) (h : Nat) : Prop :=
  match σ[h]? with
  | some (.cells _ _ true) | some (.map _) | some (.loop _ _ _) => True
  | _ => False

structure R (P : Program) (μ : Mu) (σ : AMem) (w : World) : Prop where
  obj : ∀ h o k, σ[h]? = some o → μ h = some k → ObjR P μ o k w.heap[k.b]?
  lt : ∀ h k, μ h = some k → k.b < w.heap.size
  inj : ∀ h h' k k', μ h = some k → μ h' = some k' → alive σ h → alive σ h' → writable σ h ∨ writable σ h' → k.b = k'.b → h = h'

def Fresh (μ : Mu) (lo hi : Nat) : Prop := ∀ h, lo ≤ h → h < hi → μ h = none

structure Step (μ : Mu) (σ : AMem) (w : World) (μ' : Mu) (σ' : AMem) (w' : World) : Prop where
  len : σ.length ≤ σ'.length
  mu : ∀ h, (h < σ.length ∨ σ'.length ≤ h) → μ' h = μ h
  wr : ∀ h, h < σ.length → writable σ' h → writable σ h
  new : ∀ h k, σ.length ≤ h → h < σ'.length → μ' h = some k → w.heap.size ≤ k.b ∨ ∃ h0 k0, h0 < σ.length ∧ μ h0 = some k0 ∧ k0.b = k.b ∧ writable σ h0
  size : w.heap.size ≤ w'.heap.size
  tape : w'.tape = w.tape
  os : w'.os = w.os
  output : w'.output = w.output
  frame : ∀ b, b < w.heap.size → (∀ h k, h < σ.length → μ h = some k → k.b = b → ¬ writable σ h) → w'.heap[b]? = w.heap[b]?

theorem Step.refl (μ : Mu) (σ : AMem) (w : World) : Step μ σ w μ σ w :=
  ⟨Nat.le_refl _, fun _ _ => rfl, fun _ _ h => h, fun h k h1 h2 => absurd h2 (by omega), Nat.le_refl _, rfl, rfl, rfl, fun _ _ _ => rfl⟩

theorem Step.le {μ μ' : Mu} {σ σ' : AMem} {w w' : World} (s : Step μ σ w μ' σ' w') (f : Fresh μ σ.length σ'.length) : μ.le μ' := by
  intro h k hk
  by_cases h1 : h < σ.length ∨ σ'.length ≤ h
  · rw [s.mu h h1]; exact hk
  · rw [f h (by omega) (by omega)] at hk; cases hk

theorem Fresh.sub {μ : Mu} {a b c d : Nat} (h : Fresh μ a b) (h1 : a ≤ c) (h2 : d ≤ b) : Fresh μ c d := fun x hx hy => h x (by omega) (by omega)

theorem Fresh.step {μ μ' : Mu} {σ σ' : AMem} {w w' : World} {hi : Nat} (s : Step μ σ w μ' σ' w') (f : Fresh μ σ.length hi) : Fresh μ' σ'.length hi := by
  intro h h1 h2
  rw [s.mu h (.inr h1)]
  exact f h (Nat.le_trans s.len h1) h2

theorem Step.trans {μ μ' μ'' : Mu} {σ σ' σ'' : AMem} {w w' w'' : World} (s : Step μ σ w μ' σ' w') (t : Step μ' σ' w' μ'' σ'' w'') : Step μ σ w μ'' σ'' w'' := by
  refine ⟨Nat.le_trans s.len t.len, ?_, ?_, ?_, Nat.le_trans s.size t.size, t.tape.trans s.tape, t.os.trans s.os, t.output.trans s.output, ?_⟩
  · intro h hh
    have l1 := s.len; have l2 := t.len
    rw [t.mu h (by omega), s.mu h (by omega)]
  · intro h hh hw
    exact s.wr h hh (t.wr h (Nat.lt_of_lt_of_le hh s.len) hw)
  · intro h k h1 h2 hk
    by_cases hlt : h < σ'.length
    · rw [t.mu h (.inl hlt)] at hk
      exact s.new h k h1 hlt hk
    · rcases t.new h k (by omega) h2 hk with hb | ⟨h0, k0, hh0, hk0, hb, hw⟩
      · exact .inl (Nat.le_trans s.size hb)
      · by_cases h0lt : h0 < σ.length
        · rw [s.mu h0 (.inl h0lt)] at hk0
          exact .inr ⟨h0, k0, h0lt, hk0, hb, s.wr h0 h0lt hw⟩
        · rcases s.new h0 k0 (by omega) hh0 hk0 with hb' | ⟨h1', k1, hh1, hk1, hb1, hw1⟩
          · exact .inl (by omega)
          · exact .inr ⟨h1', k1, hh1, hk1, hb1.trans hb, hw1⟩
  · intro b hb hn
    rw [t.frame b (Nat.lt_of_lt_of_le hb s.size) ?_, s.frame b hb hn]
    intro h k hh hk hkb hw
    by_cases hlt : h < σ.length
    · rw [s.mu h (.inl hlt)] at hk
      exact hn h k hlt hk hkb (s.wr h hlt hw)
    · rcases s.new h k (by omega) hh hk with hb' | ⟨h0, k0, hh0, hk0, hb0, hw0⟩
      · omega
      · exact hn h0 k0 hh0 hk0 (hb0.trans hkb) hw0

/-- A draw moves a count alone. -/
theorem R.drew {P : Program} {μ : Mu} {σ : AMem} {w : World} (h : R P μ σ w) : R P μ σ w.drew := ⟨h.obj, h.lt, h.inj⟩
theorem Step.drew (μ : Mu) (σ : AMem) (w : World) : Step μ σ w μ σ w.drew :=
  ⟨Nat.le_refl _, fun _ _ => rfl, fun _ _ h => h, fun h k h1 h2 => absurd h2 (by omega), Nat.le_refl _, rfl, rfl, rfl, fun _ _ _ => rfl⟩

theorem ObjR.mono {P : Program} {μ μ' : Mu} (hm : μ.le μ') {o : AObj} {k : Blk} {x : Option Obj} (h : ObjR P μ o k x) : ObjR P μ' o k x := by
  cases o with
  | cells vs T rw =>
    obtain ⟨c, T', fz, hx, h1, h2, h3, h4, h5, h6, h7⟩ := h
    exact ⟨c, T', fz, hx, h1, h2, h3, h4, h5, h6, h7.mono hm⟩
  | map es =>
    obtain ⟨entries, clock, hx, h1⟩ := h
    exact ⟨entries, clock, hx, h1.mono hm⟩
  | loop f st regs =>
    obtain ⟨r, hx, h1, h2, h3⟩ := h
    exact ⟨r, hx, h1, h2.mono hm, h3⟩
  | dead => trivial

def Mu.put (μ : Mu) (h : Nat) (k : Blk) : Mu := fun x => if x = h then some k else μ x
theorem Mu.put_same (μ : Mu) (h : Nat) (k : Blk) : μ.put h k h = some k := by simp [Mu.put]
theorem Mu.put_other (μ : Mu) {h x : Nat} (k : Blk) (hx : x ≠ h) : μ.put h k x = μ x := by simp [Mu.put, hx]
theorem Mu.le_put {μ : Mu} {h : Nat} {k : Blk} (hn : μ h = none) : μ.le (μ.put h k) := by
  intro x y hx
  rw [Mu.put_other μ k (by rintro rfl; rw [hn] at hx; cases hx)]; exact hx

theorem writable_append1 {σ : AMem} {o : AObj} {h : Nat} (hh : h ≠ σ.length) (hw : writable (σ ++ [o]) h) : writable σ h := by
  unfold writable at hw ⊢
  by_cases hlt : h < σ.length
  · rwa [List.getElem?_append_left hlt] at hw
  · rw [List.getElem?_eq_none (by simp; omega)] at hw; exact hw.elim
theorem alive_append {σ : AMem} {o : AObj} {h : Nat} (hh : h ≠ σ.length) (ha : alive (σ ++ [o]) h) : alive σ h := by
  obtain ⟨x, hx, hd⟩ := ha
  have hlt : h < σ.length := by
    have := (List.getElem?_eq_some_iff.1 hx).1
    simp at this; omega
  exact ⟨x, by rwa [List.getElem?_append_left hlt] at hx, hd⟩

theorem heap_alloc_old {w : World} {x : Obj} {b : Nat} (hb : b < w.heap.size) : (w.alloc x).heap[b]? = w.heap[b]? := by
  show (w.heap.push x)[b]? = _
  rw [Array.getElem?_push, if_neg (by omega)]
theorem heap_alloc_new (w : World) (x : Obj) : (w.alloc x).heap[w.heap.size]? = some x := by
  show (w.heap.push x)[w.heap.size]? = _
  rw [Array.getElem?_push, if_pos rfl]

/-- A new block. -/
theorem R.alloc {P : Program} {μ : Mu} {σ : AMem} {w : World} {o : AObj} {x : Obj} {k : Blk} (h : R P μ σ w) (hf : μ σ.length = none) (hb : k.b = w.heap.size)
    (ho : ObjR P μ o k (some x)) : R P (μ.put σ.length k) (σ ++ [o]) (w.alloc x) := by
  have hle : μ.le (μ.put σ.length k) := Mu.le_put hf
  have hold : ∀ b, b < w.heap.size → (w.alloc x).heap[b]? = w.heap[b]? := fun b hb => heap_alloc_old hb
  refine ⟨?_, ?_, ?_⟩
  · intro h' o' k' ho' hk'
    by_cases he : h' = σ.length
    · subst he
      rw [Mu.put_same] at hk'
      cases hk'
      simp at ho'
      subst ho'
      have : (w.alloc x).heap[k.b]? = some x := by rw [hb]; exact heap_alloc_new w x
      rw [this]
      exact ho.mono hle
    · rw [Mu.put_other μ k he] at hk'
      have hlt : h' < σ.length := by
        have := (List.getElem?_eq_some_iff.1 ho').1
        simp at this; omega
      rw [List.getElem?_append_left hlt] at ho'
      rw [hold _ (h.lt _ _ hk')]
      exact (h.obj h' o' k' ho' hk').mono hle
  · intro h' k' hk'
    by_cases he : h' = σ.length
    · subst he; rw [Mu.put_same] at hk'; cases hk'; simp [hb]
    · rw [Mu.put_other μ k he] at hk'
      have := h.lt _ _ hk'; simp; omega
  · intro a b ka kb ha hb' haa hab hww hkk
    by_cases he : a = σ.length <;> by_cases he' : b = σ.length
    · omega
    · subst he; rw [Mu.put_same] at ha; cases ha
      rw [Mu.put_other μ k he'] at hb'
      have := h.lt _ _ hb'; omega
    · subst he'; rw [Mu.put_same] at hb'; cases hb'
      rw [Mu.put_other μ k he] at ha
      have := h.lt _ _ ha; omega
    · rw [Mu.put_other μ k he] at ha
      rw [Mu.put_other μ k he'] at hb'
      exact h.inj a b ka kb ha hb' (alive_append he haa) (alive_append he' hab) (hww.imp (writable_append1 he) (writable_append1 he')) hkk

theorem writable_append {σ : AMem} {o : AObj} {h : Nat} (hlt : h < σ.length) : writable (σ ++ [o]) h = writable σ h := by
  unfold writable; rw [List.getElem?_append_left hlt]

theorem Step.alloc {μ : Mu} {σ : AMem} {w : World} {o : AObj} {x : Obj} {k : Blk} (hb : k.b = w.heap.size) : Step μ σ w (μ.put σ.length k) (σ ++ [o]) (w.alloc x) := by
  refine ⟨by simp, ?_, ?_, ?_, by simp, rfl, rfl, rfl, ?_⟩
  · intro h hh; exact Mu.put_other μ k (by simp at hh; omega)
  · intro h hh hw; rwa [writable_append hh] at hw
  · intro h k' h1 h2 hk
    have : h = σ.length := by simp at h2; omega
    subst this; rw [Mu.put_same] at hk; cases hk; exact .inl (by omega)
  · intro b hb _
    exact heap_alloc_old hb

end Go.AX
