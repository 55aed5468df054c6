/-
  THE ABSTRACT EXECUTOR: a deterministic executor of the model's code over an abstract memory (handles in the place of block numbers; no spare capacity, no draws, text order).
-/
import Derived.WalkKit
import Derived.KernelRfl
set_option linter.unusedVariables false
namespace Go.AX
open Go

inductive AExit where
  | normal | exit (id : Nat) | ret
  deriving DecidableEq, Inhabited

/-- How it stands with the record of a range over a function. -/
inductive LSt where
  | ready | busy | done (x : AExit)
  deriving DecidableEq, Inhabited

/-- An object of the abstract memory: cells (of a variable, or of a slice's array), a map with int keys, the record of a range over a function (of which function, its state, and its registers), or something that may not be used again. -/
inductive AObj where
  | cells (vs : List Value) (T : TypeId) (rw : Bool)
  | map (es : List (Int × Value))
  | loop (f : FuncId) (st : LSt) (regs : List (Option Value))
  | dead
  deriving Inhabited

abbrev AMem := List AObj
abbrev Regs := List (Option Value)

/-- The kind of a cell. -/
inductive Kd where
  | int (k : IntKind) | bool | str | ptr | slice | map | func | any
  deriving DecidableEq, Inhabited

def toI (k : IntKind) : Value → Option Int
  | .int k' n => if k' = k then some n else none
  | _ => none
def toB : Value → Option Bool
  | .bool b => some b
  | _ => none
def toStr : Value → Option ByteArray
  | .string b => some b
  | _ => none
def toP : Value → Option (Option Addr)
  | .pointer a => some a
  | _ => none
def toS : Value → Option (Option Addr × Nat × Nat)
  | .slice a l c => some (a, l, c)
  | _ => none
def toM : Value → Option (Option Nat)
  | .map r => some r
  | _ => none
def toA : Value → Option (List Value)
  | .agg vs => some vs.toList
  | _ => none
def toT : Value → Option (List Value)
  | .tuple vs => some vs.toList
  | _ => none

def ld1 (σ : AMem) (b o : Nat) : Option Value :=
  match σ[b]? with
  | some (.cells vs _ _) => vs[o]?
  | _ => none

def ldI (k : IntKind) (σ : AMem) (b o : Nat) : Option Int := (ld1 σ b o).bind (toI k)
def ldB (σ : AMem) (b o : Nat) : Option Bool := (ld1 σ b o).bind toB
def ldStr (σ : AMem) (b o : Nat) : Option ByteArray := (ld1 σ b o).bind toStr
def ldP (σ : AMem) (b o : Nat) : Option (Option Addr) := (ld1 σ b o).bind toP
def ldS (σ : AMem) (b o : Nat) : Option (Option Addr × Nat × Nat) := (ld1 σ b o).bind toS
def ldM (σ : AMem) (b o : Nat) : Option (Option Nat) := (ld1 σ b o).bind toM

section
variable {ρ : Type}

/-- A value, taken as one of a kind. -/
def asK (k : Kd) (v : Value) (K : Value → Option ρ) : Option ρ :=
  match k with
  | .int k => (toI k v).bind fun n => K (.int k n)
  | .bool => (toB v).bind fun b => K (.bool b)
  | .str => (toStr v).bind fun s => K (.string s)
  | .ptr => (toP v).bind fun a => K (.pointer a)
  | .slice => (toS v).bind fun s => K (.slice s.1 s.2.1 s.2.2)
  | .map => (toM v).bind fun r => K (.map r)
  | .func => K v
  | .any => K v

def asKs : List Kd → List Value → (List Value → Option ρ) → Option ρ
  | [], _, K => K []
  | k :: ks, l, K => l.head?.bind fun v => asK k v fun v => asKs ks l.tail fun vs => K (v :: vs)

/-- A cell, loaded as one of a kind. -/
def ldK (k : Kd) (σ : AMem) (b o : Nat) (K : Value → Option ρ) : Option ρ :=
  match k with
  | .int k => (ldI k σ b o).bind fun n => K (.int k n)
  | .bool => (ldB σ b o).bind fun b => K (.bool b)
  | .str => (ldStr σ b o).bind fun s => K (.string s)
  | .ptr => (ldP σ b o).bind fun a => K (.pointer a)
  | .slice => (ldS σ b o).bind fun s => K (.slice s.1 s.2.1 s.2.2)
  | .map => (ldM σ b o).bind fun r => K (.map r)
  | .func => (ld1 σ b o).bind K
  | .any => (ld1 σ b o).bind K

def ldKs : List Kd → AMem → Nat → Nat → (List Value → Option ρ) → Option ρ
  | [], _, _, _, K => K []
  | k :: ks, σ, b, o, K => ldK k σ b o fun v => ldKs ks σ b (o + 1) fun vs => K (v :: vs)
end

def kindD : TypeDesc → Kd
  | .int k => .int k
  | .bool => .bool
  | .string => .str
  | .pointer _ => .ptr
  | .slice _ => .slice
  | .map _ _ => .map
  | .func _ _ _ => .func
  | _ => .any

/-- The kinds of the cells of a type. -/
def flat (P : Program) : Nat → TypeId → List Kd
  | 0, _ => []
  | d + 1, T => match P.underlying T with
    | some (.struct fs) => fs.toList.flatMap fun f => flat P d f.type
    | some (.array n e) => (List.range n).flatMap fun _ => flat P d e
    | some t => [kindD t]
    | none => []

def isAggB (P : Program) (T : TypeId) : Bool :=
  match P.underlying T with
  | some (.struct _) | some (.array _ _) => true
  | _ => false

def setRange (cs : List Value) (o : Nat) (vs : List Value) : List Value := cs.take o ++ vs ++ cs.drop (o + vs.length)

def leafOk : Value → Bool
  | .bool _ | .int _ _ | .string _ | .pointer none | .slice none 0 0 | .map none | .nilFunc | .nilIface => true
  | .func (.yield _) _ _ => false
  | .func _ a b => a.toList.isEmpty && b.toList.isEmpty
  | _ => false

/-- A constant that names no memory. -/
def constOk : Value → Bool
  | .agg vs => vs.toList.all leafOk
  | .tuple vs => vs.toList.all leafOk
  | v => leafOk v

def isTup : Value → Bool
  | .tuple _ => true
  | _ => false

def st1 (σ : AMem) (b o : Nat) (v : Value) : Option AMem :=
  match σ[b]? with
  | some (.cells cs T true) => if o < cs.length then some (σ.set b (.cells (cs.set o v) T true)) else none
  | _ => none

def stN (σ : AMem) (b o : Nat) (vs : List Value) : Option AMem :=
  match σ[b]? with
  | some (.cells cs T true) => if o + vs.length ≤ cs.length then some (σ.set b (.cells (setRange cs o vs) T true)) else none
  | _ => none

def writableB (σ : AMem) (b : Nat) : Bool :=
  match σ[b]? with
  | some (.cells _ _ rw) => rw
  | some (.map _) => true
  | _ => false

def ldN (σ : AMem) (b o n : Nat) : Option (List Value) :=
  match σ[b]? with
  | some (.cells vs _ _) => if o + n ≤ vs.length then some ((vs.drop o).take n) else none
  | _ => none

def ldMap (σ : AMem) (r : Nat) : Option (List (Int × Value)) :=
  match σ[r]? with
  | some (.map es) => some es
  | _ => none

def mapGet (es : List (Int × Value)) (k : Int) : Option Value := (es.find? fun e => k == e.1).map (·.2)
def mapSet (k : Int) (v : Value) : List (Int × Value) → List (Int × Value)
  | [] => [(k, v)]
  | e :: es => if k == e.1 then (k, v) :: es else e :: mapSet k v es
def mapDel (k : Int) : List (Int × Value) → List (Int × Value)
  | [] => []
  | e :: es => if k == e.1 then es else e :: mapDel k es

section
variable {ρ : Type}

def binI (op : BinOp) (k : IntKind) (a b : Int) (K : Value → Option ρ) : Option ρ :=
  match op with
  | .add => K (.int k (k.wrap (a + b)))
  | .sub => K (.int k (k.wrap (a - b)))
  | .mul => K (.int k (k.wrap (a * b)))
  | .quo => if b = 0 then none else K (.int k (k.wrap (a.tdiv b)))
  | .rem => if b = 0 then none else K (.int k (a.tmod b))
  | .and => K (.int k (k.wrap (BitVec.ofInt k.bits a &&& BitVec.ofInt k.bits b).toNat))
  | .or => K (.int k (k.wrap (BitVec.ofInt k.bits a ||| BitVec.ofInt k.bits b).toNat))
  | .xor => K (.int k (k.wrap (BitVec.ofInt k.bits a ^^^ BitVec.ofInt k.bits b).toNat))
  | .andNot => K (.int k (k.wrap (BitVec.ofInt k.bits a &&& ~~~ (BitVec.ofInt k.bits b)).toNat))
  | .eql => K (.bool (a == b))
  | .neq => K (.bool (a != b))
  | .lss => K (.bool (decide (a < b)))
  | .leq => K (.bool (decide (a ≤ b)))
  | .gtr => K (.bool (decide (a > b)))
  | .geq => K (.bool (decide (a ≥ b)))
  | .shl | .shr => none

def shiftI (op : BinOp) (k : IntKind) (a b : Int) (K : Value → Option ρ) : Option ρ :=
  if b < 0 then none else
  match op with
  | .shl => K (.int k (k.wrap (a * 2 ^ (min b.toNat k.bits))))
  | .shr => K (.int k (a.fdiv (2 ^ (min b.toNat k.bits))))
  | _ => none

/-- Two values of a plain type are equal. -/
def eqAt (P : Program) (T : TypeId) (a b : Value) : Option Bool :=
  match P.underlying T, a, b with
  | some (.int _), .int k x, .int k' y => if k = k' then some (x == y) else none
  | some .bool, .bool x, .bool y => some (x == y)
  | some .string, .string x, .string y => some (x == y)
  | _, _, _ => none

def eqFs (P : Program) : List Field → List Value → List Value → Option Bool
  | [], [], [] => some true
  | [f], [a], [b] => eqAt P f.type a b
  | f :: fs, a :: as, b :: bs => (eqAt P f.type a b).bind fun t => bif t then eqFs P fs as bs else some false
  | _, _, _ => none

/-- A struct whose fields are plain cells, one behind the other. -/
def flatFrom (P : Program) : Nat → List Field → Bool
  | _, [] => true
  | i, f :: fs => f.name != "_" && f.offset == i && !isAggB P f.type && flatFrom P (i + 1) fs

def eqA (P : Program) (T : TypeId) (a b : Value) : Option Bool :=
  match a, b with
  | .bool x, .bool y => (match P.underlying T with | some .bool => some (x == y) | _ => none)
  | .pointer none, .pointer y => (match P.underlying T with | some (.pointer _) => some y.isNone | _ => none)
  | .pointer x, .pointer none => (match P.underlying T with | some (.pointer _) => some x.isNone | _ => none)
  | .slice none _ _, .slice y _ _ => (match P.underlying T with | some (.slice _) => some y.isNone | _ => none)
  | .slice x _ _, .slice none _ _ => (match P.underlying T with | some (.slice _) => some x.isNone | _ => none)
  | .agg xs, .agg ys => (match P.underlying T with
    | some (.struct fs) => bif flatFrom P 0 fs.toList && !P.stoodInHeld T && !P.eqGuardType P.depth T then eqFs P fs.toList xs.toList ys.toList else none
    | _ => none)
  | _, _ => none

def binA (P : Program) (op : BinOp) (T : TypeId) (x y : Value) (K : Value → Option ρ) : Option ρ :=
  match x, y with
  | .int k a, .int k' b => match op with
    | .shl => shiftI .shl k a b K
    | .shr => shiftI .shr k a b K
    | _ => if k = k' then binI op k a b K else none
  | x, y => match op with
    | .eql => (eqA P T x y).bind fun t => K (.bool t)
    | .neq => (eqA P T x y).bind fun t => K (.bool (!t))
    | _ => none

def unA (op : UnOp) (x : Value) (K : Value → Option ρ) : Option ρ :=
  match op, x with
  | .not, .bool b => K (.bool !b)
  | .neg, .int k n => K (.int k (k.wrap (0 - n)))
  | _, _ => none

/-- The offset of a field, and its type. -/
def fieldOf (P : Program) (T : TypeId) (f : Nat) : Option (Nat × TypeId) :=
  match P.underlying T with
  | some (.struct fs) => match fs.toList[f]? with
    | some x => some (x.offset, x.type)
    | none => none
  | _ => none

/-- The keys of a map are ints of 64 bits. -/
def kt64 (P : Program) (T : TypeId) : Bool :=
  match P.underlying T with
  | some (.int .i64) => true
  | _ => false

def szOf (P : Program) (T : TypeId) : Option Nat := (P.info? T).map (·.size)
def bytesOf (P : Program) (T : TypeId) : Option Nat := (P.info? T).map (·.bytes)
def elemAt (σ : AMem) (b : Nat) : Option TypeId :=
  match σ[b]? with
  | some (.cells _ T _) => some T
  | _ => none

def elemOfS (P : Program) (T : TypeId) : Option TypeId :=
  match P.underlying T with
  | some (.slice e) => some e
  | _ => none

def arrOf (P : Program) (T : TypeId) : Option (Nat × TypeId) :=
  match P.underlying T with
  | some (.array n e) => some (n, e)
  | _ => none

def zerosOf (P : Program) (T : TypeId) : Option Value := (P.info? T).bind fun i => i.zero.bind fun z => if constOk z then some z else none

def rep (n : Nat) (z : List Value) : List Value := (List.replicate n z).flatten

/-- A bound of a slice expression. -/
def bound (x : Option Value) (dflt top : Nat) (K : Nat → Option ρ) : Option ρ :=
  match x with
  | none => K dflt
  | some (.int _ i) => if 0 ≤ i ∧ i ≤ top then K i.toNat else none
  | some _ => none

def partsA (P : Program) (T : TypeId) : List (Nat × Value) → List Value → Option (List Value)
  | [], cs => some cs
  | (i, v) :: ps, cs => match fieldOf P T i with
    | some (o, t) => if szOf P t = some v.cells.size ∧ o + v.cells.size ≤ cs.length ∧ isTup v = false then partsA P T ps (setRange cs o v.cells.toList) else none
    | none => none

def elemsA (s : Nat) : List (Nat × Value) → List Value → Option (List Value)
  | [], cs => some cs
  | (i, v) :: ps, cs => if v.cells.size = s ∧ i * s + v.cells.size ≤ cs.length ∧ isTup v = false then elemsA s ps (setRange cs (i * s) v.cells.toList) else none

def evs (e : Operand → Option Value) : List Operand → (List Value → Option ρ) → Option ρ
  | [], K => K []
  | x :: xs, K => (e x).bind fun v => evs e xs fun vs => K (v :: vs)

def evp (e : Operand → Option Value) : List (Nat × Operand) → (List (Nat × Value) → Option ρ) → Option ρ
  | [], K => K []
  | (i, x) :: xs, K => (e x).bind fun v => evp e xs fun vs => K ((i, v) :: vs)

def evo (e : Operand → Option Value) (x : Option Operand) (K : Option Value → Option ρ) : Option ρ :=
  match x with
  | none => K none
  | some x => (e x).bind fun v => K (some v)

/-- So much may be appended to, in bytes. -/
def roomOk (n bytes : Nat) : Prop := n * bytes ≤ 2 ^ 40 ∧ n ≤ 2 ^ 40
instance (n bytes : Nat) : Decidable (roomOk n bytes) := inferInstanceAs (Decidable (_ ∧ _))

/-- What is appended, or copied: the first elements of a slice. -/
def firstA (σ : AMem) (s : Nat) (x : Option Addr) (n : Nat) : Option (List Value) :=
  match x with
  | some a => ldN σ a.block a.off (n * s)
  | none => if n = 0 then some [] else none

/-- A slice that is nil, or without room: nothing is written behind it. -/
def fixedB (a : Option Addr) : Bool :=
  match a with
  | none => true
  | some a => a.spot.isSome

/-- append(dst, src...). -/
def appendA (P : Program) (E : TypeId) (dst src : Option Addr × Nat × Nat) (σ : AMem) (K : Value → AMem → Option ρ) : Option ρ :=
  (szOf P E).bind fun s => (bytesOf P E).bind fun by_ =>
  (firstA σ s src.1 src.2.1).bind fun new => (zerosOf P E).bind fun z =>
  if ¬ (isTup z = false ∧ szOf P E = some z.cells.size ∧ 0 < z.cells.size) then none else
  if dst.2.1 + src.2.1 ≤ dst.2.2 then
    bif fixedB dst.1 then (if dst.2.1 + src.2.1 = 0 then K (.slice dst.1 0 0) σ else none)
    else dst.1.bind fun a => (stN σ a.block (a.off + dst.2.1 * s) new).bind fun σ' => K (.slice (some a) (dst.2.1 + src.2.1) dst.2.2) σ'
  else if roomOk (dst.2.1 + src.2.1) by_ ∧ 0 < by_ then
    bif fixedB dst.1 then (if dst.2.1 = 0 then K (.slice (some ⟨σ.length, 0, none⟩) src.2.1 src.2.1) (σ ++ [AObj.cells new E true]) else none)
    else dst.1.bind fun a => if elemAt σ a.block = some E then (ldN σ a.block a.off (dst.2.1 * s)).bind fun old =>
        bif writableB σ a.block then K (.slice (some ⟨σ.length, 0, none⟩) (dst.2.1 + src.2.1) (dst.2.1 + src.2.1)) (σ.set a.block .dead ++ [AObj.cells (old ++ new) E true])
        else none else none
  else none

abbrev SlV := Option Addr × Nat × Nat

def slK (v : Value) (σ : AMem) : Option (SlV × AMem) :=
  match v with
  | .slice a l c => some ((a, l, c), σ)
  | _ => none

/-- append(dst, src...): the slice, and the memory. -/
def appendD (P : Program) (E : TypeId) (dst src : SlV) (σ : AMem) : Option (SlV × AMem) := appendA P E dst src σ slK

/-- A slice of a slice. -/
def sliceD (E : TypeId) (s : Nat) (v : SlV) (lo hi mx : Option Value) (σ : AMem) : Option SlV :=
  bif !mx.isSome || hi.isSome then bound mx v.2.2 v.2.2 fun m => bound hi v.2.1 m fun h => bound lo 0 h fun l =>
    if m = l then (match v.1 with
      | none => some (none, 0, 0)
      | some a => bif mx.isSome then some (some ⟨a.block, a.off, some 0⟩, 0, 0) else if elemAt σ a.block = some E then some (some a, 0, 0) else none)
    else v.1.bind fun a => if elemAt σ a.block = some E then some (some ⟨a.block, a.off + l * s, none⟩, h - l, m - l) else none
  else none

/-- Cells behind a pointer, if it is not nil. -/
def stO (σ : AMem) (a : Option Addr) (vs : List Value) : Option AMem :=
  match a with
  | some a => stN σ a.block a.off vs
  | none => some σ

def ldMO (σ : AMem) (r : Option Nat) : Option (List (Int × Value)) :=
  match r with
  | none => some []
  | some r => ldMap σ r

/-- Another map in the place of one; nil stays. -/
def stMO (σ : AMem) (r : Option Nat) (es : List (Int × Value)) : AMem :=
  match r with
  | none => σ
  | some r => σ.set r (.map es)

def kdRes (P : Program) (T : TypeId) : Kd :=
  match P.underlying T with
  | some t => kindD t
  | none => .any

/-- The result of a call: typed. -/
def asT (P : Program) (T : TypeId) (v : Value) (K : Value → Option ρ) : Option ρ :=
  match P.underlying T with
  | some (.struct _) => (toA v).bind fun l => if l.length = (flat P 10 T).length then asKs (flat P 10 T) l fun vs => K (.agg vs.toArray) else none
  | some (.array _ _) => none
  | some t => asK (kindD t) v K
  | none => none

def asTs (P : Program) : List TypeId → List Value → (List Value → Option ρ) → Option ρ
  | [], _, K => K []
  | T :: Ts, l, K => l.head?.bind fun v => asT P T v fun v => asTs P Ts l.tail fun vs => K (v :: vs)

def asRes (P : Program) (T : TypeId) (v : Value) (K : Value → Option ρ) : Option ρ :=
  match (P.info? T).map (·.desc) with
  | some (TypeDesc.tuple ts) => (toT v).bind fun l => if l.length = ts.toList.length then asTs P ts.toList l fun vs => K (.tuple vs.toArray) else none
  | _ => asT P T v K

end

/-- The number under which the rounds of ranges over functions are called. -/
def YF : FuncId := 1000000000

abbrev CallF := FuncId → List Value → AMem → Option (Value × AMem)

/-- The function behind a method of a struct that lies in an interface, or of a pointer. -/
def methodF (P : Program) (t : TypeId) (nm : String) : Option FuncId :=
  match P.info? t with
  | none => none
  | some i => match i.methods.find? (·.name == nm) with
    | none => none
    | some m => match m.path.toList, m.func, P.underlying t with
      | [], some (f, false), some (.struct _) => some f
      | [], some (f, true), some (.pointer _) => some f
      | _, _, _ => none

/-- A function value, called. -/
def callVal (P : Program) (call : CallF) (f : Value) (vs : List Value) (σ : AMem) : Option (Value × AMem) :=
  match f with
  | .func (.func f) first cap => bif Nat.beq f YF then none else call f (first.toList ++ vs ++ cap.toList) σ
  | .func (.yield h) _ _ => call YF (.pointer (some ⟨h, 0, none⟩) :: vs) σ
  | .func (.method nm) first _ => (match first.toList ++ vs with
    | .iface t v :: rest => (methodF P t nm).bind fun f => bif Nat.beq f YF then none else call f (v :: rest) σ
    | _ => none)
  | _ => none

/-- A test that one memory begins with another. -/
class Quiet where
  q : AMem → AMem → Bool
  ok : ∀ {σ σ' : AMem}, q σ σ' = true → σ <+: σ'
  k : AMem → AMem → Nat → Bool
  kok : ∀ {σ σ' : AMem} {h : Nat}, k σ σ' h = true → σ'[h]? = σ[h]?

/-- A call between whose begin and end nothing that was there has turned. -/
def quietly [Quiet] {ρ : Type} (σ σ' : AMem) (m : Option ρ) : Option ρ := bif Quiet.q σ σ' then m else none

/-- A call between whose begin and end the object behind a pointer has not turned. -/
def keepP [Quiet] {ρ : Type} (a : Option Addr) (σ σ' : AMem) (m : Option ρ) : Option ρ :=
  match a with
  | some a => bif Quiet.k σ σ' a.block then m else none
  | none => m

def quietlyB [Quiet] {ρ : Type} (b : Bool) (σ σ' : AMem) (m : Option ρ) : Option ρ := bif b then quietly σ σ' m else m

section
variable {ρ : Type}

def minI : List Value → Option Value
  | [.int k x, .int k' y] => if k = k' then some (.int k (if y < x then y else x)) else none
  | _ => none
def maxI : List Value → Option Value
  | [.int k x, .int k' y] => if k = k' then some (.int k (if y > x then y else x)) else none
  | _ => none

def lenA (P : Program) (ts : List TypeId) (vs : List Value) (σ : AMem) (K : Value → AMem → Option ρ) : Option ρ :=
  match ts, vs with
  | [t], [v] => (match P.underlying t, v with
    | some (.slice _), .slice _ n _ => K (.int .i64 n) σ
    | some .string, .string s => K (.int .i64 s.size) σ
    | some (.map _ _), .map r => (ldMO σ r).bind fun es => K (.int .i64 es.length) σ
    | _, _ => none)
  | _, _ => none
def minA (vs : List Value) (σ : AMem) (K : Value → AMem → Option ρ) : Option ρ :=
  match vs with
  | [.int k x, .int k' y] => if k = k' then K (.int k (if y < x then y else x)) σ else none
  | _ => none
def maxA (vs : List Value) (σ : AMem) (K : Value → AMem → Option ρ) : Option ρ :=
  match vs with
  | [.int k x, .int k' y] => if k = k' then K (.int k (if y > x then y else x)) σ else none
  | _ => none
def appendB [Quiet] (P : Program) (q : Bool) (ts : List TypeId) (vs : List Value) (σ : AMem) (K : Value → AMem → Option ρ) : Option ρ :=
  match ts, vs with
  | [t, t'], [.slice a l c, .slice a' l' c'] => match P.underlying t' with
    | some (.slice _) => (elemOfS P t).bind fun E => (appendD P E (a, l, c) (a', l', c') σ).bind fun r => quietlyB q σ r.2 (K (.slice r.1.1 r.1.2.1 r.1.2.2) r.2)
    | _ => none
  | _, _ => none
def copyB (P : Program) (ts : List TypeId) (vs : List Value) (σ : AMem) (K : Value → AMem → Option ρ) : Option ρ :=
  match ts, vs with
  | [t, _], [.slice a l _, .slice a' l' _] => (elemOfS P t).bind fun E => (szOf P E).bind fun s =>
      (firstA σ s a' (Nat.min l' l)).bind fun vs =>
      (stO σ a vs).bind fun σ' => K (.int .i64 (Nat.min l' l : Nat)) σ'
  | _, _ => none
def clearB (P : Program) (ts : List TypeId) (vs : List Value) (σ : AMem) (K : Value → AMem → Option ρ) : Option ρ :=
  match ts, vs with
  | [t], [v] => (match P.underlying t, v with
    | some (.map _ _), .map r => (ldMO σ r).bind fun _ => K (.tuple #[]) (stMO σ r [])
    | some (.slice E), .slice a l _ =>
      (zerosOf P E).bind fun z => if isTup z = false ∧ 0 < z.cells.size then (if l = 0 then some σ else a.bind fun a => stN σ a.block a.off (rep l z.cells.toList)).bind fun σ' => K (.tuple #[]) σ' else none
    | _, _ => none)
  | _, _ => none
def deleteB (P : Program) (ts : List TypeId) (vs : List Value) (σ : AMem) (K : Value → AMem → Option ρ) : Option ρ :=
  match ts, vs with
  | [t, _], [.map r, .int .i64 k] => (match P.underlying t, r with
    | some (.map kt _), r => if kt64 P kt then (ldMO σ r).bind fun es => K (.tuple #[]) (stMO σ r (mapDel k es)) else none
    | _, _ => none)
  | _, _ => none

def builtinA [Quiet] (P : Program) (q : Bool) (b : Builtin) (ts : List TypeId) (vs : List Value) (σ : AMem) (K : Value → AMem → Option ρ) : Option ρ :=
  match b with
  | .len => lenA P ts vs σ K
  | .min => minA vs σ K
  | .max => maxA vs σ K
  | .append => appendB P q ts vs σ K
  | .copy => copyB P ts vs σ K
  | .clear => clearB P ts vs σ K
  | .delete => deleteB P ts vs σ K
  | _ => none

inductive Cls where
  | pure | ld | al | lo
  deriving DecidableEq

def clsB : Builtin → Bool → Cls
  | .len, true => .ld
  | .len, false => .pure
  | .min, _ | .max, _ => .pure
  | _, _ => .lo

def isMapT (P : Program) (ts : List TypeId) : Bool :=
  match ts with
  | t :: _ => (match P.underlying t with | some (.map _ _) => true | _ => false)
  | [] => false

def cls0 (P : Program) (o : Oper) : Cls :=
  match o.op with
  | .load .. | .lookup .. | .slice .. => .ld
  | .box .. | .alloc .. | .buildSlice .. | .makeMap .. | .makeSlice .. => .al
  | .store .. | .mapUpdate .. => .lo
  | .call c => match c.callee with
    | .builtin b => clsB b (isMapT P c.argTypes.toList)
    | _ => .al
  | _ => .pure

/-- An operation that only adds to memory, or leaves it; the functions of S only do that. -/
def opAdds (P : Program) (S : FuncId → Bool) (o : Oper) : Bool :=
  match o.op with
  | .call c => match c.callee with
    | .value (.func f) => S f
    | .builtin _ => (match cls0 P o with | .lo => false | _ => true)
    | _ => false
  | _ => (match cls0 P o with | .lo => false | _ => true)

def addsC (P : Program) (S : FuncId → Bool) : Code → Bool
  | .skip => true
  | .region _ ops _ => ops.toList.all (opAdds P S)
  | .seq a b => addsC P S a && addsC P S b
  | .cond _ a b => addsC P S a && addsC P S b
  | .block _ c => addsC P S c
  | .loop c => addsC P S c
  | .exit _ => true
  | .ret => true
  | _ => false

/-- A function that only adds to memory, seen so many calls deep. -/
def addsF (P : Program) : Nat → FuncId → Bool
  | 0, _ => false
  | d + 1, f => bif Nat.beq f YF then false else match P.funcs[f]? with
    | some F => match F.body with
      | some c => addsC P (addsF P d) c
      | none => false
    | none => false

def calmF (P : Program) (f : FuncId) : Bool := addsF P 6 f

def calmV (P : Program) (v : Value) : Bool :=
  match v with
  | .func (.func f) _ _ => calmF P f
  | _ => false

/-- A value that is not nil. -/
def nilV (v : Value) (K : Value → Option ρ) : Option ρ :=
  match v with
  | .pointer a => a.bind fun a => K (.pointer (some a))
  | .func (.func f) first cap => K (.func (.func f) first cap)
  | .iface t u => K (.iface t u)
  | _ => none

/-- One operation. -/
def opx [Quiet] (P : Program) (call : CallF) (quiet : Bool) (o : Op) (ty : TypeId) (e : Operand → Option Value) (σ : AMem) (K : Value → AMem → Option ρ) : Option ρ :=
  match o with
  | .move x | .assign x => (e x).bind fun v => K v σ
  | .pick c a b => (e c).bind fun c => match c with
    | .bool true => (e a).bind fun v => K v σ
    | .bool false => (e b).bind fun v => K v σ
    | _ => none
  | .box T x => (e x).bind fun v => bif isTup v then none else K (.pointer (some ⟨σ.length, 0, none⟩)) (σ ++ [.cells v.cells.toList T true])
  | .alloc T => (zerosOf P T).bind fun z => if isTup z = false then K (.pointer (some ⟨σ.length, 0, none⟩)) (σ ++ [.cells z.cells.toList T true]) else none
  | .build T parts => (zerosOf P T).bind fun z => evp e parts.toList fun ps => match P.underlying T with
    | some (.struct fs) => if (fs.toList.all fun f => (P.info? f.type).isSome) = true ∧ isTup z = false then (partsA P T ps z.cells.toList).bind fun cs => K (.agg cs.toArray) σ else none
    | some (.array _ E) => (szOf P E).bind fun s => if isTup z = false then (elemsA s ps z.cells.toList).bind fun cs => K (.agg cs.toArray) σ else none
    | _ => none
  | .buildSlice T n parts => (elemOfS P T).bind fun E => bif n == 0 then (bif parts.toList.isEmpty then (szOf P E).bind fun _ => K (.slice (some ⟨σ.length, 0, some 0⟩) 0 0) (σ ++ [.cells [] E true]) else none) else (zerosOf P E).bind fun z => evp e parts.toList fun ps =>
      if szOf P E = some z.cells.size ∧ 0 < n ∧ 0 < z.cells.size ∧ n * z.cells.size ≤ 2 ^ 24 ∧ isTup z = false then
        (elemsA z.cells.size ps (rep n z.cells.toList)).bind fun cs =>
          K (.slice (some ⟨σ.length, 0, none⟩) n n) (σ ++ [.cells cs E true])
      else none
  | .load T x => (e x).bind fun v => match v with
    | .pointer a => a.bind fun a =>
      bif isAggB P T then (if szOf P T = some (flat P 10 T).length then ldKs (flat P 10 T) σ a.block a.off fun vs => K (.agg vs.toArray) σ else none)
      else (P.underlying T).bind fun _ => ldK (kdRes P T) σ a.block a.off fun v => K v σ
    | _ => none
  | .store T x y => (e x).bind fun v => (e y).bind fun u => match v with
    | .pointer a => a.bind fun a => match u with
      | .agg vs => if szOf P T = some vs.size then (stN σ a.block a.off vs.toList).bind fun σ' => K undef σ' else none
      | .tuple _ => none
      | u => if szOf P T = some 1 then (st1 σ a.block a.off u).bind fun σ' => K undef σ' else none
    | _ => none
  | .nilCheck x => (e x).bind fun v => nilV v fun v => K v σ
  | .binOp op T x y _ => (e x).bind fun a => (e y).bind fun b => binA P op T a b fun v => K v σ
  | .unOp op _ x => (e x).bind fun a => unA op a fun v => K v σ
  | .convert s d x => (e x).bind fun v => match P.underlying s, P.underlying d, v with
    | some (.int _), some (.int k), .int _ n => K (.int k (k.wrap n)) σ
    | _, _, _ => none
  | .makeInterface T x => (e x).bind fun v => match P.underlying T with
    | some (.interface _) => none
    | some _ => K (.iface T v) σ
    | none => none
  | .makeFunc fn first cap => (match fn with
    | .yield _ => none
    | fn => evs e first.toList fun vs => evs e cap.toList fun us => K (.func fn vs.toArray us.toArray) σ)
  | .makeMap _ none => K (.map (some σ.length)) (σ ++ [.map []])
  | .makeSlice T l c => (elemOfS P T).bind fun E => (e l).bind fun l => (e c).bind fun c => match l, c with
    | .int .i64 l, .int .i64 c => (bytesOf P E).bind fun by_ => if 0 ≤ l ∧ l ≤ c ∧ c * by_ ≤ 2 ^ 40 ∧ c ≤ 2 ^ 40 then
        (zerosOf P E).bind fun z => if szOf P E = some z.cells.size ∧ 0 < z.cells.size ∧ isTup z = false then K (.slice (some ⟨σ.length, 0, none⟩) l.toNat c.toNat) (σ ++ [.cells (rep c.toNat z.cells.toList) E true]) else none
      else none
    | _, _ => none
  | .slice T x lo hi mx => (elemOfS P T).bind fun E => (szOf P E).bind fun s => (e x).bind fun v => evo e lo fun lo => evo e hi fun hi => evo e mx fun mx => match v with
    | .slice a len cap => (sliceD E s (a, len, cap) lo hi mx σ).bind fun r => K (.slice r.1 r.2.1 r.2.2) σ
    | _ => none
  | .fieldAddr T x f => (fieldOf P T f).bind fun ot => (e x).bind fun v => match v with
    | .pointer a => a.bind fun a => (szOf P ot.2).bind fun s => if s = 0 then none else K (.pointer (some ⟨a.block, a.off + ot.1, none⟩)) σ
    | _ => none
  | .field T x f => (fieldOf P T f).bind fun ot => (e x).bind fun v => match v with
    | .agg vs => bif isAggB P ot.2 then (szOf P ot.2).bind fun s => K (.agg ((vs.toList.drop ot.1).take s).toArray) σ
      else (P.underlying ot.2).bind fun _ => (vs.toList[ot.1]?).bind fun v => K v σ
    | _ => none
  | .indexAddr T x i => match arrOf P T with
    | some (len, E) => (szOf P E).bind fun s => (e x).bind fun v => (e i).bind fun i => match v, i with
      | .pointer a, .int _ n => a.bind fun a => if 0 ≤ n ∧ n < len then K (.pointer (some ⟨a.block, a.off + n.toNat * s, none⟩)) σ else none
      | _, _ => none
    | none => (elemOfS P T).bind fun E => (szOf P E).bind fun s => (e x).bind fun v => (e i).bind fun i => match v, i with
      | .slice a len _, .int _ n => if 0 ≤ n ∧ n < len then a.bind fun a => K (.pointer (some ⟨a.block, a.off + n.toNat * s, none⟩)) σ else none
      | _, _ => none
  | .index T x i => (arrOf P T).bind fun le => (e x).bind fun v => (e i).bind fun i => match v, i with
    | .agg vs, .int _ n => bif isAggB P le.2 then none else if 0 ≤ n ∧ n < le.1 then (P.underlying le.2).bind fun _ => (szOf P le.2).bind fun s => (vs.toList[n.toNat * s]?).bind fun v => asK (kdRes P le.2) v fun v => K v σ else none
    | _, _ => none
  | .lookup T m i ok => (e m).bind fun m => (e i).bind fun i => match P.underlying T, m, i with
    | some (.map kt E), .map r, .int .i64 k => if kt64 P kt then
      (ldMO σ r).bind fun es => (zerosOf P E).bind fun z =>
        asK (kdRes P E) ((mapGet es k).getD z) fun v => K (bif ok then .tuple #[v, .bool (mapGet es k).isSome] else v) σ else none
    | _, _, _ => none
  | .mapUpdate T m k v => (e m).bind fun m => (e k).bind fun k => (e v).bind fun v => match P.underlying T, m, k with
    | some (.map kt _), .map r, .int .i64 k => if kt64 P kt then r.bind fun r => (ldMap σ r).bind fun es => K undef (σ.set r (.map (mapSet k v es))) else none
    | _, _, _ => none
  | .extract t i => (e t).bind fun v => match v with
    | .tuple vs => (vs.toList[i]?).bind fun v => K v σ
    | _ => none
  | .call c => match c.callee with
    | .builtin b => evs e c.args.toList fun vs => builtinA P quiet b c.argTypes.toList vs σ K
    | .value f => (e f).bind fun fv => evs e c.args.toList fun vs => (callVal P call fv vs σ).bind fun p =>
          quietlyB (quiet && !calmV P fv) σ p.2 (asRes P ty p.1 fun v => K v p.2)
    | .invoke _ _ => none
  | _ => none

end

def evr (regs : Regs) : Operand → Option Value
  | .tmp t => regs.getD t none
  | .const v => if constOk v then some v else none
  | .func f => some (.func (.func f) #[] #[])
  | .global _ => none

def putr (regs : Regs) (d : Option Nat) (v : Option Value) : Regs :=
  match d with
  | some d => regs.set d v
  | none => regs

/-- The register that an operation of a region writes. -/
def dstOf (all : List Oper) (j : Nat) : Option Nat := (all[j]?).bind (·.dst)

def regOf (all : List Oper) (regs : Regs) (j : Nat) : Option Value :=
  match dstOf all j with
  | some d => regs.getD d none
  | none => none

/-- Whether an operation picks by a register, and belongs to no group that is open. -/
def isPick (dj : Option Nat) (known : List (Nat × Bool)) (o : Oper) : Bool :=
  match o.op with
  | .pick (.tmp c) _ _ => some c == dj && (match o.guard with | none => true | some g => known.contains g)
  | _ => false

/-- The operations before the pick that ends a group, the pick, and those behind it. -/
def splitPick (dj : Option Nat) (known : List (Nat × Bool)) : List (Nat × Oper) → Option (List (Nat × Oper) × (Nat × Oper) × List (Nat × Oper))
  | [] => none
  | io :: rest => bif isPick dj known io.2 then some ([], io, rest) else (splitPick dj known rest).map fun x => (io :: x.1, x.2.1, x.2.2)

def sel {α : Type} (want b : Bool) (x y : α) : α :=
  match want with
  | true => bif b then x else y
  | false => bif b then y else x

def maskOps (regs : Regs) : List (Nat × Oper) → Regs
  | [] => regs
  | io :: rest => maskOps (putr regs io.2.dst none) rest

def skipOps (all : List Oper) : List (Nat × Oper) → Regs → Option Regs
  | [], regs => some regs
  | io :: rest, regs => match io.2.guard with
    | none => none
    | some (j, want) => match regOf all regs j with
      | some (.bool b) => bif b == want then none else skipOps all rest (putr regs io.2.dst (some undef))
      | some (.tuple vs) => bif vs.toList.isEmpty then skipOps all rest (putr regs io.2.dst (some undef)) else none
      | _ => none

/-- What is asked of an operation of a region: to be quiet; to keep what some registers point to. -/
abbrev QF := Bool × List Nat

def keepsA [Quiet] {ρ : Type} : List Nat → Regs → AMem → AMem → Option ρ → Option ρ
  | [], _, _, _, m => m
  | t :: ts, regs, σ, σ', m => match regs.getD t none with
    | some (.pointer a) => keepP a σ σ' (keepsA ts regs σ σ' m)
    | _ => none

def runOps [Quiet] (P : Program) (call : CallF) (qf : Nat → QF) (all : List Oper) : Nat → (ρ : Type) → List (Nat × Bool) → List (Nat × Oper) → Regs → AMem → (Regs → AMem → Option ρ) → Option ρ
  | 0, _, _, _, _, _, _ => none
  | fuel + 1, ρ, known, ops, regs, σ, K => match ops with
    | [] => K regs σ
    | io :: rest => match io.2.guard with
      | none => opx P call (qf io.1).1 io.2.op io.2.type (evr regs) σ fun v σ' => keepsA (qf io.1).2 regs σ σ' (runOps P call qf all fuel ρ known rest (putr regs io.2.dst (some v)) σ' K)
      | some (j, want) =>
        bif known.contains (j, want) then
          match regOf all regs j with
          | some (.bool b) => bif b == want then opx P call (qf io.1).1 io.2.op io.2.type (evr regs) σ fun v σ' => keepsA (qf io.1).2 regs σ σ' (runOps P call qf all fuel ρ known rest (putr regs io.2.dst (some v)) σ' K) else none
          | _ => none
        else match splitPick (dstOf all j) known rest with
          | none => none
          | some (body, p, after) => match regOf all regs j with
            | some (.bool b) =>
              (sel want b
                  (runOps P call qf all fuel (Bool × AMem) ((j, want) :: known) (io :: (body ++ [p])) (putr regs (dstOf all j) (some (.bool want))) σ
                    (fun regs' σ' => ((p.2.dst.bind fun d => regs'.getD d none).bind toB).bind fun r => some (r, σ')))
                ((skipOps all (io :: body) (putr regs (dstOf all j) (some (.bool !want)))).bind fun regs' =>
                  runOps P call qf all fuel (Bool × AMem) known [p] regs' σ
                    (fun regs' σ' => ((p.2.dst.bind fun d => regs'.getD d none).bind toB).bind fun r => some (r, σ')))).bind fun rσ =>
              runOps P call qf all fuel ρ known after (putr (maskOps regs (io :: body)) p.2.dst (some (.bool rσ.1))) rσ.2 K
            | _ => none

/-- What a loop, or a joined condition, keeps: registers at its head, registers behind it with their kinds, and how it may be left. -/
structure Hint where
  live : List Nat
  exits : List (AExit × List (Nat × Kd))
  deriving Inhabited

/-- Hints by the number of the first region. -/
abbrev Hints := List (Nat × Hint)

def firstId : Code → Nat
  | .region id _ _ => id
  | .seq a _ => firstId a
  | .block _ b => firstId b
  | .loop b => firstId b
  | .scope b => firstId b
  | .cond _ a _ => firstId a
  | _ => 0

def Hints.at (H : Hints) (id : Nat) : Option Hint := H.lookup id

abbrev LOut := AExit × List Value × AMem

def maskFrom (live : List Nat) : Nat → Regs → Regs
  | _, [] => []
  | i, r :: rs => (if live.contains i then r else none) :: maskFrom live (i + 1) rs
def maskTo (live : List Nat) (regs : Regs) : Regs := maskFrom live 0 regs

def packs (regs : Regs) : List (Nat × Kd) → (List Value → Option LOut) → Option LOut
  | [], K => K []
  | (t, _) :: os, K => (regs.getD t none).bind fun v => packs regs os fun vs => K (v :: vs)

def outsAt (x : AExit) : List (AExit × List (Nat × Kd)) → Option (List (Nat × Kd))
  | [] => none
  | e :: es => if x = e.1 then some e.2 else outsAt x es

def pack (exits : List (AExit × List (Nat × Kd))) (x : AExit) (regs : Regs) (σ : AMem) : Option LOut :=
  (outsAt x exits).bind fun outs => packs regs outs fun vs => some (x, vs, σ)

def unexit {ρ : Type} (x : AExit) (K : AExit → List (Nat × Kd) → Option ρ) : List (AExit × List (Nat × Kd)) → Option ρ
  | [] => none
  | e :: es => if x = e.1 then K e.1 e.2 else unexit x K es

def setAll : List (Nat × Kd) → List Value → Regs → Regs
  | (t, _) :: os, v :: vs, regs => setAll os vs (regs.set t (some v))
  | _, _, regs => regs

def dstsOps : List Oper → List Nat
  | [] => []
  | o :: os => o.dst.toList ++ dstsOps os

def dsts : Code → List Nat
  | .region _ ops _ => dstsOps ops.toList
  | .seq a b => dsts a ++ dsts b
  | .cond _ a b => dsts a ++ dsts b
  | .block _ b => dsts b
  | .loop b => dsts b
  | .scope b => dsts b
  | _ => []

def forget (c : Code) (regs : Regs) : Regs := go (dsts c) regs
where
  go : List Nat → Regs → Regs
    | [], regs => regs
    | t :: ts, regs => go ts (regs.set t none)

def unpack {ρ : Type} (h : Hint) (c : Code) (regs : Regs) (r : LOut) (K : AExit → Regs → AMem → Option ρ) : Option ρ :=
  unexit r.1 (fun x outs => asKs (outs.map (·.2)) r.2.1 fun vs => K x (setAll outs vs (forget c regs)) r.2.2) h.exits

def loopF (B : Regs → AMem → (AExit → Regs → AMem → Option LOut) → Option LOut) (h : Hint) : Nat → Regs → AMem → Option LOut
  | 0, _, _ => none
  | n + 1, regs, σ => B regs σ fun x regs' σ' => match x with
    | .normal => loopF B h n (maskTo h.live regs') σ'
    | x => pack h.exits x regs' σ'

/-- The operations that come before one, by the edges that bind: a mask. -/
def maskOf (acc : List Nat) (o : Oper) : Nat := (o.after.toList.filter (Region.binds .any)).foldl (fun s e => s ||| 2 ^ e.on ||| acc.getD e.on 0) 0
def befs : List Oper → List Nat → List Nat
  | [], acc => acc
  | o :: os, acc => befs os (acc ++ [maskOf acc o])
def ordered (b : List Nat) (i j : Nat) : Bool := (b.getD i 0).testBit j || (b.getD j 0).testBit i

def isCallV (o : Oper) : Bool :=
  match o.op with
  | .call c => (match c.callee with | .builtin _ => false | _ => true)
  | _ => false

/-- An append. -/
def isApp (o : Oper) : Bool :=
  match o.op with
  | .call c => (match c.callee with | .builtin .append => true | _ => false)
  | _ => false

/-- The register, not written in a region, from whose pointer an address comes. -/
def rootN (ops : List Oper) : Nat → Nat → Nat → Option Nat
  | 0, _, _ => none
  | n + 1, a, j => match ops.zipIdx.filter fun p => p.1.dst == some a with
    | [] => some a
    | [p] => bif Nat.blt p.2 j then (match p.1.op with
      | .fieldAddr _ (.tmp b) _ => rootN ops n b p.2
      | _ => none) else none
    | _ => none

/-- A load of a region whose address comes from a register that the region does not write: that register. -/
def farBase (ops : List Oper) (j : Nat) : Option Nat :=
  match ops[j]? with
  | some o => (match o.op with
    | .load _ (.tmp a) => rootN ops 8 a j
    | _ => none)
  | none => none

/-- The operations that touch memory, in no order with one. -/
def loose (P : Program) (ops : List Oper) (i : Nat) : List (Oper × Nat) := ops.zipIdx.filter fun x => !(i == x.2 || cls0 P x.1 == .pure || ordered (befs ops []) i x.2)

/-- A call of a function that only adds to memory. -/
def calmO (P : Program) (o : Oper) : Bool :=
  match o.op with
  | .call c => (match c.callee with | .value (.func f) => calmF P f | _ => false)
  | _ => false

/-- A call of a region whose order is drawn must be quiet, unless it is ordered with all that touches memory; or it must keep what loads in no order with it read. -/
def needsQuiet (P : Program) (ops : List Oper) (draw : Bool) (i : Nat) : QF :=
  bif draw then (match ops[i]? with
    | some o => bif isCallV o || isApp o then (bif (loose P ops i).isEmpty then (false, []) else
        bif isCallV o && !calmO P o && (loose P ops i).all (fun x => (farBase ops x.2).isSome) then (false, (loose P ops i).filterMap fun x => farBase ops x.2) else (true, []))
      else (false, [])
    | none => (false, [])) else (false, [])

/-- What an operation of a region does to memory; a call that need not be quiet counts as a write. -/
def clsD (P : Program) (ops : List Oper) (qf : Nat → QF) (i : Nat) : Cls :=
  match ops[i]? with
  | some o => bif isCallV o && !(qf i).1 then .lo else bif isApp o && (qf i).1 then .al else cls0 P o
  | none => .pure

/-- A load that an operation keeps the object of. -/
def farOk (ops : List Oper) (qf : Nat → QF) (i j : Nat) : Bool :=
  match farBase ops j with
  | some t => (qf i).2.contains t
  | none => false

def looksL (ops : List Oper) (o : Oper) : List Nat :=
  (o.op.operands.toList.filterMap fun | .tmp t => some t | _ => none) ++ (match o.guard with | some (g, _) => (dstOf ops g).toList | none => [])

/-- A region whose order is drawn comes to the same in every order. -/
def drawOk (P : Program) (ops : List Oper) (qf : Nat → QF) : Bool :=
  let b := befs ops []
  ops.zipIdx.all fun x =>
    (x.1.after.toList.all fun e => !Region.binds .any e || Nat.blt e.on x.2) &&
    ops.zipIdx.all fun y => x.2 == y.2 ||
      ((match x.1.dst with | some t => (!(looksL ops y.1).contains t && y.1.dst != some t) || ordered b x.2 y.2 | none => true) &&
       ((clsD P ops qf x.2 != .lo || clsD P ops qf y.2 == .pure) || ordered b x.2 y.2 || farOk ops qf x.2 y.2))

/-- The range over a function that code holds, if it is one. -/
def theRange : Code → Option (Array Tmp × Code × Code)
  | .seq a b => match theRange a with
    | some x => some x
    | none => theRange b
  | .cond _ a b => match theRange a with
    | some x => some x
    | none => theRange b
  | .block _ c => theRange c
  | .loop c => theRange c
  | .scope c => theRange c
  | .rangeFunc _ ps a b => some (ps, a, b)
  | _ => none

/-- How many it holds. -/
def ranges : Code → Nat
  | .seq a b => ranges a + ranges b
  | .cond _ a b => ranges a + ranges b
  | .block _ c => ranges c
  | .loop c => ranges c
  | .scope c => ranges c
  | .rangeFunc _ _ a b => ranges a + ranges b + 1
  | _ => 0

/-- A function of the program's, as a value. -/
def isFn : Value → Bool
  | .func (.func _) _ _ => true
  | _ => false

/-- Behind a range over a function. -/
def endLoopA {ρ : Type} (h : Nat) (σ : AMem) (K : AExit → AMem → Option ρ) : Option ρ :=
  match σ[h]? with
  | some (.loop _ .ready _) => K .normal (σ.set h .dead)
  | some (.loop _ (.done x) _) => match x with
    | .normal => none
    | x => K x (σ.set h .dead)
  | _ => none

/-- The state of a record. -/
def setLoop {ρ : Type} (h : Nat) (σ : AMem) (old new : LSt) (K : FuncId → Regs → AMem → Option ρ) : Option ρ :=
  match σ[h]? with
  | some (.loop f st regs) => if st = old then K f regs (σ.set h (.loop f new regs)) else none
  | _ => none

def setPs : List Tmp → List Value → Regs → Regs
  | t :: ts, v :: vs, regs => setPs ts vs (regs.set t (some v))
  | _, _, regs => regs

def exec [Quiet] (P : Program) (call : CallF) (fid : FuncId) (H : Hints) (n : Nat) : Code → (ρ : Type) → Regs → AMem → (AExit → Regs → AMem → Option ρ) → Option ρ
  | .skip, _, regs, σ, K => K .normal regs σ
  | .region _ ops draw, _, regs, σ, K => bif draw && !drawOk P ops.toList (needsQuiet P ops.toList draw) then none else
    runOps P call (needsQuiet P ops.toList draw) ops.toList (2 * ops.toList.length + 1) _ [] (ops.toList.zipIdx.map fun x => (x.2, x.1)) regs σ fun regs σ => K .normal regs σ
  | .seq a b, ρ, regs, σ, K => exec P call fid H n a ρ regs σ fun x regs σ => match x with
    | .normal => exec P call fid H n b ρ regs σ K
    | .exit id => K (.exit id) regs σ
    | .ret => K .ret regs σ
  | .cond c t e, ρ, regs, σ, K => match evr regs c with
    | some (.bool b) => match H.at (2 * firstId t + 1) with
      | none => bif b then exec P call fid H n t ρ regs σ K else exec P call fid H n e ρ regs σ K
      | some h => (bif b then exec P call fid H n t LOut regs σ (pack h.exits) else exec P call fid H n e LOut regs σ (pack h.exits)).bind fun r => unpack h (.seq t e) regs r K
    | _ => none
  | .block id c, ρ, regs, σ, K => exec P call fid H n c ρ regs σ fun x regs σ => match x with
    | .normal => K .normal regs σ
    | .exit id' => if id' = id then K .normal regs σ else K (.exit id') regs σ
    | .ret => K .ret regs σ
  | .loop c, ρ, regs, σ, K => match H.at (2 * firstId c) with
    | none => none
    | some h => (loopF (fun regs σ K => exec P call fid H n c LOut regs σ K) h n (maskTo h.live regs) σ).bind fun r => unpack h c regs r K
  | .exit id, _, regs, σ, K => K (.exit id) regs σ
  | .ret, _, regs, σ, K => K .ret regs σ
  | .scope c, ρ, regs, σ, K => exec P call fid H n c ρ regs σ K
  | .label _, _, regs, σ, K => K .normal regs σ
  | .rangeFunc g ps _ b, _, regs, σ, K => match evr regs g, H.at (2 * firstId b) with
    | some gv, some h => bif isFn gv then (callVal P call gv [.func (.yield σ.length) #[] #[]] (σ ++ [.loop fid .ready (maskTo h.live regs)])).bind fun r =>
        endLoopA σ.length r.2 fun x σ' => unexit x (fun x _ => K x regs σ') h.exits else none
    | _, _ => none
  | _, _, _, _, _ => none

def resOne (P : Program) (regs : Regs) (σ : AMem) (r : ResultVar) : Option Value :=
  match r with
  | .tmp t => regs.getD t none
  | .cell t T => (regs.getD t none).bind fun v => match v with
    | .pointer (some a) => bif isAggB P T then (szOf P T).bind fun s => (ldN σ a.block a.off s).bind fun vs => some (.agg vs.toArray) else (P.underlying T).bind fun _ => ld1 σ a.block a.off
    | _ => none

def resAll (P : Program) (regs : Regs) (σ : AMem) : List ResultVar → Option (List Value)
  | [] => some []
  | r :: rs => (resOne P regs σ r).bind fun v => (resAll P regs σ rs).bind fun vs => some (v :: vs)

def resOf : List Value → Value
  | [v] => v
  | vs => .tuple vs.toArray

def fin (P : Program) (f : Func) (x : AExit) (regs : Regs) (σ : AMem) : Option (Value × AMem) :=
  match x with
  | .exit _ => none
  | _ => (resAll P regs σ f.results.toList).bind fun vs => some (resOf vs, σ)

/-- Functions that are not run, but known. -/
abbrev Ext := FuncId → Option (List Value → AMem → Option (Value × AMem))

/-- A round is left. -/
def roundEnd (h : Nat) (z : AExit) (σ : AMem) : Option (Value × AMem) :=
  match z with
  | .normal => setLoop h σ .busy .ready fun _ _ σ => some (.bool true, σ)
  | .exit id => setLoop h σ .busy (.done (.exit id)) fun _ _ σ => some (.bool false, σ)
  | .ret => setLoop h σ .busy (.done .ret) fun _ _ σ => some (.bool false, σ)

/-- A round behind the assignments. -/
def roundMid [Quiet] (P : Program) (call : CallF) (f : FuncId) (H : Hints) (n : Nat) (h : Nat) (c : Code) (y : AExit) (regs : Regs) (σ : AMem) : Option (Value × AMem) :=
  match y with
  | .normal => setLoop h σ .ready .busy fun _ _ σ => exec P call f H n c (Value × AMem) regs σ fun z _ σ => roundEnd h z σ
  | _ => none

/-- A round of a range over a function. -/
def roundF [Quiet] (P : Program) (call : CallF) (H : FuncId → Hints) (n : Nat) (args : List Value) (σ : AMem) : Option (Value × AMem) :=
  match args with
  | .pointer (some a) :: vs => setLoop a.block σ .ready .ready fun f regs _ =>
    (P.funcs[f]?).bind fun F => F.body.bind fun c => (theRange c).bind fun x => if ranges c = 1 ∧ vs.length = x.1.toList.length then
      exec P call f (H f) n x.2.1 (Value × AMem) (setPs x.1.toList vs regs) σ fun y regs1 σ1 => roundMid P call f (H f) n a.block x.2.2 y regs1 σ1
      else none
  | _ => none

/-- A call. -/
def fn [Quiet] (P : Program) (X : Ext) (H : FuncId → Hints) : Nat → CallF
  | 0, _, _, _ => none
  | k + 1, f, args, σ => match X f with
    | some g => g args σ
    | none => bif Nat.beq f YF then roundF P (fn P X H k) H k args σ else match P.funcs[f]? with
      | none => none
      | some F => match F.body with
        | none => none
        | some c => if F.name = "runtime.NumGoroutine" ∨ 1 < ranges c then none else
          exec P (fn P X H k) f (H f) k c (Value × AMem) (args.map some ++ List.replicate (F.ntmps - args.length) (some undef)) σ (fin P F)

def sameA : Option Addr → Option Addr → Bool
  | none, none => true
  | some a, some b => a.block == b.block && (a.off == b.off && (match a.spot, b.spot with | none, none => true | some x, some y => x == y | _, _ => false))
  | _, _ => false

def sameL : Value → Value → Bool
  | .bool a, .bool b => a == b
  | .int k a, .int k' b => decide (k = k') && a == b
  | .pointer a, .pointer b => sameA a b
  | .slice a l c, .slice a' l' c' => sameA a a' && (l == l' && c == c')
  | .map none, .map none => true
  | .map (some a), .map (some b) => a == b
  | .nilFunc, .nilFunc => true
  | .nilIface, .nilIface => true
  | .agg a, .agg b => a.toList.isEmpty && b.toList.isEmpty
  | .func (.func f) a b, .func (.func f') a' b' => f == f' && (a.toList.isEmpty && (a'.toList.isEmpty && (b.toList.isEmpty && b'.toList.isEmpty)))
  | _, _ => false

def sameV (v v' : Value) : Bool :=
  match v, v' with
  | .iface t x, .iface t' x' => t == t' && sameL x x'
  | v, v' => sameL v v'

def sameVs : List Value → List Value → Bool
  | [], [] => true
  | x :: xs, y :: ys => sameV x y && sameVs xs ys
  | _, _ => false

def sameEs : List (Int × Value) → List (Int × Value) → Bool
  | [], [] => true
  | x :: xs, y :: ys => x.1 == y.1 && (sameV x.2 y.2 && sameEs xs ys)
  | _, _ => false

def sameR : List (Option Value) → List (Option Value) → Bool
  | [], [] => true
  | none :: xs, none :: ys => sameR xs ys
  | some x :: xs, some y :: ys => sameV x y && sameR xs ys
  | _, _ => false

def sameO : AObj → AObj → Bool
  | .cells vs T rw, .cells vs' T' rw' => sameVs vs vs' && (T == T' && rw == rw')
  | .map es, .map es' => sameEs es es'
  | .loop f st r, .loop f' st' r' => f == f' && (decide (st = st') && sameR r r')
  | .dead, .dead => true
  | _, _ => false

def sameM : AMem → AMem → Bool
  | [], _ => true
  | x :: xs, y :: ys => sameO x y && sameM xs ys
  | _, _ => false

theorem sameA_eq : ∀ {a b : Option Addr}, sameA a b = true → a = b
  | none, none, _ => rfl
  | some ⟨b1, o1, s1⟩, some ⟨b2, o2, s2⟩, h => by
    simp only [sameA, Bool.and_eq_true, beq_iff_eq] at h
    obtain ⟨rfl, rfl, h⟩ := h
    cases s1 <;> cases s2 <;> simp at h <;> simp [h]
  | none, some _, h => by simp [sameA] at h
  | some _, none, h => by simp [sameA] at h

theorem isEmpty_eq {a : Array Value} (h : a.toList.isEmpty = true) : a = #[] := by
  apply Array.toList_inj.1; simpa using h

theorem sameL_eq {v v' : Value} (h : sameL v v' = true) : v = v' := by
  unfold sameL at h
  split at h
  · simp at h; simp [h]
  · simp at h; simp [h]
  · rw [sameA_eq h]
  · simp only [Bool.and_eq_true, beq_iff_eq] at h
    rw [sameA_eq h.1, h.2.1, h.2.2]
  · rfl
  · simp at h; simp [h]
  · rfl
  · rfl
  · simp only [Bool.and_eq_true] at h
    rw [isEmpty_eq h.1, isEmpty_eq h.2]
  · simp only [Bool.and_eq_true, beq_iff_eq] at h
    rw [h.1, isEmpty_eq h.2.1, isEmpty_eq h.2.2.1, isEmpty_eq h.2.2.2.1, isEmpty_eq h.2.2.2.2]
  · cases h

theorem sameV_eq {v v' : Value} (h : sameV v v' = true) : v = v' := by
  unfold sameV at h
  split at h
  · simp only [Bool.and_eq_true, beq_iff_eq] at h
    rw [h.1, sameL_eq h.2]
  · exact sameL_eq h

theorem sameVs_eq : ∀ {v v' : List Value}, sameVs v v' = true → v = v'
  | [], [], _ => rfl
  | x :: xs, y :: ys, h => by
    simp only [sameVs, Bool.and_eq_true] at h
    rw [sameV_eq h.1, sameVs_eq h.2]
  | [], _ :: _, h => by simp [sameVs] at h
  | _ :: _, [], h => by simp [sameVs] at h

theorem sameEs_eq : ∀ {v v' : List (Int × Value)}, sameEs v v' = true → v = v'
  | [], [], _ => rfl
  | (a, x) :: xs, (b, y) :: ys, h => by
    simp only [sameEs, Bool.and_eq_true, beq_iff_eq] at h
    rw [h.1, sameV_eq h.2.1, sameEs_eq h.2.2]
  | [], _ :: _, h => by simp [sameEs] at h
  | _ :: _, [], h => by simp [sameEs] at h

theorem sameR_eq : ∀ {v v' : List (Option Value)}, sameR v v' = true → v = v'
  | [], [], _ => rfl
  | none :: xs, none :: ys, h => by
    simp only [sameR] at h
    rw [sameR_eq h]
  | some x :: xs, some y :: ys, h => by
    simp only [sameR, Bool.and_eq_true] at h
    rw [sameV_eq h.1, sameR_eq h.2]
  | [], _ :: _, h => by simp [sameR] at h
  | _ :: _, [], h => by simp [sameR] at h
  | none :: _, some _ :: _, h => by simp [sameR] at h
  | some _ :: _, none :: _, h => by simp [sameR] at h

theorem sameO_eq {o o' : AObj} (h : sameO o o' = true) : o = o' := by
  unfold sameO at h
  split at h
  · simp only [Bool.and_eq_true, beq_iff_eq] at h
    rw [sameVs_eq h.1, h.2.1, h.2.2]
  · rw [sameEs_eq h]
  · simp only [Bool.and_eq_true, beq_iff_eq, decide_eq_true_eq] at h
    rw [h.1, h.2.1, sameR_eq h.2.2]
  · rfl
  · cases h

theorem sameM_ok : ∀ {σ σ' : AMem}, sameM σ σ' = true → σ <+: σ'
  | [], _, _ => List.nil_prefix
  | x :: xs, y :: ys, h => by
    simp only [sameM, Bool.and_eq_true] at h
    obtain ⟨t, ht⟩ := sameM_ok h.2
    exact ⟨t, by rw [sameO_eq h.1, ← ht]; rfl⟩
  | _ :: _, [], h => by simp [sameM] at h

def sameAt (σ σ' : AMem) (h : Nat) : Bool :=
  match σ[h]?, σ'[h]? with
  | some o, some o' => sameO o o'
  | none, none => true
  | _, _ => false

theorem sameAt_ok {σ σ' : AMem} {h : Nat} (g : sameAt σ σ' h = true) : σ'[h]? = σ[h]? := by
  unfold sameAt at g
  split at g
  · rename_i o o' h1 h2
    rw [h1, h2, sameO_eq g]
  · rename_i h1 h2
    rw [h1, h2]
  · cases g

/-- The test that can be run. -/
@[reducible] def boolQuiet : Quiet := ⟨sameM, sameM_ok, sameAt, sameAt_ok⟩

open Classical in
/-- The test that tells it always. -/
@[reducible] noncomputable def fullQuiet : Quiet := ⟨fun σ σ' => decide (σ <+: σ'), fun h => by simpa using h, fun σ σ' h => decide (σ'[h]? = σ[h]?), fun h => by simpa using h⟩

end Go.AX
