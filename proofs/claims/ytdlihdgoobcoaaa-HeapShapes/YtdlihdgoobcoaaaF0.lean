/-
  PRINTED BY A PROGRAM OF THIS SESSION'S OWN (gen.py): the Go functions as Lean functions over the abstract memory.
-/
import Derived.Test.YtdlihdgoobcoaaaAXL
set_option maxRecDepth 100000
set_option linter.unusedVariables false
set_option linter.unusedSimpArgs false
set_option linter.unusedSectionVars false
namespace Go.Proofs.Ytdlihdgoobcoaaa
open Go Go.AX

def H : FuncId → Hints
  | 12 => [(0, ⟨[], [(.normal, [(23, .bool)])]⟩)]
  | _ => []

variable [Quiet]

noncomputable abbrev callV (k : Nat) (f : Value) (args : List Value) (σ : AMem) : Option (Value × AMem) := callVal (fn P X2 H k) f args σ

def u_t {ρ : Type} (l : List Value) (K : Bool → Option ρ) : Option ρ := l.head?.bind fun v => (toB v).bind fun y0 => K y0
theorem u_t_eq {ρ : Type} (y0 : Bool) (K : Bool → Option ρ) : u_t [.bool y0] K = K y0 := by simp [u_t, toI, toB, toStr, toP, toS, toM]

noncomputable def law02_HeapShapes (k : Nat) (x0_0 : Int) (x0_1 : Int) (x0_2 : Int) (σ : AMem) : Option (Value × AMem) := fn P X2 H k 3 [.agg #[.int .i64 x0_0, .int .i64 x0_1, .int .i64 x0_2]] σ

noncomputable def heap_Valid (k : Nat) (x0_0 : Int) (x0_1 : Int) (x0_2 : Int) (σ : AMem) : Option (Value × AMem) := fn P X2 H k 11 [.agg #[.int .i64 x0_0, .int .i64 x0_1, .int .i64 x0_2]] σ

noncomputable def ref02_Valid (k : Nat) (x0_0 : Int) (x0_1 : Int) (x0_2 : Int) (σ : AMem) : Option (Value × AMem) := fn P X2 H k 12 [.agg #[.int .i64 x0_0, .int .i64 x0_1, .int .i64 x0_2]] σ

noncomputable def heap_Words (k : Nat) (x0_0 : Int) (x0_1 : Int) (x0_2 : Int) (σ : AMem) : Option (Value × AMem) := fn P X2 H k 13 [.agg #[.int .i64 x0_0, .int .i64 x0_1, .int .i64 x0_2]] σ

noncomputable def ref02_Words (k : Nat) (x0_0 : Int) (x0_1 : Int) (x0_2 : Int) (σ : AMem) : Option (Value × AMem) := fn P X2 H k 14 [.agg #[.int .i64 x0_0, .int .i64 x0_1, .int .i64 x0_2]] σ

noncomputable def law02_alive (k : Nat)  (σ : AMem) : Option (Value × AMem) := fn P X2 H k 15 [] σ

end Go.Proofs.Ytdlihdgoobcoaaa
