/-
  No cell of these rows narrows 'for every input' (looked for: loops, veiled, ifaces, maps, wideKeys, modest, calm, conditions, laid).
  DERIVED. THE GIVEN ROWS OF THIS SEAT. 7 by the template 'for every input the law returns true; each argument reads behind the call as it read before'; 0 by the template 'total and deterministic' (their statements: YtphkfdnecpacmaaGreatTotals.lean).
  GIVEN WITH THE SEED: the statements are not yours to turn. If you find one false, say at which input.
  Laid BY PROGRAM, IN A SANDBOX (cutbox-rows.mjs): the forced cells as the released guide's own fill.sh prints them over the translation a864040b3556879a… (all of the seat's roots in one cut). By AI agents, Wed Nov 11 2026. No macro, syntax, notation, axiom, sorry.
-/
import Derived.Test.YtphkfdnecpacmaaGreatChecked
import GoSem.Claim
import GoSem.ClaimJoined
import GoSem.ClaimMapViews
import Derived.JoinedTies
import Derived.KernelRfl
namespace Go.Proofs.YtphkfdnecpacmaaGreat
/- THE CELL 'sum', in the pinned program and in every row, IS THE sha256 OF THE DUMP (.gsa) THAT YtphkfdnecpacmaaGreatProg.lean LOADS. Nothing in Lean hashes anything: it is a label: what it is worth is what the hold of that sum in a sandbox is worth. -/
noncomputable def Tryz.pinned : Pinned := { name := "ytphkfdnecpacmaagreat", sum := "a864040b3556879a6bcd866393599c4e619b08c13f3de1ee398c0cade7b229b9", checked := Tryz.checked }
namespace Rows
def none {H : Type} : Left H := { results := [], args := [] }

/-- 'dustcartlaw16.IncrSteps': WHATEVER THE INPUT: true; the input reads as it did. -/
def incrStepsSpec : ChangeSpec := { name := "incrSteps", fn := fun _ => fun
  | [d1, d2, d3, d4] => { results := [.lit (.bool true)], args := [d1, d2, d3, d4] }
  | _ => none }
def incrStepsRow : OpenClaim := { program := "ytphkfdnecpacmaagreat", sum := "a864040b3556879a6bcd866393599c4e619b08c13f3de1ee398c0cade7b229b9", func := "dustcart/dustcartlaw16.IncrSteps", spec := "incrSteps", unfollowed := true, recurses := true, apart := false }
def IncrStepsSaid : Prop := incrStepsRow.holds Tryz.pinned (OpenSpec.ofChange incrStepsSpec)

/-- ITS FALSE NEIGHBOUR: 'it returns false'. Refute it at one input. -/
def incrStepsWrong : ChangeSpec := { name := "incrSteps", fn := fun _ => fun
  | [d1, d2, d3, d4] => { results := [.lit (.bool false)], args := [d1, d2, d3, d4] }
  | _ => none }
def IncrStepsWrongFalsely : Prop := incrStepsRow.holds Tryz.pinned (OpenSpec.ofChange incrStepsWrong)

/-- 'dustcartlaw16.IncrKept': WHATEVER THE INPUT: true; the input reads as it did. -/
def incrKeptSpec : ChangeSpec := { name := "incrKept", fn := fun _ => fun
  | [d1, d2] => { results := [.lit (.bool true)], args := [d1, d2] }
  | _ => none }
def incrKeptRow : OpenClaim := { program := "ytphkfdnecpacmaagreat", sum := "a864040b3556879a6bcd866393599c4e619b08c13f3de1ee398c0cade7b229b9", func := "dustcart/dustcartlaw16.IncrKept", spec := "incrKept", unfollowed := true, recurses := true, apart := false }
def IncrKeptSaid : Prop := incrKeptRow.holds Tryz.pinned (OpenSpec.ofChange incrKeptSpec)

/-- ITS FALSE NEIGHBOUR: 'it returns false'. Refute it at one input. -/
def incrKeptWrong : ChangeSpec := { name := "incrKept", fn := fun _ => fun
  | [d1, d2] => { results := [.lit (.bool false)], args := [d1, d2] }
  | _ => none }
def IncrKeptWrongFalsely : Prop := incrKeptRow.holds Tryz.pinned (OpenSpec.ofChange incrKeptWrong)

/-- 'dustcartlaw16.IncrFreed': WHATEVER THE INPUT: true; the input reads as it did. -/
def incrFreedSpec : ChangeSpec := { name := "incrFreed", fn := fun _ => fun
  | [d1, d2, d3] => { results := [.lit (.bool true)], args := [d1, d2, d3] }
  | _ => none }
def incrFreedRow : OpenClaim := { program := "ytphkfdnecpacmaagreat", sum := "a864040b3556879a6bcd866393599c4e619b08c13f3de1ee398c0cade7b229b9", func := "dustcart/dustcartlaw16.IncrFreed", spec := "incrFreed", unfollowed := true, recurses := true, apart := false }
def IncrFreedSaid : Prop := incrFreedRow.holds Tryz.pinned (OpenSpec.ofChange incrFreedSpec)

/-- ITS FALSE NEIGHBOUR: 'it returns false'. Refute it at one input. -/
def incrFreedWrong : ChangeSpec := { name := "incrFreed", fn := fun _ => fun
  | [d1, d2, d3] => { results := [.lit (.bool false)], args := [d1, d2, d3] }
  | _ => none }
def IncrFreedWrongFalsely : Prop := incrFreedRow.holds Tryz.pinned (OpenSpec.ofChange incrFreedWrong)

/-- 'dustcartlaw16.IncrWeak': WHATEVER THE INPUT: true; the input reads as it did. -/
def incrWeakSpec : ChangeSpec := { name := "incrWeak", fn := fun _ => fun
  | [d1, d2] => { results := [.lit (.bool true)], args := [d1, d2] }
  | _ => none }
def incrWeakRow : OpenClaim := { program := "ytphkfdnecpacmaagreat", sum := "a864040b3556879a6bcd866393599c4e619b08c13f3de1ee398c0cade7b229b9", func := "dustcart/dustcartlaw16.IncrWeak", spec := "incrWeak", unfollowed := true, recurses := true, apart := false }
def IncrWeakSaid : Prop := incrWeakRow.holds Tryz.pinned (OpenSpec.ofChange incrWeakSpec)

/-- ITS FALSE NEIGHBOUR: 'it returns false'. Refute it at one input. -/
def incrWeakWrong : ChangeSpec := { name := "incrWeak", fn := fun _ => fun
  | [d1, d2] => { results := [.lit (.bool false)], args := [d1, d2] }
  | _ => none }
def IncrWeakWrongFalsely : Prop := incrWeakRow.holds Tryz.pinned (OpenSpec.ofChange incrWeakWrong)

/-- 'dustcartlaw16.IncrEnds': WHATEVER THE INPUT: true; the input reads as it did. -/
def incrEndsSpec : ChangeSpec := { name := "incrEnds", fn := fun _ => fun
  | [d1, d2] => { results := [.lit (.bool true)], args := [d1, d2] }
  | _ => none }
def incrEndsRow : OpenClaim := { program := "ytphkfdnecpacmaagreat", sum := "a864040b3556879a6bcd866393599c4e619b08c13f3de1ee398c0cade7b229b9", func := "dustcart/dustcartlaw16.IncrEnds", spec := "incrEnds", unfollowed := true, recurses := true, apart := false }
def IncrEndsSaid : Prop := incrEndsRow.holds Tryz.pinned (OpenSpec.ofChange incrEndsSpec)

/-- ITS FALSE NEIGHBOUR: 'it returns false'. Refute it at one input. -/
def incrEndsWrong : ChangeSpec := { name := "incrEnds", fn := fun _ => fun
  | [d1, d2] => { results := [.lit (.bool false)], args := [d1, d2] }
  | _ => none }
def IncrEndsWrongFalsely : Prop := incrEndsRow.holds Tryz.pinned (OpenSpec.ofChange incrEndsWrong)

/-- 'dustcartlaw16.IncrAlone': WHATEVER THE INPUT: true; the input reads as it did. -/
def incrAloneSpec : ChangeSpec := { name := "incrAlone", fn := fun _ => fun
  | [d1, d2] => { results := [.lit (.bool true)], args := [d1, d2] }
  | _ => none }
def incrAloneRow : OpenClaim := { program := "ytphkfdnecpacmaagreat", sum := "a864040b3556879a6bcd866393599c4e619b08c13f3de1ee398c0cade7b229b9", func := "dustcart/dustcartlaw16.IncrAlone", spec := "incrAlone", unfollowed := true, recurses := true, apart := false }
def IncrAloneSaid : Prop := incrAloneRow.holds Tryz.pinned (OpenSpec.ofChange incrAloneSpec)

/-- ITS FALSE NEIGHBOUR: 'it returns false'. Refute it at one input. -/
def incrAloneWrong : ChangeSpec := { name := "incrAlone", fn := fun _ => fun
  | [d1, d2] => { results := [.lit (.bool false)], args := [d1, d2] }
  | _ => none }
def IncrAloneWrongFalsely : Prop := incrAloneRow.holds Tryz.pinned (OpenSpec.ofChange incrAloneWrong)

/-- 'dustcartlaw16.IncrPlays': WHATEVER THE INPUT: true; the input reads as it did. -/
def incrPlaysSpec : ChangeSpec := { name := "incrPlays", fn := fun _ => fun
  | [d1, d2] => { results := [.lit (.bool true)], args := [d1, d2] }
  | _ => none }
def incrPlaysRow : OpenClaim := { program := "ytphkfdnecpacmaagreat", sum := "a864040b3556879a6bcd866393599c4e619b08c13f3de1ee398c0cade7b229b9", func := "dustcart/dustcartlaw16.IncrPlays", spec := "incrPlays", inPlace := ["maps.clone"], unfollowed := true, recurses := true, apart := false }
def IncrPlaysSaid : Prop := incrPlaysRow.holds Tryz.pinned (OpenSpec.ofChange incrPlaysSpec)

/-- ITS FALSE NEIGHBOUR: 'it returns false'. Refute it at one input. -/
def incrPlaysWrong : ChangeSpec := { name := "incrPlays", fn := fun _ => fun
  | [d1, d2] => { results := [.lit (.bool false)], args := [d1, d2] }
  | _ => none }
def IncrPlaysWrongFalsely : Prop := incrPlaysRow.holds Tryz.pinned (OpenSpec.ofChange incrPlaysWrong)

/- THE SECOND FORM. 'bulk': how many values and letters a reading holds, each counted each time it is reached (what is shared counts as often as it is met; a slice's spare places count too). A statement '..UptoSaid' is the law's where the arguments, and the package variables that the reading takes, are together of bulk at most 1048576: NARROWER than '..Said'. Prove '..Said' where nothing that the law and all that it calls make is longer than what came in: it says more and counts as full. Else prove '..UptoSaid'. A law counts once. -/
mutual
def uptoBulk {H : Type} : DataW H → Nat
  | .lit (.string bytes) => bytes.length + 1
  | .lit _ => 1
  | .nil => 1
  | .ptr d => uptoBulk d + 1
  | .slice elems spare => uptoBulkAll elems + uptoBulkAll spare + 1
  | .agg parts => uptoBulkAll parts + 1
  | .iface _ d => uptoBulk d + 1
  | .map entries => uptoBulkEntries entries + 1
  | .held _ => 1
def uptoBulkAll {H : Type} : List (DataW H) → Nat
  | [] => 0
  | d :: r => uptoBulk d + uptoBulkAll r
def uptoBulkEntries {H : Type} : List (Lit × DataW H) → Nat
  | [] => 0
  | x :: r => uptoBulkEntry x + uptoBulkEntries r
def uptoBulkEntry {H : Type} : Lit × DataW H → Nat
  | (.string bytes, d) => bytes.length + uptoBulk d + 1
  | (_, d) => uptoBulk d + 1
 end
def uptoSmall : (H : Type) → List (DataW H) → Bool := fun _ ds => decide (uptoBulkAll ds ≤ 1048576)
def OpenSpec.upto (s : _root_.Go.ChangeSpec) : _root_.Go.OpenSpec := { _root_.Go.OpenSpec.ofChange s with cond := some uptoSmall }

/-- 'dustcartlaw16.IncrSteps', WHERE WHAT IT READS IS OF BULK AT MOST 1048576: true; the input reads as it did. -/
def incrStepsUptoRow : OpenClaim := { program := "ytphkfdnecpacmaagreat", sum := "a864040b3556879a6bcd866393599c4e619b08c13f3de1ee398c0cade7b229b9", func := "dustcart/dustcartlaw16.IncrSteps", spec := "incrSteps", unfollowed := true, recurses := true, apart := false, narrowed := true }
def IncrStepsUptoSaid : Prop := incrStepsUptoRow.holds Tryz.pinned (OpenSpec.upto incrStepsSpec)

/-- 'dustcartlaw16.IncrKept', WHERE WHAT IT READS IS OF BULK AT MOST 1048576: true; the input reads as it did. -/
def incrKeptUptoRow : OpenClaim := { program := "ytphkfdnecpacmaagreat", sum := "a864040b3556879a6bcd866393599c4e619b08c13f3de1ee398c0cade7b229b9", func := "dustcart/dustcartlaw16.IncrKept", spec := "incrKept", unfollowed := true, recurses := true, apart := false, narrowed := true }
def IncrKeptUptoSaid : Prop := incrKeptUptoRow.holds Tryz.pinned (OpenSpec.upto incrKeptSpec)

/-- 'dustcartlaw16.IncrFreed', WHERE WHAT IT READS IS OF BULK AT MOST 1048576: true; the input reads as it did. -/
def incrFreedUptoRow : OpenClaim := { program := "ytphkfdnecpacmaagreat", sum := "a864040b3556879a6bcd866393599c4e619b08c13f3de1ee398c0cade7b229b9", func := "dustcart/dustcartlaw16.IncrFreed", spec := "incrFreed", unfollowed := true, recurses := true, apart := false, narrowed := true }
def IncrFreedUptoSaid : Prop := incrFreedUptoRow.holds Tryz.pinned (OpenSpec.upto incrFreedSpec)

/-- 'dustcartlaw16.IncrWeak', WHERE WHAT IT READS IS OF BULK AT MOST 1048576: true; the input reads as it did. -/
def incrWeakUptoRow : OpenClaim := { program := "ytphkfdnecpacmaagreat", sum := "a864040b3556879a6bcd866393599c4e619b08c13f3de1ee398c0cade7b229b9", func := "dustcart/dustcartlaw16.IncrWeak", spec := "incrWeak", unfollowed := true, recurses := true, apart := false, narrowed := true }
def IncrWeakUptoSaid : Prop := incrWeakUptoRow.holds Tryz.pinned (OpenSpec.upto incrWeakSpec)

/-- 'dustcartlaw16.IncrEnds', WHERE WHAT IT READS IS OF BULK AT MOST 1048576: true; the input reads as it did. -/
def incrEndsUptoRow : OpenClaim := { program := "ytphkfdnecpacmaagreat", sum := "a864040b3556879a6bcd866393599c4e619b08c13f3de1ee398c0cade7b229b9", func := "dustcart/dustcartlaw16.IncrEnds", spec := "incrEnds", unfollowed := true, recurses := true, apart := false, narrowed := true }
def IncrEndsUptoSaid : Prop := incrEndsUptoRow.holds Tryz.pinned (OpenSpec.upto incrEndsSpec)

/-- 'dustcartlaw16.IncrAlone', WHERE WHAT IT READS IS OF BULK AT MOST 1048576: true; the input reads as it did. -/
def incrAloneUptoRow : OpenClaim := { program := "ytphkfdnecpacmaagreat", sum := "a864040b3556879a6bcd866393599c4e619b08c13f3de1ee398c0cade7b229b9", func := "dustcart/dustcartlaw16.IncrAlone", spec := "incrAlone", unfollowed := true, recurses := true, apart := false, narrowed := true }
def IncrAloneUptoSaid : Prop := incrAloneUptoRow.holds Tryz.pinned (OpenSpec.upto incrAloneSpec)

/-- 'dustcartlaw16.IncrPlays', WHERE WHAT IT READS IS OF BULK AT MOST 1048576: true; the input reads as it did. -/
def incrPlaysUptoRow : OpenClaim := { program := "ytphkfdnecpacmaagreat", sum := "a864040b3556879a6bcd866393599c4e619b08c13f3de1ee398c0cade7b229b9", func := "dustcart/dustcartlaw16.IncrPlays", spec := "incrPlays", inPlace := ["maps.clone"], unfollowed := true, recurses := true, apart := false, narrowed := true }
def IncrPlaysUptoSaid : Prop := incrPlaysUptoRow.holds Tryz.pinned (OpenSpec.upto incrPlaysSpec)

end Rows
end Go.Proofs.YtphkfdnecpacmaaGreat
