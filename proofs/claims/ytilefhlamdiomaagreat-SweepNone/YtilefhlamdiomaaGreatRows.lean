/-
  No cell of these rows narrows 'for every input' (looked for: loops, veiled, ifaces, maps, wideKeys, modest, calm, conditions, laid).
  DERIVED. THE GIVEN ROWS OF THIS SEAT. 4 by the template 'for every input the law returns true; each argument reads behind the call as it read before'; 0 by the template 'total and deterministic' (their statements: YtilefhlamdiomaaGreatTotals.lean).
  GIVEN WITH THE SEED: the statements are not yours to turn. If you find one false, say at which input.
  Laid BY PROGRAM, IN A SANDBOX (cutbox-rows.mjs): the forced cells as the released guide's own fill.sh prints them over the translation 6088ff0a4d5f2454… (all of the seat's roots in one cut). By AI agents, Wed Nov 11 2026. No macro, syntax, notation, axiom, sorry.
-/
import Derived.Test.YtilefhlamdiomaaGreatChecked
import GoSem.Claim
import GoSem.ClaimJoined
import GoSem.ClaimMapViews
import Derived.JoinedTies
import Derived.KernelRfl
namespace Go.Proofs.YtilefhlamdiomaaGreat
/- THE CELL 'sum', in the pinned program and in every row, IS THE sha256 OF THE DUMP (.gsa) THAT YtilefhlamdiomaaGreatProg.lean LOADS. Nothing in Lean hashes anything: it is a label: what it is worth is what the hold of that sum in a sandbox is worth. -/
noncomputable def Tryz.pinned : Pinned := { name := "ytilefhlamdiomaagreat", sum := "6088ff0a4d5f245438329dfd6892323d13f518b22d3094a66fa14fdcdcd0f2a6", checked := Tryz.checked }
namespace Rows
def none {H : Type} : Left H := { results := [], args := [] }

/-- 'dustcartlaw07.TraceNone': WHATEVER THE INPUT: true; the input reads as it did. -/
def traceNoneSpec : ChangeSpec := { name := "traceNone", fn := fun _ => fun
  | [d1, d2, d3, d4] => { results := [.lit (.bool true)], args := [d1, d2, d3, d4] }
  | _ => none }
def traceNoneRow : OpenClaim := { program := "ytilefhlamdiomaagreat", sum := "6088ff0a4d5f245438329dfd6892323d13f518b22d3094a66fa14fdcdcd0f2a6", func := "dustcart/dustcartlaw07.TraceNone", spec := "traceNone", unfollowed := true, recurses := true, apart := false }
def TraceNoneSaid : Prop := traceNoneRow.holds Tryz.pinned (OpenSpec.ofChange traceNoneSpec)

/-- ITS FALSE NEIGHBOUR: 'it returns false'. Refute it at one input. -/
def traceNoneWrong : ChangeSpec := { name := "traceNone", fn := fun _ => fun
  | [d1, d2, d3, d4] => { results := [.lit (.bool false)], args := [d1, d2, d3, d4] }
  | _ => none }
def TraceNoneWrongFalsely : Prop := traceNoneRow.holds Tryz.pinned (OpenSpec.ofChange traceNoneWrong)

/-- 'dustcartlaw08.SweepNone': WHATEVER THE INPUT: true; the input reads as it did. -/
def sweepNoneSpec : ChangeSpec := { name := "sweepNone", fn := fun _ => fun
  | [d1, d2, d3] => { results := [.lit (.bool true)], args := [d1, d2, d3] }
  | _ => none }
def sweepNoneRow : OpenClaim := { program := "ytilefhlamdiomaagreat", sum := "6088ff0a4d5f245438329dfd6892323d13f518b22d3094a66fa14fdcdcd0f2a6", func := "dustcart/dustcartlaw08.SweepNone", spec := "sweepNone", unfollowed := true, recurses := true, apart := false }
def SweepNoneSaid : Prop := sweepNoneRow.holds Tryz.pinned (OpenSpec.ofChange sweepNoneSpec)

/-- ITS FALSE NEIGHBOUR: 'it returns false'. Refute it at one input. -/
def sweepNoneWrong : ChangeSpec := { name := "sweepNone", fn := fun _ => fun
  | [d1, d2, d3] => { results := [.lit (.bool false)], args := [d1, d2, d3] }
  | _ => none }
def SweepNoneWrongFalsely : Prop := sweepNoneRow.holds Tryz.pinned (OpenSpec.ofChange sweepNoneWrong)

/-- 'dustcartlaw16.IncrNone': WHATEVER THE INPUT: true; the input reads as it did. -/
def incrNoneSpec : ChangeSpec := { name := "incrNone", fn := fun _ => fun
  | [d1, d2, d3, d4] => { results := [.lit (.bool true)], args := [d1, d2, d3, d4] }
  | _ => none }
def incrNoneRow : OpenClaim := { program := "ytilefhlamdiomaagreat", sum := "6088ff0a4d5f245438329dfd6892323d13f518b22d3094a66fa14fdcdcd0f2a6", func := "dustcart/dustcartlaw16.IncrNone", spec := "incrNone", unfollowed := true, recurses := true, apart := false }
def IncrNoneSaid : Prop := incrNoneRow.holds Tryz.pinned (OpenSpec.ofChange incrNoneSpec)

/-- ITS FALSE NEIGHBOUR: 'it returns false'. Refute it at one input. -/
def incrNoneWrong : ChangeSpec := { name := "incrNone", fn := fun _ => fun
  | [d1, d2, d3, d4] => { results := [.lit (.bool false)], args := [d1, d2, d3, d4] }
  | _ => none }
def IncrNoneWrongFalsely : Prop := incrNoneRow.holds Tryz.pinned (OpenSpec.ofChange incrNoneWrong)

/-- 'dustcartlaw17.SnapNone': WHATEVER THE INPUT: true; the input reads as it did. -/
def snapNoneSpec : ChangeSpec := { name := "snapNone", fn := fun _ => fun
  | [d1, d2, d3, d4] => { results := [.lit (.bool true)], args := [d1, d2, d3, d4] }
  | _ => none }
def snapNoneRow : OpenClaim := { program := "ytilefhlamdiomaagreat", sum := "6088ff0a4d5f245438329dfd6892323d13f518b22d3094a66fa14fdcdcd0f2a6", func := "dustcart/dustcartlaw17.SnapNone", spec := "snapNone", unfollowed := true, recurses := true, apart := false }
def SnapNoneSaid : Prop := snapNoneRow.holds Tryz.pinned (OpenSpec.ofChange snapNoneSpec)

/-- ITS FALSE NEIGHBOUR: 'it returns false'. Refute it at one input. -/
def snapNoneWrong : ChangeSpec := { name := "snapNone", fn := fun _ => fun
  | [d1, d2, d3, d4] => { results := [.lit (.bool false)], args := [d1, d2, d3, d4] }
  | _ => none }
def SnapNoneWrongFalsely : Prop := snapNoneRow.holds Tryz.pinned (OpenSpec.ofChange snapNoneWrong)

/- THE SECOND FORM. 'bulk': how many values and letters a reading holds, each counted each time it is reached (what is shared counts as often as it is met; a slice's spare places count too). A statement '..UptoSaid' is the law's where the arguments, and the package variables that the reading takes, are together of bulk at most 1048576: NARROWER than '..Said'. Prove '..Said' where nothing that the law and all that it calls make is longer than what came in: it says more and counts as full. Else prove '..UptoSaid'. A law counts once. -/
mutual
def uptoBulk {H : Type} : DataW H → Nat
  | .lit (.string bytes) => bytes.length + 1
  | .lit _ => 1
  | .nil => 1
  | .ptr d => uptoBulk d + 1
  | .slice elems spare => uptoBulkAll elems + uptoBulkAll spare + 1
  | .agg parts => uptoBulkAll parts + 1
  | .iface _ d => uptoBulk d + 1
  | .map entries => uptoBulkEntries entries + 1
  | .held _ => 1
def uptoBulkAll {H : Type} : List (DataW H) → Nat
  | [] => 0
  | d :: r => uptoBulk d + uptoBulkAll r
def uptoBulkEntries {H : Type} : List (Lit × DataW H) → Nat
  | [] => 0
  | x :: r => uptoBulkEntry x + uptoBulkEntries r
def uptoBulkEntry {H : Type} : Lit × DataW H → Nat
  | (.string bytes, d) => bytes.length + uptoBulk d + 1
  | (_, d) => uptoBulk d + 1
 end
def uptoSmall : (H : Type) → List (DataW H) → Bool := fun _ ds => decide (uptoBulkAll ds ≤ 1048576)
def OpenSpec.upto (s : _root_.Go.ChangeSpec) : _root_.Go.OpenSpec := { _root_.Go.OpenSpec.ofChange s with cond := some uptoSmall }

/-- 'dustcartlaw07.TraceNone', WHERE WHAT IT READS IS OF BULK AT MOST 1048576: true; the input reads as it did. -/
def traceNoneUptoRow : OpenClaim := { program := "ytilefhlamdiomaagreat", sum := "6088ff0a4d5f245438329dfd6892323d13f518b22d3094a66fa14fdcdcd0f2a6", func := "dustcart/dustcartlaw07.TraceNone", spec := "traceNone", unfollowed := true, recurses := true, apart := false, narrowed := true }
def TraceNoneUptoSaid : Prop := traceNoneUptoRow.holds Tryz.pinned (OpenSpec.upto traceNoneSpec)

/-- 'dustcartlaw08.SweepNone', WHERE WHAT IT READS IS OF BULK AT MOST 1048576: true; the input reads as it did. -/
def sweepNoneUptoRow : OpenClaim := { program := "ytilefhlamdiomaagreat", sum := "6088ff0a4d5f245438329dfd6892323d13f518b22d3094a66fa14fdcdcd0f2a6", func := "dustcart/dustcartlaw08.SweepNone", spec := "sweepNone", unfollowed := true, recurses := true, apart := false, narrowed := true }
def SweepNoneUptoSaid : Prop := sweepNoneUptoRow.holds Tryz.pinned (OpenSpec.upto sweepNoneSpec)

/-- 'dustcartlaw16.IncrNone', WHERE WHAT IT READS IS OF BULK AT MOST 1048576: true; the input reads as it did. -/
def incrNoneUptoRow : OpenClaim := { program := "ytilefhlamdiomaagreat", sum := "6088ff0a4d5f245438329dfd6892323d13f518b22d3094a66fa14fdcdcd0f2a6", func := "dustcart/dustcartlaw16.IncrNone", spec := "incrNone", unfollowed := true, recurses := true, apart := false, narrowed := true }
def IncrNoneUptoSaid : Prop := incrNoneUptoRow.holds Tryz.pinned (OpenSpec.upto incrNoneSpec)

/-- 'dustcartlaw17.SnapNone', WHERE WHAT IT READS IS OF BULK AT MOST 1048576: true; the input reads as it did. -/
def snapNoneUptoRow : OpenClaim := { program := "ytilefhlamdiomaagreat", sum := "6088ff0a4d5f245438329dfd6892323d13f518b22d3094a66fa14fdcdcd0f2a6", func := "dustcart/dustcartlaw17.SnapNone", spec := "snapNone", unfollowed := true, recurses := true, apart := false, narrowed := true }
def SnapNoneUptoSaid : Prop := snapNoneUptoRow.holds Tryz.pinned (OpenSpec.upto snapNoneSpec)

end Rows
end Go.Proofs.YtilefhlamdiomaaGreat
