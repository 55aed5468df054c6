/-
  No cell of these rows narrows 'for every input' (looked for: loops, veiled, ifaces, maps, wideKeys, modest, calm, conditions, laid).
  DERIVED. THE GIVEN ROWS OF THIS SEAT. 8 by the template 'for every input the law returns true; each argument reads behind the call as it read before'; 0 by the template 'total and deterministic' (their statements: YtjbledomkmdkmaaGreatTotals.lean).
  GIVEN WITH THE SEED: the statements are not yours to turn. If you find one false, say at which input.
  Laid BY PROGRAM, IN A SANDBOX (cutbox-rows.mjs): the forced cells as the released guide's own fill.sh prints them over the translation f873ccb371c47d9e… (all of the seat's roots in one cut). By AI agents, Wed Nov 11 2026. No macro, syntax, notation, axiom, sorry.
-/
import Derived.Test.YtjbledomkmdkmaaGreatChecked
import GoSem.Claim
import GoSem.ClaimJoined
import GoSem.ClaimMapViews
import Derived.JoinedTies
import Derived.KernelRfl
namespace Go.Proofs.YtjbledomkmdkmaaGreat
/- THE CELL 'sum', in the pinned program and in every row, IS THE sha256 OF THE DUMP (.gsa) THAT YtjbledomkmdkmaaGreatProg.lean LOADS. Nothing in Lean hashes anything: it is a label: what it is worth is what the hold of that sum in a sandbox is worth. -/
noncomputable def Tryz.pinned : Pinned := { name := "ytjbledomkmdkmaagreat", sum := "f873ccb371c47d9e8d4bb1b764d1f039c1c306d221cd9947d000776aa017ffa5", checked := Tryz.checked }
namespace Rows
def none {H : Type} : Left H := { results := [], args := [] }

/-- 'dustcartlaw17.SnapSteps': WHATEVER THE INPUT: true; the input reads as it did. -/
def snapStepsSpec : ChangeSpec := { name := "snapSteps", fn := fun _ => fun
  | [d1, d2, d3, d4] => { results := [.lit (.bool true)], args := [d1, d2, d3, d4] }
  | _ => none }
def snapStepsRow : OpenClaim := { program := "ytjbledomkmdkmaagreat", sum := "f873ccb371c47d9e8d4bb1b764d1f039c1c306d221cd9947d000776aa017ffa5", func := "dustcart/dustcartlaw17.SnapSteps", spec := "snapSteps", unfollowed := true, recurses := true, apart := false }
def SnapStepsSaid : Prop := snapStepsRow.holds Tryz.pinned (OpenSpec.ofChange snapStepsSpec)

/-- ITS FALSE NEIGHBOUR: 'it returns false'. Refute it at one input. -/
def snapStepsWrong : ChangeSpec := { name := "snapSteps", fn := fun _ => fun
  | [d1, d2, d3, d4] => { results := [.lit (.bool false)], args := [d1, d2, d3, d4] }
  | _ => none }
def SnapStepsWrongFalsely : Prop := snapStepsRow.holds Tryz.pinned (OpenSpec.ofChange snapStepsWrong)

/-- 'dustcartlaw17.SnapRoots': WHATEVER THE INPUT: true; the input reads as it did. -/
def snapRootsSpec : ChangeSpec := { name := "snapRoots", fn := fun _ => fun
  | [d1, d2] => { results := [.lit (.bool true)], args := [d1, d2] }
  | _ => none }
def snapRootsRow : OpenClaim := { program := "ytjbledomkmdkmaagreat", sum := "f873ccb371c47d9e8d4bb1b764d1f039c1c306d221cd9947d000776aa017ffa5", func := "dustcart/dustcartlaw17.SnapRoots", spec := "snapRoots", unfollowed := true, recurses := true, apart := false }
def SnapRootsSaid : Prop := snapRootsRow.holds Tryz.pinned (OpenSpec.ofChange snapRootsSpec)

/-- ITS FALSE NEIGHBOUR: 'it returns false'. Refute it at one input. -/
def snapRootsWrong : ChangeSpec := { name := "snapRoots", fn := fun _ => fun
  | [d1, d2] => { results := [.lit (.bool false)], args := [d1, d2] }
  | _ => none }
def SnapRootsWrongFalsely : Prop := snapRootsRow.holds Tryz.pinned (OpenSpec.ofChange snapRootsWrong)

/-- 'dustcartlaw17.SnapKept': WHATEVER THE INPUT: true; the input reads as it did. -/
def snapKeptSpec : ChangeSpec := { name := "snapKept", fn := fun _ => fun
  | [d1, d2] => { results := [.lit (.bool true)], args := [d1, d2] }
  | _ => none }
def snapKeptRow : OpenClaim := { program := "ytjbledomkmdkmaagreat", sum := "f873ccb371c47d9e8d4bb1b764d1f039c1c306d221cd9947d000776aa017ffa5", func := "dustcart/dustcartlaw17.SnapKept", spec := "snapKept", unfollowed := true, recurses := true, apart := false }
def SnapKeptSaid : Prop := snapKeptRow.holds Tryz.pinned (OpenSpec.ofChange snapKeptSpec)

/-- ITS FALSE NEIGHBOUR: 'it returns false'. Refute it at one input. -/
def snapKeptWrong : ChangeSpec := { name := "snapKept", fn := fun _ => fun
  | [d1, d2] => { results := [.lit (.bool false)], args := [d1, d2] }
  | _ => none }
def SnapKeptWrongFalsely : Prop := snapKeptRow.holds Tryz.pinned (OpenSpec.ofChange snapKeptWrong)

/-- 'dustcartlaw17.SnapFreed': WHATEVER THE INPUT: true; the input reads as it did. -/
def snapFreedSpec : ChangeSpec := { name := "snapFreed", fn := fun _ => fun
  | [d1, d2, d3] => { results := [.lit (.bool true)], args := [d1, d2, d3] }
  | _ => none }
def snapFreedRow : OpenClaim := { program := "ytjbledomkmdkmaagreat", sum := "f873ccb371c47d9e8d4bb1b764d1f039c1c306d221cd9947d000776aa017ffa5", func := "dustcart/dustcartlaw17.SnapFreed", spec := "snapFreed", unfollowed := true, recurses := true, apart := false }
def SnapFreedSaid : Prop := snapFreedRow.holds Tryz.pinned (OpenSpec.ofChange snapFreedSpec)

/-- ITS FALSE NEIGHBOUR: 'it returns false'. Refute it at one input. -/
def snapFreedWrong : ChangeSpec := { name := "snapFreed", fn := fun _ => fun
  | [d1, d2, d3] => { results := [.lit (.bool false)], args := [d1, d2, d3] }
  | _ => none }
def SnapFreedWrongFalsely : Prop := snapFreedRow.holds Tryz.pinned (OpenSpec.ofChange snapFreedWrong)

/-- 'dustcartlaw17.SnapWhite': WHATEVER THE INPUT: true; the input reads as it did. -/
def snapWhiteSpec : ChangeSpec := { name := "snapWhite", fn := fun _ => fun
  | [d1, d2] => { results := [.lit (.bool true)], args := [d1, d2] }
  | _ => none }
def snapWhiteRow : OpenClaim := { program := "ytjbledomkmdkmaagreat", sum := "f873ccb371c47d9e8d4bb1b764d1f039c1c306d221cd9947d000776aa017ffa5", func := "dustcart/dustcartlaw17.SnapWhite", spec := "snapWhite", unfollowed := true, recurses := true, apart := false }
def SnapWhiteSaid : Prop := snapWhiteRow.holds Tryz.pinned (OpenSpec.ofChange snapWhiteSpec)

/-- ITS FALSE NEIGHBOUR: 'it returns false'. Refute it at one input. -/
def snapWhiteWrong : ChangeSpec := { name := "snapWhite", fn := fun _ => fun
  | [d1, d2] => { results := [.lit (.bool false)], args := [d1, d2] }
  | _ => none }
def SnapWhiteWrongFalsely : Prop := snapWhiteRow.holds Tryz.pinned (OpenSpec.ofChange snapWhiteWrong)

/-- 'dustcartlaw17.SnapTwo': WHATEVER THE INPUT: true; the input reads as it did. -/
def snapTwoSpec : ChangeSpec := { name := "snapTwo", fn := fun _ => fun
  | [d1, d2] => { results := [.lit (.bool true)], args := [d1, d2] }
  | _ => none }
def snapTwoRow : OpenClaim := { program := "ytjbledomkmdkmaagreat", sum := "f873ccb371c47d9e8d4bb1b764d1f039c1c306d221cd9947d000776aa017ffa5", func := "dustcart/dustcartlaw17.SnapTwo", spec := "snapTwo", unfollowed := true, recurses := true, apart := false }
def SnapTwoSaid : Prop := snapTwoRow.holds Tryz.pinned (OpenSpec.ofChange snapTwoSpec)

/-- ITS FALSE NEIGHBOUR: 'it returns false'. Refute it at one input. -/
def snapTwoWrong : ChangeSpec := { name := "snapTwo", fn := fun _ => fun
  | [d1, d2] => { results := [.lit (.bool false)], args := [d1, d2] }
  | _ => none }
def SnapTwoWrongFalsely : Prop := snapTwoRow.holds Tryz.pinned (OpenSpec.ofChange snapTwoWrong)

/-- 'dustcartlaw17.SnapAlone': WHATEVER THE INPUT: true; the input reads as it did. -/
def snapAloneSpec : ChangeSpec := { name := "snapAlone", fn := fun _ => fun
  | [d1, d2] => { results := [.lit (.bool true)], args := [d1, d2] }
  | _ => none }
def snapAloneRow : OpenClaim := { program := "ytjbledomkmdkmaagreat", sum := "f873ccb371c47d9e8d4bb1b764d1f039c1c306d221cd9947d000776aa017ffa5", func := "dustcart/dustcartlaw17.SnapAlone", spec := "snapAlone", unfollowed := true, recurses := true, apart := false }
def SnapAloneSaid : Prop := snapAloneRow.holds Tryz.pinned (OpenSpec.ofChange snapAloneSpec)

/-- ITS FALSE NEIGHBOUR: 'it returns false'. Refute it at one input. -/
def snapAloneWrong : ChangeSpec := { name := "snapAlone", fn := fun _ => fun
  | [d1, d2] => { results := [.lit (.bool false)], args := [d1, d2] }
  | _ => none }
def SnapAloneWrongFalsely : Prop := snapAloneRow.holds Tryz.pinned (OpenSpec.ofChange snapAloneWrong)

/-- 'dustcartlaw17.SnapPlays': WHATEVER THE INPUT: true; the input reads as it did. -/
def snapPlaysSpec : ChangeSpec := { name := "snapPlays", fn := fun _ => fun
  | [d1, d2] => { results := [.lit (.bool true)], args := [d1, d2] }
  | _ => none }
def snapPlaysRow : OpenClaim := { program := "ytjbledomkmdkmaagreat", sum := "f873ccb371c47d9e8d4bb1b764d1f039c1c306d221cd9947d000776aa017ffa5", func := "dustcart/dustcartlaw17.SnapPlays", spec := "snapPlays", inPlace := ["maps.clone"], unfollowed := true, recurses := true, apart := false }
def SnapPlaysSaid : Prop := snapPlaysRow.holds Tryz.pinned (OpenSpec.ofChange snapPlaysSpec)

/-- ITS FALSE NEIGHBOUR: 'it returns false'. Refute it at one input. -/
def snapPlaysWrong : ChangeSpec := { name := "snapPlays", fn := fun _ => fun
  | [d1, d2] => { results := [.lit (.bool false)], args := [d1, d2] }
  | _ => none }
def SnapPlaysWrongFalsely : Prop := snapPlaysRow.holds Tryz.pinned (OpenSpec.ofChange snapPlaysWrong)

/- THE SECOND FORM. 'bulk': how many values and letters a reading holds, each counted each time it is reached (what is shared counts as often as it is met; a slice's spare places count too). A statement '..UptoSaid' is the law's where the arguments, and the package variables that the reading takes, are together of bulk at most 1048576: NARROWER than '..Said'. Prove '..Said' where nothing that the law and all that it calls make is longer than what came in: it says more and counts as full. Else prove '..UptoSaid'. A law counts once. -/
mutual
def uptoBulk {H : Type} : DataW H → Nat
  | .lit (.string bytes) => bytes.length + 1
  | .lit _ => 1
  | .nil => 1
  | .ptr d => uptoBulk d + 1
  | .slice elems spare => uptoBulkAll elems + uptoBulkAll spare + 1
  | .agg parts => uptoBulkAll parts + 1
  | .iface _ d => uptoBulk d + 1
  | .map entries => uptoBulkEntries entries + 1
  | .held _ => 1
def uptoBulkAll {H : Type} : List (DataW H) → Nat
  | [] => 0
  | d :: r => uptoBulk d + uptoBulkAll r
def uptoBulkEntries {H : Type} : List (Lit × DataW H) → Nat
  | [] => 0
  | x :: r => uptoBulkEntry x + uptoBulkEntries r
def uptoBulkEntry {H : Type} : Lit × DataW H → Nat
  | (.string bytes, d) => bytes.length + uptoBulk d + 1
  | (_, d) => uptoBulk d + 1
 end
def uptoSmall : (H : Type) → List (DataW H) → Bool := fun _ ds => decide (uptoBulkAll ds ≤ 1048576)
def OpenSpec.upto (s : _root_.Go.ChangeSpec) : _root_.Go.OpenSpec := { _root_.Go.OpenSpec.ofChange s with cond := some uptoSmall }

/-- 'dustcartlaw17.SnapSteps', WHERE WHAT IT READS IS OF BULK AT MOST 1048576: true; the input reads as it did. -/
def snapStepsUptoRow : OpenClaim := { program := "ytjbledomkmdkmaagreat", sum := "f873ccb371c47d9e8d4bb1b764d1f039c1c306d221cd9947d000776aa017ffa5", func := "dustcart/dustcartlaw17.SnapSteps", spec := "snapSteps", unfollowed := true, recurses := true, apart := false, narrowed := true }
def SnapStepsUptoSaid : Prop := snapStepsUptoRow.holds Tryz.pinned (OpenSpec.upto snapStepsSpec)

/-- 'dustcartlaw17.SnapRoots', WHERE WHAT IT READS IS OF BULK AT MOST 1048576: true; the input reads as it did. -/
def snapRootsUptoRow : OpenClaim := { program := "ytjbledomkmdkmaagreat", sum := "f873ccb371c47d9e8d4bb1b764d1f039c1c306d221cd9947d000776aa017ffa5", func := "dustcart/dustcartlaw17.SnapRoots", spec := "snapRoots", unfollowed := true, recurses := true, apart := false, narrowed := true }
def SnapRootsUptoSaid : Prop := snapRootsUptoRow.holds Tryz.pinned (OpenSpec.upto snapRootsSpec)

/-- 'dustcartlaw17.SnapKept', WHERE WHAT IT READS IS OF BULK AT MOST 1048576: true; the input reads as it did. -/
def snapKeptUptoRow : OpenClaim := { program := "ytjbledomkmdkmaagreat", sum := "f873ccb371c47d9e8d4bb1b764d1f039c1c306d221cd9947d000776aa017ffa5", func := "dustcart/dustcartlaw17.SnapKept", spec := "snapKept", unfollowed := true, recurses := true, apart := false, narrowed := true }
def SnapKeptUptoSaid : Prop := snapKeptUptoRow.holds Tryz.pinned (OpenSpec.upto snapKeptSpec)

/-- 'dustcartlaw17.SnapFreed', WHERE WHAT IT READS IS OF BULK AT MOST 1048576: true; the input reads as it did. -/
def snapFreedUptoRow : OpenClaim := { program := "ytjbledomkmdkmaagreat", sum := "f873ccb371c47d9e8d4bb1b764d1f039c1c306d221cd9947d000776aa017ffa5", func := "dustcart/dustcartlaw17.SnapFreed", spec := "snapFreed", unfollowed := true, recurses := true, apart := false, narrowed := true }
def SnapFreedUptoSaid : Prop := snapFreedUptoRow.holds Tryz.pinned (OpenSpec.upto snapFreedSpec)

/-- 'dustcartlaw17.SnapWhite', WHERE WHAT IT READS IS OF BULK AT MOST 1048576: true; the input reads as it did. -/
def snapWhiteUptoRow : OpenClaim := { program := "ytjbledomkmdkmaagreat", sum := "f873ccb371c47d9e8d4bb1b764d1f039c1c306d221cd9947d000776aa017ffa5", func := "dustcart/dustcartlaw17.SnapWhite", spec := "snapWhite", unfollowed := true, recurses := true, apart := false, narrowed := true }
def SnapWhiteUptoSaid : Prop := snapWhiteUptoRow.holds Tryz.pinned (OpenSpec.upto snapWhiteSpec)

/-- 'dustcartlaw17.SnapTwo', WHERE WHAT IT READS IS OF BULK AT MOST 1048576: true; the input reads as it did. -/
def snapTwoUptoRow : OpenClaim := { program := "ytjbledomkmdkmaagreat", sum := "f873ccb371c47d9e8d4bb1b764d1f039c1c306d221cd9947d000776aa017ffa5", func := "dustcart/dustcartlaw17.SnapTwo", spec := "snapTwo", unfollowed := true, recurses := true, apart := false, narrowed := true }
def SnapTwoUptoSaid : Prop := snapTwoUptoRow.holds Tryz.pinned (OpenSpec.upto snapTwoSpec)

/-- 'dustcartlaw17.SnapAlone', WHERE WHAT IT READS IS OF BULK AT MOST 1048576: true; the input reads as it did. -/
def snapAloneUptoRow : OpenClaim := { program := "ytjbledomkmdkmaagreat", sum := "f873ccb371c47d9e8d4bb1b764d1f039c1c306d221cd9947d000776aa017ffa5", func := "dustcart/dustcartlaw17.SnapAlone", spec := "snapAlone", unfollowed := true, recurses := true, apart := false, narrowed := true }
def SnapAloneUptoSaid : Prop := snapAloneUptoRow.holds Tryz.pinned (OpenSpec.upto snapAloneSpec)

/-- 'dustcartlaw17.SnapPlays', WHERE WHAT IT READS IS OF BULK AT MOST 1048576: true; the input reads as it did. -/
def snapPlaysUptoRow : OpenClaim := { program := "ytjbledomkmdkmaagreat", sum := "f873ccb371c47d9e8d4bb1b764d1f039c1c306d221cd9947d000776aa017ffa5", func := "dustcart/dustcartlaw17.SnapPlays", spec := "snapPlays", inPlace := ["maps.clone"], unfollowed := true, recurses := true, apart := false, narrowed := true }
def SnapPlaysUptoSaid : Prop := snapPlaysUptoRow.holds Tryz.pinned (OpenSpec.upto snapPlaysSpec)

end Rows
end Go.Proofs.YtjbledomkmdkmaaGreat
