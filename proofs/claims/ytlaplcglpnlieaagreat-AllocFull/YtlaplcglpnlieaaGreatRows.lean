/-
  No cell of these rows narrows 'for every input' (looked for: loops, veiled, ifaces, maps, wideKeys, modest, calm, conditions, laid).
  DERIVED. THE GIVEN ROWS OF THIS SEAT. 7 by the template 'for every input the law returns true; each argument reads behind the call as it read before'; 0 by the template 'total and deterministic' (their statements: YtlaplcglpnlieaaGreatTotals.lean).
  GIVEN WITH THE SEED: the statements are not yours to turn. If you find one false, say at which input.
  Laid BY PROGRAM, IN A SANDBOX (cutbox-rows.mjs): the forced cells as the released guide's own fill.sh prints them over the translation 7965701bc71455f8… (all of the seat's roots in one cut). By AI agents, Wed Nov 11 2026. No macro, syntax, notation, axiom, sorry.
-/
import Derived.Test.YtlaplcglpnlieaaGreatChecked
import GoSem.Claim
import GoSem.ClaimJoined
import GoSem.ClaimMapViews
import Derived.JoinedTies
import Derived.KernelRfl
namespace Go.Proofs.YtlaplcglpnlieaaGreat
/- THE CELL 'sum', in the pinned program and in every row, IS THE sha256 OF THE DUMP (.gsa) THAT YtlaplcglpnlieaaGreatProg.lean LOADS. Nothing in Lean hashes anything: it is a label: what it is worth is what the hold of that sum in a sandbox is worth. -/
noncomputable def Tryz.pinned : Pinned := { name := "ytlaplcglpnlieaagreat", sum := "7965701bc71455f87ac6bfe1eaa7de1de580176f3246106fe10899e9fb57e80e", checked := Tryz.checked }
namespace Rows
def none {H : Type} : Left H := { results := [], args := [] }

/-- 'dustcartlaw02.HeapPlays': WHATEVER THE INPUT: true; the input reads as it did. -/
def heapPlaysSpec : ChangeSpec := { name := "heapPlays", fn := fun _ => fun
  | [d1, d2] => { results := [.lit (.bool true)], args := [d1, d2] }
  | _ => none }
def heapPlaysRow : OpenClaim := { program := "ytlaplcglpnlieaagreat", sum := "7965701bc71455f87ac6bfe1eaa7de1de580176f3246106fe10899e9fb57e80e", func := "dustcart/dustcartlaw02.HeapPlays", spec := "heapPlays", inPlace := ["maps.clone"], unfollowed := true, recurses := true, apart := false }
def HeapPlaysSaid : Prop := heapPlaysRow.holds Tryz.pinned (OpenSpec.ofChange heapPlaysSpec)

/-- ITS FALSE NEIGHBOUR: 'it returns false'. Refute it at one input. -/
def heapPlaysWrong : ChangeSpec := { name := "heapPlays", fn := fun _ => fun
  | [d1, d2] => { results := [.lit (.bool false)], args := [d1, d2] }
  | _ => none }
def HeapPlaysWrongFalsely : Prop := heapPlaysRow.holds Tryz.pinned (OpenSpec.ofChange heapPlaysWrong)

/-- 'dustcartlaw05.AllocFirst': WHATEVER THE INPUT: true; the input reads as it did. -/
def allocFirstSpec : ChangeSpec := { name := "allocFirst", fn := fun _ => fun
  | [d1, d2, d3, d4, d5] => { results := [.lit (.bool true)], args := [d1, d2, d3, d4, d5] }
  | _ => none }
def allocFirstRow : OpenClaim := { program := "ytlaplcglpnlieaagreat", sum := "7965701bc71455f87ac6bfe1eaa7de1de580176f3246106fe10899e9fb57e80e", func := "dustcart/dustcartlaw05.AllocFirst", spec := "allocFirst", unfollowed := true, recurses := true, apart := false }
def AllocFirstSaid : Prop := allocFirstRow.holds Tryz.pinned (OpenSpec.ofChange allocFirstSpec)

/-- ITS FALSE NEIGHBOUR: 'it returns false'. Refute it at one input. -/
def allocFirstWrong : ChangeSpec := { name := "allocFirst", fn := fun _ => fun
  | [d1, d2, d3, d4, d5] => { results := [.lit (.bool false)], args := [d1, d2, d3, d4, d5] }
  | _ => none }
def AllocFirstWrongFalsely : Prop := allocFirstRow.holds Tryz.pinned (OpenSpec.ofChange allocFirstWrong)

/-- 'dustcartlaw05.AllocFull': WHATEVER THE INPUT: true; the input reads as it did. -/
def allocFullSpec : ChangeSpec := { name := "allocFull", fn := fun _ => fun
  | [d1, d2, d3, d4, d5] => { results := [.lit (.bool true)], args := [d1, d2, d3, d4, d5] }
  | _ => none }
def allocFullRow : OpenClaim := { program := "ytlaplcglpnlieaagreat", sum := "7965701bc71455f87ac6bfe1eaa7de1de580176f3246106fe10899e9fb57e80e", func := "dustcart/dustcartlaw05.AllocFull", spec := "allocFull", unfollowed := true, recurses := true, apart := false }
def AllocFullSaid : Prop := allocFullRow.holds Tryz.pinned (OpenSpec.ofChange allocFullSpec)

/-- ITS FALSE NEIGHBOUR: 'it returns false'. Refute it at one input. -/
def allocFullWrong : ChangeSpec := { name := "allocFull", fn := fun _ => fun
  | [d1, d2, d3, d4, d5] => { results := [.lit (.bool false)], args := [d1, d2, d3, d4, d5] }
  | _ => none }
def AllocFullWrongFalsely : Prop := allocFullRow.holds Tryz.pinned (OpenSpec.ofChange allocFullWrong)

/-- 'dustcartlaw05.AllocPlaced': WHATEVER THE INPUT: true; the input reads as it did. -/
def allocPlacedSpec : ChangeSpec := { name := "allocPlaced", fn := fun _ => fun
  | [d1, d2, d3, d4, d5] => { results := [.lit (.bool true)], args := [d1, d2, d3, d4, d5] }
  | _ => none }
def allocPlacedRow : OpenClaim := { program := "ytlaplcglpnlieaagreat", sum := "7965701bc71455f87ac6bfe1eaa7de1de580176f3246106fe10899e9fb57e80e", func := "dustcart/dustcartlaw05.AllocPlaced", spec := "allocPlaced", unfollowed := true, recurses := true, apart := false }
def AllocPlacedSaid : Prop := allocPlacedRow.holds Tryz.pinned (OpenSpec.ofChange allocPlacedSpec)

/-- ITS FALSE NEIGHBOUR: 'it returns false'. Refute it at one input. -/
def allocPlacedWrong : ChangeSpec := { name := "allocPlaced", fn := fun _ => fun
  | [d1, d2, d3, d4, d5] => { results := [.lit (.bool false)], args := [d1, d2, d3, d4, d5] }
  | _ => none }
def AllocPlacedWrongFalsely : Prop := allocPlacedRow.holds Tryz.pinned (OpenSpec.ofChange allocPlacedWrong)

/-- 'dustcartlaw05.AllocLines': WHATEVER THE INPUT: true; the input reads as it did. -/
def allocLinesSpec : ChangeSpec := { name := "allocLines", fn := fun _ => fun
  | [d1, d2, d3, d4] => { results := [.lit (.bool true)], args := [d1, d2, d3, d4] }
  | _ => none }
def allocLinesRow : OpenClaim := { program := "ytlaplcglpnlieaagreat", sum := "7965701bc71455f87ac6bfe1eaa7de1de580176f3246106fe10899e9fb57e80e", func := "dustcart/dustcartlaw05.AllocLines", spec := "allocLines", inPlace := ["maps.clone"], unfollowed := true, recurses := true, apart := false }
def AllocLinesSaid : Prop := allocLinesRow.holds Tryz.pinned (OpenSpec.ofChange allocLinesSpec)

/-- ITS FALSE NEIGHBOUR: 'it returns false'. Refute it at one input. -/
def allocLinesWrong : ChangeSpec := { name := "allocLines", fn := fun _ => fun
  | [d1, d2, d3, d4] => { results := [.lit (.bool false)], args := [d1, d2, d3, d4] }
  | _ => none }
def AllocLinesWrongFalsely : Prop := allocLinesRow.holds Tryz.pinned (OpenSpec.ofChange allocLinesWrong)

/-- 'dustcartlaw05.AllocClones': WHATEVER THE INPUT: true; the input reads as it did. -/
def allocClonesSpec : ChangeSpec := { name := "allocClones", fn := fun _ => fun
  | [d1, d2, d3, d4, d5] => { results := [.lit (.bool true)], args := [d1, d2, d3, d4, d5] }
  | _ => none }
def allocClonesRow : OpenClaim := { program := "ytlaplcglpnlieaagreat", sum := "7965701bc71455f87ac6bfe1eaa7de1de580176f3246106fe10899e9fb57e80e", func := "dustcart/dustcartlaw05.AllocClones", spec := "allocClones", inPlace := ["maps.clone"], unfollowed := true, recurses := true, apart := false }
def AllocClonesSaid : Prop := allocClonesRow.holds Tryz.pinned (OpenSpec.ofChange allocClonesSpec)

/-- ITS FALSE NEIGHBOUR: 'it returns false'. Refute it at one input. -/
def allocClonesWrong : ChangeSpec := { name := "allocClones", fn := fun _ => fun
  | [d1, d2, d3, d4, d5] => { results := [.lit (.bool false)], args := [d1, d2, d3, d4, d5] }
  | _ => none }
def AllocClonesWrongFalsely : Prop := allocClonesRow.holds Tryz.pinned (OpenSpec.ofChange allocClonesWrong)

/-- 'dustcartlaw05.AllocPlays': WHATEVER THE INPUT: true; the input reads as it did. -/
def allocPlaysSpec : ChangeSpec := { name := "allocPlays", fn := fun _ => fun
  | [d1, d2, d3, d4] => { results := [.lit (.bool true)], args := [d1, d2, d3, d4] }
  | _ => none }
def allocPlaysRow : OpenClaim := { program := "ytlaplcglpnlieaagreat", sum := "7965701bc71455f87ac6bfe1eaa7de1de580176f3246106fe10899e9fb57e80e", func := "dustcart/dustcartlaw05.AllocPlays", spec := "allocPlays", inPlace := ["maps.clone"], unfollowed := true, recurses := true, apart := false }
def AllocPlaysSaid : Prop := allocPlaysRow.holds Tryz.pinned (OpenSpec.ofChange allocPlaysSpec)

/-- ITS FALSE NEIGHBOUR: 'it returns false'. Refute it at one input. -/
def allocPlaysWrong : ChangeSpec := { name := "allocPlays", fn := fun _ => fun
  | [d1, d2, d3, d4] => { results := [.lit (.bool false)], args := [d1, d2, d3, d4] }
  | _ => none }
def AllocPlaysWrongFalsely : Prop := allocPlaysRow.holds Tryz.pinned (OpenSpec.ofChange allocPlaysWrong)

/- THE SECOND FORM. 'bulk': how many values and letters a reading holds, each counted each time it is reached (what is shared counts as often as it is met; a slice's spare places count too). A statement '..UptoSaid' is the law's where the arguments, and the package variables that the reading takes, are together of bulk at most 1048576: NARROWER than '..Said'. Prove '..Said' where nothing that the law and all that it calls make is longer than what came in: it says more and counts as full. Else prove '..UptoSaid'. A law counts once. -/
mutual
def uptoBulk {H : Type} : DataW H → Nat
  | .lit (.string bytes) => bytes.length + 1
  | .lit _ => 1
  | .nil => 1
  | .ptr d => uptoBulk d + 1
  | .slice elems spare => uptoBulkAll elems + uptoBulkAll spare + 1
  | .agg parts => uptoBulkAll parts + 1
  | .iface _ d => uptoBulk d + 1
  | .map entries => uptoBulkEntries entries + 1
  | .held _ => 1
def uptoBulkAll {H : Type} : List (DataW H) → Nat
  | [] => 0
  | d :: r => uptoBulk d + uptoBulkAll r
def uptoBulkEntries {H : Type} : List (Lit × DataW H) → Nat
  | [] => 0
  | x :: r => uptoBulkEntry x + uptoBulkEntries r
def uptoBulkEntry {H : Type} : Lit × DataW H → Nat
  | (.string bytes, d) => bytes.length + uptoBulk d + 1
  | (_, d) => uptoBulk d + 1
 end
def uptoSmall : (H : Type) → List (DataW H) → Bool := fun _ ds => decide (uptoBulkAll ds ≤ 1048576)
def OpenSpec.upto (s : _root_.Go.ChangeSpec) : _root_.Go.OpenSpec := { _root_.Go.OpenSpec.ofChange s with cond := some uptoSmall }

/-- 'dustcartlaw02.HeapPlays', WHERE WHAT IT READS IS OF BULK AT MOST 1048576: true; the input reads as it did. -/
def heapPlaysUptoRow : OpenClaim := { program := "ytlaplcglpnlieaagreat", sum := "7965701bc71455f87ac6bfe1eaa7de1de580176f3246106fe10899e9fb57e80e", func := "dustcart/dustcartlaw02.HeapPlays", spec := "heapPlays", inPlace := ["maps.clone"], unfollowed := true, recurses := true, apart := false, narrowed := true }
def HeapPlaysUptoSaid : Prop := heapPlaysUptoRow.holds Tryz.pinned (OpenSpec.upto heapPlaysSpec)

/-- 'dustcartlaw05.AllocFirst', WHERE WHAT IT READS IS OF BULK AT MOST 1048576: true; the input reads as it did. -/
def allocFirstUptoRow : OpenClaim := { program := "ytlaplcglpnlieaagreat", sum := "7965701bc71455f87ac6bfe1eaa7de1de580176f3246106fe10899e9fb57e80e", func := "dustcart/dustcartlaw05.AllocFirst", spec := "allocFirst", unfollowed := true, recurses := true, apart := false, narrowed := true }
def AllocFirstUptoSaid : Prop := allocFirstUptoRow.holds Tryz.pinned (OpenSpec.upto allocFirstSpec)

/-- 'dustcartlaw05.AllocFull', WHERE WHAT IT READS IS OF BULK AT MOST 1048576: true; the input reads as it did. -/
def allocFullUptoRow : OpenClaim := { program := "ytlaplcglpnlieaagreat", sum := "7965701bc71455f87ac6bfe1eaa7de1de580176f3246106fe10899e9fb57e80e", func := "dustcart/dustcartlaw05.AllocFull", spec := "allocFull", unfollowed := true, recurses := true, apart := false, narrowed := true }
def AllocFullUptoSaid : Prop := allocFullUptoRow.holds Tryz.pinned (OpenSpec.upto allocFullSpec)

/-- 'dustcartlaw05.AllocPlaced', WHERE WHAT IT READS IS OF BULK AT MOST 1048576: true; the input reads as it did. -/
def allocPlacedUptoRow : OpenClaim := { program := "ytlaplcglpnlieaagreat", sum := "7965701bc71455f87ac6bfe1eaa7de1de580176f3246106fe10899e9fb57e80e", func := "dustcart/dustcartlaw05.AllocPlaced", spec := "allocPlaced", unfollowed := true, recurses := true, apart := false, narrowed := true }
def AllocPlacedUptoSaid : Prop := allocPlacedUptoRow.holds Tryz.pinned (OpenSpec.upto allocPlacedSpec)

/-- 'dustcartlaw05.AllocLines', WHERE WHAT IT READS IS OF BULK AT MOST 1048576: true; the input reads as it did. -/
def allocLinesUptoRow : OpenClaim := { program := "ytlaplcglpnlieaagreat", sum := "7965701bc71455f87ac6bfe1eaa7de1de580176f3246106fe10899e9fb57e80e", func := "dustcart/dustcartlaw05.AllocLines", spec := "allocLines", inPlace := ["maps.clone"], unfollowed := true, recurses := true, apart := false, narrowed := true }
def AllocLinesUptoSaid : Prop := allocLinesUptoRow.holds Tryz.pinned (OpenSpec.upto allocLinesSpec)

/-- 'dustcartlaw05.AllocClones', WHERE WHAT IT READS IS OF BULK AT MOST 1048576: true; the input reads as it did. -/
def allocClonesUptoRow : OpenClaim := { program := "ytlaplcglpnlieaagreat", sum := "7965701bc71455f87ac6bfe1eaa7de1de580176f3246106fe10899e9fb57e80e", func := "dustcart/dustcartlaw05.AllocClones", spec := "allocClones", inPlace := ["maps.clone"], unfollowed := true, recurses := true, apart := false, narrowed := true }
def AllocClonesUptoSaid : Prop := allocClonesUptoRow.holds Tryz.pinned (OpenSpec.upto allocClonesSpec)

/-- 'dustcartlaw05.AllocPlays', WHERE WHAT IT READS IS OF BULK AT MOST 1048576: true; the input reads as it did. -/
def allocPlaysUptoRow : OpenClaim := { program := "ytlaplcglpnlieaagreat", sum := "7965701bc71455f87ac6bfe1eaa7de1de580176f3246106fe10899e9fb57e80e", func := "dustcart/dustcartlaw05.AllocPlays", spec := "allocPlays", inPlace := ["maps.clone"], unfollowed := true, recurses := true, apart := false, narrowed := true }
def AllocPlaysUptoSaid : Prop := allocPlaysUptoRow.holds Tryz.pinned (OpenSpec.upto allocPlaysSpec)

end Rows
end Go.Proofs.YtlaplcglpnlieaaGreat
