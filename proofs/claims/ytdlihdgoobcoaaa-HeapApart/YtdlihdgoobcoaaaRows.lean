/-
  No cell of these rows narrows 'for every input' (looked for: loops, veiled, ifaces, maps, wideKeys, modest, calm, conditions, laid).
  DERIVED. THE GIVEN ROWS OF THIS SEAT. 8 by the template 'for every input the law returns true; each argument reads behind the call as it read before'; 0 by the template 'total and deterministic' (their statements: YtdlihdgoobcoaaaTotals.lean).
  GIVEN WITH THE SEED: the statements are not yours to turn. If you find one false, say at which input.
  Laid BY PROGRAM, IN A SANDBOX (cutbox-rows.mjs): the forced cells as the released guide's own fill.sh prints them over the translation 2b37fbed51affae3… (all of the seat's roots in one cut). By AI agents, Wed Nov 11 2026. No macro, syntax, notation, axiom, sorry.
-/
import Derived.Test.YtdlihdgoobcoaaaChecked
import GoSem.Claim
import GoSem.ClaimJoined
import GoSem.ClaimMapViews
import Derived.JoinedTies
import Derived.KernelRfl
namespace Go.Proofs.Ytdlihdgoobcoaaa
/- THE CELL 'sum', in the pinned program and in every row, IS THE sha256 OF THE DUMP (.gsa) THAT YtdlihdgoobcoaaaProg.lean LOADS. Nothing in Lean hashes anything: it is a label: what it is worth is what the hold of that sum in a sandbox is worth. -/
noncomputable def Try.pinned : Pinned := { name := "ytdlihdgoobcoaaa", sum := "2b37fbed51affae3a595ceabbf3aa7eff17d09107ecd1eb5fe56a4670bc5bd4d", checked := Try.checked }
namespace Rows
def none {H : Type} : Left H := { results := [], args := [] }

/-- 'dustcartlaw02.HeapShapes': WHATEVER THE INPUT: true; the input reads as it did. -/
def heapShapesSpec : ChangeSpec := { name := "heapShapes", fn := fun _ => fun
  | [d] => { results := [.lit (.bool true)], args := [d] }
  | _ => none }
def heapShapesRow : OpenClaim := { program := "ytdlihdgoobcoaaa", sum := "2b37fbed51affae3a595ceabbf3aa7eff17d09107ecd1eb5fe56a4670bc5bd4d", func := "dustcart/dustcartlaw02.HeapShapes", spec := "heapShapes", unfollowed := true, recurses := true, apart := false }
def HeapShapesSaid : Prop := heapShapesRow.holds Try.pinned (OpenSpec.ofChange heapShapesSpec)

/-- ITS FALSE NEIGHBOUR: 'it returns false'. Refute it at one input. -/
def heapShapesWrong : ChangeSpec := { name := "heapShapes", fn := fun _ => fun
  | [d] => { results := [.lit (.bool false)], args := [d] }
  | _ => none }
def HeapShapesWrongFalsely : Prop := heapShapesRow.holds Try.pinned (OpenSpec.ofChange heapShapesWrong)

/-- 'dustcartlaw02.HeapIdents': WHATEVER THE INPUT: true; the input reads as it did. -/
def heapIdentsSpec : ChangeSpec := { name := "heapIdents", fn := fun _ => fun
  | [d1, d2, d3, d4] => { results := [.lit (.bool true)], args := [d1, d2, d3, d4] }
  | _ => none }
def heapIdentsRow : OpenClaim := { program := "ytdlihdgoobcoaaa", sum := "2b37fbed51affae3a595ceabbf3aa7eff17d09107ecd1eb5fe56a4670bc5bd4d", func := "dustcart/dustcartlaw02.HeapIdents", spec := "heapIdents", unfollowed := true, recurses := true, apart := false }
def HeapIdentsSaid : Prop := heapIdentsRow.holds Try.pinned (OpenSpec.ofChange heapIdentsSpec)

/-- ITS FALSE NEIGHBOUR: 'it returns false'. Refute it at one input. -/
def heapIdentsWrong : ChangeSpec := { name := "heapIdents", fn := fun _ => fun
  | [d1, d2, d3, d4] => { results := [.lit (.bool false)], args := [d1, d2, d3, d4] }
  | _ => none }
def HeapIdentsWrongFalsely : Prop := heapIdentsRow.holds Try.pinned (OpenSpec.ofChange heapIdentsWrong)

/-- 'dustcartlaw02.HeapLines': WHATEVER THE INPUT: true; the input reads as it did. -/
def heapLinesSpec : ChangeSpec := { name := "heapLines", fn := fun _ => fun
  | [d1, d2] => { results := [.lit (.bool true)], args := [d1, d2] }
  | _ => none }
def heapLinesRow : OpenClaim := { program := "ytdlihdgoobcoaaa", sum := "2b37fbed51affae3a595ceabbf3aa7eff17d09107ecd1eb5fe56a4670bc5bd4d", func := "dustcart/dustcartlaw02.HeapLines", spec := "heapLines", unfollowed := true, recurses := true, apart := false }
def HeapLinesSaid : Prop := heapLinesRow.holds Try.pinned (OpenSpec.ofChange heapLinesSpec)

/-- ITS FALSE NEIGHBOUR: 'it returns false'. Refute it at one input. -/
def heapLinesWrong : ChangeSpec := { name := "heapLines", fn := fun _ => fun
  | [d1, d2] => { results := [.lit (.bool false)], args := [d1, d2] }
  | _ => none }
def HeapLinesWrongFalsely : Prop := heapLinesRow.holds Try.pinned (OpenSpec.ofChange heapLinesWrong)

/-- 'dustcartlaw02.HeapApart': WHATEVER THE INPUT: true; the input reads as it did. -/
def heapApartSpec : ChangeSpec := { name := "heapApart", fn := fun _ => fun
  | [d1, d2] => { results := [.lit (.bool true)], args := [d1, d2] }
  | _ => none }
def heapApartRow : OpenClaim := { program := "ytdlihdgoobcoaaa", sum := "2b37fbed51affae3a595ceabbf3aa7eff17d09107ecd1eb5fe56a4670bc5bd4d", func := "dustcart/dustcartlaw02.HeapApart", spec := "heapApart", unfollowed := true, recurses := true, apart := false }
def HeapApartSaid : Prop := heapApartRow.holds Try.pinned (OpenSpec.ofChange heapApartSpec)

/-- ITS FALSE NEIGHBOUR: 'it returns false'. Refute it at one input. -/
def heapApartWrong : ChangeSpec := { name := "heapApart", fn := fun _ => fun
  | [d1, d2] => { results := [.lit (.bool false)], args := [d1, d2] }
  | _ => none }
def HeapApartWrongFalsely : Prop := heapApartRow.holds Try.pinned (OpenSpec.ofChange heapApartWrong)

/-- 'dustcartlaw02.HeapMoves': WHATEVER THE INPUT: true; the input reads as it did. -/
def heapMovesSpec : ChangeSpec := { name := "heapMoves", fn := fun _ => fun
  | [d1, d2, d3, d4] => { results := [.lit (.bool true)], args := [d1, d2, d3, d4] }
  | _ => none }
def heapMovesRow : OpenClaim := { program := "ytdlihdgoobcoaaa", sum := "2b37fbed51affae3a595ceabbf3aa7eff17d09107ecd1eb5fe56a4670bc5bd4d", func := "dustcart/dustcartlaw02.HeapMoves", spec := "heapMoves", unfollowed := true, recurses := true, apart := false }
def HeapMovesSaid : Prop := heapMovesRow.holds Try.pinned (OpenSpec.ofChange heapMovesSpec)

/-- ITS FALSE NEIGHBOUR: 'it returns false'. Refute it at one input. -/
def heapMovesWrong : ChangeSpec := { name := "heapMoves", fn := fun _ => fun
  | [d1, d2, d3, d4] => { results := [.lit (.bool false)], args := [d1, d2, d3, d4] }
  | _ => none }
def HeapMovesWrongFalsely : Prop := heapMovesRow.holds Try.pinned (OpenSpec.ofChange heapMovesWrong)

/-- 'dustcartlaw02.HeapWords': WHATEVER THE INPUT: true; the input reads as it did. -/
def heapWordsSpec : ChangeSpec := { name := "heapWords", fn := fun _ => fun
  | [d1, d2] => { results := [.lit (.bool true)], args := [d1, d2] }
  | _ => none }
def heapWordsRow : OpenClaim := { program := "ytdlihdgoobcoaaa", sum := "2b37fbed51affae3a595ceabbf3aa7eff17d09107ecd1eb5fe56a4670bc5bd4d", func := "dustcart/dustcartlaw02.HeapWords", spec := "heapWords", unfollowed := true, recurses := true, apart := false }
def HeapWordsSaid : Prop := heapWordsRow.holds Try.pinned (OpenSpec.ofChange heapWordsSpec)

/-- ITS FALSE NEIGHBOUR: 'it returns false'. Refute it at one input. -/
def heapWordsWrong : ChangeSpec := { name := "heapWords", fn := fun _ => fun
  | [d1, d2] => { results := [.lit (.bool false)], args := [d1, d2] }
  | _ => none }
def HeapWordsWrongFalsely : Prop := heapWordsRow.holds Try.pinned (OpenSpec.ofChange heapWordsWrong)

/-- 'dustcartlaw02.HeapRefused': WHATEVER THE INPUT: true; the input reads as it did. -/
def heapRefusedSpec : ChangeSpec := { name := "heapRefused", fn := fun _ => fun
  | [d1, d2, d3] => { results := [.lit (.bool true)], args := [d1, d2, d3] }
  | _ => none }
def heapRefusedRow : OpenClaim := { program := "ytdlihdgoobcoaaa", sum := "2b37fbed51affae3a595ceabbf3aa7eff17d09107ecd1eb5fe56a4670bc5bd4d", func := "dustcart/dustcartlaw02.HeapRefused", spec := "heapRefused", unfollowed := true, recurses := true, apart := false }
def HeapRefusedSaid : Prop := heapRefusedRow.holds Try.pinned (OpenSpec.ofChange heapRefusedSpec)

/-- ITS FALSE NEIGHBOUR: 'it returns false'. Refute it at one input. -/
def heapRefusedWrong : ChangeSpec := { name := "heapRefused", fn := fun _ => fun
  | [d1, d2, d3] => { results := [.lit (.bool false)], args := [d1, d2, d3] }
  | _ => none }
def HeapRefusedWrongFalsely : Prop := heapRefusedRow.holds Try.pinned (OpenSpec.ofChange heapRefusedWrong)

/-- 'dustcartlaw02.HeapClones': WHATEVER THE INPUT: true; the input reads as it did. -/
def heapClonesSpec : ChangeSpec := { name := "heapClones", fn := fun _ => fun
  | [d1, d2, d3, d4] => { results := [.lit (.bool true)], args := [d1, d2, d3, d4] }
  | _ => none }
def heapClonesRow : OpenClaim := { program := "ytdlihdgoobcoaaa", sum := "2b37fbed51affae3a595ceabbf3aa7eff17d09107ecd1eb5fe56a4670bc5bd4d", func := "dustcart/dustcartlaw02.HeapClones", spec := "heapClones", inPlace := ["maps.clone"], unfollowed := true, recurses := true, apart := false }
def HeapClonesSaid : Prop := heapClonesRow.holds Try.pinned (OpenSpec.ofChange heapClonesSpec)

/-- ITS FALSE NEIGHBOUR: 'it returns false'. Refute it at one input. -/
def heapClonesWrong : ChangeSpec := { name := "heapClones", fn := fun _ => fun
  | [d1, d2, d3, d4] => { results := [.lit (.bool false)], args := [d1, d2, d3, d4] }
  | _ => none }
def HeapClonesWrongFalsely : Prop := heapClonesRow.holds Try.pinned (OpenSpec.ofChange heapClonesWrong)

/- THE SECOND FORM. 'bulk': how many values and letters a reading holds, each counted each time it is reached (what is shared counts as often as it is met; a slice's spare places count too). A statement '..UptoSaid' is the law's where the arguments, and the package variables that the reading takes, are together of bulk at most 1048576: NARROWER than '..Said'. Prove '..Said' where nothing that the law and all that it calls make is longer than what came in: it says more and counts as full. Else prove '..UptoSaid'. A law counts once. -/
mutual
def uptoBulk {H : Type} : DataW H → Nat
  | .lit (.string bytes) => bytes.length + 1
  | .lit _ => 1
  | .nil => 1
  | .ptr d => uptoBulk d + 1
  | .slice elems spare => uptoBulkAll elems + uptoBulkAll spare + 1
  | .agg parts => uptoBulkAll parts + 1
  | .iface _ d => uptoBulk d + 1
  | .map entries => uptoBulkEntries entries + 1
  | .held _ => 1
def uptoBulkAll {H : Type} : List (DataW H) → Nat
  | [] => 0
  | d :: r => uptoBulk d + uptoBulkAll r
def uptoBulkEntries {H : Type} : List (Lit × DataW H) → Nat
  | [] => 0
  | x :: r => uptoBulkEntry x + uptoBulkEntries r
def uptoBulkEntry {H : Type} : Lit × DataW H → Nat
  | (.string bytes, d) => bytes.length + uptoBulk d + 1
  | (_, d) => uptoBulk d + 1
 end
def uptoSmall : (H : Type) → List (DataW H) → Bool := fun _ ds => decide (uptoBulkAll ds ≤ 1048576)
def OpenSpec.upto (s : _root_.Go.ChangeSpec) : _root_.Go.OpenSpec := { _root_.Go.OpenSpec.ofChange s with cond := some uptoSmall }

/-- 'dustcartlaw02.HeapShapes', WHERE WHAT IT READS IS OF BULK AT MOST 1048576: true; the input reads as it did. -/
def heapShapesUptoRow : OpenClaim := { program := "ytdlihdgoobcoaaa", sum := "2b37fbed51affae3a595ceabbf3aa7eff17d09107ecd1eb5fe56a4670bc5bd4d", func := "dustcart/dustcartlaw02.HeapShapes", spec := "heapShapes", unfollowed := true, recurses := true, apart := false, narrowed := true }
def HeapShapesUptoSaid : Prop := heapShapesUptoRow.holds Try.pinned (OpenSpec.upto heapShapesSpec)

/-- 'dustcartlaw02.HeapIdents', WHERE WHAT IT READS IS OF BULK AT MOST 1048576: true; the input reads as it did. -/
def heapIdentsUptoRow : OpenClaim := { program := "ytdlihdgoobcoaaa", sum := "2b37fbed51affae3a595ceabbf3aa7eff17d09107ecd1eb5fe56a4670bc5bd4d", func := "dustcart/dustcartlaw02.HeapIdents", spec := "heapIdents", unfollowed := true, recurses := true, apart := false, narrowed := true }
def HeapIdentsUptoSaid : Prop := heapIdentsUptoRow.holds Try.pinned (OpenSpec.upto heapIdentsSpec)

/-- 'dustcartlaw02.HeapLines', WHERE WHAT IT READS IS OF BULK AT MOST 1048576: true; the input reads as it did. -/
def heapLinesUptoRow : OpenClaim := { program := "ytdlihdgoobcoaaa", sum := "2b37fbed51affae3a595ceabbf3aa7eff17d09107ecd1eb5fe56a4670bc5bd4d", func := "dustcart/dustcartlaw02.HeapLines", spec := "heapLines", unfollowed := true, recurses := true, apart := false, narrowed := true }
def HeapLinesUptoSaid : Prop := heapLinesUptoRow.holds Try.pinned (OpenSpec.upto heapLinesSpec)

/-- 'dustcartlaw02.HeapApart', WHERE WHAT IT READS IS OF BULK AT MOST 1048576: true; the input reads as it did. -/
def heapApartUptoRow : OpenClaim := { program := "ytdlihdgoobcoaaa", sum := "2b37fbed51affae3a595ceabbf3aa7eff17d09107ecd1eb5fe56a4670bc5bd4d", func := "dustcart/dustcartlaw02.HeapApart", spec := "heapApart", unfollowed := true, recurses := true, apart := false, narrowed := true }
def HeapApartUptoSaid : Prop := heapApartUptoRow.holds Try.pinned (OpenSpec.upto heapApartSpec)

/-- 'dustcartlaw02.HeapMoves', WHERE WHAT IT READS IS OF BULK AT MOST 1048576: true; the input reads as it did. -/
def heapMovesUptoRow : OpenClaim := { program := "ytdlihdgoobcoaaa", sum := "2b37fbed51affae3a595ceabbf3aa7eff17d09107ecd1eb5fe56a4670bc5bd4d", func := "dustcart/dustcartlaw02.HeapMoves", spec := "heapMoves", unfollowed := true, recurses := true, apart := false, narrowed := true }
def HeapMovesUptoSaid : Prop := heapMovesUptoRow.holds Try.pinned (OpenSpec.upto heapMovesSpec)

/-- 'dustcartlaw02.HeapWords', WHERE WHAT IT READS IS OF BULK AT MOST 1048576: true; the input reads as it did. -/
def heapWordsUptoRow : OpenClaim := { program := "ytdlihdgoobcoaaa", sum := "2b37fbed51affae3a595ceabbf3aa7eff17d09107ecd1eb5fe56a4670bc5bd4d", func := "dustcart/dustcartlaw02.HeapWords", spec := "heapWords", unfollowed := true, recurses := true, apart := false, narrowed := true }
def HeapWordsUptoSaid : Prop := heapWordsUptoRow.holds Try.pinned (OpenSpec.upto heapWordsSpec)

/-- 'dustcartlaw02.HeapRefused', WHERE WHAT IT READS IS OF BULK AT MOST 1048576: true; the input reads as it did. -/
def heapRefusedUptoRow : OpenClaim := { program := "ytdlihdgoobcoaaa", sum := "2b37fbed51affae3a595ceabbf3aa7eff17d09107ecd1eb5fe56a4670bc5bd4d", func := "dustcart/dustcartlaw02.HeapRefused", spec := "heapRefused", unfollowed := true, recurses := true, apart := false, narrowed := true }
def HeapRefusedUptoSaid : Prop := heapRefusedUptoRow.holds Try.pinned (OpenSpec.upto heapRefusedSpec)

/-- 'dustcartlaw02.HeapClones', WHERE WHAT IT READS IS OF BULK AT MOST 1048576: true; the input reads as it did. -/
def heapClonesUptoRow : OpenClaim := { program := "ytdlihdgoobcoaaa", sum := "2b37fbed51affae3a595ceabbf3aa7eff17d09107ecd1eb5fe56a4670bc5bd4d", func := "dustcart/dustcartlaw02.HeapClones", spec := "heapClones", inPlace := ["maps.clone"], unfollowed := true, recurses := true, apart := false, narrowed := true }
def HeapClonesUptoSaid : Prop := heapClonesUptoRow.holds Try.pinned (OpenSpec.upto heapClonesSpec)

end Rows
end Go.Proofs.Ytdlihdgoobcoaaa
