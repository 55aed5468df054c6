/-
  PRINTED BY A PROGRAM OF THIS SESSION'S OWN (rowgen.py): how the elements of slices are read.
-/
import Derived.Test.YtlaplcglpnlieaaLG
set_option linter.unusedVariables false
set_option maxRecDepth 100000
namespace Go.Proofs.Ytlaplcglpnlieaa
open Go Go.AX Go.RowKit Go.ChangeShapes Go.WideShapes Go.ChangeAt

theorem z3 : Try.prog.cellsOf 3 = 1 := by kernel_rfl
structure Sh3 where
  r : Int
  d : Int
  c : Int
def Sh3.ok (y : Sh3) : Prop := inI y.r ∧ inI y.d ∧ inI y.c
def shapeE : El Sh3 := ⟨ty_api_Shape, 3, fun y => [.int .i64 y.r, .int .i64 y.d, .int .i64 y.c], Sh3.ok⟩
theorem shapeE_ok : ElOk shapeE where
  zc := by kernel_rfl
  z0 := by decide
  len := fun _ => rfl
  one := fun y v hv => by
    simp [shapeE] at hv
    rcases hv with rfl | rfl | rfl <;> exact .inl ⟨_, rfl⟩
  rd := fun hl hf => by
    obtain ⟨c0, c1, c2, rfl⟩ := list3 _ hl
    obtain ⟨xs1, _, _, _, _, hlen1, hff1⟩ := DataW.trod_struct Try.underlying36 hf
    obtain ⟨y1_0, y1_1, y1_2, rfl⟩ := list3 xs1 hlen1
    have k1_0 := hff1 0 _ rfl
    have k1_1 := hff1 1 _ rfl
    have k1_2 := hff1 2 _ rfl
    simp [z3] at k1_0 k1_1 k1_2
    obtain ⟨a0, e0, _, w0⟩ := DataW.trod_int und3 k1_0
    obtain ⟨a1, e1, _, w1⟩ := DataW.trod_int und3 k1_1
    obtain ⟨a2, e2, _, w2⟩ := DataW.trod_int und3 k1_2
    simp at e0 e1 e2
    subst e0 e1 e2
    exact ⟨⟨a0, a1, a2⟩, ⟨inI_of w0, inI_of w1, inI_of w2⟩, rfl⟩
def boolE : El Bool := ⟨ty_bool, 1, fun b => [.bool b], fun _ => True⟩
theorem boolE_ok : ElOk boolE where
  zc := by kernel_rfl
  z0 := by decide
  len := fun _ => rfl
  one := fun y v hv => by simp [boolE] at hv; exact .inr ⟨y, hv⟩
  rd := fun hl hf => by
    obtain ⟨b, h1, _⟩ := DataW.trod_bool (by kernel_rfl) hf
    exact ⟨b, trivial, h1⟩

end Go.Proofs.Ytlaplcglpnlieaa
