/-
  SnapNone: what the law's function comes to, at every argument: a run that never looks at them.
-/
import Derived.Test.YtilefhlamdiomaaGreatGAXL
import Derived.Test.YtilefhlamdiomaaGreatAXM
set_option maxRecDepth 100000
namespace Go.Proofs.YtilefhlamdiomaaGreat
open Go Go.AX

attribute [local instance] kn2
section
local instance : Quiet := boolQuiet
theorem none_run (a b c d e f : Int) : isTrue1 (s_law17_SnapNone 300 a b c d e f []) = true := by kernel_rfl
end

theorem SnapNone_to (a b c d e f : Int) : ∃ σ', @fn boolQuiet P X2 H 300 6 [.int .i64 a, .int .i64 b, .int .i64 c, .agg #[.int .i64 d, .int .i64 e, .int .i64 f]] [] = some (.bool true, σ') := by
  have h := none_run a b c d e f
  rw [← @law17_SnapNone_is boolQuiet] at h
  simp only [d_law17_SnapNone, hide_eq] at h
  exact isTrue1_spec h
end Go.Proofs.YtilefhlamdiomaaGreat
