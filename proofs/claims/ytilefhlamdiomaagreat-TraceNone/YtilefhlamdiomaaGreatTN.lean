/-
  TraceNone: what the law's function comes to, at every argument: a run that never looks at them.
-/
import Derived.Test.YtilefhlamdiomaaGreatAXL
import Derived.Test.YtilefhlamdiomaaGreatAXM
set_option maxRecDepth 100000
namespace Go.Proofs.YtilefhlamdiomaaGreat
open Go Go.AX

section
local instance : Quiet := boolQuiet
theorem none_run (a b c d : Int) : isTrue1 (s_law07_TraceNone 300 a b c d []) = true := by kernel_rfl
end

attribute [local instance] kn1
theorem TraceNone_to (a b c d : Int) : ∃ σ', @fn boolQuiet P (XK false) H 300 3 [.int .i64 a, .int .i64 b, .int .i64 c, .int .i64 d] [] = some (.bool true, σ') := by
  have h := none_run a b c d
  rw [← @law07_TraceNone_is boolQuiet] at h
  simp only [d_law07_TraceNone, hide_eq] at h
  exact isTrue1_spec h
end Go.Proofs.YtilefhlamdiomaaGreat
