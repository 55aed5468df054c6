/-
  AllocNone: what the law's function comes to, at every argument: a run that never looks at them.
-/
import Derived.Test.YtilefhlamdiomaaFD
import Derived.Test.YtilefhlamdiomaaAXM
set_option maxRecDepth 100000
namespace Go.Proofs.Ytilefhlamdiomaa
open Go Go.AX

theorem none_run (a b c d e : Int) : isTrue1 (@d_law05_AllocNone boolQuiet 300 a b c d e []) = true := by kernel_rfl

theorem AllocNone_to (a b c d e : Int) : ∃ σ', @law05_AllocNone boolQuiet 300 a b c d e [] = some (.bool true, σ') := by
  rw [@law05_AllocNone_is boolQuiet]
  exact isTrue1_spec (none_run a b c d e)
end Go.Proofs.Ytilefhlamdiomaa
