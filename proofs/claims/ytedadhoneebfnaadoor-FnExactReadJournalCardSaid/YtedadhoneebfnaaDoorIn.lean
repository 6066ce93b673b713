/- l1In: whether a number lies between two bounds. -/
import Derived.Test.YtedadhoneebfnaaDoorLib
import Derived.Test.YtedadhoneebfnaaDoorRows
import Derived.Handy
set_option linter.unusedSimpArgs false
set_option linter.unusedVariables false
namespace Go.Proofs.YtedadhoneebfnaaDoor
open Go.RowKit

set_option maxHeartbeats 400000 in
theorem sIn_any (x lo hi : Int) (w : World) :
    Calls Tryd.prog 31 #[.int .i64 x, .int .i64 lo, .int .i64 hi] w fun e w' => e = .returned (.bool (decide (lo ≤ x) && decide (x ≤ hi))) ∧ w = w' := by
  go_enter Tryd.func31, Tryd.ntmps31
  go_wp2
  all_goals
    go_returns
    refine ⟨?_, rfl⟩
    congr 2
    first | (simp; done) | (simp; omega) | (simp_all; done) | (simp_all; omega)

end Go.Proofs.YtedadhoneebfnaaDoor
