/- Edges checked, by the program and by the reference, walked. -/
import Derived.Test.YtlkekkpknmbobaaDoorEdgeP
import Derived.Test.YtlkekkpknmbobaaDoorSpan
import Derived.Test.YtlkekkpknmbobaaDoorRef1
namespace Go.Proofs.YtlkekkpknmbobaaDoor
open Go.RowKit
set_option linter.unusedVariables false
set_option linter.unusedSimpArgs false
theorem Node_any (n i : Int) (w : World) : Calls Tryd.prog 16 #[.int .i64 n, .int .i64 i] w fun e w' => e = .returned (.bool (nodeB n i)) ∧ w = w' := by
  go_enter Tryd.func16, Tryd.ntmps16
  go_wp2
  all_goals
    go_ret
    exact ⟨ret_bool (by simp [nodeB]; try omega), rfl⟩
