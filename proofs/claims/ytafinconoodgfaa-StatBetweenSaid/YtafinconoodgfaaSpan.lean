/- Package span, walked: each function returns what its plain namesake says, and writes nothing that was there. -/
import Derived.Test.YtafinconoodgfaaBase
namespace Go.Proofs.Ytafinconoodgfaa
open Go.RowKit
set_option linter.unusedVariables false
set_option linter.unusedSimpArgs false
theorem Time_any (n : Int) (w : World) :
    Calls Try.prog 13 #[.int .i64 n] w fun e w' => e = .returned (.bool (timeB n)) ∧ w = w' := by
  go_enter Try.func13, Try.ntmps13
  go_wp2
  all_goals (go_ret; exact ⟨ret_bool (by simp [timeB]; try omega), rfl⟩)
