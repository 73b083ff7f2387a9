/- Package civil, walked: days, months and years. -/
import Derived.Test.YtcigoleplhdlaaaBase
import Derived.Test.YtcigoleplhdlaaaCivilP
import Derived.Test.YtcigoleplhdlaaaRec
namespace Go.Proofs.Ytcigoleplhdlaaa
open Go.RowKit
set_option linter.unusedVariables false
set_option linter.unusedSimpArgs false
theorem civil_first (y : Int) (w : World) (h1 : 1970 ≤ y) (h2 : y ≤ 2200) : Calls Try.prog 10 #[.int .i64 y] w fun e w' => e = .returned (.int .i64 (firstD y)) ∧ w = w' := by
  go_enter Try.func10, Try.ntmps10
  go_wp2
  all_goals (go_ret; exact ⟨ret_int (by unfold firstD; try omega), rfl⟩)
theorem civil_Last (w : World) : Calls Try.prog 6 #[] w fun e w' => e = .returned (.int .i64 lastDay) ∧ w = w' := by
  have hv : firstD 2200 = 84006 := by decide
  obtain ⟨f, ef⟩ : ∃ f, firstD 2200 = f := ⟨_, rfl⟩
  have hl := Lib.hid (show f - 1 = lastDay by rw [← ef]; rfl)
  rw [ef] at hv
  have b1 : f ≤ 84006 := by omega
  have b2 : 84006 ≤ f := by omega
  clear hv
  go_enter Try.func6, Try.ntmps6
  go_wp2_with (go_at_call 10; refine (civil_first _ _ (by omega) (by omega)).mono ?_; rintro e w' ⟨rfl, rfl⟩; rw [ef])
  go_ret
  exact ⟨ret_int hl.out, rfl⟩
