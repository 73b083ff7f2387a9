/- Package drift, walked. -/
import Derived.Test.YtekhafhgodkkcaaSpan
namespace Go.Proofs.Ytekhafhgodkkcaa
open Go.RowKit
set_option linter.unusedVariables false
set_option linter.unusedSimpArgs false
theorem Rate_any (n : Int) (w : World) :
    Calls Try.prog 33 #[.int .i64 n] w fun e w' => e = .returned (.bool (rateB n)) ∧ w = w' := by
  go_enter Try.func33, Try.ntmps33
  go_wp2
  all_goals (go_ret; exact ⟨ret_bool (by simp [rateB]; try omega), rfl⟩)
theorem drift_ready (n p : Int) (w : World) :
    Calls Try.prog 28 #[.int .i64 n, .int .i64 p] w fun e w' => e = .returned (.bool (readyB n p)) ∧ w = w' := by
  go_enter Try.func28, Try.ntmps28
  go_wp2_with (go_at_call 33; refine (Rate_any _ _).mono ?_; rintro e w' ⟨rfl, rfl⟩)
  all_goals (go_ret; exact ⟨ret_bool (by simp_all [readyB]; try omega), rfl⟩)
theorem Up_any (a b : Int) (w : World) (h0 : 0 ≤ a) (h1 : a ≤ 4000000000000000000) (h2 : 1 ≤ b) (h3 : b ≤ 2000000) :
    Calls Try.prog 34 #[.int .i64 a, .int .i64 b] w fun e w' => e = .returned (.int .i64 (upD a b)) ∧ w = w' := by
  go_enter Try.func34, Try.ntmps34
  go_wp2
  go_ret
  exact ⟨rfl, rfl⟩
theorem By_any (n p : Int) (w : World) (h0 : 0 ≤ n) (h1 : n ≤ 2000000000000) (h2 : 0 ≤ p) (h3 : p ≤ 3000) :
    Calls Try.prog 29 #[.int .i64 n, .int .i64 p] w fun e w' => e = .returned (.int .i64 (byP n p)) ∧ w = w' := by
  obtain ⟨m1, m2⟩ := mul_bd h0 h1 h2 h3
  go_enter Try.func29, Try.ntmps29
  go_wp2_with (go_at_call 34; refine (Up_any _ _ _ (by omega) (by omega) (by omega) (by omega)).mono ?_; rintro e w' ⟨rfl, rfl⟩)
  go_ret
  exact ⟨rfl, rfl⟩
theorem Grow_any (n p : Int) (w : World) :
    Calls Try.prog 12 #[.int .i64 n, .int .i64 p] w fun e w' => e = .returned (.tuple #[.int .i64 (growV n p), errV (growC n p)]) ∧ w = w' := by
  by_cases h : readyB n p = true
  · obtain ⟨r0, r1, r2, r3⟩ := readyB_iff.1 h
    go_enter Try.func12, Try.ntmps12
    go_wp2_with (first | (go_at_call 28; refine (drift_ready _ _ _).mono ?_; rintro e w' ⟨rfl, rfl⟩) | (go_at_call 29; refine (By_any _ _ _ (by omega) (by omega) (by omega) (by omega)).mono ?_; rintro e w' ⟨rfl, rfl⟩))
    go_ret2
    exact ⟨by simp [growV, growC, h, okC, errV], rfl⟩
  · go_enter Try.func12, Try.ntmps12
    go_wp2_with (go_at_call 28; refine (drift_ready _ _ _).mono ?_; rintro e w' ⟨rfl, rfl⟩)
    go_ret2
    exact ⟨by simp [growV, growC, h, okC, errV], rfl⟩
