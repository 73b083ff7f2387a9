/- Package drift, walked. -/
import Derived.Test.YtkejdfpdehchcaaDoorSpan
namespace Go.Proofs.YtkejdfpdehchcaaDoor
open Go.RowKit
set_option linter.unusedVariables false
set_option linter.unusedSimpArgs false
theorem Rate_any (n : Int) (w : World) :
    Calls Tryd.prog 77 #[.int .i64 n] w fun e w' => e = .returned (.bool (rateB n)) ∧ w = w' := by
  go_enter Tryd.func77, Tryd.ntmps77
  go_wp2
  all_goals (go_ret; exact ⟨ret_bool (by simp [rateB]; try omega), rfl⟩)
theorem drift_ready (n p : Int) (w : World) :
    Calls Tryd.prog 84 #[.int .i64 n, .int .i64 p] w fun e w' => e = .returned (.bool (readyB n p)) ∧ w = w' := by
  go_enter Tryd.func84, Tryd.ntmps84
  go_wp2_with (go_at_call 77; refine (Rate_any _ _).mono ?_; rintro e w' ⟨rfl, rfl⟩)
  all_goals (go_ret; exact ⟨ret_bool (by simp_all [readyB]; try omega), rfl⟩)
theorem Up_any (a b : Int) (w : World) (h0 : 0 ≤ a) (h1 : a ≤ 4000000000000000000) (h2 : 1 ≤ b) (h3 : b ≤ 2000000) :
    Calls Tryd.prog 78 #[.int .i64 a, .int .i64 b] w fun e w' => e = .returned (.int .i64 (upD a b)) ∧ w = w' := by
  go_enter Tryd.func78, Tryd.ntmps78
  go_wp2
  go_ret
  exact ⟨rfl, rfl⟩
theorem By_any (n p : Int) (w : World) (h0 : 0 ≤ n) (h1 : n ≤ 2000000000000) (h2 : 0 ≤ p) (h3 : p ≤ 3000) :
    Calls Tryd.prog 109 #[.int .i64 n, .int .i64 p] w fun e w' => e = .returned (.int .i64 (byP n p)) ∧ w = w' := by
  obtain ⟨m1, m2⟩ := mul_bd h0 h1 h2 h3
  go_enter Tryd.func109, Tryd.ntmps109
  go_wp2_with (go_at_call 78; refine (Up_any _ _ _ (by omega) (by omega) (by omega) (by omega)).mono ?_; rintro e w' ⟨rfl, rfl⟩)
  go_ret
  exact ⟨rfl, rfl⟩
theorem drift_whole (lo hi : Int) (w : World) :
    Calls Tryd.prog 85 #[.int .i64 lo, .int .i64 hi] w fun e w' => e = .returned (.tuple #[.agg #[.int .i64 (whole lo hi).lo, .int .i64 (whole lo hi).hi], errV (whole lo hi).c]) ∧ Below w.heap.size w w' := by
  by_cases h : rightB lo hi = true
  all_goals
    go_enter Tryd.func85, Tryd.ntmps85
    go_wp2_with fail
    (try (go_at_call 82; refine (Right_any _ _ _).mono ?_; rintro e w1 ⟨rfl, hb1⟩; obtain ⟨hc1, hf1⟩ := bcell hb1; have hz1 := hb1.size; (try simp at hz1); (try have q1_0_0_0 : w.heap.size < w1.heap.size := by omega); (try have q1_0_0_2 : w.heap.size < w1.heap.size + 1 + 1 := by omega); (try have q1_0_0_3 : w.heap.size < w1.heap.size + 1 + 1 + 1 := by omega); (try have q1_0_1_0 : w.heap.size + 1 < w1.heap.size := by omega); (try have q1_0_1_2 : w.heap.size + 1 < w1.heap.size + 1 + 1 := by omega); (try have q1_0_1_3 : w.heap.size + 1 < w1.heap.size + 1 + 1 + 1 := by omega); (try have q1_0_2_0 : w.heap.size + 1 + 1 < w1.heap.size := by omega); (try have q1_0_2_2 : w.heap.size + 1 + 1 < w1.heap.size + 1 + 1 := by omega); (try have q1_0_2_3 : w.heap.size + 1 + 1 < w1.heap.size + 1 + 1 + 1 := by omega); (try have q1_0_3_0 : w.heap.size + 1 + 1 + 1 < w1.heap.size := by omega); (try have q1_0_3_2 : w.heap.size + 1 + 1 + 1 < w1.heap.size + 1 + 1 := by omega); (try have q1_0_3_3 : w.heap.size + 1 + 1 + 1 < w1.heap.size + 1 + 1 + 1 := by omega); (try go_wp2_with fail)))
    refine bodyPost_ret (v := (.tuple #[.agg #[.int .i64 (whole lo hi).lo, .int .i64 (whole lo hi).hi], errV (whole lo hi).c])) (by simp [results, Tryd.results85, go_sem, errV, whole, *]) rfl ⟨rfl, ?_⟩; exact (by repeat (first | with_reducible exact Below.refl _ _ | (with_reducible refine Below.alloc ?_ (by first | omega | (simp; done) | (simp; omega)) _) | (with_reducible refine Below.setCell ?_ (by first | omega | (simp; done) | (simp; omega)) _) | (with_reducible refine Below.drew ?_) | (with_reducible refine below_drewN ?_ _) | (with_reducible assumption) | (with_reducible refine bel_step (by with_reducible assumption) ?_ (by first | omega | (simp; done) | (simp; omega)))))
theorem Least_any (n p : Int) (w : World) (r0 : 0 ≤ n) (r1 : n ≤ 1000000000000) (r2 : 0 ≤ p) (r3 : p ≤ 1000) :
    Calls Tryd.prog 86 #[.int .i64 n, .int .i64 p] w fun e w' => e = .returned (.int .i64 (leastD n p)) ∧ w = w' := by
  go_enter Tryd.func86, Tryd.ntmps86
  go_wp2
  go_ret
  exact ⟨rfl, rfl⟩
theorem True_any (n p : Int) (w : World) :
    Calls Tryd.prog 34 #[.int .i64 n, .int .i64 p] w fun e w' => e = .returned (.tuple #[.agg #[.int .i64 (trueS n p).lo, .int .i64 (trueS n p).hi], errV (trueS n p).c]) ∧ Below w.heap.size w w' := by
  by_cases h : readyB n p = true
  · obtain ⟨r0, r1, r2, r3⟩ := readyB_iff.1 h
    go_enter Tryd.func34, Tryd.ntmps34
    go_wp2_with fail
    (try (go_at_call 84; refine (drift_ready _ _ _).mono ?_; rintro e w' ⟨rfl, rfl⟩; (try go_wp2_with fail)))
    (try (go_at_call 86; refine (Least_any _ _ _ (by omega) (by omega) (by omega) (by omega)).mono ?_; rintro e w' ⟨rfl, rfl⟩; (try go_wp2_with fail)))
    (try (go_at_call 78; refine (Up_any _ _ _ (by omega) (by omega) (by omega) (by omega)).mono ?_; rintro e w' ⟨rfl, rfl⟩; (try go_wp2_with fail)))
    (try (go_at_call 85; refine (drift_whole _ _ _).mono ?_; rintro e w1 ⟨rfl, hb1⟩; obtain ⟨hc1, hf1⟩ := bcell hb1; have hz1 := hb1.size; (try simp at hz1); (try have q1_0_0_0 : w.heap.size < w1.heap.size := by omega); (try have q1_0_0_2 : w.heap.size < w1.heap.size + 1 + 1 := by omega); (try have q1_0_0_3 : w.heap.size < w1.heap.size + 1 + 1 + 1 := by omega); (try have q1_0_1_0 : w.heap.size + 1 < w1.heap.size := by omega); (try have q1_0_1_2 : w.heap.size + 1 < w1.heap.size + 1 + 1 := by omega); (try have q1_0_1_3 : w.heap.size + 1 < w1.heap.size + 1 + 1 + 1 := by omega); (try have q1_0_2_0 : w.heap.size + 1 + 1 < w1.heap.size := by omega); (try have q1_0_2_2 : w.heap.size + 1 + 1 < w1.heap.size + 1 + 1 := by omega); (try have q1_0_2_3 : w.heap.size + 1 + 1 < w1.heap.size + 1 + 1 + 1 := by omega); (try have q1_0_3_0 : w.heap.size + 1 + 1 + 1 < w1.heap.size := by omega); (try have q1_0_3_2 : w.heap.size + 1 + 1 + 1 < w1.heap.size + 1 + 1 := by omega); (try have q1_0_3_3 : w.heap.size + 1 + 1 + 1 < w1.heap.size + 1 + 1 + 1 := by omega); (try go_wp2_with fail)))
    refine bodyPost_ret (v := (.tuple #[.agg #[.int .i64 (trueS n p).lo, .int .i64 (trueS n p).hi], errV (trueS n p).c])) (by simp [results, Tryd.results34, go_sem, errV, trueS, *]) rfl ⟨rfl, ?_⟩; exact (by repeat (first | with_reducible exact Below.refl _ _ | (with_reducible refine Below.alloc ?_ (by first | omega | (simp; done) | (simp; omega)) _) | (with_reducible refine Below.setCell ?_ (by first | omega | (simp; done) | (simp; omega)) _) | (with_reducible refine Below.drew ?_) | (with_reducible refine below_drewN ?_ _) | (with_reducible assumption) | (with_reducible refine bel_step (by with_reducible assumption) ?_ (by first | omega | (simp; done) | (simp; omega)))))
  · go_enter Tryd.func34, Tryd.ntmps34
    go_wp2_with fail
    (try (go_at_call 84; refine (drift_ready _ _ _).mono ?_; rintro e w' ⟨rfl, rfl⟩; (try go_wp2_with fail)))
    refine bodyPost_ret (v := (.tuple #[.agg #[.int .i64 (trueS n p).lo, .int .i64 (trueS n p).hi], errV (trueS n p).c])) (by simp [results, Tryd.results34, go_sem, errV, trueS, *]) rfl ⟨rfl, ?_⟩; exact (by repeat (first | with_reducible exact Below.refl _ _ | (with_reducible refine Below.alloc ?_ (by first | omega | (simp; done) | (simp; omega)) _) | (with_reducible refine Below.setCell ?_ (by first | omega | (simp; done) | (simp; omega)) _) | (with_reducible refine Below.drew ?_) | (with_reducible refine below_drewN ?_ _) | (with_reducible assumption) | (with_reducible refine bel_step (by with_reducible assumption) ?_ (by first | omega | (simp; done) | (simp; omega)))))
