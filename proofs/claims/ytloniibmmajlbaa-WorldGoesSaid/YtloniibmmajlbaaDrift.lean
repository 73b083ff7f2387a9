/- Package drift, walked. -/
import Derived.Test.YtloniibmmajlbaaSpan
namespace Go.Proofs.Ytloniibmmajlbaa
open Go.RowKit
set_option linter.unusedVariables false
set_option linter.unusedSimpArgs false
theorem Rate_any (n : Int) (w : World) :
    Calls Try.prog 9 #[.int .i64 n] w fun e w' => e = .returned (.bool (rateB n)) ∧ w = w' := by
  go_enter Try.func9, Try.ntmps9
  go_wp2
  all_goals (go_ret; exact ⟨ret_bool (by simp [rateB]; try omega), rfl⟩)
theorem drift_ready (n p : Int) (w : World) :
    Calls Try.prog 14 #[.int .i64 n, .int .i64 p] w fun e w' => e = .returned (.bool (readyB n p)) ∧ w = w' := by
  go_enter Try.func14, Try.ntmps14
  go_wp2_with (go_at_call 9; refine (Rate_any _ _).mono ?_; rintro e w' ⟨rfl, rfl⟩)
  all_goals (go_ret; exact ⟨ret_bool (by simp_all [readyB]; try omega), rfl⟩)
theorem Up_any (a b : Int) (w : World) (h0 : 0 ≤ a) (h1 : a ≤ 4000000000000000000) (h2 : 1 ≤ b) (h3 : b ≤ 2000000) :
    Calls Try.prog 16 #[.int .i64 a, .int .i64 b] w fun e w' => e = .returned (.int .i64 (upD a b)) ∧ w = w' := by
  go_enter Try.func16, Try.ntmps16
  go_wp2
  go_ret
  exact ⟨rfl, rfl⟩
theorem drift_whole (lo hi : Int) (w : World) :
    Calls Try.prog 15 #[.int .i64 lo, .int .i64 hi] w fun e w' => e = .returned (.tuple #[.agg #[.int .i64 (whole lo hi).lo, .int .i64 (whole lo hi).hi], errV (whole lo hi).c]) ∧ Below w.heap.size w w' := by
  by_cases h : rightB lo hi = true
  all_goals
    go_enter Try.func15, Try.ntmps15
    go_wp2_with fail
    (try (go_at_call 18; refine (Right_any _ _ _).mono ?_; rintro e w1 ⟨rfl, hb1⟩; obtain ⟨hc1, hf1⟩ := bcell hb1; have hz1 := hb1.size; (try simp at hz1); (try have q1_0_0_0 : w.heap.size < w1.heap.size := by omega); (try have q1_0_0_2 : w.heap.size < w1.heap.size + 1 + 1 := by omega); (try have q1_0_0_3 : w.heap.size < w1.heap.size + 1 + 1 + 1 := by omega); (try have q1_0_1_0 : w.heap.size + 1 < w1.heap.size := by omega); (try have q1_0_1_2 : w.heap.size + 1 < w1.heap.size + 1 + 1 := by omega); (try have q1_0_1_3 : w.heap.size + 1 < w1.heap.size + 1 + 1 + 1 := by omega); (try have q1_0_2_0 : w.heap.size + 1 + 1 < w1.heap.size := by omega); (try have q1_0_2_2 : w.heap.size + 1 + 1 < w1.heap.size + 1 + 1 := by omega); (try have q1_0_2_3 : w.heap.size + 1 + 1 < w1.heap.size + 1 + 1 + 1 := by omega); (try have q1_0_3_0 : w.heap.size + 1 + 1 + 1 < w1.heap.size := by omega); (try have q1_0_3_2 : w.heap.size + 1 + 1 + 1 < w1.heap.size + 1 + 1 := by omega); (try have q1_0_3_3 : w.heap.size + 1 + 1 + 1 < w1.heap.size + 1 + 1 + 1 := by omega); (try go_wp2_with fail)))
    refine bodyPost_ret (v := (.tuple #[.agg #[.int .i64 (whole lo hi).lo, .int .i64 (whole lo hi).hi], errV (whole lo hi).c])) (by simp [results, Try.results15, go_sem, errV, whole, *]) rfl ⟨rfl, ?_⟩; exact (by repeat (first | with_reducible exact Below.refl _ _ | (with_reducible refine Below.alloc ?_ (by first | omega | (simp; done) | (simp; omega)) _) | (with_reducible refine Below.setCell ?_ (by first | omega | (simp; done) | (simp; omega)) _) | (with_reducible refine Below.drew ?_) | (with_reducible refine below_drewN ?_ _) | (with_reducible assumption) | (with_reducible refine bel_step (by with_reducible assumption) ?_ (by first | omega | (simp; done) | (simp; omega)))))
theorem Local_any (n p : Int) (w : World) :
    Calls Try.prog 8 #[.int .i64 n, .int .i64 p] w fun e w' => e = .returned (.tuple #[.agg #[.int .i64 (localS n p).lo, .int .i64 (localS n p).hi], errV (localS n p).c]) ∧ Below w.heap.size w w' := by
  by_cases h : readyB n p = true
  · obtain ⟨r0, r1, r2, r3⟩ := readyB_iff.1 h
    obtain ⟨m1, m2⟩ := mul_bd r0 r1 (show (0:Int) ≤ 1000000 - p by omega) (show 1000000 - p ≤ 1000000 by omega)
    obtain ⟨m3, m4⟩ := mul_bd r0 r1 (show (0:Int) ≤ 1000000 + p by omega) (show 1000000 + p ≤ 1001000 by omega)
    go_enter Try.func8, Try.ntmps8
    go_wp2_with fail
    (try (go_at_call 14; refine (drift_ready _ _ _).mono ?_; rintro e w' ⟨rfl, rfl⟩; (try go_wp2_with fail)))
    (try (go_at_call 16; refine (Up_any _ _ _ (by omega) (by omega) (by omega) (by omega)).mono ?_; rintro e w' ⟨rfl, rfl⟩; (try go_wp2_with fail)))
    (try (go_at_call 15; refine (drift_whole _ _ _).mono ?_; rintro e w1 ⟨rfl, hb1⟩; obtain ⟨hc1, hf1⟩ := bcell hb1; have hz1 := hb1.size; (try simp at hz1); (try have q1_0_0_0 : w.heap.size < w1.heap.size := by omega); (try have q1_0_0_2 : w.heap.size < w1.heap.size + 1 + 1 := by omega); (try have q1_0_0_3 : w.heap.size < w1.heap.size + 1 + 1 + 1 := by omega); (try have q1_0_1_0 : w.heap.size + 1 < w1.heap.size := by omega); (try have q1_0_1_2 : w.heap.size + 1 < w1.heap.size + 1 + 1 := by omega); (try have q1_0_1_3 : w.heap.size + 1 < w1.heap.size + 1 + 1 + 1 := by omega); (try have q1_0_2_0 : w.heap.size + 1 + 1 < w1.heap.size := by omega); (try have q1_0_2_2 : w.heap.size + 1 + 1 < w1.heap.size + 1 + 1 := by omega); (try have q1_0_2_3 : w.heap.size + 1 + 1 < w1.heap.size + 1 + 1 + 1 := by omega); (try have q1_0_3_0 : w.heap.size + 1 + 1 + 1 < w1.heap.size := by omega); (try have q1_0_3_2 : w.heap.size + 1 + 1 + 1 < w1.heap.size + 1 + 1 := by omega); (try have q1_0_3_3 : w.heap.size + 1 + 1 + 1 < w1.heap.size + 1 + 1 + 1 := by omega); (try go_wp2_with fail)))
    refine bodyPost_ret (v := (.tuple #[.agg #[.int .i64 (localS n p).lo, .int .i64 (localS n p).hi], errV (localS n p).c])) (by simp [results, Try.results8, go_sem, errV, localS, *]) rfl ⟨rfl, ?_⟩; exact (by repeat (first | with_reducible exact Below.refl _ _ | (with_reducible refine Below.alloc ?_ (by first | omega | (simp; done) | (simp; omega)) _) | (with_reducible refine Below.setCell ?_ (by first | omega | (simp; done) | (simp; omega)) _) | (with_reducible refine Below.drew ?_) | (with_reducible refine below_drewN ?_ _) | (with_reducible assumption) | (with_reducible refine bel_step (by with_reducible assumption) ?_ (by first | omega | (simp; done) | (simp; omega)))))
  · go_enter Try.func8, Try.ntmps8
    go_wp2_with fail
    (try (go_at_call 14; refine (drift_ready _ _ _).mono ?_; rintro e w' ⟨rfl, rfl⟩; (try go_wp2_with fail)))
    refine bodyPost_ret (v := (.tuple #[.agg #[.int .i64 (localS n p).lo, .int .i64 (localS n p).hi], errV (localS n p).c])) (by simp [results, Try.results8, go_sem, errV, localS, *]) rfl ⟨rfl, ?_⟩; exact (by repeat (first | with_reducible exact Below.refl _ _ | (with_reducible refine Below.alloc ?_ (by first | omega | (simp; done) | (simp; omega)) _) | (with_reducible refine Below.setCell ?_ (by first | omega | (simp; done) | (simp; omega)) _) | (with_reducible refine Below.drew ?_) | (with_reducible refine below_drewN ?_ _) | (with_reducible assumption) | (with_reducible refine bel_step (by with_reducible assumption) ?_ (by first | omega | (simp; done) | (simp; omega)))))
