/- Package drift, walked. -/
import Derived.Test.YtekhafhgodkkcaaDoorSpan
namespace Go.Proofs.YtekhafhgodkkcaaDoor
open Go.RowKit
set_option linter.unusedVariables false
set_option linter.unusedSimpArgs false
theorem Rate_any (n : Int) (w : World) :
    Calls Tryd.prog 31 #[.int .i64 n] w fun e w' => e = .returned (.bool (rateB n)) ∧ w = w' := by
  go_enter Tryd.func31, Tryd.ntmps31
  go_wp2
  all_goals (go_ret; exact ⟨ret_bool (by simp [rateB]; try omega), rfl⟩)
theorem drift_ready (n p : Int) (w : World) :
    Calls Tryd.prog 20 #[.int .i64 n, .int .i64 p] w fun e w' => e = .returned (.bool (readyB n p)) ∧ w = w' := by
  go_enter Tryd.func20, Tryd.ntmps20
  go_wp2_with (go_at_call 31; refine (Rate_any _ _).mono ?_; rintro e w' ⟨rfl, rfl⟩)
  all_goals (go_ret; exact ⟨ret_bool (by simp_all [readyB]; try omega), rfl⟩)
theorem Up_any (a b : Int) (w : World) (h0 : 0 ≤ a) (h1 : a ≤ 4000000000000000000) (h2 : 1 ≤ b) (h3 : b ≤ 2000000) :
    Calls Tryd.prog 22 #[.int .i64 a, .int .i64 b] w fun e w' => e = .returned (.int .i64 (upD a b)) ∧ w = w' := by
  go_enter Tryd.func22, Tryd.ntmps22
  go_wp2
  go_ret
  exact ⟨rfl, rfl⟩
theorem By_any (n p : Int) (w : World) (h0 : 0 ≤ n) (h1 : n ≤ 2000000000000) (h2 : 0 ≤ p) (h3 : p ≤ 3000) :
    Calls Tryd.prog 25 #[.int .i64 n, .int .i64 p] w fun e w' => e = .returned (.int .i64 (byP n p)) ∧ w = w' := by
  obtain ⟨m1, m2⟩ := mul_bd h0 h1 h2 h3
  go_enter Tryd.func25, Tryd.ntmps25
  go_wp2_with (go_at_call 22; refine (Up_any _ _ _ (by omega) (by omega) (by omega) (by omega)).mono ?_; rintro e w' ⟨rfl, rfl⟩)
  go_ret
  exact ⟨rfl, rfl⟩
theorem Grow_any (n p : Int) (w : World) :
    Calls Tryd.prog 11 #[.int .i64 n, .int .i64 p] w fun e w' => e = .returned (.tuple #[.int .i64 (growV n p), errV (growC n p)]) ∧ w = w' := by
  by_cases h : readyB n p = true
  · obtain ⟨r0, r1, r2, r3⟩ := readyB_iff.1 h
    go_enter Tryd.func11, Tryd.ntmps11
    go_wp2_with (first | (go_at_call 20; refine (drift_ready _ _ _).mono ?_; rintro e w' ⟨rfl, rfl⟩) | (go_at_call 25; refine (By_any _ _ _ (by omega) (by omega) (by omega) (by omega)).mono ?_; rintro e w' ⟨rfl, rfl⟩))
    go_ret2
    exact ⟨by simp [growV, growC, h, okC, errV], rfl⟩
  · go_enter Tryd.func11, Tryd.ntmps11
    go_wp2_with (go_at_call 20; refine (drift_ready _ _ _).mono ?_; rintro e w' ⟨rfl, rfl⟩)
    go_ret2
    exact ⟨by simp [growV, growC, h, okC, errV], rfl⟩
theorem drift_whole (lo hi : Int) (w : World) :
    Calls Tryd.prog 21 #[.int .i64 lo, .int .i64 hi] w fun e w' => e = .returned (.tuple #[.agg #[.int .i64 (whole lo hi).lo, .int .i64 (whole lo hi).hi], errV (whole lo hi).c]) ∧ Below w.heap.size w w' := by
  by_cases h : rightB lo hi = true
  all_goals
    go_enter Tryd.func21, Tryd.ntmps21
    go_wp2_with fail
    (try (go_at_call 27; refine (Right_any _ _ _).mono ?_; rintro e w1 ⟨rfl, hb1⟩; obtain ⟨hc1, hf1⟩ := bcell hb1; have hz1 := hb1.size; (try simp at hz1); (try have q1_0_0_0 : w.heap.size < w1.heap.size := by omega); (try have q1_0_0_2 : w.heap.size < w1.heap.size + 1 + 1 := by omega); (try have q1_0_0_3 : w.heap.size < w1.heap.size + 1 + 1 + 1 := by omega); (try have q1_0_1_0 : w.heap.size + 1 < w1.heap.size := by omega); (try have q1_0_1_2 : w.heap.size + 1 < w1.heap.size + 1 + 1 := by omega); (try have q1_0_1_3 : w.heap.size + 1 < w1.heap.size + 1 + 1 + 1 := by omega); (try have q1_0_2_0 : w.heap.size + 1 + 1 < w1.heap.size := by omega); (try have q1_0_2_2 : w.heap.size + 1 + 1 < w1.heap.size + 1 + 1 := by omega); (try have q1_0_2_3 : w.heap.size + 1 + 1 < w1.heap.size + 1 + 1 + 1 := by omega); (try have q1_0_3_0 : w.heap.size + 1 + 1 + 1 < w1.heap.size := by omega); (try have q1_0_3_2 : w.heap.size + 1 + 1 + 1 < w1.heap.size + 1 + 1 := by omega); (try have q1_0_3_3 : w.heap.size + 1 + 1 + 1 < w1.heap.size + 1 + 1 + 1 := by omega); (try go_wp2_with fail)))
    refine bodyPost_ret (v := (.tuple #[.agg #[.int .i64 (whole lo hi).lo, .int .i64 (whole lo hi).hi], errV (whole lo hi).c])) (by simp [results, Tryd.results21, go_sem, errV, whole, *]) rfl ⟨rfl, ?_⟩; exact (by repeat (first | with_reducible exact Below.refl _ _ | (with_reducible refine Below.alloc ?_ (by first | omega | (simp; done) | (simp; omega)) _) | (with_reducible refine Below.setCell ?_ (by first | omega | (simp; done) | (simp; omega)) _) | (with_reducible refine Below.drew ?_) | (with_reducible refine below_drewN ?_ _) | (with_reducible assumption) | (with_reducible refine bel_step (by with_reducible assumption) ?_ (by first | omega | (simp; done) | (simp; omega)))))
theorem Local_any (n p : Int) (w : World) :
    Calls Tryd.prog 6 #[.int .i64 n, .int .i64 p] w fun e w' => e = .returned (.tuple #[.agg #[.int .i64 (localS n p).lo, .int .i64 (localS n p).hi], errV (localS n p).c]) ∧ Below w.heap.size w w' := by
  by_cases h : readyB n p = true
  · obtain ⟨r0, r1, r2, r3⟩ := readyB_iff.1 h
    obtain ⟨m1, m2⟩ := mul_bd r0 r1 (show (0:Int) ≤ 1000000 - p by omega) (show 1000000 - p ≤ 1000000 by omega)
    obtain ⟨m3, m4⟩ := mul_bd r0 r1 (show (0:Int) ≤ 1000000 + p by omega) (show 1000000 + p ≤ 1001000 by omega)
    go_enter Tryd.func6, Tryd.ntmps6
    go_wp2_with fail
    (try (go_at_call 20; refine (drift_ready _ _ _).mono ?_; rintro e w' ⟨rfl, rfl⟩; (try go_wp2_with fail)))
    (try (go_at_call 22; refine (Up_any _ _ _ (by omega) (by omega) (by omega) (by omega)).mono ?_; rintro e w' ⟨rfl, rfl⟩; (try go_wp2_with fail)))
    (try (go_at_call 21; refine (drift_whole _ _ _).mono ?_; rintro e w1 ⟨rfl, hb1⟩; obtain ⟨hc1, hf1⟩ := bcell hb1; have hz1 := hb1.size; (try simp at hz1); (try have q1_0_0_0 : w.heap.size < w1.heap.size := by omega); (try have q1_0_0_2 : w.heap.size < w1.heap.size + 1 + 1 := by omega); (try have q1_0_0_3 : w.heap.size < w1.heap.size + 1 + 1 + 1 := by omega); (try have q1_0_1_0 : w.heap.size + 1 < w1.heap.size := by omega); (try have q1_0_1_2 : w.heap.size + 1 < w1.heap.size + 1 + 1 := by omega); (try have q1_0_1_3 : w.heap.size + 1 < w1.heap.size + 1 + 1 + 1 := by omega); (try have q1_0_2_0 : w.heap.size + 1 + 1 < w1.heap.size := by omega); (try have q1_0_2_2 : w.heap.size + 1 + 1 < w1.heap.size + 1 + 1 := by omega); (try have q1_0_2_3 : w.heap.size + 1 + 1 < w1.heap.size + 1 + 1 + 1 := by omega); (try have q1_0_3_0 : w.heap.size + 1 + 1 + 1 < w1.heap.size := by omega); (try have q1_0_3_2 : w.heap.size + 1 + 1 + 1 < w1.heap.size + 1 + 1 := by omega); (try have q1_0_3_3 : w.heap.size + 1 + 1 + 1 < w1.heap.size + 1 + 1 + 1 := by omega); (try go_wp2_with fail)))
    refine bodyPost_ret (v := (.tuple #[.agg #[.int .i64 (localS n p).lo, .int .i64 (localS n p).hi], errV (localS n p).c])) (by simp [results, Tryd.results6, go_sem, errV, localS, *]) rfl ⟨rfl, ?_⟩; exact (by repeat (first | with_reducible exact Below.refl _ _ | (with_reducible refine Below.alloc ?_ (by first | omega | (simp; done) | (simp; omega)) _) | (with_reducible refine Below.setCell ?_ (by first | omega | (simp; done) | (simp; omega)) _) | (with_reducible refine Below.drew ?_) | (with_reducible refine below_drewN ?_ _) | (with_reducible assumption) | (with_reducible refine bel_step (by with_reducible assumption) ?_ (by first | omega | (simp; done) | (simp; omega)))))
  · go_enter Tryd.func6, Tryd.ntmps6
    go_wp2_with fail
    (try (go_at_call 20; refine (drift_ready _ _ _).mono ?_; rintro e w' ⟨rfl, rfl⟩; (try go_wp2_with fail)))
    refine bodyPost_ret (v := (.tuple #[.agg #[.int .i64 (localS n p).lo, .int .i64 (localS n p).hi], errV (localS n p).c])) (by simp [results, Tryd.results6, go_sem, errV, localS, *]) rfl ⟨rfl, ?_⟩; exact (by repeat (first | with_reducible exact Below.refl _ _ | (with_reducible refine Below.alloc ?_ (by first | omega | (simp; done) | (simp; omega)) _) | (with_reducible refine Below.setCell ?_ (by first | omega | (simp; done) | (simp; omega)) _) | (with_reducible refine Below.drew ?_) | (with_reducible refine below_drewN ?_ _) | (with_reducible assumption) | (with_reducible refine bel_step (by with_reducible assumption) ?_ (by first | omega | (simp; done) | (simp; omega)))))
theorem Least_any (n p : Int) (w : World) (r0 : 0 ≤ n) (r1 : n ≤ 1000000000000) (r2 : 0 ≤ p) (r3 : p ≤ 1000) :
    Calls Tryd.prog 23 #[.int .i64 n, .int .i64 p] w fun e w' => e = .returned (.int .i64 (leastD n p)) ∧ w = w' := by
  go_enter Tryd.func23, Tryd.ntmps23
  go_wp2
  go_ret
  exact ⟨rfl, rfl⟩
theorem True_any (n p : Int) (w : World) :
    Calls Tryd.prog 7 #[.int .i64 n, .int .i64 p] w fun e w' => e = .returned (.tuple #[.agg #[.int .i64 (trueS n p).lo, .int .i64 (trueS n p).hi], errV (trueS n p).c]) ∧ Below w.heap.size w w' := by
  by_cases h : readyB n p = true
  · obtain ⟨r0, r1, r2, r3⟩ := readyB_iff.1 h
    go_enter Tryd.func7, Tryd.ntmps7
    go_wp2_with fail
    (try (go_at_call 20; refine (drift_ready _ _ _).mono ?_; rintro e w' ⟨rfl, rfl⟩; (try go_wp2_with fail)))
    (try (go_at_call 23; refine (Least_any _ _ _ (by omega) (by omega) (by omega) (by omega)).mono ?_; rintro e w' ⟨rfl, rfl⟩; (try go_wp2_with fail)))
    (try (go_at_call 22; refine (Up_any _ _ _ (by omega) (by omega) (by omega) (by omega)).mono ?_; rintro e w' ⟨rfl, rfl⟩; (try go_wp2_with fail)))
    (try (go_at_call 21; refine (drift_whole _ _ _).mono ?_; rintro e w1 ⟨rfl, hb1⟩; obtain ⟨hc1, hf1⟩ := bcell hb1; have hz1 := hb1.size; (try simp at hz1); (try have q1_0_0_0 : w.heap.size < w1.heap.size := by omega); (try have q1_0_0_2 : w.heap.size < w1.heap.size + 1 + 1 := by omega); (try have q1_0_0_3 : w.heap.size < w1.heap.size + 1 + 1 + 1 := by omega); (try have q1_0_1_0 : w.heap.size + 1 < w1.heap.size := by omega); (try have q1_0_1_2 : w.heap.size + 1 < w1.heap.size + 1 + 1 := by omega); (try have q1_0_1_3 : w.heap.size + 1 < w1.heap.size + 1 + 1 + 1 := by omega); (try have q1_0_2_0 : w.heap.size + 1 + 1 < w1.heap.size := by omega); (try have q1_0_2_2 : w.heap.size + 1 + 1 < w1.heap.size + 1 + 1 := by omega); (try have q1_0_2_3 : w.heap.size + 1 + 1 < w1.heap.size + 1 + 1 + 1 := by omega); (try have q1_0_3_0 : w.heap.size + 1 + 1 + 1 < w1.heap.size := by omega); (try have q1_0_3_2 : w.heap.size + 1 + 1 + 1 < w1.heap.size + 1 + 1 := by omega); (try have q1_0_3_3 : w.heap.size + 1 + 1 + 1 < w1.heap.size + 1 + 1 + 1 := by omega); (try go_wp2_with fail)))
    refine bodyPost_ret (v := (.tuple #[.agg #[.int .i64 (trueS n p).lo, .int .i64 (trueS n p).hi], errV (trueS n p).c])) (by simp [results, Tryd.results7, go_sem, errV, trueS, *]) rfl ⟨rfl, ?_⟩; exact (by repeat (first | with_reducible exact Below.refl _ _ | (with_reducible refine Below.alloc ?_ (by first | omega | (simp; done) | (simp; omega)) _) | (with_reducible refine Below.setCell ?_ (by first | omega | (simp; done) | (simp; omega)) _) | (with_reducible refine Below.drew ?_) | (with_reducible refine below_drewN ?_ _) | (with_reducible assumption) | (with_reducible refine bel_step (by with_reducible assumption) ?_ (by first | omega | (simp; done) | (simp; omega)))))
  · go_enter Tryd.func7, Tryd.ntmps7
    go_wp2_with fail
    (try (go_at_call 20; refine (drift_ready _ _ _).mono ?_; rintro e w' ⟨rfl, rfl⟩; (try go_wp2_with fail)))
    refine bodyPost_ret (v := (.tuple #[.agg #[.int .i64 (trueS n p).lo, .int .i64 (trueS n p).hi], errV (trueS n p).c])) (by simp [results, Tryd.results7, go_sem, errV, trueS, *]) rfl ⟨rfl, ?_⟩; exact (by repeat (first | with_reducible exact Below.refl _ _ | (with_reducible refine Below.alloc ?_ (by first | omega | (simp; done) | (simp; omega)) _) | (with_reducible refine Below.setCell ?_ (by first | omega | (simp; done) | (simp; omega)) _) | (with_reducible refine Below.drew ?_) | (with_reducible refine below_drewN ?_ _) | (with_reducible assumption) | (with_reducible refine bel_step (by with_reducible assumption) ?_ (by first | omega | (simp; done) | (simp; omega)))))
theorem Age_any (a b n p : Int) (w : World) :
    Calls Tryd.prog 13 #[.agg #[.int .i64 a, .int .i64 b], .int .i64 n, .int .i64 p] w fun e w' => e = .returned (.tuple #[.agg #[.int .i64 (ageS a b n p).lo, .int .i64 (ageS a b n p).hi], errV (ageS a b n p).c]) ∧ Below w.heap.size w w' := by
  by_cases h1 : rightB a b = true
  · by_cases h2 : readyB n p = true
    · obtain ⟨r0, r1, r2, r3⟩ := readyB_iff.1 h2
      have hv := Lib.hid (show ageS a b n p = widen a b (byP n p) by unfold ageS; rw [if_pos ⟨h1, h2⟩])
      go_enter Tryd.func13, Tryd.ntmps13
      go_wp2_with fail
      (try (go_at_call 27; refine (Right_any _ _ _).mono ?_; rintro e w1 ⟨rfl, hb1⟩; obtain ⟨hc1, hf1⟩ := bcell hb1; have hz1 := hb1.size; (try simp at hz1); (try have q1_0_0_0 : w.heap.size < w1.heap.size := by omega); (try have q1_0_0_2 : w.heap.size < w1.heap.size + 1 + 1 := by omega); (try have q1_0_0_3 : w.heap.size < w1.heap.size + 1 + 1 + 1 := by omega); (try have q1_0_1_0 : w.heap.size + 1 < w1.heap.size := by omega); (try have q1_0_1_2 : w.heap.size + 1 < w1.heap.size + 1 + 1 := by omega); (try have q1_0_1_3 : w.heap.size + 1 < w1.heap.size + 1 + 1 + 1 := by omega); (try have q1_0_2_0 : w.heap.size + 1 + 1 < w1.heap.size := by omega); (try have q1_0_2_2 : w.heap.size + 1 + 1 < w1.heap.size + 1 + 1 := by omega); (try have q1_0_2_3 : w.heap.size + 1 + 1 < w1.heap.size + 1 + 1 + 1 := by omega); (try have q1_0_3_0 : w.heap.size + 1 + 1 + 1 < w1.heap.size := by omega); (try have q1_0_3_2 : w.heap.size + 1 + 1 + 1 < w1.heap.size + 1 + 1 := by omega); (try have q1_0_3_3 : w.heap.size + 1 + 1 + 1 < w1.heap.size + 1 + 1 + 1 := by omega); (try go_wp2_with fail)))
      (try (go_at_call 20; refine (drift_ready _ _ _).mono ?_; rintro e w' ⟨rfl, rfl⟩; (try go_wp2_with fail)))
      (try (go_at_call 25; refine (By_any _ _ _ (by omega) (by omega) (by omega) (by omega)).mono ?_; rintro e w' ⟨rfl, rfl⟩; (try go_wp2_with fail)))
      have m0 : w1.cell? ⟨w.heap.size, 0, none⟩ = some (.int .i64 a) := by rw [hc1 _ _ (by simp; omega)]; simp
      have m1 : w1.cell? ⟨w.heap.size, 1, none⟩ = some (.int .i64 b) := by rw [hc1 _ _ (by simp; omega)]; simp
      have r4 : w1.cell? ⟨w.heap.size + 1, 0, none⟩ = some (.int .i64 0) := by rw [hc1 _ _ (by simp)]; simp
      have r5 : w1.cell? ⟨w.heap.size + 1, 1, none⟩ = some (.int .i64 0) := by rw [hc1 _ _ (by simp)]; simp
      have r6 : w1.frozen? ⟨w.heap.size + 1, 0, none⟩ = false := by rw [hf1 _ _ (by simp)]; simp
      have r7 : w1.frozen? ⟨w.heap.size + 1, 1, none⟩ = false := by rw [hf1 _ _ (by simp)]; simp
      have s1 : 0 ≤ n := r0
      have s2 : n ≤ 2000000000000 := by omega
      have s3 : p ≤ 3000 := by omega
      clear hc1 hf1
      go_region_held3 (fun w' => w'.cell? ⟨w.heap.size, 0, none⟩ = some (.int .i64 a) ∧ w'.cell? ⟨w.heap.size, 1, none⟩ = some (.int .i64 b))
        (first | go_keep | (refine ⟨?_, ?_⟩ <;> (rw [(bcell hb2).1 _ _ (by simp; omega)]; first | assumption | simpa)))
        (first | (go_at_call 25; refine (By_any _ _ _ s1 s2 r2 s3).mono ?_; rintro e w' ⟨rfl, rfl⟩) | (go_at_call 28; refine (span_Widen _ _ _ _).mono ?_; rintro e w2 ⟨rfl, hb2⟩; have t4 := ((bcell hb2).1 (w.heap.size + 1) 0 (by simp; omega)).trans r4; have t5 := ((bcell hb2).1 (w.heap.size + 1) 1 (by simp; omega)).trans r5; have t6 := ((bcell hb2).2 (w.heap.size + 1) 0 (by simp; omega)).trans r6; have t7 := ((bcell hb2).2 (w.heap.size + 1) 1 (by simp; omega)).trans r7))
      go_wp2_with fail
      rw [hv.out]
      refine bodyPost_ret (v := (.tuple #[.agg #[.int .i64 (widen a b (byP n p)).lo, .int .i64 (widen a b (byP n p)).hi], errV (widen a b (byP n p)).c])) (by simp [results, Tryd.results13, go_sem, errV, okC, *]) rfl ⟨rfl, ?_⟩; exact (by repeat (first | with_reducible exact Below.refl _ _ | (with_reducible refine Below.alloc ?_ (by first | omega | (simp; done) | (simp; omega)) _) | (with_reducible refine Below.setCell ?_ (by first | omega | (simp; done) | (simp; omega)) _) | (with_reducible refine Below.drew ?_) | (with_reducible refine below_drewN ?_ _) | (with_reducible assumption) | (with_reducible refine bel_step (by with_reducible assumption) ?_ (by first | omega | (simp; done) | (simp; omega)))))
    · have hv := Lib.hid (show ageS a b n p = ⟨0, 0, 1⟩ by unfold ageS; rw [if_neg (fun f => h2 f.2)])
      go_enter Tryd.func13, Tryd.ntmps13
      go_wp2_with fail
      (try (go_at_call 27; refine (Right_any _ _ _).mono ?_; rintro e w1 ⟨rfl, hb1⟩; obtain ⟨hc1, hf1⟩ := bcell hb1; have hz1 := hb1.size; (try simp at hz1); (try have q1_0_0_0 : w.heap.size < w1.heap.size := by omega); (try have q1_0_0_2 : w.heap.size < w1.heap.size + 1 + 1 := by omega); (try have q1_0_0_3 : w.heap.size < w1.heap.size + 1 + 1 + 1 := by omega); (try have q1_0_1_0 : w.heap.size + 1 < w1.heap.size := by omega); (try have q1_0_1_2 : w.heap.size + 1 < w1.heap.size + 1 + 1 := by omega); (try have q1_0_1_3 : w.heap.size + 1 < w1.heap.size + 1 + 1 + 1 := by omega); (try have q1_0_2_0 : w.heap.size + 1 + 1 < w1.heap.size := by omega); (try have q1_0_2_2 : w.heap.size + 1 + 1 < w1.heap.size + 1 + 1 := by omega); (try have q1_0_2_3 : w.heap.size + 1 + 1 < w1.heap.size + 1 + 1 + 1 := by omega); (try have q1_0_3_0 : w.heap.size + 1 + 1 + 1 < w1.heap.size := by omega); (try have q1_0_3_2 : w.heap.size + 1 + 1 + 1 < w1.heap.size + 1 + 1 := by omega); (try have q1_0_3_3 : w.heap.size + 1 + 1 + 1 < w1.heap.size + 1 + 1 + 1 := by omega); (try go_wp2_with fail)))
      (try (go_at_call 20; refine (drift_ready _ _ _).mono ?_; rintro e w' ⟨rfl, rfl⟩; (try go_wp2_with fail)))
      rw [hv.out]
      refine bodyPost_ret (v := (.tuple #[.agg #[.int .i64 0, .int .i64 0], errV 1])) (by simp [results, Tryd.results13, go_sem, errV, okC, *]) rfl ⟨rfl, ?_⟩; exact (by repeat (first | with_reducible exact Below.refl _ _ | (with_reducible refine Below.alloc ?_ (by first | omega | (simp; done) | (simp; omega)) _) | (with_reducible refine Below.setCell ?_ (by first | omega | (simp; done) | (simp; omega)) _) | (with_reducible refine Below.drew ?_) | (with_reducible refine below_drewN ?_ _) | (with_reducible assumption) | (with_reducible refine bel_step (by with_reducible assumption) ?_ (by first | omega | (simp; done) | (simp; omega)))))
  · have hv := Lib.hid (show ageS a b n p = ⟨0, 0, 1⟩ by unfold ageS; rw [if_neg (fun f => h1 f.1)])
    go_enter Tryd.func13, Tryd.ntmps13
    go_wp2_with fail
    (try (go_at_call 27; refine (Right_any _ _ _).mono ?_; rintro e w1 ⟨rfl, hb1⟩; obtain ⟨hc1, hf1⟩ := bcell hb1; have hz1 := hb1.size; (try simp at hz1); (try have q1_0_0_0 : w.heap.size < w1.heap.size := by omega); (try have q1_0_0_2 : w.heap.size < w1.heap.size + 1 + 1 := by omega); (try have q1_0_0_3 : w.heap.size < w1.heap.size + 1 + 1 + 1 := by omega); (try have q1_0_1_0 : w.heap.size + 1 < w1.heap.size := by omega); (try have q1_0_1_2 : w.heap.size + 1 < w1.heap.size + 1 + 1 := by omega); (try have q1_0_1_3 : w.heap.size + 1 < w1.heap.size + 1 + 1 + 1 := by omega); (try have q1_0_2_0 : w.heap.size + 1 + 1 < w1.heap.size := by omega); (try have q1_0_2_2 : w.heap.size + 1 + 1 < w1.heap.size + 1 + 1 := by omega); (try have q1_0_2_3 : w.heap.size + 1 + 1 < w1.heap.size + 1 + 1 + 1 := by omega); (try have q1_0_3_0 : w.heap.size + 1 + 1 + 1 < w1.heap.size := by omega); (try have q1_0_3_2 : w.heap.size + 1 + 1 + 1 < w1.heap.size + 1 + 1 := by omega); (try have q1_0_3_3 : w.heap.size + 1 + 1 + 1 < w1.heap.size + 1 + 1 + 1 := by omega); (try go_wp2_with fail)))
    rw [hv.out]
    refine bodyPost_ret (v := (.tuple #[.agg #[.int .i64 0, .int .i64 0], errV 1])) (by simp [results, Tryd.results13, go_sem, errV, okC, *]) rfl ⟨rfl, ?_⟩; exact (by repeat (first | with_reducible exact Below.refl _ _ | (with_reducible refine Below.alloc ?_ (by first | omega | (simp; done) | (simp; omega)) _) | (with_reducible refine Below.setCell ?_ (by first | omega | (simp; done) | (simp; omega)) _) | (with_reducible refine Below.drew ?_) | (with_reducible refine below_drewN ?_ _) | (with_reducible assumption) | (with_reducible refine bel_step (by with_reducible assumption) ?_ (by first | omega | (simp; done) | (simp; omega)))))
end Go.Proofs.YtekhafhgodkkcaaDoor
