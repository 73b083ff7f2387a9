/- Proved: noonlaw1.ProbeHolds answers true for every input. No condition. -/
import Derived.Test.YtekhafhgodkkcaaOpen
import Derived.Test.YtekhafhgodkkcaaProbe
namespace Go.Proofs.Ytekhafhgodkkcaa.lProbeHolds
open Go.ChangeShapes Go.WideShapes Go.ChangeAt Go.RowKit
set_option linter.unusedVariables false
set_option linter.unusedSimpArgs false
/-- what a clock shows. -/
def shows (start rate time : Int) : Int := start + time + time * rate / 1000000
theorem prod_bd {t r : Int} (h0 : 0 ≤ t) (h1 : t ≤ 400000000) (h2 : -1000 ≤ r) (h3 : r ≤ 1000) : -400000000000 ≤ t * r ∧ t * r ≤ 400000000000 := by
  have a1 : t * r ≤ t * 1000 := Int.mul_le_mul_of_nonneg_left h3 h0
  have a2 : t * (-1000) ≤ t * r := Int.mul_le_mul_of_nonneg_left h2 h0
  omega
theorem shows_bd {s r t : Int} (h0 : 0 ≤ t) (h1 : t ≤ 400000000) (h2 : -1000 ≤ r) (h3 : r ≤ 1000) (h4 : -1000000 ≤ s) (h5 : s ≤ 1000000) : -2000000 ≤ shows s r t ∧ shows s r t ≤ 402000000 := by
  have := prod_bd h0 h1 h2 h3
  unfold shows
  omega
/-- a clock goes by so much. -/
theorem shows_diff {s r t u p : Int} (h0 : 0 ≤ t) (h1 : t ≤ u) (h2 : -p ≤ r) (h3 : r ≤ p) (hp : p ≤ 1000) :
    shows s r u - shows s r t ≤ u - t + ((u - t) * p + 999999) / 1000000 ∧ u - t - ((u - t) * p + 999999) / 1000000 ≤ shows s r u - shows s r t ∧ shows s r t ≤ shows s r u := by
  have e : u * r = t * r + (u - t) * r := by rw [← Int.add_mul]; congr 1; omega
  have a1 : (u - t) * r ≤ (u - t) * p := Int.mul_le_mul_of_nonneg_left h3 (by omega)
  have a2 : (u - t) * (-p) ≤ (u - t) * r := Int.mul_le_mul_of_nonneg_left h2 (by omega)
  have a3 : (u - t) * p ≤ (u - t) * 1000 := Int.mul_le_mul_of_nonneg_left hp (by omega)
  rw [Int.mul_neg] at a2
  unfold shows
  omega
theorem holds_plain {start ra rb ppm begin there stay back : Int} (q1 : -1000000 ≤ start) (q2 : start ≤ 1000000) (q3 : 0 ≤ ppm) (q4 : ppm ≤ 1000) (q5 : -ppm ≤ ra) (q6 : ra ≤ ppm) (q7 : -ppm ≤ rb) (q8 : rb ≤ ppm)
    (b0 : 0 ≤ begin) (b1 : begin ≤ 100000000) (b2 : 0 ≤ there) (b3 : there ≤ 100000000) (b4 : 0 ≤ stay) (b5 : stay ≤ 100000000) (b6 : 0 ≤ back) (b7 : back ≤ 100000000) :
    offS (shows 0 ra begin) (shows start rb (begin + there)) (shows start rb (begin + there + stay)) (shows 0 ra (begin + there + stay + back)) ppm =
        ⟨shows start rb (begin + there + stay) - shows 0 ra (begin + there + stay + back), offHi (shows 0 ra begin) (shows start rb (begin + there)) (shows 0 ra (begin + there + stay + back)) ppm, 0⟩ ∧
      hasB (shows start rb (begin + there + stay) - shows 0 ra (begin + there + stay + back)) (offHi (shows 0 ra begin) (shows start rb (begin + there)) (shows 0 ra (begin + there + stay + back)) ppm)
        (shows start rb (begin + there + stay + back) - shows 0 ra (begin + there + stay + back)) = true ∧
      rightB (shows start rb (begin + there + stay) - shows 0 ra (begin + there + stay + back)) (offHi (shows 0 ra begin) (shows start rb (begin + there)) (shows 0 ra (begin + there + stay + back)) ppm) = true := by
  have d1 := shows_diff (s := 0) b0 (show begin ≤ begin + there + stay + back by omega) q5 q6 q4
  have d2 := shows_diff (s := start) (show 0 ≤ begin + there by omega) (show begin + there ≤ begin + there + stay + back by omega) q7 q8 q4
  have d3 := shows_diff (s := start) (show 0 ≤ begin + there by omega) (show begin + there ≤ begin + there + stay by omega) q7 q8 q4
  have d4 := shows_diff (s := start) (show 0 ≤ begin + there + stay by omega) (show begin + there + stay ≤ begin + there + stay + back by omega) q7 q8 q4
  have s1 := shows_bd (s := 0) (r := ra) (t := begin) (by omega) (by omega) (by omega) (by omega) (by omega) (by omega)
  have s2 := shows_bd (s := start) (r := rb) (t := begin + there) (by omega) (by omega) (by omega) (by omega) (by omega) (by omega)
  have s3 := shows_bd (s := start) (r := rb) (t := begin + there + stay) (by omega) (by omega) (by omega) (by omega) (by omega) (by omega)
  have s4 := shows_bd (s := 0) (r := ra) (t := begin + there + stay + back) (by omega) (by omega) (by omega) (by omega) (by omega) (by omega)
  have s5 := shows_bd (s := start) (r := rb) (t := begin + there + stay + back) (by omega) (by omega) (by omega) (by omega) (by omega) (by omega)
  have key : shows start rb (begin + there + stay + back) - shows start rb (begin + there) - (shows 0 ra (begin + there + stay + back) - shows 0 ra begin) ≤ slackD (shows 0 ra (begin + there + stay + back) - shows 0 ra begin) ppm := by
    generalize shows start rb (begin + there + stay + back) = B4 at *
    generalize shows 0 ra (begin + there + stay + back) = A4 at *
    generalize shows start rb (begin + there) = B2 at *
    generalize shows 0 ra begin = A0 at *
    have hu := upD_spec (a := (A4 - A0) * (3 * ppm)) (b := 1000000) (by omega)
    have hn := (upD_bd (a := (A4 - A0) * (3 * ppm)) (b := 1000000) (Int.mul_nonneg (by omega) (by omega)) (by omega)).1
    have hm : (begin + there + stay + back - (begin + there)) * ppm ≤ (begin + there + stay + back - begin) * ppm := Int.mul_le_mul_of_nonneg_right (by omega) q3
    have hp : (begin + there + stay + back - begin) * ppm ≤ (begin + there + stay + back - begin) * 1000 := Int.mul_le_mul_of_nonneg_left q4 (by omega)
    have hq : 0 ≤ (begin + there + stay + back - begin) * ppm := Int.mul_nonneg (by omega) q3
    unfold slackD byP
    by_cases hN : begin + there + stay + back - begin ≤ 3
    · omega
    · have hL : 2 * (begin + there + stay + back - begin) ≤ 3 * (A4 - A0) := by omega
      have hY : (2 * (begin + there + stay + back - begin)) * ppm ≤ (3 * (A4 - A0)) * ppm := Int.mul_le_mul_of_nonneg_right hL q3
      have e1 : (2 * (begin + there + stay + back - begin)) * ppm = 2 * ((begin + there + stay + back - begin) * ppm) := Int.mul_assoc _ _ _
      have e2 : (3 * (A4 - A0)) * ppm = (A4 - A0) * (3 * ppm) := by rw [Int.mul_comm 3, Int.mul_assoc]
      rw [e1, e2] at hY
      omega
  have sb := byP_bd (n := shows 0 ra (begin + there + stay + back) - shows 0 ra begin) (p := 3 * ppm) (by omega) (by omega) (by omega) (by omega)
  have c0 : probeC (shows 0 ra begin) (shows start rb (begin + there)) (shows start rb (begin + there + stay)) (shows 0 ra (begin + there + stay + back)) = 0 := by
    rw [probeC_good (timeB_iff.2 (by omega)) (timeB_iff.2 (by omega)) (timeB_iff.2 (by omega)) (timeB_iff.2 (by omega)), if_neg (by omega)]
  have c1 : okP (shows 0 ra begin) (shows 0 ra (begin + there + stay + back)) ppm = true := by
    simp only [okP, rateB_iff.2 (show 0 ≤ ppm ∧ ppm ≤ 1000 from ⟨q3, q4⟩), Bool.true_and, decide_eq_true_eq]; omega
  have hh : offHi (shows 0 ra begin) (shows start rb (begin + there)) (shows 0 ra (begin + there + stay + back)) ppm = shows start rb (begin + there) - shows 0 ra begin + slackD (shows 0 ra (begin + there + stay + back) - shows 0 ra begin) ppm := rfl
  have hs : slackD (shows 0 ra (begin + there + stay + back) - shows 0 ra begin) ppm ≤ 6000000002 ∧ 0 ≤ slackD (shows 0 ra (begin + there + stay + back) - shows 0 ra begin) ppm := by unfold slackD; omega
  have c2 : offIn (shows 0 ra begin) (shows start rb (begin + there)) (shows start rb (begin + there + stay)) (shows 0 ra (begin + there + stay + back)) ppm = true := by
    simp only [offIn, Bool.and_eq_true]
    exact ⟨timeB_iff.2 (by omega), timeB_iff.2 (by rw [hh]; omega)⟩
  have c3 : rightB (shows start rb (begin + there + stay) - shows 0 ra (begin + there + stay + back)) (offHi (shows 0 ra begin) (shows start rb (begin + there)) (shows 0 ra (begin + there + stay + back)) ppm) = true :=
    rightB_iff.2 (by rw [hh]; omega)
  refine ⟨?_, ?_, c3⟩
  · simp only [offS, c0, c1, c2, if_true]
    rw [if_pos (by rw [hh]; omega)]
  · simp only [hasB, c3, Bool.true_and, Bool.and_eq_true, decide_eq_true_eq]
    rw [hh]
    omega
set_option maxHeartbeats 1000000 in
theorem shows_any (s r t : Int) (w : World) (h0 : 0 ≤ t) (h1 : t ≤ 400000000) (h2 : -1000 ≤ r) (h3 : r ≤ 1000) (h4 : -1000000 ≤ s) (h5 : s ≤ 1000000) :
    Calls Try.prog 25 #[.int .i64 s, .int .i64 r, .int .i64 t] w fun e w' => e = .returned (.int .i64 (shows s r t)) ∧ w = w' := by
  obtain ⟨m1, m2⟩ := prod_bd h0 h1 h2 h3
  have hd := tdivM (t * r)
  have hk := Int.mul_tdiv_add_tmod (t * r) 1000000
  have hk2 : (t * r).tmod 1000000 < 1000000 := Int.tmod_lt_of_pos (t * r) (by omega)
  have hk3 : (-(t * r)).tmod 1000000 < 1000000 := Int.tmod_lt_of_pos (-(t * r)) (by omega)
  rw [Int.neg_tmod] at hk3
  have b1 : -400001 ≤ (t * r).tdiv 1000000 := by omega
  have b2 : (t * r).tdiv 1000000 ≤ 400001 := by omega
  have HD := Lib.hid hd
  clear hd hk hk2 hk3
  by_cases c : t * r < (t * r).tdiv 1000000 * 1000000
  · have hd := HD.out
    rw [if_pos c] at hd
    have HE := Lib.hid hd
    clear hd HD
    go_enter Try.func25, Try.ntmps25
    go_wp2_with fail
    go_ret
    exact ⟨ret_int (by unfold shows; rw [← HE.out]), rfl⟩
  · have hd := HD.out
    rw [if_neg c] at hd
    have HE := Lib.hid hd
    clear hd HD
    go_enter Try.func25, Try.ntmps25
    go_wp2_with fail
    go_ret
    exact ⟨ret_int (by unfold shows; rw [← HE.out]), rfl⟩
set_option maxRecDepth 100000 in
set_option maxHeartbeats 4000000 in
theorem walk_no (a0 : Int) (a1 : Int) (a2 : Int) (a3 : Int) (a4 : Int) (a5 : Int) (a6 : Int) (a7 : Int) (w : World) 
  (q : ¬ (-1000000 ≤ a0 ∧ a0 ≤ 1000000 ∧ 0 ≤ a3 ∧ a3 ≤ 1000 ∧ -a3 ≤ a1 ∧ a1 ≤ a3 ∧ -a3 ≤ a2 ∧ a2 ≤ a3 ∧ 0 ≤ a4 ∧ a4 ≤ 100000000 ∧ 0 ≤ a5 ∧ a5 ≤ 100000000 ∧ 0 ≤ a6 ∧ a6 ≤ 100000000 ∧ 0 ≤ a7 ∧ a7 ≤ 100000000)) :
    Calls Try.prog 10 #[.int .i64 a0, .int .i64 a1, .int .i64 a2, .int .i64 a3, .int .i64 a4, .int .i64 a5, .int .i64 a6, .int .i64 a7] w fun e w' => e = .returned (.bool true) ∧ Below w.heap.size w w' := by
  have f1 : offS 0 100 100 10 0 = ⟨90, 102, 0⟩ := rfl
  have Q := Lib.hid q
  clear q
  go_enter Try.func10, Try.ntmps10
  go_wp2_with fail
  (try (go_at_call 24; refine (Offset_any _ _ _ _ _ _).mono ?_; rintro e w1 ⟨rfl, hb1⟩; obtain ⟨hc1, hf1⟩ := bcell hb1; have hz1 := hb1.size; (try simp at hz1); (try have q1_0_0_0 : w.heap.size < w1.heap.size := by omega); (try have q1_0_0_2 : w.heap.size < w1.heap.size + 1 + 1 := by omega); (try have q1_0_0_3 : w.heap.size < w1.heap.size + 1 + 1 + 1 := by omega); (try have q1_0_1_0 : w.heap.size + 1 < w1.heap.size := by omega); (try have q1_0_1_2 : w.heap.size + 1 < w1.heap.size + 1 + 1 := by omega); (try have q1_0_1_3 : w.heap.size + 1 < w1.heap.size + 1 + 1 + 1 := by omega); (try have q1_0_2_0 : w.heap.size + 1 + 1 < w1.heap.size := by omega); (try have q1_0_2_2 : w.heap.size + 1 + 1 < w1.heap.size + 1 + 1 := by omega); (try have q1_0_2_3 : w.heap.size + 1 + 1 < w1.heap.size + 1 + 1 + 1 := by omega); (try have q1_0_3_0 : w.heap.size + 1 + 1 + 1 < w1.heap.size := by omega); (try have q1_0_3_2 : w.heap.size + 1 + 1 + 1 < w1.heap.size + 1 + 1 := by omega); (try have q1_0_3_3 : w.heap.size + 1 + 1 + 1 < w1.heap.size + 1 + 1 + 1 := by omega); (try go_wp2_with fail)))
  all_goals first | (go_ret; exact ⟨rfl, (by repeat (first | exact Below.refl _ _ | (refine Below.alloc ?_ (by first | omega | (simp; done) | (simp; omega)) _) | (refine Below.setCell ?_ (by first | omega | (simp; done) | (simp; omega)) _) | (refine Below.drew ?_) | (refine below_drewN ?_ _) | (exact (by assumption)) | (refine bel_step (by assumption) ?_ (by first | omega | (simp; done) | (simp; omega)))))⟩) | (exfalso; have := Q.out; omega)
set_option maxRecDepth 100000 in
set_option maxHeartbeats 4000000 in
theorem walk_yes (a0 : Int) (a1 : Int) (a2 : Int) (a3 : Int) (a4 : Int) (a5 : Int) (a6 : Int) (a7 : Int) (w : World) 
  (q1 : -1000000 ≤ a0) (q2 : a0 ≤ 1000000) (q3 : 0 ≤ a3) (q4 : a3 ≤ 1000) (q5 : -a3 ≤ a1) (q6 : a1 ≤ a3) (q7 : -a3 ≤ a2) (q8 : a2 ≤ a3) (b0 : 0 ≤ a4) (b1 : a4 ≤ 100000000) (b2 : 0 ≤ a5) (b3 : a5 ≤ 100000000) (b4 : 0 ≤ a6) (b5 : a6 ≤ 100000000) (b6 : 0 ≤ a7) (b7 : a7 ≤ 100000000) :
    Calls Try.prog 10 #[.int .i64 a0, .int .i64 a1, .int .i64 a2, .int .i64 a3, .int .i64 a4, .int .i64 a5, .int .i64 a6, .int .i64 a7] w fun e w' => e = .returned (.bool true) ∧ Below w.heap.size w w' := by
  have f1 : offS 0 100 100 10 0 = ⟨90, 102, 0⟩ := rfl
  obtain ⟨k1, k2, k3⟩ := holds_plain q1 q2 q3 q4 q5 q6 q7 q8 b0 b1 b2 b3 b4 b5 b6 b7
  have s1 := shows_bd (s := 0) (r := a1) (t := a4 + a5 + a6 + a7) (by omega) (by omega) (by omega) (by omega) (by omega) (by omega)
  have s2 := shows_bd (s := a0) (r := a2) (t := a4 + a5 + a6 + a7) (by omega) (by omega) (by omega) (by omega) (by omega) (by omega)
  obtain ⟨s3, s4⟩ := s1
  obtain ⟨s5, s6⟩ := s2
  go_enter Try.func10, Try.ntmps10
  go_wp2_with fail
  (try (go_at_call 24; refine (Offset_any _ _ _ _ _ _).mono ?_; rintro e w1 ⟨rfl, hb1⟩; obtain ⟨hc1, hf1⟩ := bcell hb1; have hz1 := hb1.size; (try simp at hz1); (try have q1_0_0_0 : w.heap.size < w1.heap.size := by omega); (try have q1_0_0_2 : w.heap.size < w1.heap.size + 1 + 1 := by omega); (try have q1_0_0_3 : w.heap.size < w1.heap.size + 1 + 1 + 1 := by omega); (try have q1_0_1_0 : w.heap.size + 1 < w1.heap.size := by omega); (try have q1_0_1_2 : w.heap.size + 1 < w1.heap.size + 1 + 1 := by omega); (try have q1_0_1_3 : w.heap.size + 1 < w1.heap.size + 1 + 1 + 1 := by omega); (try have q1_0_2_0 : w.heap.size + 1 + 1 < w1.heap.size := by omega); (try have q1_0_2_2 : w.heap.size + 1 + 1 < w1.heap.size + 1 + 1 := by omega); (try have q1_0_2_3 : w.heap.size + 1 + 1 < w1.heap.size + 1 + 1 + 1 := by omega); (try have q1_0_3_0 : w.heap.size + 1 + 1 + 1 < w1.heap.size := by omega); (try have q1_0_3_2 : w.heap.size + 1 + 1 + 1 < w1.heap.size + 1 + 1 := by omega); (try have q1_0_3_3 : w.heap.size + 1 + 1 + 1 < w1.heap.size + 1 + 1 + 1 := by omega); (try go_wp2_with fail)))
  (try (go_at_call 25; refine (shows_any _ _ _ _ (by omega) (by omega) (by omega) (by omega) (by omega) (by omega)).mono ?_; rintro e w' ⟨rfl, rfl⟩; (try go_wp2_with fail)))
  (try (go_at_call 25; refine (shows_any _ _ _ _ (by omega) (by omega) (by omega) (by omega) (by omega) (by omega)).mono ?_; rintro e w' ⟨rfl, rfl⟩; (try go_wp2_with fail)))
  (try (go_at_call 25; refine (shows_any _ _ _ _ (by omega) (by omega) (by omega) (by omega) (by omega) (by omega)).mono ?_; rintro e w' ⟨rfl, rfl⟩; (try go_wp2_with fail)))
  (try (go_at_call 25; refine (shows_any _ _ _ _ (by omega) (by omega) (by omega) (by omega) (by omega) (by omega)).mono ?_; rintro e w' ⟨rfl, rfl⟩; (try go_wp2_with fail)))
  (try (go_at_call 24; refine (Offset_any _ _ _ _ _ _).mono ?_; rintro e w2 ⟨rfl, hb2⟩; obtain ⟨hc2, hf2⟩ := bcell hb2; have hz2 := hb2.size; (try simp at hz2); (try have q2_0_0_0 : w.heap.size < w2.heap.size := by omega); (try have q2_0_0_2 : w.heap.size < w2.heap.size + 1 + 1 := by omega); (try have q2_0_0_3 : w.heap.size < w2.heap.size + 1 + 1 + 1 := by omega); (try have q2_0_1_0 : w.heap.size + 1 < w2.heap.size := by omega); (try have q2_0_1_2 : w.heap.size + 1 < w2.heap.size + 1 + 1 := by omega); (try have q2_0_1_3 : w.heap.size + 1 < w2.heap.size + 1 + 1 + 1 := by omega); (try have q2_0_2_0 : w.heap.size + 1 + 1 < w2.heap.size := by omega); (try have q2_0_2_2 : w.heap.size + 1 + 1 < w2.heap.size + 1 + 1 := by omega); (try have q2_0_2_3 : w.heap.size + 1 + 1 < w2.heap.size + 1 + 1 + 1 := by omega); (try have q2_0_3_0 : w.heap.size + 1 + 1 + 1 < w2.heap.size := by omega); (try have q2_0_3_2 : w.heap.size + 1 + 1 + 1 < w2.heap.size + 1 + 1 := by omega); (try have q2_0_3_3 : w.heap.size + 1 + 1 + 1 < w2.heap.size + 1 + 1 + 1 := by omega); (try have q2_1_0_0 : w1.heap.size < w2.heap.size := by omega); (try have q2_1_0_2 : w1.heap.size < w2.heap.size + 1 + 1 := by omega); (try have q2_1_1_0 : w1.heap.size + 1 < w2.heap.size := by omega); (try have q2_1_1_2 : w1.heap.size + 1 < w2.heap.size + 1 + 1 := by omega); (try go_wp2_with fail)))
  have m0 : (w2.alloc (.cells #[.int .i64 (shows a0 a2 (a4 + a5 + a6) - shows 0 a1 (a4 + a5 + a6 + a7)), .int .i64 (offHi (shows 0 a1 a4) (shows a0 a2 (a4 + a5)) (shows 0 a1 (a4 + a5 + a6 + a7)) a3)] 28)).cell? ⟨w2.heap.size, 0, none⟩ = some (.int .i64 (shows a0 a2 (a4 + a5 + a6) - shows 0 a1 (a4 + a5 + a6 + a7))) := by simp
  have m1 : (w2.alloc (.cells #[.int .i64 (shows a0 a2 (a4 + a5 + a6) - shows 0 a1 (a4 + a5 + a6 + a7)), .int .i64 (offHi (shows 0 a1 a4) (shows a0 a2 (a4 + a5)) (shows 0 a1 (a4 + a5 + a6 + a7)) a3)] 28)).cell? ⟨w2.heap.size, 1, none⟩ = some (.int .i64 (offHi (shows 0 a1 a4) (shows a0 a2 (a4 + a5)) (shows 0 a1 (a4 + a5 + a6 + a7)) a3)) := by simp
  have e1 := IntWalk.i64_in (shows a0 a2 (a4 + a5 + a6 + a7) - shows 0 a1 (a4 + a5 + a6 + a7)) (by omega)
  have p1 : a4 + a5 + a6 + a7 ≤ 400000000 := by omega
  have p2 : 0 ≤ a4 + a5 + a6 + a7 := by omega
  have p3 : -1000 ≤ a1 := by omega
  have p4 : a1 ≤ 1000 := by omega
  have p5 : -1000 ≤ a2 := by omega
  have p6 : a2 ≤ 1000 := by omega
  go_region_held3 (fun w' => w'.cell? ⟨w2.heap.size, 0, none⟩ = some (.int .i64 (shows a0 a2 (a4 + a5 + a6) - shows 0 a1 (a4 + a5 + a6 + a7))) ∧ w'.cell? ⟨w2.heap.size, 1, none⟩ = some (.int .i64 (offHi (shows 0 a1 a4) (shows a0 a2 (a4 + a5)) (shows 0 a1 (a4 + a5 + a6 + a7)) a3))) (first | go_keep | (refine ⟨?_, ?_⟩ <;> (rw [(bcell hb3).1 _ _ (by simp)]; simp)))
    (first | (go_at_call 25; refine (shows_any _ _ _ _ (by assumption) (by assumption) (by assumption) (by assumption) (by omega) (by omega)).mono ?_; rintro e w' ⟨rfl, rfl⟩) | (go_at_call 26; refine (span_Has _ _ _ _).mono ?_; rintro e w3 ⟨rfl, hb3⟩))
  go_wp2_with fail
  go_ret
  exact ⟨rfl, (by repeat (first | exact Below.refl _ _ | (refine Below.alloc ?_ (by first | omega | (simp; done) | (simp; omega)) _) | (refine Below.setCell ?_ (by first | omega | (simp; done) | (simp; omega)) _) | (refine Below.drew ?_) | (refine below_drewN ?_ _) | (exact (by assumption)) | (refine bel_step (by assumption) ?_ (by first | omega | (simp; done) | (simp; omega)))))⟩
theorem walk (a0 : Int) (a1 : Int) (a2 : Int) (a3 : Int) (a4 : Int) (a5 : Int) (a6 : Int) (a7 : Int) (w : World) (h0 : -9223372036854775808 ≤ a0 ∧ a0 ≤ 9223372036854775807) (h1 : -9223372036854775808 ≤ a1 ∧ a1 ≤ 9223372036854775807) (h2 : -9223372036854775808 ≤ a2 ∧ a2 ≤ 9223372036854775807) (h3 : -9223372036854775808 ≤ a3 ∧ a3 ≤ 9223372036854775807) (h4 : -9223372036854775808 ≤ a4 ∧ a4 ≤ 9223372036854775807) (h5 : -9223372036854775808 ≤ a5 ∧ a5 ≤ 9223372036854775807) (h6 : -9223372036854775808 ≤ a6 ∧ a6 ≤ 9223372036854775807) (h7 : -9223372036854775808 ≤ a7 ∧ a7 ≤ 9223372036854775807) :
    Calls Try.prog 10 #[.int .i64 a0, .int .i64 a1, .int .i64 a2, .int .i64 a3, .int .i64 a4, .int .i64 a5, .int .i64 a6, .int .i64 a7] w fun e w' => e = .returned (.bool true) ∧ Below w.heap.size w w' := by
  by_cases q : -1000000 ≤ a0 ∧ a0 ≤ 1000000 ∧ 0 ≤ a3 ∧ a3 ≤ 1000 ∧ -a3 ≤ a1 ∧ a1 ≤ a3 ∧ -a3 ≤ a2 ∧ a2 ≤ a3 ∧ 0 ≤ a4 ∧ a4 ≤ 100000000 ∧ 0 ≤ a5 ∧ a5 ≤ 100000000 ∧ 0 ≤ a6 ∧ a6 ≤ 100000000 ∧ 0 ≤ a7 ∧ a7 ≤ 100000000
  · obtain ⟨q1, q2, q3, q4, q5, q6, q7, q8, b0, b1, b2, b3, b4, b5, b6, b7⟩ := q
    exact walk_yes a0 a1 a2 a3 a4 a5 a6 a7 w q1 q2 q3 q4 q5 q6 q7 q8 b0 b1 b2 b3 b4 b5 b6 b7
  · exact walk_no a0 a1 a2 a3 a4 a5 a6 a7 w q

set_option maxRecDepth 100000 in
theorem lifted (os : Os) (started : os.Started) (H : Type) (enc : TypeId × Value → H) :
    ReturnsInHanded {} Try.checked os 10 .any (Rows.probeHoldsSpec.pre6 enc Try.prog Try.f10 Rows.probeHoldsRow.domain false) (Rows.probeHoldsSpec.post enc Try.prog Try.f10 false true false false) := by
  refine returnsInHanded_of_change (C := Try.checked) own started (by kernel_rfl) Try.func10
    (ChangeSpec.witness6 (enc := enc) (C := Try.checked) false ⟨#[], #[.int .i64 0, .int .i64 0, .int .i64 0, .int .i64 0, .int .i64 0, .int .i64 0, .int .i64 0, .int .i64 0], []⟩ 8 (by kernel_rfl) (by kernel_rfl) (by kernel_rfl) (by kernel_rfl)) ?_
  intro W base args ds gs before hval0 hW hcnd hreach
  have hval : ∀ (j : Nat) t v, Try.f10.params[j]? = some t → args[j]? = some v → Value.okWide Try.prog W .any base t v := hval0
  have hW' := hW
  obtain ⟨p, q, hA0, hV, rfl, hfz, hnd⟩ := hW
  have hA : DataW.TrodAll enc Try.prog W 0 (fun _ => true) true Try.f10.params.toList args.toList ds p := hA0
  rw [Try.params10] at hA hval
  obtain ⟨v0, vs0, d0, ds0, p0, q0, hargs, rfl, rfl, g0, r0⟩ := trodAll_cons hA
  obtain ⟨v1, vs1, d1, ds1, p1, q1, rfl, rfl, rfl, g1, r1⟩ := trodAll_cons r0
  obtain ⟨v2, vs2, d2, ds2, p2, q2, rfl, rfl, rfl, g2, r2⟩ := trodAll_cons r1
  obtain ⟨v3, vs3, d3, ds3, p3, q3, rfl, rfl, rfl, g3, r3⟩ := trodAll_cons r2
  obtain ⟨v4, vs4, d4, ds4, p4, q4, rfl, rfl, rfl, g4, r4⟩ := trodAll_cons r3
  obtain ⟨v5, vs5, d5, ds5, p5, q5, rfl, rfl, rfl, g5, r5⟩ := trodAll_cons r4
  obtain ⟨v6, vs6, d6, ds6, p6, q6, rfl, rfl, rfl, g6, r6⟩ := trodAll_cons r5
  obtain ⟨v7, vs7, d7, ds7, p7, q7, rfl, rfl, rfl, g7, r7⟩ := trodAll_cons r6
  obtain ⟨rfl, rfl, rfl⟩ := trodAll_nil r7
  obtain rfl : args = #[v0, v1, v2, v3, v4, v5, v6, v7] := by cases args; simp_all
  obtain ⟨rfl, rfl⟩ := trodVars_none hV
  obtain ⟨a0, rfl, rfl, rfl, u0⟩ := open_int Try.underlying3 (hval 0 3 v0 rfl rfl) g0
  have h0 := bounds_i64 u0
  obtain ⟨a1, rfl, rfl, rfl, u1⟩ := open_int Try.underlying3 (hval 1 3 v1 rfl rfl) g1
  have h1 := bounds_i64 u1
  obtain ⟨a2, rfl, rfl, rfl, u2⟩ := open_int Try.underlying3 (hval 2 3 v2 rfl rfl) g2
  have h2 := bounds_i64 u2
  obtain ⟨a3, rfl, rfl, rfl, u3⟩ := open_int Try.underlying3 (hval 3 3 v3 rfl rfl) g3
  have h3 := bounds_i64 u3
  obtain ⟨a4, rfl, rfl, rfl, u4⟩ := open_int Try.underlying3 (hval 4 3 v4 rfl rfl) g4
  have h4 := bounds_i64 u4
  obtain ⟨a5, rfl, rfl, rfl, u5⟩ := open_int Try.underlying3 (hval 5 3 v5 rfl rfl) g5
  have h5 := bounds_i64 u5
  obtain ⟨a6, rfl, rfl, rfl, u6⟩ := open_int Try.underlying3 (hval 6 3 v6 rfl rfl) g6
  have h6 := bounds_i64 u6
  obtain ⟨a7, rfl, rfl, rfl, u7⟩ := open_int Try.underlying3 (hval 7 3 v7 rfl rfl) g7
  have h7 := bounds_i64 u7
  clear hA0 hval0
  refine (walk a0 a1 a2 a3 a4 a5 a6 a7 W h0 h1 h2 h3 h4 h5 h6 h7).mono fun e W' ⟨he, bel⟩ => ?_
  subst he
  exact ⟨_, rfl, _, _, _, [], _, [], hW', trodAll_mk1 (shut_bool Try.underlying4 _), (trodAll_cons_mk (shut_int Try.underlying3 u0) (trodAll_cons_mk (shut_int Try.underlying3 u1) (trodAll_cons_mk (shut_int Try.underlying3 u2) (trodAll_cons_mk (shut_int Try.underlying3 u3) (trodAll_cons_mk (shut_int Try.underlying3 u4) (trodAll_cons_mk (shut_int Try.underlying3 u5) (trodAll_cons_mk (shut_int Try.underlying3 u6) (trodAll_cons_mk (shut_int Try.underlying3 u7) trodAll_mk0)))))))), rfl, bel.frame _, fun h => by cases h⟩

theorem over : Rows.probeHoldsRow.holds Try.pinned (OpenSpec.ofChange Rows.probeHoldsSpec) :=
  OpenClaim.holds_of_wide 10 Try.f10 rfl rfl rfl rfl rfl rfl rfl ⟨rfl, rfl, rfl, rfl, rfl⟩ rfl rfl rfl rfl rfl (by kernel_rfl) Try.func10 (by kernel_rfl)
    (of_decide_eq_true (by kernel_rfl)) (by unfold Func.isWrapper; rw [if_neg (of_decide_eq_false (by kernel_rfl))]; exact ⟨rfl, rfl⟩)
    (fun os started H enc _ => lifted os started H enc)

/-- the statement -/
theorem proved : Rows.ProbeHoldsSaid := over

#print axioms proved
end Go.Proofs.Ytekhafhgodkkcaa.lProbeHolds
