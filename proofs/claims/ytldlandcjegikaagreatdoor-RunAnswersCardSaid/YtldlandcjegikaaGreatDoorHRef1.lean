/- The reference's small functions (spans, drift, probes), walked: each computes what its plain namesake does. -/
import Derived.Test.YtldlandcjegikaaGreatDoorHK1
namespace Go.Proofs.YtldlandcjegikaaGreatDoor
open Go.RowKit
set_option linter.unusedVariables false
set_option linter.unusedSimpArgs false
theorem upD_eq {a b : Int} (h0 : 0 ≤ a) (hb : 1 ≤ b) : (if a / b * b < a then a / b + 1 else a / b) = upD a b := by
 have h1 := Int.emod_add_ediv_mul a b
 have h2 := Int.emod_nonneg a (show b ≠ 0 by omega)
 have h3 := Int.emod_lt_of_pos a (show 0 < b by omega)
 have h4 := upD_spec (a := a) (b := b) hb
 have hm : ∀ x y : Int, x * b ≤ y * b + (b - 1) → x ≤ y := fun x y h => by
  rcases Int.lt_or_le y x with hlt | hge
  ·have := Int.mul_le_mul_of_nonneg_right (show y + 1 ≤ x by omega) (show (0 : Int) ≤ b by omega)
   rw [Int.add_mul] at this; omega
  ·exact hge
 have hq : (a / b + 1) * b = a / b * b + b := by rw [Int.add_mul]; omega
 split
 ·exact Int.le_antisymm (hm _ _ (by omega)) (hm _ _ (by omega))
 ·exact Int.le_antisymm (hm _ _ (by omega)) (hm _ _ (by omega))
theorem r1_Time (n : Int) (w : World) :
  Calls Tryz.prog 83 #[.int .i64 n] w fun e w' => e = .returned (.bool (timeB n)) ∧ w = w' := by
 go_enter Tryz.func83, Tryz.ntmps83
 go_wp2
 all_goals (go_ret; exact ⟨ret_bool (by simp [timeB]; try omega), rfl⟩)
theorem r1_Span (lo hi : Int) (w : World) :
  Calls Tryz.prog 146 #[.agg #[.int .i64 lo, .int .i64 hi]] w fun e w' => e = .returned (.bool (rightB lo hi)) ∧ Below w.heap.size w w' := by
 go_enter Tryz.func146, Tryz.ntmps146
 go_wp2_with (go_at_call 83; refine (r1_Time _ _).mono ?_; rintro e w' ⟨rfl, rfl⟩)
 all_goals (go_ret; exact ⟨ret_bool (by simp_all [rightB]; try omega), BeL⟩)
theorem r1_Up (a b : Int) (w : World) (h0 : 0 ≤ a) (h1 : a ≤ 4000000000000000000) (h2 : 1 ≤ b) (h3 : b ≤ 2000000) :
  Calls Tryz.prog 145 #[.int .i64 a, .int .i64 b] w fun e w' => e = .returned (.int .i64 (upD a b)) ∧ w = w' := by
 have q0 : 0 ≤ a / b := Int.ediv_nonneg h0 (by omega)
 have q1 : a / b ≤ a := Int.ediv_le_self _ h0
 have hm := Int.emod_add_ediv_mul a b
 have hn := Int.emod_nonneg a (show b ≠ 0 by omega)
 have q2 : 0 ≤ a / b * b := Int.mul_nonneg q0 (by omega)
 have q3 : a / b * b ≤ a := by omega
 have HU := Lib.hid (upD_eq h0 h2)
 clear hm hn
 by_cases c : a / b * b < a
 ·go_enter Tryz.func145, Tryz.ntmps145
  go_wp2
  go_ret
  exact ⟨ret_int (by have := HU.out; rw [if_pos c] at this; exact this), rfl⟩
 ·go_enter Tryz.func145, Tryz.ntmps145
  go_wp2
  go_ret
  exact ⟨ret_int (by have := HU.out; rw [if_neg (by omega)] at this; exact this), rfl⟩
theorem r1_Slack (n p : Int) (w : World) (h0 : 0 ≤ n) (h1 : n ≤ 2000000000000) (h2 : 0 ≤ p) (h3 : p ≤ 1000) :
  Calls Tryz.prog 111 #[.int .i64 n, .int .i64 p] w fun e w' => e = .returned (.int .i64 (slackD n p)) ∧ w = w' := by
 have hb := byP_bd h0 h1 (show (0:Int) ≤ 3 * p by omega) (show 3 * p ≤ 3000 by omega)
 have e1 : n * 3 * p = n * (3 * p) := Int.mul_assoc _ _ _
 obtain ⟨m1, m2⟩ := mul_bd h0 h1 (show (0:Int) ≤ 3 * p by omega) (show 3 * p ≤ 3000 by omega)
 have b3 : byP n (3 * p) = upD (n * (3 * p)) 1000000 := rfl
 rw [b3] at hb
 obtain ⟨b1, b2⟩ := hb
 rw [← e1] at m1 m2 b1 b2
 have HE := Lib.hid (show 2 + upD (n * 3 * p) 1000000 = slackD n p by unfold slackD; rw [b3, e1])
 clear e1 b3
 go_enter Tryz.func111, Tryz.ntmps111
 go_wp2_with (go_at_call 145; refine (r1_Up _ _ _ (by omega) (by omega) (by omega) (by omega)).mono ?_; rintro e w' ⟨rfl, rfl⟩)
 go_ret
 exact ⟨ret_int HE.out, rfl⟩
theorem r1_Probe (t1 t2 t3 t4 : Int) (w : World) :
  Calls Tryz.prog 110 #[.agg #[.int .i64 t1, .int .i64 t2, .int .i64 t3, .int .i64 t4]] w fun e w' => e = .returned (.int .i64 (probeC t1 t2 t3 t4)) ∧ Below w.heap.size w w' := by
 by_cases c : timeB t1 = true ∧ timeB t2 = true ∧ timeB t3 = true ∧ timeB t4 = true
 ·obtain ⟨c1, c2, c3, c4⟩ := c
  have hp := Lib.hid (probeC_good c1 c2 c3 c4)
  by_cases d1 : t4 < t1
  ·go_enter Tryz.func110, Tryz.ntmps110
   go_wp2_with (go_at_call 83; refine (r1_Time _ _).mono ?_; rintro e w' ⟨rfl, rfl⟩)
   (try (go_quiet (fail); go_wp2_with fail))
   go_ret
   exact ⟨ret_int (by rw [hp.out, if_pos (.inl d1)]), BeL⟩
  ·by_cases d2 : t3 < t2
   ·go_enter Tryz.func110, Tryz.ntmps110
    go_wp2_with (go_at_call 83; refine (r1_Time _ _).mono ?_; rintro e w' ⟨rfl, rfl⟩)
    (try (go_quiet (fail); go_wp2_with fail))
    go_ret
    exact ⟨ret_int (by rw [hp.out, if_pos (.inr d2)]), BeL⟩
   ·go_enter Tryz.func110, Tryz.ntmps110
    go_wp2_with (go_at_call 83; refine (r1_Time _ _).mono ?_; rintro e w' ⟨rfl, rfl⟩)
    (try (go_quiet (fail); go_wp2_with fail))
    go_ret
    exact ⟨ret_int (by rw [hp.out, if_neg (by omega)]), BeL⟩
 ·have hp := Lib.hid (show probeC t1 t2 t3 t4 = 1 by
   apply probeC_bad
   by_cases c1 : timeB t1 = true
   ·by_cases c2 : timeB t2 = true
    ·by_cases c3 : timeB t3 = true
     ·exact .inr (.inr (.inr (by simpa using fun c4 => c ⟨c1, c2, c3, c4⟩)))
     ·exact .inr (.inr (.inl (by simpa using c3)))
    ·exact .inr (.inl (by simpa using c2))
   ·exact .inl (by simpa using c1))
  have C := Lib.hid c
  clear c
  go_enter Tryz.func110, Tryz.ntmps110
  go_wp2_with (go_at_call 83; refine (r1_Time _ _).mono ?_; rintro e w' ⟨rfl, rfl⟩)
  all_goals first | (exfalso; apply C.out; clear hp; simp_all; done) | (go_ret; exact ⟨ret_int (by rw [hp.out]), BeL⟩)
set_option maxHeartbeats 2000000 in
theorem r1_Offset (t1 t2 t3 t4 p : Int) (w : World) :
  Calls Tryz.prog 78 #[.agg #[.int .i64 t1, .int .i64 t2, .int .i64 t3, .int .i64 t4], .int .i64 p] w fun e w' => e = .returned (.tuple #[.agg #[.int .i64 (offS t1 t2 t3 t4 p).lo, .int .i64 (offS t1 t2 t3 t4 p).hi], .int .i64 (offS t1 t2 t3 t4 p).c]) ∧ Below w.heap.size w w' := by
 rcases probeC_3 t1 t2 t3 t4 with c0 | c0 | c0
 ·obtain ⟨g1, g2, g3, g4, g5, g6⟩ := probeC_0 c0
  obtain ⟨b1, b2⟩ := timeB_iff.1 g1
  obtain ⟨b3, b4⟩ := timeB_iff.1 g2
  obtain ⟨b5, b6⟩ := timeB_iff.1 g3
  obtain ⟨b7, b8⟩ := timeB_iff.1 g4
  by_cases k1 : 0 ≤ p ∧ p ≤ 1000
  ·obtain ⟨k3, k4⟩ := k1
   have k1 := rateB_iff.2 (show 0 ≤ p ∧ p ≤ 1000 from ⟨k3, k4⟩)
   by_cases k2 : t4 - t1 ≤ 1000000000000
   ·have c1 : okP t1 t4 p = true := by simp [okP, k1, k2]
    have s0 := byP_bd (n := t4 - t1) (p := 3 * p) (by omega) (by omega) (by omega) (by omega)
    have s1 : 0 ≤ slackD (t4 - t1) p := by unfold slackD; omega
    have s2 : slackD (t4 - t1) p ≤ 6000000002 := by unfold slackD; omega
    clear s0
    by_cases d1 : timeB (t3 - t4) = true
    ·by_cases d2 : timeB (offHi t1 t2 t4 p) = true
     ·by_cases d3 : t3 - t4 ≤ offHi t1 t2 t4 p
      ·have HQ := Lib.hid (show offS t1 t2 t3 t4 p = ⟨t3 - t4, offHi t1 t2 t4 p, 0⟩ by simp only [offS, c0, c1, offIn, d1, d2, Bool.and_self, if_true]; rw [if_pos d3])
       unfold offHi at d2 d3 HQ
       go_enter Tryz.func78, Tryz.ntmps78
       go_wp2_with fail
       (try (go_at_call 110; refine (r1_Probe _ _ _ _ _).mono ?_; rintro e w1 ⟨rfl, hb1⟩; obtain ⟨hc1, hf1⟩ := bcell hb1; have hz1 := hb1.size; (try simp at hz1); (try have := q00_ w w1); (try have := q02_ w w1); (try have := q03_ w w1); (try have := q10_ w w1); (try have := q12_ w w1); (try have := q13_ w w1); (try have := q20_ w w1); (try have := q22_ w w1); (try have := q23_ w w1); (try have := q30_ w w1); (try have := q32_ w w1); (try have := q33_ w w1); (try go_wp2_with fail)))
       have e1 := IntWalk.i64_in (t4 - t1) (by omega)
       have e2 := IntWalk.i64_in (t3 - t4) (by omega)
       have e3 := IntWalk.i64_in (t2 - t1) (by omega)
       have e4 := IntWalk.i64_in (t2 - t1 + slackD (t4 - t1) p) (by omega)
       have p1 : 0 ≤ t4 - t1 := by omega
       have p2 : t4 - t1 ≤ 2000000000000 := by omega
       have m0 : w1.cell? ⟨w.heap.size, 0, none⟩ = some (.int .i64 t1) := by rw [hc1 _ _ (by simp; omega)]; simp
       have m1 : w1.cell? ⟨w.heap.size, 1, none⟩ = some (.int .i64 t2) := by rw [hc1 _ _ (by simp; omega)]; simp
       have m2 : w1.cell? ⟨w.heap.size, 2, none⟩ = some (.int .i64 t3) := by rw [hc1 _ _ (by simp; omega)]; simp
       have m3 : w1.cell? ⟨w.heap.size, 3, none⟩ = some (.int .i64 t4) := by rw [hc1 _ _ (by simp; omega)]; simp
       have n0 := World.new_ne w1 _ m0
       go_region_held3 (fun w' => w'.cell? ⟨w.heap.size, 0, none⟩ = some (.int .i64 t1) ∧ w'.cell? ⟨w.heap.size, 1, none⟩ = some (.int .i64 t2) ∧ w'.cell? ⟨w.heap.size, 2, none⟩ = some (.int .i64 t3) ∧ w'.cell? ⟨w.heap.size, 3, none⟩ = some (.int .i64 t4)) (go_keep)
        (first | (go_at_call 111; refine (r1_Slack _ _ _ p1 p2 k3 k4).mono ?_; rintro e w' ⟨rfl, rfl⟩))
       all_goals
        clear e1 e2 e3 e4 n0
        go_wp2_with fail
        (try (go_at_call 83; refine (r1_Time _ _).mono ?_; rintro e w' ⟨rfl, rfl⟩; (try go_wp2_with fail)))
        (try (go_at_call 83; refine (r1_Time _ _).mono ?_; rintro e w' ⟨rfl, rfl⟩; (try go_wp2_with fail)))
        rw [HQ.out]
        refine bodyPost_ret (v := (.tuple #[.agg #[.int .i64 (t3 - t4), .int .i64 (t2 - t1 + slackD (t4 - t1) p)], .int .i64 0])) (by simp [results, Tryz.results78, go_sem, errV, okC, *]) rfl ⟨rfl, ?_⟩; exact BeL
      ·have HQ := Lib.hid (show offS t1 t2 t3 t4 p = ⟨0, 0, 7⟩ by simp only [offS, c0, c1, offIn, d1, d2, Bool.and_self, if_true]; rw [if_neg d3])
       unfold offHi at d2 d3
       go_enter Tryz.func78, Tryz.ntmps78
       go_wp2_with fail
       (try (go_at_call 110; refine (r1_Probe _ _ _ _ _).mono ?_; rintro e w1 ⟨rfl, hb1⟩; obtain ⟨hc1, hf1⟩ := bcell hb1; have hz1 := hb1.size; (try simp at hz1); (try have := q00_ w w1); (try have := q02_ w w1); (try have := q03_ w w1); (try have := q10_ w w1); (try have := q12_ w w1); (try have := q13_ w w1); (try have := q20_ w w1); (try have := q22_ w w1); (try have := q23_ w w1); (try have := q30_ w w1); (try have := q32_ w w1); (try have := q33_ w w1); (try go_wp2_with fail)))
       have e1 := IntWalk.i64_in (t4 - t1) (by omega)
       have e2 := IntWalk.i64_in (t3 - t4) (by omega)
       have e3 := IntWalk.i64_in (t2 - t1) (by omega)
       have e4 := IntWalk.i64_in (t2 - t1 + slackD (t4 - t1) p) (by omega)
       have p1 : 0 ≤ t4 - t1 := by omega
       have p2 : t4 - t1 ≤ 2000000000000 := by omega
       have m0 : w1.cell? ⟨w.heap.size, 0, none⟩ = some (.int .i64 t1) := by rw [hc1 _ _ (by simp; omega)]; simp
       have m1 : w1.cell? ⟨w.heap.size, 1, none⟩ = some (.int .i64 t2) := by rw [hc1 _ _ (by simp; omega)]; simp
       have m2 : w1.cell? ⟨w.heap.size, 2, none⟩ = some (.int .i64 t3) := by rw [hc1 _ _ (by simp; omega)]; simp
       have m3 : w1.cell? ⟨w.heap.size, 3, none⟩ = some (.int .i64 t4) := by rw [hc1 _ _ (by simp; omega)]; simp
       have n0 := World.new_ne w1 _ m0
       go_region_held3 (fun w' => w'.cell? ⟨w.heap.size, 0, none⟩ = some (.int .i64 t1) ∧ w'.cell? ⟨w.heap.size, 1, none⟩ = some (.int .i64 t2) ∧ w'.cell? ⟨w.heap.size, 2, none⟩ = some (.int .i64 t3) ∧ w'.cell? ⟨w.heap.size, 3, none⟩ = some (.int .i64 t4)) (go_keep)
        (first | (go_at_call 111; refine (r1_Slack _ _ _ p1 p2 k3 k4).mono ?_; rintro e w' ⟨rfl, rfl⟩))
       all_goals
        clear e1 e2 e3 e4 n0
        go_wp2_with fail
        (try (go_at_call 83; refine (r1_Time _ _).mono ?_; rintro e w' ⟨rfl, rfl⟩; (try go_wp2_with fail)))
        (try (go_at_call 83; refine (r1_Time _ _).mono ?_; rintro e w' ⟨rfl, rfl⟩; (try go_wp2_with fail)))
        rw [HQ.out]
        refine bodyPost_ret (v := (.tuple #[.agg #[.int .i64 0, .int .i64 0], .int .i64 7])) (by simp [results, Tryz.results78, go_sem, errV, okC, *]) rfl ⟨rfl, ?_⟩; exact BeL
     ·have HQ := Lib.hid (show offS t1 t2 t3 t4 p = ⟨0, 0, 1⟩ by simp [offS, c0, c1, offIn, d2])
      unfold offHi at d2
      go_enter Tryz.func78, Tryz.ntmps78
      go_wp2_with fail
      (try (go_at_call 110; refine (r1_Probe _ _ _ _ _).mono ?_; rintro e w1 ⟨rfl, hb1⟩; obtain ⟨hc1, hf1⟩ := bcell hb1; have hz1 := hb1.size; (try simp at hz1); (try have := q00_ w w1); (try have := q02_ w w1); (try have := q03_ w w1); (try have := q10_ w w1); (try have := q12_ w w1); (try have := q13_ w w1); (try have := q20_ w w1); (try have := q22_ w w1); (try have := q23_ w w1); (try have := q30_ w w1); (try have := q32_ w w1); (try have := q33_ w w1); (try go_wp2_with fail)))
      have e1 := IntWalk.i64_in (t4 - t1) (by omega)
      have e2 := IntWalk.i64_in (t3 - t4) (by omega)
      have e3 := IntWalk.i64_in (t2 - t1) (by omega)
      have e4 := IntWalk.i64_in (t2 - t1 + slackD (t4 - t1) p) (by omega)
      have p1 : 0 ≤ t4 - t1 := by omega
      have p2 : t4 - t1 ≤ 2000000000000 := by omega
      have m0 : w1.cell? ⟨w.heap.size, 0, none⟩ = some (.int .i64 t1) := by rw [hc1 _ _ (by simp; omega)]; simp
      have m1 : w1.cell? ⟨w.heap.size, 1, none⟩ = some (.int .i64 t2) := by rw [hc1 _ _ (by simp; omega)]; simp
      have m2 : w1.cell? ⟨w.heap.size, 2, none⟩ = some (.int .i64 t3) := by rw [hc1 _ _ (by simp; omega)]; simp
      have m3 : w1.cell? ⟨w.heap.size, 3, none⟩ = some (.int .i64 t4) := by rw [hc1 _ _ (by simp; omega)]; simp
      have n0 := World.new_ne w1 _ m0
      go_region_held3 (fun w' => w'.cell? ⟨w.heap.size, 0, none⟩ = some (.int .i64 t1) ∧ w'.cell? ⟨w.heap.size, 1, none⟩ = some (.int .i64 t2) ∧ w'.cell? ⟨w.heap.size, 2, none⟩ = some (.int .i64 t3) ∧ w'.cell? ⟨w.heap.size, 3, none⟩ = some (.int .i64 t4)) (go_keep)
       (first | (go_at_call 111; refine (r1_Slack _ _ _ p1 p2 k3 k4).mono ?_; rintro e w' ⟨rfl, rfl⟩))
      all_goals
       clear e1 e2 e3 e4 n0
       go_wp2_with fail
       (try (go_at_call 83; refine (r1_Time _ _).mono ?_; rintro e w' ⟨rfl, rfl⟩; (try go_wp2_with fail)))
       (try (go_at_call 83; refine (r1_Time _ _).mono ?_; rintro e w' ⟨rfl, rfl⟩; (try go_wp2_with fail)))
       rw [HQ.out]
       refine bodyPost_ret (v := (.tuple #[.agg #[.int .i64 0, .int .i64 0], .int .i64 1])) (by simp [results, Tryz.results78, go_sem, errV, okC, *]) rfl ⟨rfl, ?_⟩; exact BeL
    ·have HQ := Lib.hid (show offS t1 t2 t3 t4 p = ⟨0, 0, 1⟩ by simp [offS, c0, c1, offIn, d1])
     go_enter Tryz.func78, Tryz.ntmps78
     go_wp2_with fail
     (try (go_at_call 110; refine (r1_Probe _ _ _ _ _).mono ?_; rintro e w1 ⟨rfl, hb1⟩; obtain ⟨hc1, hf1⟩ := bcell hb1; have hz1 := hb1.size; (try simp at hz1); (try have := q00_ w w1); (try have := q02_ w w1); (try have := q03_ w w1); (try have := q10_ w w1); (try have := q12_ w w1); (try have := q13_ w w1); (try have := q20_ w w1); (try have := q22_ w w1); (try have := q23_ w w1); (try have := q30_ w w1); (try have := q32_ w w1); (try have := q33_ w w1); (try go_wp2_with fail)))
     have e1 := IntWalk.i64_in (t4 - t1) (by omega)
     have e2 := IntWalk.i64_in (t3 - t4) (by omega)
     have e3 := IntWalk.i64_in (t2 - t1) (by omega)
     have e4 := IntWalk.i64_in (t2 - t1 + slackD (t4 - t1) p) (by omega)
     have p1 : 0 ≤ t4 - t1 := by omega
     have p2 : t4 - t1 ≤ 2000000000000 := by omega
     have m0 : w1.cell? ⟨w.heap.size, 0, none⟩ = some (.int .i64 t1) := by rw [hc1 _ _ (by simp; omega)]; simp
     have m1 : w1.cell? ⟨w.heap.size, 1, none⟩ = some (.int .i64 t2) := by rw [hc1 _ _ (by simp; omega)]; simp
     have m2 : w1.cell? ⟨w.heap.size, 2, none⟩ = some (.int .i64 t3) := by rw [hc1 _ _ (by simp; omega)]; simp
     have m3 : w1.cell? ⟨w.heap.size, 3, none⟩ = some (.int .i64 t4) := by rw [hc1 _ _ (by simp; omega)]; simp
     have n0 := World.new_ne w1 _ m0
     go_region_held3 (fun w' => w'.cell? ⟨w.heap.size, 0, none⟩ = some (.int .i64 t1) ∧ w'.cell? ⟨w.heap.size, 1, none⟩ = some (.int .i64 t2) ∧ w'.cell? ⟨w.heap.size, 2, none⟩ = some (.int .i64 t3) ∧ w'.cell? ⟨w.heap.size, 3, none⟩ = some (.int .i64 t4)) (go_keep)
      (first | (go_at_call 111; refine (r1_Slack _ _ _ p1 p2 k3 k4).mono ?_; rintro e w' ⟨rfl, rfl⟩))
     all_goals
      clear e1 e2 e3 e4 n0
      go_wp2_with fail
      (try (go_at_call 83; refine (r1_Time _ _).mono ?_; rintro e w' ⟨rfl, rfl⟩; (try go_wp2_with fail)))
      (try (go_at_call 83; refine (r1_Time _ _).mono ?_; rintro e w' ⟨rfl, rfl⟩; (try go_wp2_with fail)))
      rw [HQ.out]
      refine bodyPost_ret (v := (.tuple #[.agg #[.int .i64 0, .int .i64 0], .int .i64 1])) (by simp [results, Tryz.results78, go_sem, errV, okC, *]) rfl ⟨rfl, ?_⟩; exact BeL
   ·have c1 : okP t1 t4 p = false := by simp [okP, k2]
    have HQ := Lib.hid (show offS t1 t2 t3 t4 p = ⟨0, 0, 1⟩ by simp [offS, c0, c1])
    go_enter Tryz.func78, Tryz.ntmps78
    go_wp2_with fail
    (try (go_at_call 110; refine (r1_Probe _ _ _ _ _).mono ?_; rintro e w1 ⟨rfl, hb1⟩; obtain ⟨hc1, hf1⟩ := bcell hb1; have hz1 := hb1.size; (try simp at hz1); (try have := q00_ w w1); (try have := q02_ w w1); (try have := q03_ w w1); (try have := q10_ w w1); (try have := q12_ w w1); (try have := q13_ w w1); (try have := q20_ w w1); (try have := q22_ w w1); (try have := q23_ w w1); (try have := q30_ w w1); (try have := q32_ w w1); (try have := q33_ w w1); (try go_wp2_with fail)))
    rw [HQ.out]
    refine bodyPost_ret (v := (.tuple #[.agg #[.int .i64 0, .int .i64 0], .int .i64 1])) (by simp [results, Tryz.results78, go_sem, errV, okC, *]) rfl ⟨rfl, ?_⟩; exact BeL
  ·have c1 : okP t1 t4 p = false := by
    have : ¬ rateB p = true := fun h => k1 (rateB_iff.1 h)
    simp [okP, this]
   have HQ := Lib.hid (show offS t1 t2 t3 t4 p = ⟨0, 0, 1⟩ by simp [offS, c0, c1])
   rcases Int.lt_or_le p 0 with k2 | k2
   ·go_enter Tryz.func78, Tryz.ntmps78
    go_wp2_with fail
    (try (go_at_call 110; refine (r1_Probe _ _ _ _ _).mono ?_; rintro e w1 ⟨rfl, hb1⟩; obtain ⟨hc1, hf1⟩ := bcell hb1; have hz1 := hb1.size; (try simp at hz1); (try have := q00_ w w1); (try have := q02_ w w1); (try have := q03_ w w1); (try have := q10_ w w1); (try have := q12_ w w1); (try have := q13_ w w1); (try have := q20_ w w1); (try have := q22_ w w1); (try have := q23_ w w1); (try have := q30_ w w1); (try have := q32_ w w1); (try have := q33_ w w1); (try go_wp2_with fail)))
    rw [HQ.out]
    refine bodyPost_ret (v := (.tuple #[.agg #[.int .i64 0, .int .i64 0], .int .i64 1])) (by simp [results, Tryz.results78, go_sem, errV, okC, *]) rfl ⟨rfl, ?_⟩; exact BeL
   ·have k3 : 1000 < p := by omega
    go_enter Tryz.func78, Tryz.ntmps78
    go_wp2_with fail
    (try (go_at_call 110; refine (r1_Probe _ _ _ _ _).mono ?_; rintro e w1 ⟨rfl, hb1⟩; obtain ⟨hc1, hf1⟩ := bcell hb1; have hz1 := hb1.size; (try simp at hz1); (try have := q00_ w w1); (try have := q02_ w w1); (try have := q03_ w w1); (try have := q10_ w w1); (try have := q12_ w w1); (try have := q13_ w w1); (try have := q20_ w w1); (try have := q22_ w w1); (try have := q23_ w w1); (try have := q30_ w w1); (try have := q32_ w w1); (try have := q33_ w w1); (try go_wp2_with fail)))
    rw [HQ.out]
    refine bodyPost_ret (v := (.tuple #[.agg #[.int .i64 0, .int .i64 0], .int .i64 1])) (by simp [results, Tryz.results78, go_sem, errV, okC, *]) rfl ⟨rfl, ?_⟩; exact BeL
 ·have HQ := Lib.hid (show offS t1 t2 t3 t4 p = ⟨0, 0, 1⟩ by simp [offS, c0])
  go_enter Tryz.func78, Tryz.ntmps78
  go_wp2_with fail
  (try (go_at_call 110; refine (r1_Probe _ _ _ _ _).mono ?_; rintro e w1 ⟨rfl, hb1⟩; obtain ⟨hc1, hf1⟩ := bcell hb1; have hz1 := hb1.size; (try simp at hz1); (try have := q00_ w w1); (try have := q02_ w w1); (try have := q03_ w w1); (try have := q10_ w w1); (try have := q12_ w w1); (try have := q13_ w w1); (try have := q20_ w w1); (try have := q22_ w w1); (try have := q23_ w w1); (try have := q30_ w w1); (try have := q32_ w w1); (try have := q33_ w w1); (try go_wp2_with fail)))
  rw [HQ.out]
  refine bodyPost_ret (v := (.tuple #[.agg #[.int .i64 0, .int .i64 0], .int .i64 1])) (by simp [results, Tryz.results78, go_sem, errV, okC, *]) rfl ⟨rfl, ?_⟩; exact BeL
 ·have HQ := Lib.hid (show offS t1 t2 t3 t4 p = ⟨0, 0, 3⟩ by simp [offS, c0])
  go_enter Tryz.func78, Tryz.ntmps78
  go_wp2_with fail
  (try (go_at_call 110; refine (r1_Probe _ _ _ _ _).mono ?_; rintro e w1 ⟨rfl, hb1⟩; obtain ⟨hc1, hf1⟩ := bcell hb1; have hz1 := hb1.size; (try simp at hz1); (try have := q00_ w w1); (try have := q02_ w w1); (try have := q03_ w w1); (try have := q10_ w w1); (try have := q12_ w w1); (try have := q13_ w w1); (try have := q20_ w w1); (try have := q22_ w w1); (try have := q23_ w w1); (try have := q30_ w w1); (try have := q32_ w w1); (try have := q33_ w w1); (try go_wp2_with fail)))
  rw [HQ.out]
  refine bodyPost_ret (v := (.tuple #[.agg #[.int .i64 0, .int .i64 0], .int .i64 3])) (by simp [results, Tryz.results78, go_sem, errV, okC, *]) rfl ⟨rfl, ?_⟩; exact BeL
end Go.Proofs.YtldlandcjegikaaGreatDoor
