/- Package probe, walked. -/
import Derived.Test.YtldlandcjegikaaGreatDoorHK1
namespace Go.Proofs.YtldlandcjegikaaGreatDoor
open Go.RowKit
set_option linter.unusedVariables false
set_option linter.unusedSimpArgs false
theorem Slack_any (n p : Int) (w : World) (h0 : 0 ≤ n) (h1 : n ≤ 2000000000000) (h2 : 0 ≤ p) (h3 : p ≤ 1000) :
  Calls Tryz.prog 160 #[.int .i64 n, .int .i64 p] w fun e w' => e = .returned (.int .i64 (slackD n p)) ∧ w = w' := by
 have hb := byP_bd h0 h1 (show (0:Int) ≤ 3 * p by omega) (show 3 * p ≤ 3000 by omega)
 obtain ⟨b1, b2⟩ := hb
 go_enter Tryz.func160, Tryz.ntmps160
 go_wp2_with (go_at_call 177; refine (By_any _ _ _ (by omega) (by omega) (by omega) (by omega)).mono ?_; rintro e w' ⟨rfl, rfl⟩)
 go_ret
 exact ⟨rfl, rfl⟩
structure Upto4 (t1 t2 t3 t4 : Int) (k : Nat) : Prop where
 le : k ≤ 4
 b1 : 0 < k → timeB t1 = true
 b2 : 1 < k → timeB t2 = true
 b3 : 2 < k → timeB t3 = true
 b4 : 3 < k → timeB t4 = true
set_option maxHeartbeats 1000000 in
theorem probe_Check (t1 t2 t3 t4 : Int) (w : World) :
  Calls Tryz.prog 159 #[.agg #[.int .i64 t1, .int .i64 t2, .int .i64 t3, .int .i64 t4]] w fun e w' => e = .returned (errV (probeC t1 t2 t3 t4)) ∧ Below w.heap.size w w' := by
 go_enter Tryz.func159, Tryz.ntmps159
 go_wp2_with (go_at_call 54; refine (Time_any _ _).mono ?_; rintro e w' ⟨rfl, rfl⟩)
 go_loop [15] (fun i => ∃ k : Nat, i = .int .i64 k ∧ Upto4 t1 t2 t3 t4 k) (fun i => 4 - (intOf i).toNat)
 case atStart => exact ⟨0, rfl, by omega, by omega, by omega, by omega, by omega⟩
 case round =>
  obtain ⟨k, rfl, hU⟩ := hrel
  have hc : k = 0 ∨ k = 1 ∨ k = 2 ∨ k = 3 ∨ k = 4 := by have := hU.le; omega
  rcases hc with rfl | rfl | rfl | rfl | rfl
  ·by_cases ht : timeB t1 = true
   ·have HU : Hid _ := Lib.hid (show Upto4 t1 t2 t3 t4 1 from ⟨by omega, fun _ => ht, by omega, by omega, by omega⟩)
    clear hU
    go_wp2_with (go_at_call 54; refine (Time_any _ _).mono ?_; rintro e w' ⟨rfl, rfl⟩)
    go_round
    case rel => exact ⟨1, by go_num, HU.out⟩
    case measure => simp [intOf]
   ·have hp := probeC_bad (t1 := t1) (t2 := t2) (t3 := t3) (t4 := t4) (.inl (by simpa using ht))
    clear hU
    go_wp2_with (go_at_call 54; refine (Time_any _ _).mono ?_; rintro e w' ⟨rfl, rfl⟩)
    go_ret
    exact ⟨ret_v (by rw [hp]; rfl), BeL⟩
  ·by_cases ht : timeB t2 = true
   ·have HU : Hid _ := Lib.hid (show Upto4 t1 t2 t3 t4 2 from ⟨by omega, fun _ => hU.b1 (by omega), fun _ => ht, by omega, by omega⟩)
    clear hU
    go_wp2_with (go_at_call 54; refine (Time_any _ _).mono ?_; rintro e w' ⟨rfl, rfl⟩)
    go_round
    case rel => exact ⟨2, by go_num, HU.out⟩
    case measure => simp [intOf]
   ·have hp := probeC_bad (t1 := t1) (t2 := t2) (t3 := t3) (t4 := t4) (.inr (.inl (by simpa using ht)))
    clear hU
    go_wp2_with (go_at_call 54; refine (Time_any _ _).mono ?_; rintro e w' ⟨rfl, rfl⟩)
    go_ret
    exact ⟨ret_v (by rw [hp]; rfl), BeL⟩
  ·by_cases ht : timeB t3 = true
   ·have HU : Hid _ := Lib.hid (show Upto4 t1 t2 t3 t4 3 from ⟨by omega, fun _ => hU.b1 (by omega), fun _ => hU.b2 (by omega), fun _ => ht, by omega⟩)
    clear hU
    go_wp2_with (go_at_call 54; refine (Time_any _ _).mono ?_; rintro e w' ⟨rfl, rfl⟩)
    go_round
    case rel => exact ⟨3, by go_num, HU.out⟩
    case measure => simp [intOf]
   ·have hp := probeC_bad (t1 := t1) (t2 := t2) (t3 := t3) (t4 := t4) (.inr (.inr (.inl (by simpa using ht))))
    clear hU
    go_wp2_with (go_at_call 54; refine (Time_any _ _).mono ?_; rintro e w' ⟨rfl, rfl⟩)
    go_ret
    exact ⟨ret_v (by rw [hp]; rfl), BeL⟩
  ·by_cases ht : timeB t4 = true
   ·have HU : Hid _ := Lib.hid (show Upto4 t1 t2 t3 t4 4 from ⟨by omega, fun _ => hU.b1 (by omega), fun _ => hU.b2 (by omega), fun _ => hU.b3 (by omega), fun _ => ht⟩)
    clear hU
    go_wp2_with (go_at_call 54; refine (Time_any _ _).mono ?_; rintro e w' ⟨rfl, rfl⟩)
    go_round
    case rel => exact ⟨4, by go_num, HU.out⟩
    case measure => simp [intOf]
   ·have hp := probeC_bad (t1 := t1) (t2 := t2) (t3 := t3) (t4 := t4) (.inr (.inr (.inr (by simpa using ht))))
    clear hU
    go_wp2_with (go_at_call 54; refine (Time_any _ _).mono ?_; rintro e w' ⟨rfl, rfl⟩)
    go_ret
    exact ⟨ret_v (by rw [hp]; rfl), BeL⟩
  ·have hp := Lib.hid (probeC_good (hU.b1 (by omega)) (hU.b2 (by omega)) (hU.b3 (by omega)) (hU.b4 (by omega)))
   clear hU
   by_cases h1 : t4 < t1
   ·go_wp2_with fail
    (try (go_quiet (fail); go_wp2_with fail))
    go_ret
    exact ⟨ret_v (by rw [hp.out, if_pos (.inl h1)]; rfl), BeL⟩
   ·by_cases h2 : t3 < t2
    ·go_wp2_with fail
     (try (go_quiet (fail); go_wp2_with fail))
     go_ret
     exact ⟨ret_v (by rw [hp.out, if_pos (.inr h2)]; rfl), BeL⟩
    ·go_wp2_with fail
     (try (go_quiet (fail); go_wp2_with fail))
     go_ret
     exact ⟨ret_v (by rw [hp.out, if_neg (by omega)]; rfl), BeL⟩
set_option maxHeartbeats 4000000 in
theorem Offset_any (t1 t2 t3 t4 p : Int) (w : World) :
  Calls Tryz.prog 133 #[.agg #[.int .i64 t1, .int .i64 t2, .int .i64 t3, .int .i64 t4], .int .i64 p] w fun e w' => e = .returned (.tuple #[.agg #[.int .i64 (offS t1 t2 t3 t4 p).lo, .int .i64 (offS t1 t2 t3 t4 p).hi], errV (offS t1 t2 t3 t4 p).c]) ∧ Below w.heap.size w w' := by
 rcases probeC_3 t1 t2 t3 t4 with c0 | c0 | c0
 ·obtain ⟨g1, g2, g3, g4, g5, g6⟩ := probeC_0 c0
  obtain ⟨b1, b2⟩ := timeB_iff.1 g1
  obtain ⟨b3, b4⟩ := timeB_iff.1 g2
  obtain ⟨b5, b6⟩ := timeB_iff.1 g3
  obtain ⟨b7, b8⟩ := timeB_iff.1 g4
  by_cases k1 : rateB p = true
  ·by_cases k2 : t4 - t1 ≤ 1000000000000
   ·have c1 : okP t1 t4 p = true := by simp [okP, k1, k2]
    obtain ⟨k3, k4⟩ := rateB_iff.1 k1
    have s0 := byP_bd (n := t4 - t1) (p := 3 * p) (by omega) (by omega) (by omega) (by omega)
    have s1 : 0 ≤ slackD (t4 - t1) p := by unfold slackD; omega
    have s2 : slackD (t4 - t1) p ≤ 6000000002 := by unfold slackD; omega
    have hv1 : timeB (t3 - t4) = true → timeB (t2 - t1 + slackD (t4 - t1) p) = true → t3 - t4 ≤ t2 - t1 + slackD (t4 - t1) p → offS t1 t2 t3 t4 p = ⟨t3 - t4, t2 - t1 + slackD (t4 - t1) p, 0⟩ := fun x y z => by
     have y' : timeB (offHi t1 t2 t4 p) = true := y
     have z' : t3 - t4 ≤ offHi t1 t2 t4 p := z
     simp only [offS, c0, c1, offIn, x, y', Bool.and_self, if_true]; rw [if_pos z']; rfl
    have hv2 : timeB (t3 - t4) = true → timeB (t2 - t1 + slackD (t4 - t1) p) = true → ¬ t3 - t4 ≤ t2 - t1 + slackD (t4 - t1) p → offS t1 t2 t3 t4 p = ⟨0, 0, 7⟩ := fun x y z => by
     have y' : timeB (offHi t1 t2 t4 p) = true := y
     have z' : ¬ t3 - t4 ≤ offHi t1 t2 t4 p := z
     simp only [offS, c0, c1, offIn, x, y', Bool.and_self, if_true]; rw [if_neg z']
    have hv3 : ¬ timeB (t3 - t4) = true ∨ ¬ timeB (t2 - t1 + slackD (t4 - t1) p) = true → offS t1 t2 t3 t4 p = ⟨0, 0, 1⟩ := fun x => by
     have y' : ¬ offIn t1 t2 t3 t4 p = true := by simp only [offIn, offHi, Bool.and_eq_true]; rintro ⟨u, v⟩; rcases x with x | x; exact x u; exact x v
     simp only [offS, c0, c1, if_true]; rw [if_neg y']
    have HV1 := Lib.hid hv1
    have HV2 := Lib.hid hv2
    have HV3 := Lib.hid hv3
    clear s0 hv1 hv2 hv3
    go_enter Tryz.func133, Tryz.ntmps133
    go_wp2_with fail
    (try (go_at_call 159; refine (probe_Check _ _ _ _ _).mono ?_; rintro e w1 ⟨rfl, hb1⟩; obtain ⟨hc1, hf1⟩ := bcell hb1; have hz1 := hb1.size; (try simp at hz1); (try have := q00_ w w1); (try have := q02_ w w1); (try have := q03_ w w1); (try have := q10_ w w1); (try have := q12_ w w1); (try have := q13_ w w1); (try have := q20_ w w1); (try have := q22_ w w1); (try have := q23_ w w1); (try have := q30_ w w1); (try have := q32_ w w1); (try have := q33_ w w1); (try go_wp2_with fail)))
    (try (go_at_call 55; refine (Rate_any _ _).mono ?_; rintro e w' ⟨rfl, rfl⟩; (try go_wp2_with fail)))
    have e1 := IntWalk.i64_in (t4 - t1) (by omega)
    have e2 := IntWalk.i64_in (t3 - t4) (by omega)
    have e3 := IntWalk.i64_in (t2 - t1) (by omega)
    have e4 := IntWalk.i64_in (t2 - t1 + slackD (t4 - t1) p) (by omega)
    have p1 : 0 ≤ t4 - t1 := by omega
    have p2 : t4 - t1 ≤ 2000000000000 := by omega
    have m0 : w1.cell? ⟨w.heap.size, 0, none⟩ = some (.int .i64 t1) := by rw [hc1 _ _ (by simp; omega)]; simp
    have m1 : w1.cell? ⟨w.heap.size, 1, none⟩ = some (.int .i64 t2) := by rw [hc1 _ _ (by simp; omega)]; simp
    have m2 : w1.cell? ⟨w.heap.size, 2, none⟩ = some (.int .i64 t3) := by rw [hc1 _ _ (by simp; omega)]; simp
    have m3 : w1.cell? ⟨w.heap.size, 3, none⟩ = some (.int .i64 t4) := by rw [hc1 _ _ (by simp; omega)]; simp
    have n0 := World.new_ne w1 _ m0
    go_region_held3 (fun w' => w'.cell? ⟨w.heap.size, 0, none⟩ = some (.int .i64 t1) ∧ w'.cell? ⟨w.heap.size, 1, none⟩ = some (.int .i64 t2) ∧ w'.cell? ⟨w.heap.size, 2, none⟩ = some (.int .i64 t3) ∧ w'.cell? ⟨w.heap.size, 3, none⟩ = some (.int .i64 t4)) (go_keep)
     (first | (go_at_call 160; refine (Slack_any _ _ _ p1 p2 k3 k4).mono ?_; rintro e w' ⟨rfl, rfl⟩))
    all_goals
     clear e1 e2 e3 e4 n0
     by_cases d1 : timeB (t3 - t4) = true
     ·by_cases d2 : timeB (t2 - t1 + slackD (t4 - t1) p) = true
      ·by_cases d3 : t3 - t4 ≤ t2 - t1 + slackD (t4 - t1) p
       ·have HQ := Lib.hid (HV1.out d1 d2 d3)
        go_wp2_with fail
        (try (go_at_call 54; refine (Time_any _ _).mono ?_; rintro e w' ⟨rfl, rfl⟩; (try go_wp2_with fail)))
        (try (go_at_call 54; refine (Time_any _ _).mono ?_; rintro e w' ⟨rfl, rfl⟩; (try go_wp2_with fail)))
        rw [HQ.out]
        refine bodyPost_ret (v := (.tuple #[.agg #[.int .i64 (t3 - t4), .int .i64 (t2 - t1 + slackD (t4 - t1) p)], .nilIface])) (by simp [results, Tryz.results133, go_sem, errV, okC, *]) rfl ⟨rfl, ?_⟩; exact BeL
       ·have HQ := Lib.hid (HV2.out d1 d2 (by omega))
        go_wp2_with fail
        (try (go_at_call 54; refine (Time_any _ _).mono ?_; rintro e w' ⟨rfl, rfl⟩; (try go_wp2_with fail)))
        (try (go_at_call 54; refine (Time_any _ _).mono ?_; rintro e w' ⟨rfl, rfl⟩; (try go_wp2_with fail)))
        rw [HQ.out]
        refine bodyPost_ret (v := (.tuple #[.agg #[.int .i64 0, .int .i64 0], errV 7])) (by simp [results, Tryz.results133, go_sem, errV, okC, *]) rfl ⟨rfl, ?_⟩; exact BeL
      ·have HQ := Lib.hid (HV3.out (.inr d2))
       go_wp2_with fail
       (try (go_at_call 54; refine (Time_any _ _).mono ?_; rintro e w' ⟨rfl, rfl⟩; (try go_wp2_with fail)))
       (try (go_at_call 54; refine (Time_any _ _).mono ?_; rintro e w' ⟨rfl, rfl⟩; (try go_wp2_with fail)))
       rw [HQ.out]
       refine bodyPost_ret (v := (.tuple #[.agg #[.int .i64 0, .int .i64 0], errV 1])) (by simp [results, Tryz.results133, go_sem, errV, okC, *]) rfl ⟨rfl, ?_⟩; exact BeL
     ·have HQ := Lib.hid (HV3.out (.inl d1))
      go_wp2_with fail
      (try (go_at_call 54; refine (Time_any _ _).mono ?_; rintro e w' ⟨rfl, rfl⟩; (try go_wp2_with fail)))
      rw [HQ.out]
      refine bodyPost_ret (v := (.tuple #[.agg #[.int .i64 0, .int .i64 0], errV 1])) (by simp [results, Tryz.results133, go_sem, errV, okC, *]) rfl ⟨rfl, ?_⟩; exact BeL
   ·have c1 : okP t1 t4 p = false := by simp [okP, k2]
    have hv := Lib.hid (show offS t1 t2 t3 t4 p = ⟨0, 0, 1⟩ by simp [offS, c0, c1])
    go_enter Tryz.func133, Tryz.ntmps133
    go_wp2_with fail
    (try (go_at_call 159; refine (probe_Check _ _ _ _ _).mono ?_; rintro e w1 ⟨rfl, hb1⟩; obtain ⟨hc1, hf1⟩ := bcell hb1; have hz1 := hb1.size; (try simp at hz1); (try have := q00_ w w1); (try have := q02_ w w1); (try have := q03_ w w1); (try have := q10_ w w1); (try have := q12_ w w1); (try have := q13_ w w1); (try have := q20_ w w1); (try have := q22_ w w1); (try have := q23_ w w1); (try have := q30_ w w1); (try have := q32_ w w1); (try have := q33_ w w1); (try go_wp2_with fail)))
    (try (go_at_call 55; refine (Rate_any _ _).mono ?_; rintro e w' ⟨rfl, rfl⟩; (try go_wp2_with fail)))
    rw [hv.out]
    refine bodyPost_ret (v := (.tuple #[.agg #[.int .i64 0, .int .i64 0], errV 1])) (by simp [results, Tryz.results133, go_sem, errV, okC, *]) rfl ⟨rfl, ?_⟩; exact BeL
  ·have c1 : okP t1 t4 p = false := by simp [okP, k1]
   have hv := Lib.hid (show offS t1 t2 t3 t4 p = ⟨0, 0, 1⟩ by simp [offS, c0, c1])
   go_enter Tryz.func133, Tryz.ntmps133
   go_wp2_with fail
   (try (go_at_call 159; refine (probe_Check _ _ _ _ _).mono ?_; rintro e w1 ⟨rfl, hb1⟩; obtain ⟨hc1, hf1⟩ := bcell hb1; have hz1 := hb1.size; (try simp at hz1); (try have := q00_ w w1); (try have := q02_ w w1); (try have := q03_ w w1); (try have := q10_ w w1); (try have := q12_ w w1); (try have := q13_ w w1); (try have := q20_ w w1); (try have := q22_ w w1); (try have := q23_ w w1); (try have := q30_ w w1); (try have := q32_ w w1); (try have := q33_ w w1); (try go_wp2_with fail)))
   (try (go_at_call 55; refine (Rate_any _ _).mono ?_; rintro e w' ⟨rfl, rfl⟩; (try go_wp2_with fail)))
   rw [hv.out]
   refine bodyPost_ret (v := (.tuple #[.agg #[.int .i64 0, .int .i64 0], errV 1])) (by simp [results, Tryz.results133, go_sem, errV, okC, *]) rfl ⟨rfl, ?_⟩; exact BeL
 ·have hv := Lib.hid (show offS t1 t2 t3 t4 p = ⟨0, 0, 1⟩ by simp [offS, c0])
  go_enter Tryz.func133, Tryz.ntmps133
  go_wp2_with fail
  (try (go_at_call 159; refine (probe_Check _ _ _ _ _).mono ?_; rintro e w1 ⟨rfl, hb1⟩; obtain ⟨hc1, hf1⟩ := bcell hb1; have hz1 := hb1.size; (try simp at hz1); (try have := q00_ w w1); (try have := q02_ w w1); (try have := q03_ w w1); (try have := q10_ w w1); (try have := q12_ w w1); (try have := q13_ w w1); (try have := q20_ w w1); (try have := q22_ w w1); (try have := q23_ w w1); (try have := q30_ w w1); (try have := q32_ w w1); (try have := q33_ w w1); (try go_wp2_with fail)))
  rw [hv.out]
  refine bodyPost_ret (v := (.tuple #[.agg #[.int .i64 0, .int .i64 0], errV 1])) (by simp [results, Tryz.results133, go_sem, errV, okC, *]) rfl ⟨rfl, ?_⟩; exact BeL
 ·have hv := Lib.hid (show offS t1 t2 t3 t4 p = ⟨0, 0, 3⟩ by simp [offS, c0])
  go_enter Tryz.func133, Tryz.ntmps133
  go_wp2_with fail
  (try (go_at_call 159; refine (probe_Check _ _ _ _ _).mono ?_; rintro e w1 ⟨rfl, hb1⟩; obtain ⟨hc1, hf1⟩ := bcell hb1; have hz1 := hb1.size; (try simp at hz1); (try have := q00_ w w1); (try have := q02_ w w1); (try have := q03_ w w1); (try have := q10_ w w1); (try have := q12_ w w1); (try have := q13_ w w1); (try have := q20_ w w1); (try have := q22_ w w1); (try have := q23_ w w1); (try have := q30_ w w1); (try have := q32_ w w1); (try have := q33_ w w1); (try go_wp2_with fail)))
  rw [hv.out]
  refine bodyPost_ret (v := (.tuple #[.agg #[.int .i64 0, .int .i64 0], errV 3])) (by simp [results, Tryz.results133, go_sem, errV, okC, *]) rfl ⟨rfl, ?_⟩; exact BeL
structure BestInv (p : Int) (zs : List RProbe) (i : Nat) (a lo hi : Int) : Prop where
 le : i ≤ zs.length
 rest : bestGo p (zs.drop i) i a lo hi = bestGo p zs 0 0 0 0
 l1 : -1000000000000 ≤ lo
 l2 : lo ≤ 1000000000000
 l3 : -1000000000000 ≤ hi
 l4 : hi ≤ 1000000000000
end Go.Proofs.YtldlandcjegikaaGreatDoor
