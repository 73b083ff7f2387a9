/- Package civil, walked: days, months and years. -/
import Derived.Test.YtldlandcjegikaaGreatDoorHK1
namespace Go.Proofs.YtldlandcjegikaaGreatDoor
open Go.RowKit
set_option linter.unusedVariables false
set_option linter.unusedSimpArgs false
def TabAt (w : World) : Prop := ∀ k : Nat, k ≤ 12 → w.cell? ⟨5, k, none⟩ = some (.int .i64 (beforeD ((k : Int) + 1)))
theorem TabAt.lt {w : World} (h : TabAt w) : 5 < w.heap.size := by
 rcases Nat.lt_or_ge 5 w.heap.size with h' | h'
 ·exact h'
 ·have := h 0 (by omega); simp [World.cell?, Array.getElem?_eq_none h'] at this
theorem TabAt.below {w w' : World} (h : TabAt w) (hb : Below w.heap.size w w') : TabAt w' := fun k hk => (hb.cell (p := ⟨5, k, none⟩) h.lt).trans (h k hk)
theorem civil_leap (y : Int) (w : World) (h1 : 1 ≤ y) (h2 : y ≤ 9999) : Calls Tryz.prog 167 #[.int .i64 y] w fun e w' => e = .returned (.bool (leapB y)) ∧ w = w' := by
 go_enter Tryz.func167, Tryz.ntmps167
 go_wp2
 all_goals (go_ret; exact ⟨ret_bool (by unfold leapB; simp [*]; try first | rfl | omega), rfl⟩)
theorem civil_first (y : Int) (w : World) (h1 : 1970 ≤ y) (h2 : y ≤ 2200) : Calls Tryz.prog 142 #[.int .i64 y] w fun e w' => e = .returned (.int .i64 (firstD y)) ∧ w = w' := by
 go_enter Tryz.func142, Tryz.ntmps142
 go_wp2
 all_goals (go_ret; exact ⟨ret_int (by unfold firstD; try omega), rfl⟩)
theorem civil_Last (w : World) : Calls Tryz.prog 140 #[] w fun e w' => e = .returned (.int .i64 lastDay) ∧ w = w' := by
 have hv : firstD 2200 = 84006 := by decide
 obtain ⟨f, ef⟩ : ∃ f, firstD 2200 = f := ⟨_, rfl⟩
 have hl := Lib.hid (show f - 1 = lastDay by rw [← ef]; rfl)
 rw [ef] at hv
 have b1 : f ≤ 84006 := by omega
 have b2 : 84006 ≤ f := by omega
 clear hv
 go_enter Tryz.func140, Tryz.ntmps140
 go_wp2_with (go_at_call 142; refine (civil_first _ _ (by omega) (by omega)).mono ?_; rintro e w' ⟨rfl, rfl⟩; rw [ef])
 go_ret
 exact ⟨ret_int hl.out, rfl⟩
theorem civil_days (y m : Int) (w : World) (hT : TabAt w) (h1 : 1970 ≤ y) (h2 : y ≤ 2199) (h3 : 1 ≤ m) (h4 : m ≤ 12) : Calls Tryz.prog 179 #[.int .i64 y, .int .i64 m] w fun e w' => e = .returned (.int .i64 (daysD y m)) ∧ Below w.heap.size w w' := by
 obtain ⟨k, rfl⟩ : ∃ k : Nat, m = k := ⟨m.toNat, by omega⟩
 have c0 := hT (k - 1) (by omega)
 have c1 := hT k (by omega)
 rw [show (((k - 1 : Nat) : Int) + 1) = k by omega] at c0
 clear hT
 obtain ⟨b0, e0⟩ : ∃ x, beforeD (k : Int) = x := ⟨_, rfl⟩
 obtain ⟨b1, e1⟩ : ∃ x, beforeD ((k : Int) + 1) = x := ⟨_, rfl⟩
 obtain ⟨x0, X0⟩ := before_bd (k : Int)
 obtain ⟨x1, X1⟩ := before_bd ((k : Int) + 1)
 have hD := Lib.hid (show daysD y k = b1 - b0 + (if (k : Int) = 2 then leapN y else 0) by unfold daysD; rw [e0, e1])
 rw [e0] at c0 x0 X0
 rw [e1] at c1 x1 X1
 clear e0 e1
 go_enter Tryz.func179, Tryz.ntmps179
 go_wp2_with fail
 go_quiet (fail)
 go_wp2_with (go_at_call 167; refine (civil_leap _ _ (by omega) (by omega)).mono ?_; rintro e w' ⟨rfl, rfl⟩)
 all_goals
  go_ret
  refine ⟨ret_int ?_, BeL⟩
  rw [hD.out]
  simp [leapN, *]
theorem civil_ahead (y m : Int) (w : World) (hT : TabAt w) (h1 : 1970 ≤ y) (h2 : y ≤ 2199) (h3 : 1 ≤ m) (h4 : m ≤ 13) : Calls Tryz.prog 143 #[.int .i64 y, .int .i64 m] w fun e w' => e = .returned (.int .i64 (aheadD y m)) ∧ w = w' := by
 obtain ⟨k, rfl⟩ : ∃ k : Nat, m = k := ⟨m.toNat, by omega⟩
 have c0 := hT (k - 1) (by omega)
 rw [show (((k - 1 : Nat) : Int) + 1) = k by omega] at c0
 clear hT
 obtain ⟨b0, e0⟩ : ∃ x, beforeD (k : Int) = x := ⟨_, rfl⟩
 obtain ⟨x0, X0⟩ := before_bd (k : Int)
 have hD := Lib.hid (show aheadD y k = b0 + (if 2 < (k : Int) then leapN y else 0) by unfold aheadD; rw [e0])
 rw [e0] at c0 x0 X0
 clear e0
 go_enter Tryz.func143, Tryz.ntmps143
 go_wp2_with (go_at_call 167; refine (civil_leap _ _ (by omega) (by omega)).mono ?_; rintro e w' ⟨rfl, rfl⟩)
 all_goals
  go_ret
  refine ⟨ret_int ?_, rfl⟩
  rw [hD.out]
  first | (rw [if_neg (by omega)]; done) | (rw [if_neg (by omega)]; omega) | simp [leapN, *]
theorem civil_Days (y m : Int) (w : World) (hT : TabAt w) : Calls Tryz.prog 168 #[.int .i64 y, .int .i64 m] w fun e w' => e = .returned (.tuple #[.int .i64 (if ymB y m = true then daysD y m else 0), errV (okC (ymB y m))]) ∧ Below w.heap.size w w' := by
 have HT := Lib.hid hT
 clear hT
 by_cases g1 : y < 1970
 ·have hv : ymB y m = false := by unfold ymB; simp; omega
  rw [hv]
  clear hv
  go_enter Tryz.func168, Tryz.ntmps168
  go_wp2_with fail
  go_ret2
  exact ⟨rfl, BeL⟩
 by_cases g2 : 2199 < y
 ·have hv : ymB y m = false := by unfold ymB; simp; omega
  rw [hv]
  clear hv
  go_enter Tryz.func168, Tryz.ntmps168
  go_wp2_with fail
  go_ret2
  exact ⟨rfl, BeL⟩
 by_cases g3 : m < 1
 ·have hv : ymB y m = false := by unfold ymB; simp; omega
  rw [hv]
  clear hv
  go_enter Tryz.func168, Tryz.ntmps168
  go_wp2_with fail
  go_ret2
  exact ⟨rfl, BeL⟩
 by_cases g4 : 12 < m
 ·have hv : ymB y m = false := by unfold ymB; simp; omega
  rw [hv]
  clear hv
  go_enter Tryz.func168, Tryz.ntmps168
  go_wp2_with fail
  go_ret2
  exact ⟨rfl, BeL⟩
 have hv : ymB y m = true := by unfold ymB; simp; omega
 rw [hv]
 clear hv
 go_enter Tryz.func168, Tryz.ntmps168
 go_wp2_with (go_at_call 179; refine (civil_days _ _ _ HT.out (by omega) (by omega) (by omega) (by omega)).mono ?_; rintro e w1 ⟨rfl, hb1⟩; obtain ⟨hc1, hf1⟩ := bcell hb1; have hz1 := hb1.size; (try simp at hz1); (try have := q00_ w w1); (try have := q02_ w w1); (try have := q03_ w w1); (try have := q10_ w w1); (try have := q12_ w w1); (try have := q13_ w w1); (try have := q20_ w w1); (try have := q22_ w w1); (try have := q23_ w w1); (try have := q30_ w w1); (try have := q32_ w w1); (try have := q33_ w w1))
 go_ret2
 exact ⟨rfl, BeL⟩
theorem civil_Check (y m d : Int) (w : World) (hT : TabAt w) : Calls Tryz.prog 144 #[.agg #[.int .i64 y, .int .i64 m, .int .i64 d]] w fun e w' => e = .returned (errV (okC (dateB y m d))) ∧ Below w.heap.size w w' := by
 have HT := Lib.hid hT
 clear hT
 by_cases g : ymB y m = true
 ·obtain ⟨D, eD⟩ : ∃ D, daysD y m = D := ⟨_, rfl⟩
  have hd := fun w hT => civil_Days y m w hT
  rw [if_pos g, g, eD] at hd
  have HV := Lib.hid (show dateB y m d = (decide (1 ≤ d) && decide (d ≤ D)) by unfold dateB; rw [g, eD]; simp)
  have HD := Lib.hid hd
  clear hd eD g
  by_cases g1 : d < 1
  ·go_enter Tryz.func144, Tryz.ntmps144
   go_wp2_with fail
   (try (go_at_call 168; refine (HD.out _ (HT.out.below BeL)).mono ?_; rintro e w1 ⟨rfl, hb1⟩; obtain ⟨hc1, hf1⟩ := bcell hb1; have hz1 := hb1.size; (try simp at hz1); (try have := q00_ w w1); (try have := q02_ w w1); (try have := q03_ w w1); (try have := q10_ w w1); (try have := q12_ w w1); (try have := q13_ w w1); (try have := q20_ w w1); (try have := q22_ w w1); (try have := q23_ w w1); (try have := q30_ w w1); (try have := q32_ w w1); (try have := q33_ w w1); (try go_wp2_with fail)))
   go_ret
   exact ⟨by rw [HV.out]; first | (rw [decide_eq_false (show ¬ (1 ≤ d) by omega)]; rfl) | (rw [decide_eq_true (show 1 ≤ d by omega), decide_eq_false (show ¬ (d ≤ D) by omega)]; rfl) | (rw [decide_eq_true (show 1 ≤ d by omega), decide_eq_true (show d ≤ D by omega)]; rfl), BeL⟩
  ·go_enter Tryz.func144, Tryz.ntmps144
   go_wp2_with fail
   (try (go_at_call 168; refine (HD.out _ (HT.out.below BeL)).mono ?_; rintro e w1 ⟨rfl, hb1⟩; obtain ⟨hc1, hf1⟩ := bcell hb1; have hz1 := hb1.size; (try simp at hz1); (try have := q00_ w w1); (try have := q02_ w w1); (try have := q03_ w w1); (try have := q10_ w w1); (try have := q12_ w w1); (try have := q13_ w w1); (try have := q20_ w w1); (try have := q22_ w w1); (try have := q23_ w w1); (try have := q30_ w w1); (try have := q32_ w w1); (try have := q33_ w w1); (try go_wp2_with fail)))
   all_goals
    go_ret
    exact ⟨by rw [HV.out]; first | (rw [decide_eq_false (show ¬ (1 ≤ d) by omega)]; rfl) | (rw [decide_eq_true (show 1 ≤ d by omega), decide_eq_false (show ¬ (d ≤ D) by omega)]; rfl) | (rw [decide_eq_true (show 1 ≤ d by omega), decide_eq_true (show d ≤ D by omega)]; rfl), BeL⟩
 ·have hd := fun w hT => civil_Days y m w hT
  rw [if_neg g, Bool.not_eq_true _ |>.mp g] at hd
  have HV := Lib.hid (show dateB y m d = false by unfold dateB; simp [g])
  have HD := Lib.hid hd
  clear hd g
  go_enter Tryz.func144, Tryz.ntmps144
  go_wp2_with fail
  (try (go_at_call 168; refine (HD.out _ (HT.out.below BeL)).mono ?_; rintro e w1 ⟨rfl, hb1⟩; obtain ⟨hc1, hf1⟩ := bcell hb1; have hz1 := hb1.size; (try simp at hz1); (try have := q00_ w w1); (try have := q02_ w w1); (try have := q03_ w w1); (try have := q10_ w w1); (try have := q12_ w w1); (try have := q13_ w w1); (try have := q20_ w w1); (try have := q22_ w w1); (try have := q23_ w w1); (try have := q30_ w w1); (try have := q32_ w w1); (try have := q33_ w w1); (try go_wp2_with fail)))
  go_ret
  exact ⟨by rw [HV.out]; rfl, BeL⟩
set_option maxRecDepth 100000 in
set_option maxHeartbeats 1000000 in
theorem civil_DateOf (n y m d : Int) (w : World) (hT : TabAt w) (hd : dateB y m d = true) (hn : numD y m d = n) : Calls Tryz.prog 103 #[.int .i64 n] w fun e w' => e = .returned (.agg #[.int .i64 y, .int .i64 m, .int .i64 d]) ∧ Below w.heap.size w w' := by
 obtain ⟨g1, g2, g3, g4, g5, g6⟩ := dateB_bd hd
 obtain ⟨k1, k2, k3, k4⟩ := date_within hd hn
 have q0 := first_guess n y (by have := firstD_bd g1 (show y ≤ 2200 by omega); omega) g1 k2
 have q1 := (firstD_bd (y := y) g1 (by omega))
 have qn : n ≤ 84005 := num_top g2 k2
 have HT := Lib.hid hT
 have HD := Lib.hid (show d = n - firstD y - aheadD y m + 1 by unfold numD at hn; omega)
 have hA := aheadD_bd y m
 clear hT hn hd
 go_enter Tryz.func103, Tryz.ntmps103
 go_wp2_with fail
 go_loop [3] (fun t => ∃ y' : Int, 1970 ≤ y' ∧ y' ≤ y ∧ t = .int .i64 y') (fun t => (y - intOf t).toNat)
 case atStart => exact ⟨_, by omega, q0, rfl⟩
 case round =>
  obtain ⟨y', r1, r2, rfl⟩ := hrel
  have C1 : ∀ w, Calls Tryz.prog 142 #[.int .i64 (y' + 1)] w fun e w' => e = .returned (.int .i64 (firstD (y' + 1))) ∧ w = w' := fun w => civil_first (y' + 1) w (by omega) (by omega)
  by_cases hlt : y' < y
  ·have hf : firstD (y' + 1) ≤ n := Int.le_trans (first_mono (by omega) (by omega)) k1
   go_wp2_with (go_at_call 142; refine (C1 _).mono ?_; rintro e w' ⟨rfl, rfl⟩)
   go_round
   case rel => exact ⟨y' + 1, by omega, by omega, rfl⟩
   case measure => simp [intOf]; omega
  ·obtain rfl : y' = y := by omega
   have hf : n < firstD (y' + 1) := k2
   have C2 : ∀ w, Calls Tryz.prog 142 #[.int .i64 y'] w fun e w' => e = .returned (.int .i64 (firstD y')) ∧ w = w' := fun w => civil_first y' w (by omega) (by omega)
   clear hlt r1 r2 q0
   obtain ⟨f, ef⟩ : ∃ f, firstD y' = f := ⟨_, rfl⟩
   obtain ⟨F, eF⟩ : ∃ f, firstD (y' + 1) = f := ⟨_, rfl⟩
   rw [eF] at C1 hf
   rw [ef] at C2 k1 k3 k4 q1 HD
   have C1 := Lib.hid C1
   have C2 := Lib.hid C2
   clear ef eF k2
   go_wp2_with fail
   refine (C1.out _).mono ?_
   rintro e w' ⟨rfl, rfl⟩
   go_wp2_with fail
   refine (C2.out _).mono ?_
   rintro e w' ⟨rfl, rfl⟩
   go_wp2_with fail
   clear C1 C2 hf
   go_loop [4] (fun t => ∃ m' : Int, 1 ≤ m' ∧ m' ≤ m ∧ t = .int .i64 m') (fun t => (m - intOf t).toNat)
   case atStart => exact ⟨1, by omega, g3, rfl⟩
   case round =>
    obtain ⟨m', r1, r2, rfl⟩ := hrel
    by_cases hlt : m' < m
    ·have hm : m' < 12 := by omega
     have ha : aheadD y' (m' + 1) ≤ n - f := Int.le_trans (ahead_mono (by omega) (by omega) (by omega)) k3
     obtain ⟨A, eA⟩ : ∃ A, aheadD y' (m' + 1) = A := ⟨_, rfl⟩
     have C3 : ∀ w, TabAt w → Calls Tryz.prog 143 #[.int .i64 y', .int .i64 (m' + 1)] w fun e w' => e = .returned (.int .i64 A) ∧ w = w' := fun w hT => eA ▸ civil_ahead y' (m' + 1) w hT (by omega) (by omega) (by omega) (by omega)
     rw [eA] at ha
     have C3 := Lib.hid C3
     clear eA
     go_wp2_with fail
     refine (C3.out _ (HT.out.below BeL)).mono ?_
     rintro e w' ⟨rfl, rfl⟩
     go_wp2_with fail
     go_round
     case rel => exact ⟨m' + 1, by omega, by omega, rfl⟩
     case measure => simp [intOf]; omega
    ·obtain rfl : m' = m := by omega
     obtain ⟨B, eB⟩ : ∃ A, aheadD y' m' = A := ⟨_, rfl⟩
     have C4 : ∀ w, TabAt w → Calls Tryz.prog 143 #[.int .i64 y', .int .i64 m'] w fun e w' => e = .returned (.int .i64 B) ∧ w = w' := fun w hT => eB ▸ civil_ahead y' m' w hT (by omega) (by omega) (by omega) (by omega)
     rw [eB] at hA k3 HD
     obtain ⟨hA0, hA1⟩ := hA
     have C4 := Lib.hid C4
     clear eB hlt
     by_cases h12 : m' < 12
     ·obtain ⟨A, eA⟩ : ∃ A, aheadD y' (m' + 1) = A := ⟨_, rfl⟩
      have C3 : ∀ w, TabAt w → Calls Tryz.prog 143 #[.int .i64 y', .int .i64 (m' + 1)] w fun e w' => e = .returned (.int .i64 A) ∧ w = w' := fun w hT => eA ▸ civil_ahead y' (m' + 1) w hT (by omega) (by omega) (by omega) (by omega)
      rw [eA] at k4
      have C3 := Lib.hid C3
      clear eA
      go_wp2_with fail
      refine (C3.out _ (HT.out.below BeL)).mono ?_
      rintro e w' ⟨rfl, rfl⟩
      go_wp2_with fail
      refine (C4.out _ (HT.out.below BeL)).mono ?_
      rintro e w' ⟨rfl, rfl⟩
      go_wp2_with fail
      refine bodyPost_ret (v := .agg #[.int .i64 y', .int .i64 m', .int .i64 (n - f - B + 1)]) (by simp [results, Tryz.results103, go_sem]) rfl ⟨ret_v (by rw [HD.out]), ?_⟩
      exact BeL
     ·go_wp2_with fail
      refine (C4.out _ (HT.out.below BeL)).mono ?_
      rintro e w' ⟨rfl, rfl⟩
      go_wp2_with fail
      refine bodyPost_ret (v := .agg #[.int .i64 y', .int .i64 m', .int .i64 (n - f - B + 1)]) (by simp [results, Tryz.results103, go_sem]) rfl ⟨ret_v (by rw [HD.out]), ?_⟩
      exact BeL
end Go.Proofs.YtldlandcjegikaaGreatDoor
