/- The reference's dates, walked. -/
import Derived.Test.YtcigoleplhdlaaaDoorDate
namespace Go.Proofs.YtcigoleplhdlaaaDoor
open Go.RowKit
set_option linter.unusedVariables false
set_option linter.unusedSimpArgs false
theorem r_Leap (y : Int) (w : World) (h1 : 1 ≤ y) (h2 : y ≤ 9999) : Calls Tryd.prog 57 #[.int .i64 y] w fun e w' => e = .returned (.bool (leapB y)) ∧ w = w' := by
  go_enter Tryd.func57, Tryd.ntmps57
  go_wp2
  all_goals (go_ret; exact ⟨ret_bool (by unfold leapB; first | (simp [*]; done) | (by_cases a : y % 4 = 0 <;> by_cases b : y % 100 = 0 <;> by_cases c : y % 400 = 0 <;> simp [a, b, c] <;> omega)), rfl⟩)
theorem r_Days (y m : Int) (w : World) (h1 : 1970 ≤ y) (h2 : y ≤ 2199) (h3 : 1 ≤ m) (h4 : m ≤ 12) : Calls Tryd.prog 27 #[.int .i64 y, .int .i64 m] w fun e w' => e = .returned (.int .i64 (daysD y m)) ∧ w = w' := by
  have C0 := Lib.hid (fun w => r_Leap y w (by omega) (by omega))
  have hc : m = 1 ∨ m = 2 ∨ m = 3 ∨ m = 4 ∨ m = 5 ∨ m = 6 ∨ m = 7 ∨ m = 8 ∨ m = 9 ∨ m = 10 ∨ m = 11 ∨ m = 12 := by omega
  rcases hc with rfl | rfl | rfl | rfl | rfl | rfl | rfl | rfl | rfl | rfl | rfl | rfl
  all_goals
    go_enter Tryd.func27, Tryd.ntmps27
    go_wp2_with (go_at_call 57; refine (C0.out _).mono ?_; rintro e w' ⟨rfl, rfl⟩)
  all_goals
    go_ret
    exact ⟨ret_int (by first | rfl | (unfold daysD leapN; simp [*, beforeD])), rfl⟩
theorem r_YearDays (y : Int) (w : World) (h1 : 1 ≤ y) (h2 : y ≤ 9999) : Calls Tryd.prog 54 #[.int .i64 y] w fun e w' => e = .returned (.int .i64 (365 + leapN y)) ∧ w = w' := by
  have C0 := Lib.hid (fun w => r_Leap y w (by omega) (by omega))
  go_enter Tryd.func54, Tryd.ntmps54
  go_wp2_with (go_at_call 57; refine (C0.out _).mono ?_; rintro e w' ⟨rfl, rfl⟩)
  all_goals
    go_ret
    exact ⟨ret_int (by unfold leapN; simp [*]), rfl⟩
set_option maxRecDepth 100000 in
set_option maxHeartbeats 2000000 in
theorem r_Date (y m d : Int) (w : World) : Calls Tryd.prog 20 #[.agg #[.int .i64 y, .int .i64 m, .int .i64 d]] w fun e w' => e = .returned (.bool (dateB y m d)) ∧ Below w.heap.size w w' := by
  by_cases g1 : y < 1970
  · have hv : dateB y m d = false := dateB_no (ymB_no (by omega))
    rw [hv]
    clear hv
    have gd : decide (1970 ≤ y) = false := by simp; omega
    go_enter Tryd.func20, Tryd.ntmps20
    go_wp2_with fail
    go_quiet (fail)
    go_wp2_with fail
    go_ret
    exact ⟨rfl, (by repeat (first | with_reducible exact Below.refl _ _ | (with_reducible refine Below.alloc ?_ (by first | omega | (simp; done) | (simp; omega)) _) | (with_reducible refine Below.setCell ?_ (by first | omega | (simp; done) | (simp; omega)) _) | (with_reducible refine Below.drew ?_) | (with_reducible refine below_drewN ?_ _) | (with_reducible assumption) | (with_reducible refine bel_step (by with_reducible assumption) ?_ (by first | omega | (simp; done) | (simp; omega)))))⟩
  by_cases g2 : 2199 < y
  · have hv : dateB y m d = false := dateB_no (ymB_no (by omega))
    rw [hv]
    clear hv
    have gd : decide (y ≤ 2199) = false := by simp; omega
    go_enter Tryd.func20, Tryd.ntmps20
    go_wp2_with fail
    go_quiet (fail)
    go_wp2_with fail
    go_ret
    exact ⟨rfl, (by repeat (first | with_reducible exact Below.refl _ _ | (with_reducible refine Below.alloc ?_ (by first | omega | (simp; done) | (simp; omega)) _) | (with_reducible refine Below.setCell ?_ (by first | omega | (simp; done) | (simp; omega)) _) | (with_reducible refine Below.drew ?_) | (with_reducible refine below_drewN ?_ _) | (with_reducible assumption) | (with_reducible refine bel_step (by with_reducible assumption) ?_ (by first | omega | (simp; done) | (simp; omega)))))⟩
  by_cases g3 : m < 1
  · have hv : dateB y m d = false := dateB_no (ymB_no (by omega))
    rw [hv]
    clear hv
    have gd : decide (1 ≤ m) = false := by simp; omega
    go_enter Tryd.func20, Tryd.ntmps20
    go_wp2_with fail
    go_quiet (fail)
    go_wp2_with fail
    go_ret
    exact ⟨rfl, (by repeat (first | with_reducible exact Below.refl _ _ | (with_reducible refine Below.alloc ?_ (by first | omega | (simp; done) | (simp; omega)) _) | (with_reducible refine Below.setCell ?_ (by first | omega | (simp; done) | (simp; omega)) _) | (with_reducible refine Below.drew ?_) | (with_reducible refine below_drewN ?_ _) | (with_reducible assumption) | (with_reducible refine bel_step (by with_reducible assumption) ?_ (by first | omega | (simp; done) | (simp; omega)))))⟩
  by_cases g4 : 12 < m
  · have hv : dateB y m d = false := dateB_no (ymB_no (by omega))
    rw [hv]
    clear hv
    have gd : decide (m ≤ 12) = false := by simp; omega
    go_enter Tryd.func20, Tryd.ntmps20
    go_wp2_with fail
    go_quiet (fail)
    go_wp2_with fail
    go_ret
    exact ⟨rfl, (by repeat (first | with_reducible exact Below.refl _ _ | (with_reducible refine Below.alloc ?_ (by first | omega | (simp; done) | (simp; omega)) _) | (with_reducible refine Below.setCell ?_ (by first | omega | (simp; done) | (simp; omega)) _) | (with_reducible refine Below.drew ?_) | (with_reducible refine below_drewN ?_ _) | (with_reducible assumption) | (with_reducible refine bel_step (by with_reducible assumption) ?_ (by first | omega | (simp; done) | (simp; omega)))))⟩
  obtain ⟨D, eD⟩ : ∃ D, daysD y m = D := ⟨_, rfl⟩
  have C0 := fun w => r_Days y m w (by omega) (by omega) (by omega) (by omega)
  rw [eD] at C0
  have C0 := Lib.hid C0
  have HV := Lib.hid (show dateB y m d = (decide (1 ≤ d) && decide (d ≤ D)) by unfold dateB; rw [ymB_mk (by omega) (by omega) (by omega) (by omega), eD]; rfl)
  clear eD
  by_cases g5 : d < 1
  · have hv := HV.out
    rw [decide_eq_false (show ¬ 1 ≤ d by omega)] at hv
    rw [hv]
    clear hv
    have gd : decide (1 ≤ d) = false := by simp; omega
    go_enter Tryd.func20, Tryd.ntmps20
    go_wp2_with fail
    go_quiet (fail)
    go_wp2_with fail
    go_ret
    exact ⟨rfl, (by repeat (first | with_reducible exact Below.refl _ _ | (with_reducible refine Below.alloc ?_ (by first | omega | (simp; done) | (simp; omega)) _) | (with_reducible refine Below.setCell ?_ (by first | omega | (simp; done) | (simp; omega)) _) | (with_reducible refine Below.drew ?_) | (with_reducible refine below_drewN ?_ _) | (with_reducible assumption) | (with_reducible refine bel_step (by with_reducible assumption) ?_ (by first | omega | (simp; done) | (simp; omega)))))⟩
  have hv := HV.out
  rw [decide_eq_true (show 1 ≤ d by omega)] at hv
  rw [hv]
  clear hv
  by_cases g6 : d ≤ D
  all_goals
    go_enter Tryd.func20, Tryd.ntmps20
    go_wp2_with fail
    go_quiet ((go_at_call 27; exact quiet_left (C0.out _)))
    go_wp2_with fail
    go_ret
    exact ⟨ret_bool (by simp [g6]), (by repeat (first | with_reducible exact Below.refl _ _ | (with_reducible refine Below.alloc ?_ (by first | omega | (simp; done) | (simp; omega)) _) | (with_reducible refine Below.setCell ?_ (by first | omega | (simp; done) | (simp; omega)) _) | (with_reducible refine Below.drew ?_) | (with_reducible refine below_drewN ?_ _) | (with_reducible assumption) | (with_reducible refine bel_step (by with_reducible assumption) ?_ (by first | omega | (simp; done) | (simp; omega)))))⟩
theorem firstD_1970 : firstD 1970 = 0 := by decide
set_option maxRecDepth 100000 in
set_option maxHeartbeats 2000000 in
theorem r_DayNumber (y m d : Int) (w : World) (h1 : 1970 ≤ y) (h2 : y ≤ 2199) (h3 : 1 ≤ m) (h4 : m ≤ 12) (h5 : 1 ≤ d) (h6 : d ≤ 31) : Calls Tryd.prog 21 #[.agg #[.int .i64 y, .int .i64 m, .int .i64 d]] w fun e w' => e = .returned (.int .i64 (numD y m d)) ∧ Below w.heap.size w w' := by
  go_enter Tryd.func21, Tryd.ntmps21
  go_wp2_with fail
  go_loop [3, 4] (fun nv yv => ∃ y' : Int, 1970 ≤ y' ∧ y' ≤ y ∧ yv = .int .i64 y' ∧ nv = .int .i64 (firstD y')) (fun _ yv => (y - intOf yv).toNat)
  case atStart => exact ⟨1970, by omega, h1, rfl, by rw [firstD_1970]⟩
  case round =>
    obtain ⟨y', r1, r2, rfl, rfl⟩ := hrel
    have fb := firstD_bd r1 (show y' ≤ 2200 by omega)
    obtain ⟨fb0, fb1⟩ := fb
    by_cases hlt : y' < y
    · have hs := firstD_succ y'
      have hl := leapN_01 y'
      have C0 := fun w => r_YearDays y' w (by omega) (by omega)
      obtain ⟨F, eF⟩ : ∃ F, firstD y' = F := ⟨_, rfl⟩
      obtain ⟨L, eL⟩ : ∃ F, leapN y' = F := ⟨_, rfl⟩
      rw [eF] at fb0 fb1 hs ⊢
      rw [eL] at C0 hl hs
      have HS := Lib.hid hs
      obtain ⟨hl0, hl1⟩ := hl
      have C0 := Lib.hid C0
      clear eF eL hs
      go_wp2_with (go_at_call 54; refine (C0.out _).mono ?_; rintro e w' ⟨rfl, rfl⟩)
      go_round
      case rel => exact ⟨y' + 1, by omega, by omega, rfl, by rw [HS.out, Int.add_assoc]⟩
      case measure => simp [intOf]; omega
    · obtain rfl : y' = y := by omega
      obtain ⟨F, eF⟩ : ∃ F, firstD y' = F := ⟨_, rfl⟩
      rw [eF] at fb0 fb1 ⊢
      have HV := Lib.hid (show numD y' m d = F + aheadD y' m + d - 1 by unfold numD; rw [eF])
      clear hlt r1 r2 eF
      go_wp2_with fail
      go_loop [3, 5] (fun nv mv => ∃ m' : Int, 1 ≤ m' ∧ m' ≤ m ∧ mv = .int .i64 m' ∧ nv = .int .i64 (F + aheadD y' m')) (fun _ mv => (m - intOf mv).toNat)
      case atStart => exact ⟨1, by omega, h3, rfl, by rw [ahead_1]; simp⟩
      case round =>
        obtain ⟨m', r1, r2, rfl, rfl⟩ := hrel
        obtain ⟨a0, a1⟩ := aheadD_bd y' m'
        by_cases hlt : m' < m
        · have hs := aheadD_succ y' m' (by omega) (by omega)
          have hl := daysD_bd (y := y') (m := m') (by omega) (by omega)
          have C0 := fun w => r_Days y' m' w (by omega) (by omega) (by omega) (by omega)
          obtain ⟨G, eG⟩ : ∃ F, aheadD y' m' = F := ⟨_, rfl⟩
          obtain ⟨L, eL⟩ : ∃ F, daysD y' m' = F := ⟨_, rfl⟩
          rw [eG] at a0 a1 hs ⊢
          rw [eL] at C0 hl hs
          have HS := Lib.hid hs
          obtain ⟨hl0, hl1⟩ := hl
          have C0 := Lib.hid C0
          clear eG eL hs
          go_wp2_with (go_at_call 27; refine (C0.out _).mono ?_; rintro e w' ⟨rfl, rfl⟩)
          go_round
          case rel => exact ⟨m' + 1, by omega, by omega, rfl, by rw [HS.out, Int.add_assoc]⟩
          case measure => simp [intOf]; omega
        · obtain rfl : m' = m := by omega
          obtain ⟨G, eG⟩ : ∃ F, aheadD y' m' = F := ⟨_, rfl⟩
          rw [eG] at a0 a1 HV ⊢
          clear eG hlt r1 r2
          go_wp2_with fail
          go_ret
          exact ⟨ret_int (by rw [HV.out]), (by repeat (first | with_reducible exact Below.refl _ _ | (with_reducible refine Below.alloc ?_ (by first | omega | (simp; done) | (simp; omega)) _) | (with_reducible refine Below.setCell ?_ (by first | omega | (simp; done) | (simp; omega)) _) | (with_reducible refine Below.drew ?_) | (with_reducible refine below_drewN ?_ _) | (with_reducible assumption) | (with_reducible refine bel_step (by with_reducible assumption) ?_ (by first | omega | (simp; done) | (simp; omega)))))⟩
theorem r_Last (w : World) : Calls Tryd.prog 25 #[] w fun e w' => e = .returned (.int .i64 84005) ∧ Below w.heap.size w w' := by
  have C0 := fun w => r_DayNumber 2199 12 31 w (by omega) (by omega) (by omega) (by omega) (by omega) (by omega)
  rw [last_num] at C0
  have C0 := Lib.hid C0
  go_enter Tryd.func25, Tryd.ntmps25
  go_wp2_with fail
  (try (go_at_call 21; refine (C0.out _).mono ?_; rintro e w1 ⟨rfl, hb1⟩; obtain ⟨hc1, hf1⟩ := bcell hb1; have hz1 := hb1.size; (try simp at hz1); (try have q1_0_0_0 : w.heap.size < w1.heap.size := by omega); (try have q1_0_0_2 : w.heap.size < w1.heap.size + 1 + 1 := by omega); (try have q1_0_0_3 : w.heap.size < w1.heap.size + 1 + 1 + 1 := by omega); (try have q1_0_1_0 : w.heap.size + 1 < w1.heap.size := by omega); (try have q1_0_1_2 : w.heap.size + 1 < w1.heap.size + 1 + 1 := by omega); (try have q1_0_1_3 : w.heap.size + 1 < w1.heap.size + 1 + 1 + 1 := by omega); (try have q1_0_2_0 : w.heap.size + 1 + 1 < w1.heap.size := by omega); (try have q1_0_2_2 : w.heap.size + 1 + 1 < w1.heap.size + 1 + 1 := by omega); (try have q1_0_2_3 : w.heap.size + 1 + 1 < w1.heap.size + 1 + 1 + 1 := by omega); (try have q1_0_3_0 : w.heap.size + 1 + 1 + 1 < w1.heap.size := by omega); (try have q1_0_3_2 : w.heap.size + 1 + 1 + 1 < w1.heap.size + 1 + 1 := by omega); (try have q1_0_3_3 : w.heap.size + 1 + 1 + 1 < w1.heap.size + 1 + 1 + 1 := by omega); (try go_wp2_with fail)))
  go_ret
  exact ⟨rfl, (by repeat (first | with_reducible exact Below.refl _ _ | (with_reducible refine Below.alloc ?_ (by first | omega | (simp; done) | (simp; omega)) _) | (with_reducible refine Below.setCell ?_ (by first | omega | (simp; done) | (simp; omega)) _) | (with_reducible refine Below.drew ?_) | (with_reducible refine below_drewN ?_ _) | (with_reducible assumption) | (with_reducible refine bel_step (by with_reducible assumption) ?_ (by first | omega | (simp; done) | (simp; omega)))))⟩
set_option maxRecDepth 100000 in
set_option maxHeartbeats 4000000 in
theorem r_Plain (s : ByteArray) (w : World) (hs : s.size ≤ 4) :
    Calls Tryd.prog 58 #[.string s] w fun e w' => e = .returned (.tuple #[.int .i64 (twoR s.data.toList), .bool (twoB s.data.toList)]) ∧ Below w.heap.size w w' := by
  obtain ⟨l, hl⟩ : ∃ l, s.data.toList = l := ⟨_, rfl⟩
  have HL := Lib.hid (show l.length = s.size by rw [← hl]; rfl)
  have HG : Hid (∀ k (hk : k < s.size), ((s[k]'hk).toNat : Int) = ((l.getD k 0).toNat : Int)) := Lib.hid (fun k hk => by
    rw [← hl, List.getD_eq_getElem?_getD, List.getElem?_eq_getElem (by simpa using hk)]; simp; rfl)
  rw [hl]
  clear hl
  go_enter Tryd.func58, Tryd.ntmps58
  go_wp2
  go_loop [4, 5] (fun n i => ∃ k : Nat, k ≤ s.size ∧ i = .int .i64 k ∧ n = .int .i64 (twoV (l.take k)) ∧ twoB (l.take k) = true) (fun _ i => s.size - (intOf i).toNat)
  case atStart => exact ⟨0, by omega, rfl, by simp [twoV], by simp [twoB]⟩
  case round =>
    obtain ⟨k, hk, rfl, rfl, hB⟩ := hrel
    obtain ⟨b0, b1⟩ := twoV_bd (l.take k) hB (by rw [List.length_take]; omega)
    by_cases hlt : k < s.size
    · have hg := HG.out k hlt
      have ht := take_snoc_g (l := l) (k := k) (by rw [HL.out]; exact hlt)
      have HS := Lib.hid (show twoV (l.take (k + 1)) = twoV (l.take k) * 10 + (((l.getD k 0).toNat : Int) - 48) by rw [ht, twoV_snoc])
      have HS2 := Lib.hid (show twoB (l.take (k + 1)) = digB (l.getD k 0) by rw [ht, twoB_snoc, hB, Bool.true_and])
      have hc0 : ((l.getD k 0).toNat : Int) < 256 := by have := (l.getD k 0).toNat_lt; omega
      have hD := Lib.hid (digB_iff (l.getD k 0))
      obtain ⟨q, eq⟩ : ∃ q, digB (l.getD k 0) = q := ⟨_, rfl⟩
      rw [eq] at HS2 hD
      obtain ⟨c, ec⟩ : ∃ c : Int, ((l.getD k 0).toNat : Int) = c := ⟨_, rfl⟩
      obtain ⟨N, eN⟩ : ∃ N, twoV (l.take k) = N := ⟨_, rfl⟩
      have hc1 : 0 ≤ c := by omega
      rw [ec] at hg hc0 HS hD
      rw [eN] at b0 b1 HS ⊢
      clear ec eN eq ht hB
      by_cases d1 : 48 ≤ c ∧ c ≤ 57
      · have HQ := Lib.hid (show q = true from hD.out.2 d1)
        obtain ⟨d1, d2⟩ := d1
        go_wp2
        go_round
        case rel => exact ⟨k + 1, by omega, by go_num, by rw [HS.out]; first | rfl | (congr 1; omega), by rw [HS2.out, HQ.out]⟩
        case measure => simp [intOf]; omega
      · have HQ := Lib.hid (show twoB l = false from twoB_take (k := k + 1) (by rw [HS2.out]; cases q; rfl; exact absurd (hD.out.1 rfl) d1))
        rcases (show c < 48 ∨ (¬ c < 48 ∧ 57 < c) by omega) with d2 | ⟨d2, d3⟩
        all_goals
          clear d1
          go_wp2
          go_ret2
          exact ⟨by rw [HQ.out]; unfold twoR; rw [HQ.out]; rfl, (by repeat (first | with_reducible exact Below.refl _ _ | (with_reducible refine Below.alloc ?_ (by first | omega | (simp; done) | (simp; omega)) _) | (with_reducible refine Below.setCell ?_ (by first | omega | (simp; done) | (simp; omega)) _) | (with_reducible refine Below.drew ?_) | (with_reducible refine below_drewN ?_ _) | (with_reducible assumption) | (with_reducible refine bel_step (by with_reducible assumption) ?_ (by first | omega | (simp; done) | (simp; omega)))))⟩
    · have : k = s.size := by omega
      subst this
      rw [List.take_of_length_le (by rw [HL.out]; omega)] at hB b0 b1 ⊢
      have HB := Lib.hid hB
      have HV := Lib.hid (show twoR l = twoV l by unfold twoR; rw [hB, if_pos rfl])
      clear hB
      go_wp2
      go_ret2
      exact ⟨by rw [HV.out, HB.out]; rfl, (by repeat (first | with_reducible exact Below.refl _ _ | (with_reducible refine Below.alloc ?_ (by first | omega | (simp; done) | (simp; omega)) _) | (with_reducible refine Below.setCell ?_ (by first | omega | (simp; done) | (simp; omega)) _) | (with_reducible refine Below.drew ?_) | (with_reducible refine below_drewN ?_ _) | (with_reducible assumption) | (with_reducible refine bel_step (by with_reducible assumption) ?_ (by first | omega | (simp; done) | (simp; omega)))))⟩
/-- what noonref1.ReadDate says of a text. -/
def ReadE (l : List UInt8) : Ending := .returned (.tuple #[.agg #[.int .i64 (if parC l = 0 then pY l else 0), .int .i64 (if parC l = 0 then pM l else 0), .int .i64 (if parC l = 0 then pD l else 0)], (.int .i64 (parC l))])
theorem ReadE_no {l : List UInt8} (h : dateOfB l = false) : ReadE l = .returned (.tuple #[.agg #[.int .i64 0, .int .i64 0, .int .i64 0], .int .i64 2]) := by
  have : parC l = 2 := by unfold parC; rw [h]; rfl
  unfold ReadE
  rw [this]; rfl
set_option maxRecDepth 100000 in
set_option maxHeartbeats 4000000 in
theorem r_ReadDate (s : ByteArray) (w : World) (hs : s.size ≤ maxLen) :
    Calls Tryd.prog 28 #[.string s] w fun e w' => e = ReadE s.data.toList ∧ Below w.heap.size w w' := by
  unfold maxLen at hs
  have hlen : s.data.toList.length = s.size := rfl
  by_cases h10 : s.size = 10
  · have q4 : 4 < s.size := by omega
    have q7 : 7 < s.size := by omega
    have x4 := fun w => idx_s s 4 q4 4 rfl w
    have x7 := fun w => idx_s s 7 q7 7 rfl w
    have d4 := dash_iff (s.data.toList.getD 4 0)
    have d7 := dash_iff (s.data.toList.getD 7 0)
    obtain ⟨c4, e4⟩ : ∃ c : Int, ((s.data.toList.getD 4 0).toNat : Int) = c := ⟨_, rfl⟩
    obtain ⟨c7, e7⟩ : ∃ c : Int, ((s.data.toList.getD 7 0).toNat : Int) = c := ⟨_, rfl⟩
    simp only [e4] at x4
    simp only [e7] at x7
    rw [e4] at d4
    rw [e7] at d7
    have h3 : ((s.size : Int) != 10) = false := by simp; omega
    have H10 := Lib.hid h10
    have HLE := Lib.hid hlen
    by_cases g4 : c4 = 45
    · by_cases g7 : c7 = 45
      · have z1 : (s.extract 0 4).size ≤ 4 := by simp; omega
        have z2 : (s.extract 5 7).size ≤ 4 := by simp; omega
        have z3 : (s.extract 8 s.size).size ≤ 4 := by simp; omega
        have C1 := fun w => r_Plain (s.extract 0 4) w z1
        have C2 := fun w => r_Plain (s.extract 5 7) w z2
        have C3 := fun w => r_Plain (s.extract 8 s.size) w z3
        rw [sub_bytes] at C1 C2 C3
        have HV := Lib.hid (show dateOfB s.data.toList = (twoB ((s.data.toList.drop 0).take (4 - 0)) && (twoB ((s.data.toList.drop 5).take (7 - 5)) && twoB ((s.data.toList.drop 8).take (s.size - 8)))) by
          unfold dateOfB
          rw [hlen, d4.2 g4, d7.2 g7, h10]; rfl)
        have v1 : pY s.data.toList = twoV ((s.data.toList.drop 0).take (4 - 0)) := rfl
        have v2 : pM s.data.toList = twoV ((s.data.toList.drop 5).take (7 - 5)) := rfl
        have v3 : pD s.data.toList = twoV ((s.data.toList.drop 8).take (s.size - 8)) := by rw [h10]; rfl
        obtain ⟨l1, f1⟩ : ∃ l, (s.data.toList.drop 0).take (4 - 0) = l := ⟨_, rfl⟩
        obtain ⟨l2, f2⟩ : ∃ l, (s.data.toList.drop 5).take (7 - 5) = l := ⟨_, rfl⟩
        obtain ⟨l3, f3⟩ : ∃ l, (s.data.toList.drop 8).take (s.size - 8) = l := ⟨_, rfl⟩
        rw [f1] at C1 HV v1
        rw [f2] at C2 HV v2
        rw [f3] at C3 HV v3
        subst g4 g7
        obtain ⟨L, eL⟩ : ∃ L, s.data.toList = L := ⟨_, rfl⟩
        rw [eL] at HV v1 v2 v3 ⊢
        have u0 : (10 : Int) ≤ (s.size : Int) := by omega
        have u1 : (s.size : Int) ≤ 10 := by omega
        clear f1 f2 f3 e4 e7 d4 d7 z1 z2 z3 eL hlen h10
        by_cases b1 : twoB l1 = true
        · by_cases b2 : twoB l2 = true
          · by_cases b3 : twoB l3 = true
            · have HO : dateOfB L = true := by rw [HV.out, b1, b2, b3]; rfl
              have HP := Lib.hid (show parC L = okC (dateB (twoV l1) (twoV l2) (twoV l3)) by unfold parC; rw [HO, if_pos rfl, v1, v2, v3])
              simp only [twoR, b1, b2, b3, if_true] at C1 C2 C3
              have V1 := Lib.hid v1
              have V2 := Lib.hid v2
              have V3 := Lib.hid v3
              clear v1 v2 v3 HO b1 b2 b3
              obtain ⟨Y, f1⟩ : ∃ l, twoV l1 = l := ⟨_, rfl⟩
              obtain ⟨M, f2⟩ : ∃ l, twoV l2 = l := ⟨_, rfl⟩
              obtain ⟨D, f3⟩ : ∃ l, twoV l3 = l := ⟨_, rfl⟩
              rw [f1] at C1 HP V1
              rw [f2] at C2 HP V2
              rw [f3] at C3 HP V3
              have C1 := Lib.hid C1
              have C2 := Lib.hid C2
              have C3 := Lib.hid C3
              have C4 := fun w => r_Date Y M D w
              clear f1 f2 f3
              by_cases b4 : dateB Y M D = true
              · rw [b4] at C4
                have HE := Lib.hid (show ReadE L = .returned (.tuple #[.agg #[.int .i64 Y, .int .i64 M, .int .i64 D], .int .i64 0]) by
                  have : parC L = 0 := by rw [HP.out, b4]; rfl
                  unfold ReadE
                  rw [this, V1.out, V2.out, V3.out]; rfl)
                have C4 := Lib.hid C4
                clear b4
                go_enter Tryd.func28, Tryd.ntmps28
                go_wp2_with fail
                (try (go_at_call 58; refine (C1.out _).mono ?_; rintro e w1 ⟨rfl, hb1⟩; obtain ⟨hc1, hf1⟩ := bcell hb1; have hz1 := hb1.size; (try simp at hz1); (try have q1_0_0_0 : w.heap.size < w1.heap.size := by omega); (try have q1_0_0_2 : w.heap.size < w1.heap.size + 1 + 1 := by omega); (try have q1_0_0_3 : w.heap.size < w1.heap.size + 1 + 1 + 1 := by omega); (try have q1_0_1_0 : w.heap.size + 1 < w1.heap.size := by omega); (try have q1_0_1_2 : w.heap.size + 1 < w1.heap.size + 1 + 1 := by omega); (try have q1_0_1_3 : w.heap.size + 1 < w1.heap.size + 1 + 1 + 1 := by omega); (try have q1_0_2_0 : w.heap.size + 1 + 1 < w1.heap.size := by omega); (try have q1_0_2_2 : w.heap.size + 1 + 1 < w1.heap.size + 1 + 1 := by omega); (try have q1_0_2_3 : w.heap.size + 1 + 1 < w1.heap.size + 1 + 1 + 1 := by omega); (try have q1_0_3_0 : w.heap.size + 1 + 1 + 1 < w1.heap.size := by omega); (try have q1_0_3_2 : w.heap.size + 1 + 1 + 1 < w1.heap.size + 1 + 1 := by omega); (try have q1_0_3_3 : w.heap.size + 1 + 1 + 1 < w1.heap.size + 1 + 1 + 1 := by omega); (try go_wp2_with fail)))
                (try (go_at_call 58; refine (C2.out _).mono ?_; rintro e w2 ⟨rfl, hb2⟩; obtain ⟨hc2, hf2⟩ := bcell hb2; have hz2 := hb2.size; (try simp at hz2); (try have q2_0_0_0 : w.heap.size < w2.heap.size := by omega); (try have q2_0_0_2 : w.heap.size < w2.heap.size + 1 + 1 := by omega); (try have q2_0_0_3 : w.heap.size < w2.heap.size + 1 + 1 + 1 := by omega); (try have q2_0_1_0 : w.heap.size + 1 < w2.heap.size := by omega); (try have q2_0_1_2 : w.heap.size + 1 < w2.heap.size + 1 + 1 := by omega); (try have q2_0_1_3 : w.heap.size + 1 < w2.heap.size + 1 + 1 + 1 := by omega); (try have q2_0_2_0 : w.heap.size + 1 + 1 < w2.heap.size := by omega); (try have q2_0_2_2 : w.heap.size + 1 + 1 < w2.heap.size + 1 + 1 := by omega); (try have q2_0_2_3 : w.heap.size + 1 + 1 < w2.heap.size + 1 + 1 + 1 := by omega); (try have q2_0_3_0 : w.heap.size + 1 + 1 + 1 < w2.heap.size := by omega); (try have q2_0_3_2 : w.heap.size + 1 + 1 + 1 < w2.heap.size + 1 + 1 := by omega); (try have q2_0_3_3 : w.heap.size + 1 + 1 + 1 < w2.heap.size + 1 + 1 + 1 := by omega); (try have q2_1_0_0 : w1.heap.size < w2.heap.size := by omega); (try have q2_1_0_2 : w1.heap.size < w2.heap.size + 1 + 1 := by omega); (try have q2_1_1_0 : w1.heap.size + 1 < w2.heap.size := by omega); (try have q2_1_1_2 : w1.heap.size + 1 < w2.heap.size + 1 + 1 := by omega); (try go_wp2_with fail)))
                (try (go_at_call 58; refine (C3.out _).mono ?_; rintro e w3 ⟨rfl, hb3⟩; obtain ⟨hc3, hf3⟩ := bcell hb3; have hz3 := hb3.size; (try simp at hz3); (try have q3_0_0_0 : w.heap.size < w3.heap.size := by omega); (try have q3_0_0_2 : w.heap.size < w3.heap.size + 1 + 1 := by omega); (try have q3_0_0_3 : w.heap.size < w3.heap.size + 1 + 1 + 1 := by omega); (try have q3_0_1_0 : w.heap.size + 1 < w3.heap.size := by omega); (try have q3_0_1_2 : w.heap.size + 1 < w3.heap.size + 1 + 1 := by omega); (try have q3_0_1_3 : w.heap.size + 1 < w3.heap.size + 1 + 1 + 1 := by omega); (try have q3_0_2_0 : w.heap.size + 1 + 1 < w3.heap.size := by omega); (try have q3_0_2_2 : w.heap.size + 1 + 1 < w3.heap.size + 1 + 1 := by omega); (try have q3_0_2_3 : w.heap.size + 1 + 1 < w3.heap.size + 1 + 1 + 1 := by omega); (try have q3_0_3_0 : w.heap.size + 1 + 1 + 1 < w3.heap.size := by omega); (try have q3_0_3_2 : w.heap.size + 1 + 1 + 1 < w3.heap.size + 1 + 1 := by omega); (try have q3_0_3_3 : w.heap.size + 1 + 1 + 1 < w3.heap.size + 1 + 1 + 1 := by omega); (try have q3_1_0_0 : w1.heap.size < w3.heap.size := by omega); (try have q3_1_0_2 : w1.heap.size < w3.heap.size + 1 + 1 := by omega); (try have q3_1_1_0 : w1.heap.size + 1 < w3.heap.size := by omega); (try have q3_1_1_2 : w1.heap.size + 1 < w3.heap.size + 1 + 1 := by omega); (try have q3_2_0_0 : w2.heap.size < w3.heap.size := by omega); (try have q3_2_0_2 : w2.heap.size < w3.heap.size + 1 + 1 := by omega); (try have q3_2_1_0 : w2.heap.size + 1 < w3.heap.size := by omega); (try have q3_2_1_2 : w2.heap.size + 1 < w3.heap.size + 1 + 1 := by omega); (try go_wp2_with fail)))
                (try (go_at_call 20; refine (C4.out _).mono ?_; rintro e w4 ⟨rfl, hb4⟩; obtain ⟨hc4, hf4⟩ := bcell hb4; have hz4 := hb4.size; (try simp at hz4); (try have q4_0_0_0 : w.heap.size < w4.heap.size := by omega); (try have q4_0_0_2 : w.heap.size < w4.heap.size + 1 + 1 := by omega); (try have q4_0_0_3 : w.heap.size < w4.heap.size + 1 + 1 + 1 := by omega); (try have q4_0_1_0 : w.heap.size + 1 < w4.heap.size := by omega); (try have q4_0_1_2 : w.heap.size + 1 < w4.heap.size + 1 + 1 := by omega); (try have q4_0_1_3 : w.heap.size + 1 < w4.heap.size + 1 + 1 + 1 := by omega); (try have q4_0_2_0 : w.heap.size + 1 + 1 < w4.heap.size := by omega); (try have q4_0_2_2 : w.heap.size + 1 + 1 < w4.heap.size + 1 + 1 := by omega); (try have q4_0_2_3 : w.heap.size + 1 + 1 < w4.heap.size + 1 + 1 + 1 := by omega); (try have q4_0_3_0 : w.heap.size + 1 + 1 + 1 < w4.heap.size := by omega); (try have q4_0_3_2 : w.heap.size + 1 + 1 + 1 < w4.heap.size + 1 + 1 := by omega); (try have q4_0_3_3 : w.heap.size + 1 + 1 + 1 < w4.heap.size + 1 + 1 + 1 := by omega); (try have q4_1_0_0 : w1.heap.size < w4.heap.size := by omega); (try have q4_1_0_2 : w1.heap.size < w4.heap.size + 1 + 1 := by omega); (try have q4_1_1_0 : w1.heap.size + 1 < w4.heap.size := by omega); (try have q4_1_1_2 : w1.heap.size + 1 < w4.heap.size + 1 + 1 := by omega); (try have q4_2_0_0 : w2.heap.size < w4.heap.size := by omega); (try have q4_2_0_2 : w2.heap.size < w4.heap.size + 1 + 1 := by omega); (try have q4_2_1_0 : w2.heap.size + 1 < w4.heap.size := by omega); (try have q4_2_1_2 : w2.heap.size + 1 < w4.heap.size + 1 + 1 := by omega); (try have q4_3_0_0 : w3.heap.size < w4.heap.size := by omega); (try have q4_3_0_2 : w3.heap.size < w4.heap.size + 1 + 1 := by omega); (try have q4_3_1_0 : w3.heap.size + 1 < w4.heap.size := by omega); (try have q4_3_1_2 : w3.heap.size + 1 < w4.heap.size + 1 + 1 := by omega); (try go_wp2_with fail)))
                have r0 : w4.cell? ⟨w.heap.size, 0, none⟩ = some (.int .i64 0) := (Below.cell (B := (w.alloc (.cells #[.int .i64 0, .int .i64 0, .int .i64 0] 27)).heap.size) (w := w.alloc (.cells #[.int .i64 0, .int .i64 0, .int .i64 0] 27)) (by repeat (first | with_reducible exact Below.refl _ _ | (with_reducible refine Below.alloc ?_ (by first | omega | (simp; done) | (simp; omega)) _) | (with_reducible refine Below.setCell ?_ (by first | omega | (simp; done) | (simp; omega)) _) | (with_reducible refine Below.drew ?_) | (with_reducible refine below_drewN ?_ _) | (with_reducible assumption) | (with_reducible refine bel_step (by with_reducible assumption) ?_ (by first | omega | (simp; done) | (simp; omega))))) (by simp)).trans (by simp)
                have r1 : w4.cell? ⟨w.heap.size, 1, none⟩ = some (.int .i64 0) := (Below.cell (B := (w.alloc (.cells #[.int .i64 0, .int .i64 0, .int .i64 0] 27)).heap.size) (w := w.alloc (.cells #[.int .i64 0, .int .i64 0, .int .i64 0] 27)) (by repeat (first | with_reducible exact Below.refl _ _ | (with_reducible refine Below.alloc ?_ (by first | omega | (simp; done) | (simp; omega)) _) | (with_reducible refine Below.setCell ?_ (by first | omega | (simp; done) | (simp; omega)) _) | (with_reducible refine Below.drew ?_) | (with_reducible refine below_drewN ?_ _) | (with_reducible assumption) | (with_reducible refine bel_step (by with_reducible assumption) ?_ (by first | omega | (simp; done) | (simp; omega))))) (by simp)).trans (by simp)
                have r2 : w4.cell? ⟨w.heap.size, 2, none⟩ = some (.int .i64 0) := (Below.cell (B := (w.alloc (.cells #[.int .i64 0, .int .i64 0, .int .i64 0] 27)).heap.size) (w := w.alloc (.cells #[.int .i64 0, .int .i64 0, .int .i64 0] 27)) (by repeat (first | with_reducible exact Below.refl _ _ | (with_reducible refine Below.alloc ?_ (by first | omega | (simp; done) | (simp; omega)) _) | (with_reducible refine Below.setCell ?_ (by first | omega | (simp; done) | (simp; omega)) _) | (with_reducible refine Below.drew ?_) | (with_reducible refine below_drewN ?_ _) | (with_reducible assumption) | (with_reducible refine bel_step (by with_reducible assumption) ?_ (by first | omega | (simp; done) | (simp; omega))))) (by simp)).trans (by simp)
                rw [HE.out]
                refine bodyPost_ret (v := (.tuple #[.agg #[.int .i64 Y, .int .i64 M, .int .i64 D], .int .i64 0])) (by simp [results, Tryd.results28, go_sem, errV, okC, *]) rfl ⟨rfl, ?_⟩; exact (by repeat (first | with_reducible exact Below.refl _ _ | (with_reducible refine Below.alloc ?_ (by first | omega | (simp; done) | (simp; omega)) _) | (with_reducible refine Below.setCell ?_ (by first | omega | (simp; done) | (simp; omega)) _) | (with_reducible refine Below.drew ?_) | (with_reducible refine below_drewN ?_ _) | (with_reducible assumption) | (with_reducible refine bel_step (by with_reducible assumption) ?_ (by first | omega | (simp; done) | (simp; omega)))))
              · have b4 : dateB Y M D = false := by simpa using b4
                rw [b4] at C4
                have HE := Lib.hid (show ReadE L = .returned (.tuple #[.agg #[.int .i64 0, .int .i64 0, .int .i64 0], .int .i64 1]) by
                  have : parC L = 1 := by rw [HP.out, b4]; rfl
                  unfold ReadE
                  rw [this]; rfl)
                have C4 := Lib.hid C4
                clear b4
                go_enter Tryd.func28, Tryd.ntmps28
                go_wp2_with fail
                (try (go_at_call 58; refine (C1.out _).mono ?_; rintro e w1 ⟨rfl, hb1⟩; obtain ⟨hc1, hf1⟩ := bcell hb1; have hz1 := hb1.size; (try simp at hz1); (try have q1_0_0_0 : w.heap.size < w1.heap.size := by omega); (try have q1_0_0_2 : w.heap.size < w1.heap.size + 1 + 1 := by omega); (try have q1_0_0_3 : w.heap.size < w1.heap.size + 1 + 1 + 1 := by omega); (try have q1_0_1_0 : w.heap.size + 1 < w1.heap.size := by omega); (try have q1_0_1_2 : w.heap.size + 1 < w1.heap.size + 1 + 1 := by omega); (try have q1_0_1_3 : w.heap.size + 1 < w1.heap.size + 1 + 1 + 1 := by omega); (try have q1_0_2_0 : w.heap.size + 1 + 1 < w1.heap.size := by omega); (try have q1_0_2_2 : w.heap.size + 1 + 1 < w1.heap.size + 1 + 1 := by omega); (try have q1_0_2_3 : w.heap.size + 1 + 1 < w1.heap.size + 1 + 1 + 1 := by omega); (try have q1_0_3_0 : w.heap.size + 1 + 1 + 1 < w1.heap.size := by omega); (try have q1_0_3_2 : w.heap.size + 1 + 1 + 1 < w1.heap.size + 1 + 1 := by omega); (try have q1_0_3_3 : w.heap.size + 1 + 1 + 1 < w1.heap.size + 1 + 1 + 1 := by omega); (try go_wp2_with fail)))
                (try (go_at_call 58; refine (C2.out _).mono ?_; rintro e w2 ⟨rfl, hb2⟩; obtain ⟨hc2, hf2⟩ := bcell hb2; have hz2 := hb2.size; (try simp at hz2); (try have q2_0_0_0 : w.heap.size < w2.heap.size := by omega); (try have q2_0_0_2 : w.heap.size < w2.heap.size + 1 + 1 := by omega); (try have q2_0_0_3 : w.heap.size < w2.heap.size + 1 + 1 + 1 := by omega); (try have q2_0_1_0 : w.heap.size + 1 < w2.heap.size := by omega); (try have q2_0_1_2 : w.heap.size + 1 < w2.heap.size + 1 + 1 := by omega); (try have q2_0_1_3 : w.heap.size + 1 < w2.heap.size + 1 + 1 + 1 := by omega); (try have q2_0_2_0 : w.heap.size + 1 + 1 < w2.heap.size := by omega); (try have q2_0_2_2 : w.heap.size + 1 + 1 < w2.heap.size + 1 + 1 := by omega); (try have q2_0_2_3 : w.heap.size + 1 + 1 < w2.heap.size + 1 + 1 + 1 := by omega); (try have q2_0_3_0 : w.heap.size + 1 + 1 + 1 < w2.heap.size := by omega); (try have q2_0_3_2 : w.heap.size + 1 + 1 + 1 < w2.heap.size + 1 + 1 := by omega); (try have q2_0_3_3 : w.heap.size + 1 + 1 + 1 < w2.heap.size + 1 + 1 + 1 := by omega); (try have q2_1_0_0 : w1.heap.size < w2.heap.size := by omega); (try have q2_1_0_2 : w1.heap.size < w2.heap.size + 1 + 1 := by omega); (try have q2_1_1_0 : w1.heap.size + 1 < w2.heap.size := by omega); (try have q2_1_1_2 : w1.heap.size + 1 < w2.heap.size + 1 + 1 := by omega); (try go_wp2_with fail)))
                (try (go_at_call 58; refine (C3.out _).mono ?_; rintro e w3 ⟨rfl, hb3⟩; obtain ⟨hc3, hf3⟩ := bcell hb3; have hz3 := hb3.size; (try simp at hz3); (try have q3_0_0_0 : w.heap.size < w3.heap.size := by omega); (try have q3_0_0_2 : w.heap.size < w3.heap.size + 1 + 1 := by omega); (try have q3_0_0_3 : w.heap.size < w3.heap.size + 1 + 1 + 1 := by omega); (try have q3_0_1_0 : w.heap.size + 1 < w3.heap.size := by omega); (try have q3_0_1_2 : w.heap.size + 1 < w3.heap.size + 1 + 1 := by omega); (try have q3_0_1_3 : w.heap.size + 1 < w3.heap.size + 1 + 1 + 1 := by omega); (try have q3_0_2_0 : w.heap.size + 1 + 1 < w3.heap.size := by omega); (try have q3_0_2_2 : w.heap.size + 1 + 1 < w3.heap.size + 1 + 1 := by omega); (try have q3_0_2_3 : w.heap.size + 1 + 1 < w3.heap.size + 1 + 1 + 1 := by omega); (try have q3_0_3_0 : w.heap.size + 1 + 1 + 1 < w3.heap.size := by omega); (try have q3_0_3_2 : w.heap.size + 1 + 1 + 1 < w3.heap.size + 1 + 1 := by omega); (try have q3_0_3_3 : w.heap.size + 1 + 1 + 1 < w3.heap.size + 1 + 1 + 1 := by omega); (try have q3_1_0_0 : w1.heap.size < w3.heap.size := by omega); (try have q3_1_0_2 : w1.heap.size < w3.heap.size + 1 + 1 := by omega); (try have q3_1_1_0 : w1.heap.size + 1 < w3.heap.size := by omega); (try have q3_1_1_2 : w1.heap.size + 1 < w3.heap.size + 1 + 1 := by omega); (try have q3_2_0_0 : w2.heap.size < w3.heap.size := by omega); (try have q3_2_0_2 : w2.heap.size < w3.heap.size + 1 + 1 := by omega); (try have q3_2_1_0 : w2.heap.size + 1 < w3.heap.size := by omega); (try have q3_2_1_2 : w2.heap.size + 1 < w3.heap.size + 1 + 1 := by omega); (try go_wp2_with fail)))
                (try (go_at_call 20; refine (C4.out _).mono ?_; rintro e w4 ⟨rfl, hb4⟩; obtain ⟨hc4, hf4⟩ := bcell hb4; have hz4 := hb4.size; (try simp at hz4); (try have q4_0_0_0 : w.heap.size < w4.heap.size := by omega); (try have q4_0_0_2 : w.heap.size < w4.heap.size + 1 + 1 := by omega); (try have q4_0_0_3 : w.heap.size < w4.heap.size + 1 + 1 + 1 := by omega); (try have q4_0_1_0 : w.heap.size + 1 < w4.heap.size := by omega); (try have q4_0_1_2 : w.heap.size + 1 < w4.heap.size + 1 + 1 := by omega); (try have q4_0_1_3 : w.heap.size + 1 < w4.heap.size + 1 + 1 + 1 := by omega); (try have q4_0_2_0 : w.heap.size + 1 + 1 < w4.heap.size := by omega); (try have q4_0_2_2 : w.heap.size + 1 + 1 < w4.heap.size + 1 + 1 := by omega); (try have q4_0_2_3 : w.heap.size + 1 + 1 < w4.heap.size + 1 + 1 + 1 := by omega); (try have q4_0_3_0 : w.heap.size + 1 + 1 + 1 < w4.heap.size := by omega); (try have q4_0_3_2 : w.heap.size + 1 + 1 + 1 < w4.heap.size + 1 + 1 := by omega); (try have q4_0_3_3 : w.heap.size + 1 + 1 + 1 < w4.heap.size + 1 + 1 + 1 := by omega); (try have q4_1_0_0 : w1.heap.size < w4.heap.size := by omega); (try have q4_1_0_2 : w1.heap.size < w4.heap.size + 1 + 1 := by omega); (try have q4_1_1_0 : w1.heap.size + 1 < w4.heap.size := by omega); (try have q4_1_1_2 : w1.heap.size + 1 < w4.heap.size + 1 + 1 := by omega); (try have q4_2_0_0 : w2.heap.size < w4.heap.size := by omega); (try have q4_2_0_2 : w2.heap.size < w4.heap.size + 1 + 1 := by omega); (try have q4_2_1_0 : w2.heap.size + 1 < w4.heap.size := by omega); (try have q4_2_1_2 : w2.heap.size + 1 < w4.heap.size + 1 + 1 := by omega); (try have q4_3_0_0 : w3.heap.size < w4.heap.size := by omega); (try have q4_3_0_2 : w3.heap.size < w4.heap.size + 1 + 1 := by omega); (try have q4_3_1_0 : w3.heap.size + 1 < w4.heap.size := by omega); (try have q4_3_1_2 : w3.heap.size + 1 < w4.heap.size + 1 + 1 := by omega); (try go_wp2_with fail)))
                have r0 : w4.cell? ⟨w.heap.size, 0, none⟩ = some (.int .i64 0) := (Below.cell (B := (w.alloc (.cells #[.int .i64 0, .int .i64 0, .int .i64 0] 27)).heap.size) (w := w.alloc (.cells #[.int .i64 0, .int .i64 0, .int .i64 0] 27)) (by repeat (first | with_reducible exact Below.refl _ _ | (with_reducible refine Below.alloc ?_ (by first | omega | (simp; done) | (simp; omega)) _) | (with_reducible refine Below.setCell ?_ (by first | omega | (simp; done) | (simp; omega)) _) | (with_reducible refine Below.drew ?_) | (with_reducible refine below_drewN ?_ _) | (with_reducible assumption) | (with_reducible refine bel_step (by with_reducible assumption) ?_ (by first | omega | (simp; done) | (simp; omega))))) (by simp)).trans (by simp)
                have r1 : w4.cell? ⟨w.heap.size, 1, none⟩ = some (.int .i64 0) := (Below.cell (B := (w.alloc (.cells #[.int .i64 0, .int .i64 0, .int .i64 0] 27)).heap.size) (w := w.alloc (.cells #[.int .i64 0, .int .i64 0, .int .i64 0] 27)) (by repeat (first | with_reducible exact Below.refl _ _ | (with_reducible refine Below.alloc ?_ (by first | omega | (simp; done) | (simp; omega)) _) | (with_reducible refine Below.setCell ?_ (by first | omega | (simp; done) | (simp; omega)) _) | (with_reducible refine Below.drew ?_) | (with_reducible refine below_drewN ?_ _) | (with_reducible assumption) | (with_reducible refine bel_step (by with_reducible assumption) ?_ (by first | omega | (simp; done) | (simp; omega))))) (by simp)).trans (by simp)
                have r2 : w4.cell? ⟨w.heap.size, 2, none⟩ = some (.int .i64 0) := (Below.cell (B := (w.alloc (.cells #[.int .i64 0, .int .i64 0, .int .i64 0] 27)).heap.size) (w := w.alloc (.cells #[.int .i64 0, .int .i64 0, .int .i64 0] 27)) (by repeat (first | with_reducible exact Below.refl _ _ | (with_reducible refine Below.alloc ?_ (by first | omega | (simp; done) | (simp; omega)) _) | (with_reducible refine Below.setCell ?_ (by first | omega | (simp; done) | (simp; omega)) _) | (with_reducible refine Below.drew ?_) | (with_reducible refine below_drewN ?_ _) | (with_reducible assumption) | (with_reducible refine bel_step (by with_reducible assumption) ?_ (by first | omega | (simp; done) | (simp; omega))))) (by simp)).trans (by simp)
                rw [HE.out]
                refine bodyPost_ret (v := (.tuple #[.agg #[.int .i64 0, .int .i64 0, .int .i64 0], .int .i64 1])) (by simp [results, Tryd.results28, go_sem, errV, okC, *]) rfl ⟨rfl, ?_⟩; exact (by repeat (first | with_reducible exact Below.refl _ _ | (with_reducible refine Below.alloc ?_ (by first | omega | (simp; done) | (simp; omega)) _) | (with_reducible refine Below.setCell ?_ (by first | omega | (simp; done) | (simp; omega)) _) | (with_reducible refine Below.drew ?_) | (with_reducible refine below_drewN ?_ _) | (with_reducible assumption) | (with_reducible refine bel_step (by with_reducible assumption) ?_ (by first | omega | (simp; done) | (simp; omega)))))
            · obtain ⟨q1, o1⟩ : ∃ q, twoB l1 = q := ⟨_, rfl⟩
              obtain ⟨q2, o2⟩ : ∃ q, twoB l2 = q := ⟨_, rfl⟩
              obtain ⟨q3, o3⟩ : ∃ q, twoB l3 = q := ⟨_, rfl⟩
              rw [o1] at HV C1 b1
              rw [o2] at HV C2 b2
              rw [o3] at HV C3 b3
              clear o1 o2 o3
              obtain ⟨R1, o1⟩ : ∃ q, twoR l1 = q := ⟨_, rfl⟩
              obtain ⟨R2, o2⟩ : ∃ q, twoR l2 = q := ⟨_, rfl⟩
              obtain ⟨R3, o3⟩ : ∃ q, twoR l3 = q := ⟨_, rfl⟩
              rw [o1] at C1
              rw [o2] at C2
              rw [o3] at C3
              clear o1 o2 o3
              obtain rfl : q1 = true := by simpa using b1
              obtain rfl : q2 = true := by simpa using b2
              obtain rfl : q3 = false := by simpa using b3
              have HE := Lib.hid (ReadE_no (l := L) (by rw [HV.out]; simp))
              clear b1 b2 b3
              have C1 := Lib.hid C1
              have C2 := Lib.hid C2
              have C3 := Lib.hid C3
              clear v1 v2 v3 HV
              go_enter Tryd.func28, Tryd.ntmps28
              go_wp2_with fail
              (try (go_at_call 58; refine (C1.out _).mono ?_; rintro e w1 ⟨rfl, hb1⟩; obtain ⟨hc1, hf1⟩ := bcell hb1; have hz1 := hb1.size; (try simp at hz1); (try have q1_0_0_0 : w.heap.size < w1.heap.size := by omega); (try have q1_0_0_2 : w.heap.size < w1.heap.size + 1 + 1 := by omega); (try have q1_0_0_3 : w.heap.size < w1.heap.size + 1 + 1 + 1 := by omega); (try have q1_0_1_0 : w.heap.size + 1 < w1.heap.size := by omega); (try have q1_0_1_2 : w.heap.size + 1 < w1.heap.size + 1 + 1 := by omega); (try have q1_0_1_3 : w.heap.size + 1 < w1.heap.size + 1 + 1 + 1 := by omega); (try have q1_0_2_0 : w.heap.size + 1 + 1 < w1.heap.size := by omega); (try have q1_0_2_2 : w.heap.size + 1 + 1 < w1.heap.size + 1 + 1 := by omega); (try have q1_0_2_3 : w.heap.size + 1 + 1 < w1.heap.size + 1 + 1 + 1 := by omega); (try have q1_0_3_0 : w.heap.size + 1 + 1 + 1 < w1.heap.size := by omega); (try have q1_0_3_2 : w.heap.size + 1 + 1 + 1 < w1.heap.size + 1 + 1 := by omega); (try have q1_0_3_3 : w.heap.size + 1 + 1 + 1 < w1.heap.size + 1 + 1 + 1 := by omega); (try go_wp2_with fail)))
              (try (go_at_call 58; refine (C2.out _).mono ?_; rintro e w2 ⟨rfl, hb2⟩; obtain ⟨hc2, hf2⟩ := bcell hb2; have hz2 := hb2.size; (try simp at hz2); (try have q2_0_0_0 : w.heap.size < w2.heap.size := by omega); (try have q2_0_0_2 : w.heap.size < w2.heap.size + 1 + 1 := by omega); (try have q2_0_0_3 : w.heap.size < w2.heap.size + 1 + 1 + 1 := by omega); (try have q2_0_1_0 : w.heap.size + 1 < w2.heap.size := by omega); (try have q2_0_1_2 : w.heap.size + 1 < w2.heap.size + 1 + 1 := by omega); (try have q2_0_1_3 : w.heap.size + 1 < w2.heap.size + 1 + 1 + 1 := by omega); (try have q2_0_2_0 : w.heap.size + 1 + 1 < w2.heap.size := by omega); (try have q2_0_2_2 : w.heap.size + 1 + 1 < w2.heap.size + 1 + 1 := by omega); (try have q2_0_2_3 : w.heap.size + 1 + 1 < w2.heap.size + 1 + 1 + 1 := by omega); (try have q2_0_3_0 : w.heap.size + 1 + 1 + 1 < w2.heap.size := by omega); (try have q2_0_3_2 : w.heap.size + 1 + 1 + 1 < w2.heap.size + 1 + 1 := by omega); (try have q2_0_3_3 : w.heap.size + 1 + 1 + 1 < w2.heap.size + 1 + 1 + 1 := by omega); (try have q2_1_0_0 : w1.heap.size < w2.heap.size := by omega); (try have q2_1_0_2 : w1.heap.size < w2.heap.size + 1 + 1 := by omega); (try have q2_1_1_0 : w1.heap.size + 1 < w2.heap.size := by omega); (try have q2_1_1_2 : w1.heap.size + 1 < w2.heap.size + 1 + 1 := by omega); (try go_wp2_with fail)))
              (try (go_at_call 58; refine (C3.out _).mono ?_; rintro e w3 ⟨rfl, hb3⟩; obtain ⟨hc3, hf3⟩ := bcell hb3; have hz3 := hb3.size; (try simp at hz3); (try have q3_0_0_0 : w.heap.size < w3.heap.size := by omega); (try have q3_0_0_2 : w.heap.size < w3.heap.size + 1 + 1 := by omega); (try have q3_0_0_3 : w.heap.size < w3.heap.size + 1 + 1 + 1 := by omega); (try have q3_0_1_0 : w.heap.size + 1 < w3.heap.size := by omega); (try have q3_0_1_2 : w.heap.size + 1 < w3.heap.size + 1 + 1 := by omega); (try have q3_0_1_3 : w.heap.size + 1 < w3.heap.size + 1 + 1 + 1 := by omega); (try have q3_0_2_0 : w.heap.size + 1 + 1 < w3.heap.size := by omega); (try have q3_0_2_2 : w.heap.size + 1 + 1 < w3.heap.size + 1 + 1 := by omega); (try have q3_0_2_3 : w.heap.size + 1 + 1 < w3.heap.size + 1 + 1 + 1 := by omega); (try have q3_0_3_0 : w.heap.size + 1 + 1 + 1 < w3.heap.size := by omega); (try have q3_0_3_2 : w.heap.size + 1 + 1 + 1 < w3.heap.size + 1 + 1 := by omega); (try have q3_0_3_3 : w.heap.size + 1 + 1 + 1 < w3.heap.size + 1 + 1 + 1 := by omega); (try have q3_1_0_0 : w1.heap.size < w3.heap.size := by omega); (try have q3_1_0_2 : w1.heap.size < w3.heap.size + 1 + 1 := by omega); (try have q3_1_1_0 : w1.heap.size + 1 < w3.heap.size := by omega); (try have q3_1_1_2 : w1.heap.size + 1 < w3.heap.size + 1 + 1 := by omega); (try have q3_2_0_0 : w2.heap.size < w3.heap.size := by omega); (try have q3_2_0_2 : w2.heap.size < w3.heap.size + 1 + 1 := by omega); (try have q3_2_1_0 : w2.heap.size + 1 < w3.heap.size := by omega); (try have q3_2_1_2 : w2.heap.size + 1 < w3.heap.size + 1 + 1 := by omega); (try go_wp2_with fail)))
              have r0 : w3.cell? ⟨w.heap.size, 0, none⟩ = some (.int .i64 0) := (Below.cell (B := (w.alloc (.cells #[.int .i64 0, .int .i64 0, .int .i64 0] 27)).heap.size) (w := w.alloc (.cells #[.int .i64 0, .int .i64 0, .int .i64 0] 27)) (by repeat (first | with_reducible exact Below.refl _ _ | (with_reducible refine Below.alloc ?_ (by first | omega | (simp; done) | (simp; omega)) _) | (with_reducible refine Below.setCell ?_ (by first | omega | (simp; done) | (simp; omega)) _) | (with_reducible refine Below.drew ?_) | (with_reducible refine below_drewN ?_ _) | (with_reducible assumption) | (with_reducible refine bel_step (by with_reducible assumption) ?_ (by first | omega | (simp; done) | (simp; omega))))) (by simp)).trans (by simp)
              have r1 : w3.cell? ⟨w.heap.size, 1, none⟩ = some (.int .i64 0) := (Below.cell (B := (w.alloc (.cells #[.int .i64 0, .int .i64 0, .int .i64 0] 27)).heap.size) (w := w.alloc (.cells #[.int .i64 0, .int .i64 0, .int .i64 0] 27)) (by repeat (first | with_reducible exact Below.refl _ _ | (with_reducible refine Below.alloc ?_ (by first | omega | (simp; done) | (simp; omega)) _) | (with_reducible refine Below.setCell ?_ (by first | omega | (simp; done) | (simp; omega)) _) | (with_reducible refine Below.drew ?_) | (with_reducible refine below_drewN ?_ _) | (with_reducible assumption) | (with_reducible refine bel_step (by with_reducible assumption) ?_ (by first | omega | (simp; done) | (simp; omega))))) (by simp)).trans (by simp)
              have r2 : w3.cell? ⟨w.heap.size, 2, none⟩ = some (.int .i64 0) := (Below.cell (B := (w.alloc (.cells #[.int .i64 0, .int .i64 0, .int .i64 0] 27)).heap.size) (w := w.alloc (.cells #[.int .i64 0, .int .i64 0, .int .i64 0] 27)) (by repeat (first | with_reducible exact Below.refl _ _ | (with_reducible refine Below.alloc ?_ (by first | omega | (simp; done) | (simp; omega)) _) | (with_reducible refine Below.setCell ?_ (by first | omega | (simp; done) | (simp; omega)) _) | (with_reducible refine Below.drew ?_) | (with_reducible refine below_drewN ?_ _) | (with_reducible assumption) | (with_reducible refine bel_step (by with_reducible assumption) ?_ (by first | omega | (simp; done) | (simp; omega))))) (by simp)).trans (by simp)
              rw [HE.out]
              refine bodyPost_ret (v := (.tuple #[.agg #[.int .i64 0, .int .i64 0, .int .i64 0], .int .i64 2])) (by simp [results, Tryd.results28, go_sem, errV, okC, *]) rfl ⟨rfl, ?_⟩; exact (by repeat (first | with_reducible exact Below.refl _ _ | (with_reducible refine Below.alloc ?_ (by first | omega | (simp; done) | (simp; omega)) _) | (with_reducible refine Below.setCell ?_ (by first | omega | (simp; done) | (simp; omega)) _) | (with_reducible refine Below.drew ?_) | (with_reducible refine below_drewN ?_ _) | (with_reducible assumption) | (with_reducible refine bel_step (by with_reducible assumption) ?_ (by first | omega | (simp; done) | (simp; omega)))))
          · obtain ⟨q1, o1⟩ : ∃ q, twoB l1 = q := ⟨_, rfl⟩
            obtain ⟨q2, o2⟩ : ∃ q, twoB l2 = q := ⟨_, rfl⟩
            obtain ⟨q3, o3⟩ : ∃ q, twoB l3 = q := ⟨_, rfl⟩
            rw [o1] at HV C1 b1
            rw [o2] at HV C2 b2
            rw [o3] at HV C3
            clear o1 o2 o3
            obtain ⟨R1, o1⟩ : ∃ q, twoR l1 = q := ⟨_, rfl⟩
            obtain ⟨R2, o2⟩ : ∃ q, twoR l2 = q := ⟨_, rfl⟩
            obtain ⟨R3, o3⟩ : ∃ q, twoR l3 = q := ⟨_, rfl⟩
            rw [o1] at C1
            rw [o2] at C2
            rw [o3] at C3
            clear o1 o2 o3
            obtain rfl : q1 = true := by simpa using b1
            obtain rfl : q2 = false := by simpa using b2
            have HE := Lib.hid (ReadE_no (l := L) (by rw [HV.out]; simp))
            clear b1 b2
            have C1 := Lib.hid C1
            have C2 := Lib.hid C2
            have C3 := Lib.hid C3
            clear v1 v2 v3 HV
            go_enter Tryd.func28, Tryd.ntmps28
            go_wp2_with fail
            (try (go_at_call 58; refine (C1.out _).mono ?_; rintro e w1 ⟨rfl, hb1⟩; obtain ⟨hc1, hf1⟩ := bcell hb1; have hz1 := hb1.size; (try simp at hz1); (try have q1_0_0_0 : w.heap.size < w1.heap.size := by omega); (try have q1_0_0_2 : w.heap.size < w1.heap.size + 1 + 1 := by omega); (try have q1_0_0_3 : w.heap.size < w1.heap.size + 1 + 1 + 1 := by omega); (try have q1_0_1_0 : w.heap.size + 1 < w1.heap.size := by omega); (try have q1_0_1_2 : w.heap.size + 1 < w1.heap.size + 1 + 1 := by omega); (try have q1_0_1_3 : w.heap.size + 1 < w1.heap.size + 1 + 1 + 1 := by omega); (try have q1_0_2_0 : w.heap.size + 1 + 1 < w1.heap.size := by omega); (try have q1_0_2_2 : w.heap.size + 1 + 1 < w1.heap.size + 1 + 1 := by omega); (try have q1_0_2_3 : w.heap.size + 1 + 1 < w1.heap.size + 1 + 1 + 1 := by omega); (try have q1_0_3_0 : w.heap.size + 1 + 1 + 1 < w1.heap.size := by omega); (try have q1_0_3_2 : w.heap.size + 1 + 1 + 1 < w1.heap.size + 1 + 1 := by omega); (try have q1_0_3_3 : w.heap.size + 1 + 1 + 1 < w1.heap.size + 1 + 1 + 1 := by omega); (try go_wp2_with fail)))
            (try (go_at_call 58; refine (C2.out _).mono ?_; rintro e w2 ⟨rfl, hb2⟩; obtain ⟨hc2, hf2⟩ := bcell hb2; have hz2 := hb2.size; (try simp at hz2); (try have q2_0_0_0 : w.heap.size < w2.heap.size := by omega); (try have q2_0_0_2 : w.heap.size < w2.heap.size + 1 + 1 := by omega); (try have q2_0_0_3 : w.heap.size < w2.heap.size + 1 + 1 + 1 := by omega); (try have q2_0_1_0 : w.heap.size + 1 < w2.heap.size := by omega); (try have q2_0_1_2 : w.heap.size + 1 < w2.heap.size + 1 + 1 := by omega); (try have q2_0_1_3 : w.heap.size + 1 < w2.heap.size + 1 + 1 + 1 := by omega); (try have q2_0_2_0 : w.heap.size + 1 + 1 < w2.heap.size := by omega); (try have q2_0_2_2 : w.heap.size + 1 + 1 < w2.heap.size + 1 + 1 := by omega); (try have q2_0_2_3 : w.heap.size + 1 + 1 < w2.heap.size + 1 + 1 + 1 := by omega); (try have q2_0_3_0 : w.heap.size + 1 + 1 + 1 < w2.heap.size := by omega); (try have q2_0_3_2 : w.heap.size + 1 + 1 + 1 < w2.heap.size + 1 + 1 := by omega); (try have q2_0_3_3 : w.heap.size + 1 + 1 + 1 < w2.heap.size + 1 + 1 + 1 := by omega); (try have q2_1_0_0 : w1.heap.size < w2.heap.size := by omega); (try have q2_1_0_2 : w1.heap.size < w2.heap.size + 1 + 1 := by omega); (try have q2_1_1_0 : w1.heap.size + 1 < w2.heap.size := by omega); (try have q2_1_1_2 : w1.heap.size + 1 < w2.heap.size + 1 + 1 := by omega); (try go_wp2_with fail)))
            (try (go_at_call 58; refine (C3.out _).mono ?_; rintro e w3 ⟨rfl, hb3⟩; obtain ⟨hc3, hf3⟩ := bcell hb3; have hz3 := hb3.size; (try simp at hz3); (try have q3_0_0_0 : w.heap.size < w3.heap.size := by omega); (try have q3_0_0_2 : w.heap.size < w3.heap.size + 1 + 1 := by omega); (try have q3_0_0_3 : w.heap.size < w3.heap.size + 1 + 1 + 1 := by omega); (try have q3_0_1_0 : w.heap.size + 1 < w3.heap.size := by omega); (try have q3_0_1_2 : w.heap.size + 1 < w3.heap.size + 1 + 1 := by omega); (try have q3_0_1_3 : w.heap.size + 1 < w3.heap.size + 1 + 1 + 1 := by omega); (try have q3_0_2_0 : w.heap.size + 1 + 1 < w3.heap.size := by omega); (try have q3_0_2_2 : w.heap.size + 1 + 1 < w3.heap.size + 1 + 1 := by omega); (try have q3_0_2_3 : w.heap.size + 1 + 1 < w3.heap.size + 1 + 1 + 1 := by omega); (try have q3_0_3_0 : w.heap.size + 1 + 1 + 1 < w3.heap.size := by omega); (try have q3_0_3_2 : w.heap.size + 1 + 1 + 1 < w3.heap.size + 1 + 1 := by omega); (try have q3_0_3_3 : w.heap.size + 1 + 1 + 1 < w3.heap.size + 1 + 1 + 1 := by omega); (try have q3_1_0_0 : w1.heap.size < w3.heap.size := by omega); (try have q3_1_0_2 : w1.heap.size < w3.heap.size + 1 + 1 := by omega); (try have q3_1_1_0 : w1.heap.size + 1 < w3.heap.size := by omega); (try have q3_1_1_2 : w1.heap.size + 1 < w3.heap.size + 1 + 1 := by omega); (try have q3_2_0_0 : w2.heap.size < w3.heap.size := by omega); (try have q3_2_0_2 : w2.heap.size < w3.heap.size + 1 + 1 := by omega); (try have q3_2_1_0 : w2.heap.size + 1 < w3.heap.size := by omega); (try have q3_2_1_2 : w2.heap.size + 1 < w3.heap.size + 1 + 1 := by omega); (try go_wp2_with fail)))
            have r0 : w3.cell? ⟨w.heap.size, 0, none⟩ = some (.int .i64 0) := (Below.cell (B := (w.alloc (.cells #[.int .i64 0, .int .i64 0, .int .i64 0] 27)).heap.size) (w := w.alloc (.cells #[.int .i64 0, .int .i64 0, .int .i64 0] 27)) (by repeat (first | with_reducible exact Below.refl _ _ | (with_reducible refine Below.alloc ?_ (by first | omega | (simp; done) | (simp; omega)) _) | (with_reducible refine Below.setCell ?_ (by first | omega | (simp; done) | (simp; omega)) _) | (with_reducible refine Below.drew ?_) | (with_reducible refine below_drewN ?_ _) | (with_reducible assumption) | (with_reducible refine bel_step (by with_reducible assumption) ?_ (by first | omega | (simp; done) | (simp; omega))))) (by simp)).trans (by simp)
            have r1 : w3.cell? ⟨w.heap.size, 1, none⟩ = some (.int .i64 0) := (Below.cell (B := (w.alloc (.cells #[.int .i64 0, .int .i64 0, .int .i64 0] 27)).heap.size) (w := w.alloc (.cells #[.int .i64 0, .int .i64 0, .int .i64 0] 27)) (by repeat (first | with_reducible exact Below.refl _ _ | (with_reducible refine Below.alloc ?_ (by first | omega | (simp; done) | (simp; omega)) _) | (with_reducible refine Below.setCell ?_ (by first | omega | (simp; done) | (simp; omega)) _) | (with_reducible refine Below.drew ?_) | (with_reducible refine below_drewN ?_ _) | (with_reducible assumption) | (with_reducible refine bel_step (by with_reducible assumption) ?_ (by first | omega | (simp; done) | (simp; omega))))) (by simp)).trans (by simp)
            have r2 : w3.cell? ⟨w.heap.size, 2, none⟩ = some (.int .i64 0) := (Below.cell (B := (w.alloc (.cells #[.int .i64 0, .int .i64 0, .int .i64 0] 27)).heap.size) (w := w.alloc (.cells #[.int .i64 0, .int .i64 0, .int .i64 0] 27)) (by repeat (first | with_reducible exact Below.refl _ _ | (with_reducible refine Below.alloc ?_ (by first | omega | (simp; done) | (simp; omega)) _) | (with_reducible refine Below.setCell ?_ (by first | omega | (simp; done) | (simp; omega)) _) | (with_reducible refine Below.drew ?_) | (with_reducible refine below_drewN ?_ _) | (with_reducible assumption) | (with_reducible refine bel_step (by with_reducible assumption) ?_ (by first | omega | (simp; done) | (simp; omega))))) (by simp)).trans (by simp)
            rw [HE.out]
            refine bodyPost_ret (v := (.tuple #[.agg #[.int .i64 0, .int .i64 0, .int .i64 0], .int .i64 2])) (by simp [results, Tryd.results28, go_sem, errV, okC, *]) rfl ⟨rfl, ?_⟩; exact (by repeat (first | with_reducible exact Below.refl _ _ | (with_reducible refine Below.alloc ?_ (by first | omega | (simp; done) | (simp; omega)) _) | (with_reducible refine Below.setCell ?_ (by first | omega | (simp; done) | (simp; omega)) _) | (with_reducible refine Below.drew ?_) | (with_reducible refine below_drewN ?_ _) | (with_reducible assumption) | (with_reducible refine bel_step (by with_reducible assumption) ?_ (by first | omega | (simp; done) | (simp; omega)))))
        · obtain ⟨q1, o1⟩ : ∃ q, twoB l1 = q := ⟨_, rfl⟩
          obtain ⟨q2, o2⟩ : ∃ q, twoB l2 = q := ⟨_, rfl⟩
          obtain ⟨q3, o3⟩ : ∃ q, twoB l3 = q := ⟨_, rfl⟩
          rw [o1] at HV C1 b1
          rw [o2] at HV C2
          rw [o3] at HV C3
          clear o1 o2 o3
          obtain ⟨R1, o1⟩ : ∃ q, twoR l1 = q := ⟨_, rfl⟩
          obtain ⟨R2, o2⟩ : ∃ q, twoR l2 = q := ⟨_, rfl⟩
          obtain ⟨R3, o3⟩ : ∃ q, twoR l3 = q := ⟨_, rfl⟩
          rw [o1] at C1
          rw [o2] at C2
          rw [o3] at C3
          clear o1 o2 o3
          obtain rfl : q1 = false := by simpa using b1
          have HE := Lib.hid (ReadE_no (l := L) (by rw [HV.out]; simp))
          clear b1
          have C1 := Lib.hid C1
          have C2 := Lib.hid C2
          have C3 := Lib.hid C3
          clear v1 v2 v3 HV
          go_enter Tryd.func28, Tryd.ntmps28
          go_wp2_with fail
          (try (go_at_call 58; refine (C1.out _).mono ?_; rintro e w1 ⟨rfl, hb1⟩; obtain ⟨hc1, hf1⟩ := bcell hb1; have hz1 := hb1.size; (try simp at hz1); (try have q1_0_0_0 : w.heap.size < w1.heap.size := by omega); (try have q1_0_0_2 : w.heap.size < w1.heap.size + 1 + 1 := by omega); (try have q1_0_0_3 : w.heap.size < w1.heap.size + 1 + 1 + 1 := by omega); (try have q1_0_1_0 : w.heap.size + 1 < w1.heap.size := by omega); (try have q1_0_1_2 : w.heap.size + 1 < w1.heap.size + 1 + 1 := by omega); (try have q1_0_1_3 : w.heap.size + 1 < w1.heap.size + 1 + 1 + 1 := by omega); (try have q1_0_2_0 : w.heap.size + 1 + 1 < w1.heap.size := by omega); (try have q1_0_2_2 : w.heap.size + 1 + 1 < w1.heap.size + 1 + 1 := by omega); (try have q1_0_2_3 : w.heap.size + 1 + 1 < w1.heap.size + 1 + 1 + 1 := by omega); (try have q1_0_3_0 : w.heap.size + 1 + 1 + 1 < w1.heap.size := by omega); (try have q1_0_3_2 : w.heap.size + 1 + 1 + 1 < w1.heap.size + 1 + 1 := by omega); (try have q1_0_3_3 : w.heap.size + 1 + 1 + 1 < w1.heap.size + 1 + 1 + 1 := by omega); (try go_wp2_with fail)))
          (try (go_at_call 58; refine (C2.out _).mono ?_; rintro e w2 ⟨rfl, hb2⟩; obtain ⟨hc2, hf2⟩ := bcell hb2; have hz2 := hb2.size; (try simp at hz2); (try have q2_0_0_0 : w.heap.size < w2.heap.size := by omega); (try have q2_0_0_2 : w.heap.size < w2.heap.size + 1 + 1 := by omega); (try have q2_0_0_3 : w.heap.size < w2.heap.size + 1 + 1 + 1 := by omega); (try have q2_0_1_0 : w.heap.size + 1 < w2.heap.size := by omega); (try have q2_0_1_2 : w.heap.size + 1 < w2.heap.size + 1 + 1 := by omega); (try have q2_0_1_3 : w.heap.size + 1 < w2.heap.size + 1 + 1 + 1 := by omega); (try have q2_0_2_0 : w.heap.size + 1 + 1 < w2.heap.size := by omega); (try have q2_0_2_2 : w.heap.size + 1 + 1 < w2.heap.size + 1 + 1 := by omega); (try have q2_0_2_3 : w.heap.size + 1 + 1 < w2.heap.size + 1 + 1 + 1 := by omega); (try have q2_0_3_0 : w.heap.size + 1 + 1 + 1 < w2.heap.size := by omega); (try have q2_0_3_2 : w.heap.size + 1 + 1 + 1 < w2.heap.size + 1 + 1 := by omega); (try have q2_0_3_3 : w.heap.size + 1 + 1 + 1 < w2.heap.size + 1 + 1 + 1 := by omega); (try have q2_1_0_0 : w1.heap.size < w2.heap.size := by omega); (try have q2_1_0_2 : w1.heap.size < w2.heap.size + 1 + 1 := by omega); (try have q2_1_1_0 : w1.heap.size + 1 < w2.heap.size := by omega); (try have q2_1_1_2 : w1.heap.size + 1 < w2.heap.size + 1 + 1 := by omega); (try go_wp2_with fail)))
          (try (go_at_call 58; refine (C3.out _).mono ?_; rintro e w3 ⟨rfl, hb3⟩; obtain ⟨hc3, hf3⟩ := bcell hb3; have hz3 := hb3.size; (try simp at hz3); (try have q3_0_0_0 : w.heap.size < w3.heap.size := by omega); (try have q3_0_0_2 : w.heap.size < w3.heap.size + 1 + 1 := by omega); (try have q3_0_0_3 : w.heap.size < w3.heap.size + 1 + 1 + 1 := by omega); (try have q3_0_1_0 : w.heap.size + 1 < w3.heap.size := by omega); (try have q3_0_1_2 : w.heap.size + 1 < w3.heap.size + 1 + 1 := by omega); (try have q3_0_1_3 : w.heap.size + 1 < w3.heap.size + 1 + 1 + 1 := by omega); (try have q3_0_2_0 : w.heap.size + 1 + 1 < w3.heap.size := by omega); (try have q3_0_2_2 : w.heap.size + 1 + 1 < w3.heap.size + 1 + 1 := by omega); (try have q3_0_2_3 : w.heap.size + 1 + 1 < w3.heap.size + 1 + 1 + 1 := by omega); (try have q3_0_3_0 : w.heap.size + 1 + 1 + 1 < w3.heap.size := by omega); (try have q3_0_3_2 : w.heap.size + 1 + 1 + 1 < w3.heap.size + 1 + 1 := by omega); (try have q3_0_3_3 : w.heap.size + 1 + 1 + 1 < w3.heap.size + 1 + 1 + 1 := by omega); (try have q3_1_0_0 : w1.heap.size < w3.heap.size := by omega); (try have q3_1_0_2 : w1.heap.size < w3.heap.size + 1 + 1 := by omega); (try have q3_1_1_0 : w1.heap.size + 1 < w3.heap.size := by omega); (try have q3_1_1_2 : w1.heap.size + 1 < w3.heap.size + 1 + 1 := by omega); (try have q3_2_0_0 : w2.heap.size < w3.heap.size := by omega); (try have q3_2_0_2 : w2.heap.size < w3.heap.size + 1 + 1 := by omega); (try have q3_2_1_0 : w2.heap.size + 1 < w3.heap.size := by omega); (try have q3_2_1_2 : w2.heap.size + 1 < w3.heap.size + 1 + 1 := by omega); (try go_wp2_with fail)))
          have r0 : w3.cell? ⟨w.heap.size, 0, none⟩ = some (.int .i64 0) := (Below.cell (B := (w.alloc (.cells #[.int .i64 0, .int .i64 0, .int .i64 0] 27)).heap.size) (w := w.alloc (.cells #[.int .i64 0, .int .i64 0, .int .i64 0] 27)) (by repeat (first | with_reducible exact Below.refl _ _ | (with_reducible refine Below.alloc ?_ (by first | omega | (simp; done) | (simp; omega)) _) | (with_reducible refine Below.setCell ?_ (by first | omega | (simp; done) | (simp; omega)) _) | (with_reducible refine Below.drew ?_) | (with_reducible refine below_drewN ?_ _) | (with_reducible assumption) | (with_reducible refine bel_step (by with_reducible assumption) ?_ (by first | omega | (simp; done) | (simp; omega))))) (by simp)).trans (by simp)
          have r1 : w3.cell? ⟨w.heap.size, 1, none⟩ = some (.int .i64 0) := (Below.cell (B := (w.alloc (.cells #[.int .i64 0, .int .i64 0, .int .i64 0] 27)).heap.size) (w := w.alloc (.cells #[.int .i64 0, .int .i64 0, .int .i64 0] 27)) (by repeat (first | with_reducible exact Below.refl _ _ | (with_reducible refine Below.alloc ?_ (by first | omega | (simp; done) | (simp; omega)) _) | (with_reducible refine Below.setCell ?_ (by first | omega | (simp; done) | (simp; omega)) _) | (with_reducible refine Below.drew ?_) | (with_reducible refine below_drewN ?_ _) | (with_reducible assumption) | (with_reducible refine bel_step (by with_reducible assumption) ?_ (by first | omega | (simp; done) | (simp; omega))))) (by simp)).trans (by simp)
          have r2 : w3.cell? ⟨w.heap.size, 2, none⟩ = some (.int .i64 0) := (Below.cell (B := (w.alloc (.cells #[.int .i64 0, .int .i64 0, .int .i64 0] 27)).heap.size) (w := w.alloc (.cells #[.int .i64 0, .int .i64 0, .int .i64 0] 27)) (by repeat (first | with_reducible exact Below.refl _ _ | (with_reducible refine Below.alloc ?_ (by first | omega | (simp; done) | (simp; omega)) _) | (with_reducible refine Below.setCell ?_ (by first | omega | (simp; done) | (simp; omega)) _) | (with_reducible refine Below.drew ?_) | (with_reducible refine below_drewN ?_ _) | (with_reducible assumption) | (with_reducible refine bel_step (by with_reducible assumption) ?_ (by first | omega | (simp; done) | (simp; omega))))) (by simp)).trans (by simp)
          rw [HE.out]
          refine bodyPost_ret (v := (.tuple #[.agg #[.int .i64 0, .int .i64 0, .int .i64 0], .int .i64 2])) (by simp [results, Tryd.results28, go_sem, errV, okC, *]) rfl ⟨rfl, ?_⟩; exact (by repeat (first | with_reducible exact Below.refl _ _ | (with_reducible refine Below.alloc ?_ (by first | omega | (simp; done) | (simp; omega)) _) | (with_reducible refine Below.setCell ?_ (by first | omega | (simp; done) | (simp; omega)) _) | (with_reducible refine Below.drew ?_) | (with_reducible refine below_drewN ?_ _) | (with_reducible assumption) | (with_reducible refine bel_step (by with_reducible assumption) ?_ (by first | omega | (simp; done) | (simp; omega)))))
      · have HE := Lib.hid (ReadE_no (l := s.data.toList) (by
          unfold dateOfB
          have : ¬ s.data.toList.getD 7 0 = 45 := fun h => g7 (d7.1 h)
          rw [decide_eq_false this]; simp))
        have g7 : (c7 == 45) = false := by simp; omega
        have g8 : (c7 != 45) = true := by simp_all
        subst g4
        clear d4 d7 e4 e7 hlen h10
        go_enter Tryd.func28, Tryd.ntmps28
        go_wp2_with fail
        rw [HE.out]
        refine bodyPost_ret (v := (.tuple #[.agg #[.int .i64 0, .int .i64 0, .int .i64 0], .int .i64 2])) (by simp [results, Tryd.results28, go_sem, errV, okC, *]) rfl ⟨rfl, ?_⟩; exact (by repeat (first | with_reducible exact Below.refl _ _ | (with_reducible refine Below.alloc ?_ (by first | omega | (simp; done) | (simp; omega)) _) | (with_reducible refine Below.setCell ?_ (by first | omega | (simp; done) | (simp; omega)) _) | (with_reducible refine Below.drew ?_) | (with_reducible refine below_drewN ?_ _) | (with_reducible assumption) | (with_reducible refine bel_step (by with_reducible assumption) ?_ (by first | omega | (simp; done) | (simp; omega)))))
    · have HE := Lib.hid (ReadE_no (l := s.data.toList) (by
        unfold dateOfB
        have : ¬ s.data.toList.getD 4 0 = 45 := fun h => g4 (d4.1 h)
        rw [decide_eq_false this]; simp))
      have g4 : (c4 == 45) = false := by simp; omega
      have g5 : (c4 != 45) = true := by simp_all
      clear d4 d7 e4 e7 hlen h10
      go_enter Tryd.func28, Tryd.ntmps28
      go_wp2_with fail
      rw [HE.out]
      refine bodyPost_ret (v := (.tuple #[.agg #[.int .i64 0, .int .i64 0, .int .i64 0], .int .i64 2])) (by simp [results, Tryd.results28, go_sem, errV, okC, *]) rfl ⟨rfl, ?_⟩; exact (by repeat (first | with_reducible exact Below.refl _ _ | (with_reducible refine Below.alloc ?_ (by first | omega | (simp; done) | (simp; omega)) _) | (with_reducible refine Below.setCell ?_ (by first | omega | (simp; done) | (simp; omega)) _) | (with_reducible refine Below.drew ?_) | (with_reducible refine below_drewN ?_ _) | (with_reducible assumption) | (with_reducible refine bel_step (by with_reducible assumption) ?_ (by first | omega | (simp; done) | (simp; omega)))))
  · have HE := Lib.hid (ReadE_no (l := s.data.toList) (by unfold dateOfB; rw [hlen]; simp [h10]))
    have h3 : ((s.size : Int) != 10) = true := by simp; omega
    clear hlen h10
    go_enter Tryd.func28, Tryd.ntmps28
    go_wp2_with fail
    rw [HE.out]
    refine bodyPost_ret (v := (.tuple #[.agg #[.int .i64 0, .int .i64 0, .int .i64 0], .int .i64 2])) (by simp [results, Tryd.results28, go_sem, errV, okC, *]) rfl ⟨rfl, ?_⟩; exact (by repeat (first | with_reducible exact Below.refl _ _ | (with_reducible refine Below.alloc ?_ (by first | omega | (simp; done) | (simp; omega)) _) | (with_reducible refine Below.setCell ?_ (by first | omega | (simp; done) | (simp; omega)) _) | (with_reducible refine Below.drew ?_) | (with_reducible refine below_drewN ?_ _) | (with_reducible assumption) | (with_reducible refine bel_step (by with_reducible assumption) ?_ (by first | omega | (simp; done) | (simp; omega)))))
end Go.Proofs.YtcigoleplhdlaaaDoor
