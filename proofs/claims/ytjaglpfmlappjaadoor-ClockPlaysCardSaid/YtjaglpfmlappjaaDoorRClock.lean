/- The reference's clock, walked: as package clock's. -/
import Derived.Test.YtjaglpfmlappjaaDoorClock
import Derived.Test.YtjaglpfmlappjaaDoorRef1
namespace Go.Proofs.YtjaglpfmlappjaaDoor
open Go.RowKit
set_option linter.unusedVariables false
set_option linter.unusedSimpArgs false
theorem r1_Least (a b : Int) (w : World) :
    Calls Tryd.prog 29 #[.int .i64 a, .int .i64 b] w fun e w' => e = .returned (.int .i64 (min a b)) ∧ w = w' := by
  go_enter Tryd.func29, Tryd.ntmps29
  go_wp2
  all_goals (go_ret; exact ⟨ret_int (by omega), rfl⟩)
theorem r1_Greatest (a b : Int) (w : World) :
    Calls Tryd.prog 28 #[.int .i64 a, .int .i64 b] w fun e w' => e = .returned (.int .i64 (max a b)) ∧ w = w' := by
  go_enter Tryd.func28, Tryd.ntmps28
  go_wp2
  all_goals (go_ret; exact ⟨ret_int (by omega), rfl⟩)
set_option maxHeartbeats 1000000 in
theorem r1_Meet (a b c d : Int) (w : World) :
    Calls Tryd.prog 21 #[.agg #[.int .i64 a, .int .i64 b], .agg #[.int .i64 c, .int .i64 d]] w fun e w' => e = .returned (.tuple #[.agg #[.int .i64 (max a c), .int .i64 (min b d)], .bool (commonB a b c d)]) ∧ Below w.heap.size w w' := by
  have g0 : ∀ n : Nat, n < n + 1 := fun n => by omega
  go_enter Tryd.func21, Tryd.ntmps21
  go_wp2_with fail
  go_region_held3 (fun w' => w'.cell? ⟨w.heap.size, 0, none⟩ = some (.int .i64 a) ∧ w'.cell? ⟨w.heap.size, 1, none⟩ = some (.int .i64 b) ∧ w'.cell? ⟨w.heap.size + 1, 0, none⟩ = some (.int .i64 c) ∧ w'.cell? ⟨w.heap.size + 1, 1, none⟩ = some (.int .i64 d)) (go_keep)
    (first | (go_at_call 28; refine (r1_Greatest _ _ _).mono ?_; rintro e w' ⟨rfl, rfl⟩) | (go_at_call 29; refine (r1_Least _ _ _).mono ?_; rintro e w' ⟨rfl, rfl⟩))
  all_goals
    go_wp2_with fail
    (try go_region)
    (try go_wp2_with fail)
    refine bodyPost_ret (v := .tuple #[.agg #[.int .i64 (max a c), .int .i64 (min b d)], .bool (commonB a b c d)]) (by simp [results, Tryd.results21, go_sem, commonB]) rfl ⟨rfl, ?_⟩
    exact (by repeat (first | with_reducible exact Below.refl _ _ | (with_reducible refine Below.alloc ?_ (by first | omega | (simp; done) | (simp; omega)) _) | (with_reducible refine Below.setCell ?_ (by first | omega | (simp; done) | (simp; omega)) _) | (with_reducible refine Below.drew ?_) | (with_reducible refine below_drewN ?_ _) | (with_reducible assumption) | (with_reducible refine bel_step (by with_reducible assumption) ?_ (by first | omega | (simp; done) | (simp; omega)))))
set_option maxHeartbeats 2000000 in
theorem rclock_aged (g : Nat) (c : CK) (w : World) (hk : ClockAt w g 33 c) (ok : c.ok) :
    Calls Tryd.prog 22 #[.pointer (some ⟨g, 0, none⟩)] w fun e w' => e = .returned (.agg #[.int .i64 (c.lo - agedN c), .int .i64 (c.hi + agedN c)]) ∧ Below w.heap.size w w' := by
  have hlt := Blk.lt hk
  have H := Lib.hid hk
  obtain ⟨k0, k1, k2, k3, k4, k5, k6, k7⟩ := hk.all
  clear hk
  obtain ⟨ppm, here, known, lo, hi, at_, told, last⟩ := c
  obtain ⟨o1, o2, o3, o4, o5, o6, o7, o8, o9, o10⟩ := ok
  have ea := Lib.hid (show 1 + upD ((here - at_) * 2 * ppm) 1000000 = agedN ⟨ppm, here, known, lo, hi, at_, told, last⟩ by unfold agedN byP; dsimp only; rw [Int.mul_assoc])
  dsimp only at *
  obtain ⟨b1, b2⟩ := byP_bd (n := here - at_) (p := 2 * ppm) (by omega) (by omega) (by omega) (by omega)
  obtain ⟨c1, c2⟩ := mul_bd (show 0 ≤ here - at_ by omega) (show here - at_ ≤ 1000000000000 by omega) (show 0 ≤ 2 * ppm by omega) (show 2 * ppm ≤ 2000 by omega)
  have eb : byP (here - at_) (2 * ppm) = upD ((here - at_) * 2 * ppm) 1000000 := by unfold byP; rw [Int.mul_assoc]
  rw [eb] at b1 b2
  rw [← Int.mul_assoc] at c1 c2
  clear eb
  have i1 := IntWalk.i64_in (here - at_) (by omega)
  have i2 := IntWalk.i64_in ((here - at_) * 2) (by omega)
  have i3 := IntWalk.i64_in ((here - at_) * 2 * ppm) (by omega)
  have i4 := IntWalk.i64_in (1 + upD ((here - at_) * 2 * ppm) 1000000) (by omega)
  have i5 := IntWalk.i64_in (lo - (1 + upD ((here - at_) * 2 * ppm) 1000000)) (by omega)
  have i6 := IntWalk.i64_in (hi + (1 + upD ((here - at_) * 2 * ppm) 1000000)) (by omega)
  have u1 : (here - at_) * 2 * ppm ≤ 4000000000000000000 := by omega
  rw [← ea.out]
  go_enter Tryd.func22, Tryd.ntmps22
  go_wp2_with fail
  go_region_held3 (fun w' => w'.cell? ⟨g, 0, none⟩ = some (.int .i64 ppm) ∧ w'.cell? ⟨g, 1, none⟩ = some (.int .i64 here) ∧ w'.cell? ⟨g, 3, none⟩ = some (.int .i64 lo) ∧ w'.cell? ⟨g, 4, none⟩ = some (.int .i64 hi) ∧ w'.cell? ⟨g, 5, none⟩ = some (.int .i64 at_)) (go_keep)
    (first | (go_at_call 30; refine (r1_Up _ _ _ c1 u1 (by omega) (by omega)).mono ?_; rintro e w' ⟨rfl, rfl⟩))
  all_goals
    go_wp2_with fail
    go_region
    all_goals
      go_wp2_with fail
      refine bodyPost_ret (v := (.agg #[.int .i64 (lo - (1 + upD ((here - at_) * 2 * ppm) 1000000)), .int .i64 (hi + (1 + upD ((here - at_) * 2 * ppm) 1000000))])) (by simp [results, Tryd.results22, go_sem, errV, okC, *]) rfl ⟨rfl, ?_⟩; exact (by repeat (first | with_reducible exact Below.refl _ _ | (with_reducible refine Below.alloc ?_ (by first | omega | (simp; done) | (simp; omega)) _) | (with_reducible refine Below.setCell ?_ (by first | omega | (simp; done) | (simp; omega)) _) | (with_reducible refine Below.drew ?_) | (with_reducible refine below_drewN ?_ _) | (with_reducible assumption) | (with_reducible refine bel_step (by with_reducible assumption) ?_ (by first | omega | (simp; done) | (simp; omega)))))
theorem rclock_Step (g : Nat) (c : CK) (to : Int) (w : World) (hk : ClockAt w g 33 c) :
    Calls Tryd.prog 7 #[.pointer (some ⟨g, 0, none⟩), .int .i64 to] w fun e w' => e = .returned (.int .i64 (stepC c to)) ∧ ClockAt w' g 33 (stepK c to) ∧ Touched g w w' := by
  obtain ⟨k0, k1, k2, k3, k4, k5, k6, k7⟩ := hk.all
  have kf := fun o => Blk.fz hk o
  have H := Lib.hid hk
  clear hk
  by_cases c1 : to < 0
  · have s1 := Lib.hid (show stepC c to = 1 by unfold stepC; rw [if_pos (.inl c1)])
    have s2 := Lib.hid (show stepK c to = c by unfold stepK; rw [s1.out]; rfl)
    go_enter Tryd.func7, Tryd.ntmps7
    go_wp2_with fail
    go_ret
    exact ⟨by rw [s1.out] <;> rfl, by rw [s2.out]; exact H.out, Touched.refl _ _⟩
  by_cases c2 : 1000000000000 < to
  · have s1 := Lib.hid (show stepC c to = 1 by unfold stepC; rw [if_pos (.inr c2)])
    have s2 := Lib.hid (show stepK c to = c by unfold stepK; rw [s1.out]; rfl)
    go_enter Tryd.func7, Tryd.ntmps7
    go_wp2_with fail
    go_ret
    exact ⟨by rw [s1.out] <;> rfl, by rw [s2.out]; exact H.out, Touched.refl _ _⟩
  by_cases c3 : to < c.here
  · have s1 := Lib.hid (show stepC c to = 8 by unfold stepC; rw [if_neg (by omega), if_pos c3])
    have s2 := Lib.hid (show stepK c to = c by unfold stepK; rw [s1.out]; rfl)
    go_enter Tryd.func7, Tryd.ntmps7
    go_wp2_with fail
    go_ret
    exact ⟨by rw [s1.out] <;> rfl, by rw [s2.out]; exact H.out, Touched.refl _ _⟩
  · have s1 := Lib.hid (show stepC c to = 0 by unfold stepC; rw [if_neg (by omega), if_neg c3])
    have s2 := Lib.hid (show stepK c to = { c with here := to } by unfold stepK; rw [if_pos s1.out])
    go_enter Tryd.func7, Tryd.ntmps7
    go_wp2_with fail
    go_ret
    exact ⟨by rw [s1.out] <;> rfl, by rw [s2.out]; exact H.out.set1 _, (Touched.refl _ _).set _ _⟩
set_option maxHeartbeats 2000000 in
theorem rclock_Now (g : Nat) (c : CK) (w : World) (hk : ClockAt w g 33 c) (ok : c.ok) :
    Calls Tryd.prog 12 #[.pointer (some ⟨g, 0, none⟩)] w fun e w' => e = .returned (.tuple #[.agg #[.int .i64 (nowS c).lo, .int .i64 (nowS c).hi], .int .i64 (nowS c).c]) ∧ Below w.heap.size w w' := by
  have hlt := Blk.lt hk
  obtain ⟨k0, k1, k2, k3, k4, k5, k6, k7⟩ := hk.all
  have H := Lib.hid hk
  have OK := Lib.hid ok
  clear hk
  obtain ⟨o1, o2, o3, o4, o5, o6, o7, o8, o9, o10⟩ := ok
  cases c0 : c.known
  · have hv := Lib.hid (show nowS c = ⟨0, 0, 6⟩ by unfold nowS; rw [if_neg (by simp [c0])])
    rw [hv.out]
    go_enter Tryd.func12, Tryd.ntmps12
    go_wp2_with fail
    refine bodyPost_ret (v := (.tuple #[.agg #[.int .i64 0, .int .i64 0], .int .i64 6])) (by simp [results, Tryd.results12, go_sem, errV, okC, *]) rfl ⟨rfl, ?_⟩; exact (by repeat (first | with_reducible exact Below.refl _ _ | (with_reducible refine Below.alloc ?_ (by first | omega | (simp; done) | (simp; omega)) _) | (with_reducible refine Below.setCell ?_ (by first | omega | (simp; done) | (simp; omega)) _) | (with_reducible refine Below.drew ?_) | (with_reducible refine below_drewN ?_ _) | (with_reducible assumption) | (with_reducible refine bel_step (by with_reducible assumption) ?_ (by first | omega | (simp; done) | (simp; omega)))))
  · have hv := Lib.hid (show nowS c = whole (c.lo - agedN c + c.here) (c.hi + agedN c + c.here) by unfold nowS; rw [if_pos c0])
    rw [hv.out]
    obtain ⟨b1, b2⟩ := byP_bd (n := c.here - c.at_) (p := 2 * c.ppm) (by omega) (by omega) (by omega) (by omega)
    have a1 : 1 ≤ agedN c := by unfold agedN; omega
    have a2 : agedN c ≤ 6000000001 := by unfold agedN; omega
    clear b1 b2
    by_cases d : rightB (c.lo - agedN c + c.here) (c.hi + agedN c + c.here) = true
    · have hw := Lib.hid (show whole (c.lo - agedN c + c.here) (c.hi + agedN c + c.here) = ⟨c.lo - agedN c + c.here, c.hi + agedN c + c.here, 0⟩ by unfold whole; rw [if_pos d])
      rw [hw.out]
      go_enter Tryd.func12, Tryd.ntmps12
      go_wp2_with fail
      (try (go_at_call 22; refine (rclock_aged _ _ _ (H.out.below (by repeat (first | with_reducible exact Below.refl _ _ | (with_reducible refine Below.alloc ?_ (by first | omega | (simp; done) | (simp; omega)) _) | (with_reducible refine Below.setCell ?_ (by first | omega | (simp; done) | (simp; omega)) _) | (with_reducible refine Below.drew ?_) | (with_reducible refine below_drewN ?_ _) | (with_reducible assumption) | (with_reducible refine bel_step (by with_reducible assumption) ?_ (by first | omega | (simp; done) | (simp; omega))))) hlt) OK.out).mono ?_; rintro e w1 ⟨rfl, hb1⟩; obtain ⟨hc1, hf1⟩ := bcell hb1; have hz1 := hb1.size; (try simp at hz1); (try have q1_0_0_0 : w.heap.size < w1.heap.size := by omega); (try have q1_0_0_2 : w.heap.size < w1.heap.size + 1 + 1 := by omega); (try have q1_0_0_3 : w.heap.size < w1.heap.size + 1 + 1 + 1 := by omega); (try have q1_0_1_0 : w.heap.size + 1 < w1.heap.size := by omega); (try have q1_0_1_2 : w.heap.size + 1 < w1.heap.size + 1 + 1 := by omega); (try have q1_0_1_3 : w.heap.size + 1 < w1.heap.size + 1 + 1 + 1 := by omega); (try have q1_0_2_0 : w.heap.size + 1 + 1 < w1.heap.size := by omega); (try have q1_0_2_2 : w.heap.size + 1 + 1 < w1.heap.size + 1 + 1 := by omega); (try have q1_0_2_3 : w.heap.size + 1 + 1 < w1.heap.size + 1 + 1 + 1 := by omega); (try have q1_0_3_0 : w.heap.size + 1 + 1 + 1 < w1.heap.size := by omega); (try have q1_0_3_2 : w.heap.size + 1 + 1 + 1 < w1.heap.size + 1 + 1 := by omega); (try have q1_0_3_3 : w.heap.size + 1 + 1 + 1 < w1.heap.size + 1 + 1 + 1 := by omega); (try go_wp2_with fail)))
      have hB1 : Below w.heap.size w w1 := bel_step hb1 (by repeat (first | with_reducible exact Below.refl _ _ | (with_reducible refine Below.alloc ?_ (by first | omega | (simp; done) | (simp; omega)) _) | (with_reducible refine Below.setCell ?_ (by first | omega | (simp; done) | (simp; omega)) _) | (with_reducible refine Below.drew ?_) | (with_reducible refine below_drewN ?_ _) | (with_reducible assumption) | (with_reducible refine bel_step (by with_reducible assumption) ?_ (by first | omega | (simp; done) | (simp; omega))))) (by simp)
      have H1 := H.out.below hB1 hlt
      have gl := Blk.lt H1
      have n1 : w.heap.size < w1.heap.size + 1 := by omega
      obtain ⟨m0, m1, m2, m3, m4, m5, m6, m7⟩ := H1.all
      clear H1
      go_region
      all_goals go_wp2_with fail
      all_goals go_region
      all_goals go_wp2_with fail
      all_goals (try (go_at_call 20; refine (r1_Span _ _ _).mono ?_; rintro e w2 ⟨rfl, hb2⟩; obtain ⟨hc2, hf2⟩ := bcell hb2; have hz2 := hb2.size; (try simp at hz2); (try have q2_0_0_0 : w.heap.size < w2.heap.size := by omega); (try have q2_0_0_2 : w.heap.size < w2.heap.size + 1 + 1 := by omega); (try have q2_0_0_3 : w.heap.size < w2.heap.size + 1 + 1 + 1 := by omega); (try have q2_0_1_0 : w.heap.size + 1 < w2.heap.size := by omega); (try have q2_0_1_2 : w.heap.size + 1 < w2.heap.size + 1 + 1 := by omega); (try have q2_0_1_3 : w.heap.size + 1 < w2.heap.size + 1 + 1 + 1 := by omega); (try have q2_0_2_0 : w.heap.size + 1 + 1 < w2.heap.size := by omega); (try have q2_0_2_2 : w.heap.size + 1 + 1 < w2.heap.size + 1 + 1 := by omega); (try have q2_0_2_3 : w.heap.size + 1 + 1 < w2.heap.size + 1 + 1 + 1 := by omega); (try have q2_0_3_0 : w.heap.size + 1 + 1 + 1 < w2.heap.size := by omega); (try have q2_0_3_2 : w.heap.size + 1 + 1 + 1 < w2.heap.size + 1 + 1 := by omega); (try have q2_0_3_3 : w.heap.size + 1 + 1 + 1 < w2.heap.size + 1 + 1 + 1 := by omega); (try have q2_1_0_0 : w1.heap.size < w2.heap.size := by omega); (try have q2_1_0_2 : w1.heap.size < w2.heap.size + 1 + 1 := by omega); (try have q2_1_1_0 : w1.heap.size + 1 < w2.heap.size := by omega); (try have q2_1_1_2 : w1.heap.size + 1 < w2.heap.size + 1 + 1 := by omega); (try go_wp2_with fail)))
      all_goals (refine bodyPost_ret (v := (.tuple #[.agg #[.int .i64 (c.lo - agedN c + c.here), .int .i64 (c.hi + agedN c + c.here)], .int .i64 0])) (by simp [results, Tryd.results12, go_sem, errV, okC, *]) rfl ⟨rfl, ?_⟩; exact (by repeat (first | with_reducible exact Below.refl _ _ | (with_reducible refine Below.alloc ?_ (by first | omega | (simp; done) | (simp; omega)) _) | (with_reducible refine Below.setCell ?_ (by first | omega | (simp; done) | (simp; omega)) _) | (with_reducible refine Below.drew ?_) | (with_reducible refine below_drewN ?_ _) | (with_reducible assumption) | (with_reducible refine bel_step (by with_reducible assumption) ?_ (by first | omega | (simp; done) | (simp; omega))))))
    · have hw := Lib.hid (show whole (c.lo - agedN c + c.here) (c.hi + agedN c + c.here) = ⟨0, 0, 1⟩ by unfold whole; rw [if_neg d])
      rw [hw.out]
      go_enter Tryd.func12, Tryd.ntmps12
      go_wp2_with fail
      (try (go_at_call 22; refine (rclock_aged _ _ _ (H.out.below (by repeat (first | with_reducible exact Below.refl _ _ | (with_reducible refine Below.alloc ?_ (by first | omega | (simp; done) | (simp; omega)) _) | (with_reducible refine Below.setCell ?_ (by first | omega | (simp; done) | (simp; omega)) _) | (with_reducible refine Below.drew ?_) | (with_reducible refine below_drewN ?_ _) | (with_reducible assumption) | (with_reducible refine bel_step (by with_reducible assumption) ?_ (by first | omega | (simp; done) | (simp; omega))))) hlt) OK.out).mono ?_; rintro e w1 ⟨rfl, hb1⟩; obtain ⟨hc1, hf1⟩ := bcell hb1; have hz1 := hb1.size; (try simp at hz1); (try have q1_0_0_0 : w.heap.size < w1.heap.size := by omega); (try have q1_0_0_2 : w.heap.size < w1.heap.size + 1 + 1 := by omega); (try have q1_0_0_3 : w.heap.size < w1.heap.size + 1 + 1 + 1 := by omega); (try have q1_0_1_0 : w.heap.size + 1 < w1.heap.size := by omega); (try have q1_0_1_2 : w.heap.size + 1 < w1.heap.size + 1 + 1 := by omega); (try have q1_0_1_3 : w.heap.size + 1 < w1.heap.size + 1 + 1 + 1 := by omega); (try have q1_0_2_0 : w.heap.size + 1 + 1 < w1.heap.size := by omega); (try have q1_0_2_2 : w.heap.size + 1 + 1 < w1.heap.size + 1 + 1 := by omega); (try have q1_0_2_3 : w.heap.size + 1 + 1 < w1.heap.size + 1 + 1 + 1 := by omega); (try have q1_0_3_0 : w.heap.size + 1 + 1 + 1 < w1.heap.size := by omega); (try have q1_0_3_2 : w.heap.size + 1 + 1 + 1 < w1.heap.size + 1 + 1 := by omega); (try have q1_0_3_3 : w.heap.size + 1 + 1 + 1 < w1.heap.size + 1 + 1 + 1 := by omega); (try go_wp2_with fail)))
      have hB1 : Below w.heap.size w w1 := bel_step hb1 (by repeat (first | with_reducible exact Below.refl _ _ | (with_reducible refine Below.alloc ?_ (by first | omega | (simp; done) | (simp; omega)) _) | (with_reducible refine Below.setCell ?_ (by first | omega | (simp; done) | (simp; omega)) _) | (with_reducible refine Below.drew ?_) | (with_reducible refine below_drewN ?_ _) | (with_reducible assumption) | (with_reducible refine bel_step (by with_reducible assumption) ?_ (by first | omega | (simp; done) | (simp; omega))))) (by simp)
      have H1 := H.out.below hB1 hlt
      have gl := Blk.lt H1
      have n1 : w.heap.size < w1.heap.size + 1 := by omega
      obtain ⟨m0, m1, m2, m3, m4, m5, m6, m7⟩ := H1.all
      clear H1
      go_region
      all_goals go_wp2_with fail
      all_goals go_region
      all_goals go_wp2_with fail
      all_goals (try (go_at_call 20; refine (r1_Span _ _ _).mono ?_; rintro e w2 ⟨rfl, hb2⟩; obtain ⟨hc2, hf2⟩ := bcell hb2; have hz2 := hb2.size; (try simp at hz2); (try have q2_0_0_0 : w.heap.size < w2.heap.size := by omega); (try have q2_0_0_2 : w.heap.size < w2.heap.size + 1 + 1 := by omega); (try have q2_0_0_3 : w.heap.size < w2.heap.size + 1 + 1 + 1 := by omega); (try have q2_0_1_0 : w.heap.size + 1 < w2.heap.size := by omega); (try have q2_0_1_2 : w.heap.size + 1 < w2.heap.size + 1 + 1 := by omega); (try have q2_0_1_3 : w.heap.size + 1 < w2.heap.size + 1 + 1 + 1 := by omega); (try have q2_0_2_0 : w.heap.size + 1 + 1 < w2.heap.size := by omega); (try have q2_0_2_2 : w.heap.size + 1 + 1 < w2.heap.size + 1 + 1 := by omega); (try have q2_0_2_3 : w.heap.size + 1 + 1 < w2.heap.size + 1 + 1 + 1 := by omega); (try have q2_0_3_0 : w.heap.size + 1 + 1 + 1 < w2.heap.size := by omega); (try have q2_0_3_2 : w.heap.size + 1 + 1 + 1 < w2.heap.size + 1 + 1 := by omega); (try have q2_0_3_3 : w.heap.size + 1 + 1 + 1 < w2.heap.size + 1 + 1 + 1 := by omega); (try have q2_1_0_0 : w1.heap.size < w2.heap.size := by omega); (try have q2_1_0_2 : w1.heap.size < w2.heap.size + 1 + 1 := by omega); (try have q2_1_1_0 : w1.heap.size + 1 < w2.heap.size := by omega); (try have q2_1_1_2 : w1.heap.size + 1 < w2.heap.size + 1 + 1 := by omega); (try go_wp2_with fail)))
      all_goals (refine bodyPost_ret (v := (.tuple #[.agg #[.int .i64 0, .int .i64 0], .int .i64 1])) (by simp [results, Tryd.results12, go_sem, errV, okC, *]) rfl ⟨rfl, ?_⟩; exact (by repeat (first | with_reducible exact Below.refl _ _ | (with_reducible refine Below.alloc ?_ (by first | omega | (simp; done) | (simp; omega)) _) | (with_reducible refine Below.setCell ?_ (by first | omega | (simp; done) | (simp; omega)) _) | (with_reducible refine Below.drew ?_) | (with_reducible refine below_drewN ?_ _) | (with_reducible assumption) | (with_reducible refine bel_step (by with_reducible assumption) ?_ (by first | omega | (simp; done) | (simp; omega))))))
theorem ClockAt.setN {w W : World} {g : Nat} {T : TypeId} {c : CK} (h : ClockAt w g T c) (hB : Below w.heap.size w W) (hlt : g < w.heap.size) (lo hi : Int) :
    ClockAt ((((W.setCell ⟨g, 2, none⟩ (.bool true)).setCell ⟨g, 3, none⟩ (.int .i64 lo)).setCell ⟨g, 4, none⟩ (.int .i64 hi)).setCell ⟨g, 5, none⟩ (.int .i64 c.here)) g T { c with known := true, lo := lo, hi := hi, at_ := c.here } :=
  (Blk.set (Blk.set (Blk.set (Blk.set (Blk.below h hB hlt) 2 _) 3 _) 4 _) 5 _)
theorem ClockAt.setNa {w W : World} {g : Nat} {T : TypeId} {c : CK} {o : Obj} (h : ClockAt w g T c) (hB : Below w.heap.size w W) (hlt : g < w.heap.size) (lo hi : Int) :
    ClockAt (((((W.setCell ⟨g, 2, none⟩ (.bool true)).setCell ⟨g, 3, none⟩ (.int .i64 lo)).setCell ⟨g, 4, none⟩ (.int .i64 hi)).setCell ⟨g, 5, none⟩ (.int .i64 c.here)).alloc o) g T { c with known := true, lo := lo, hi := hi, at_ := c.here } :=
  (Blk.alloc (Blk.set (Blk.set (Blk.set (Blk.set (Blk.below h hB hlt) 2 _) 3 _) 4 _) 5 _) o)
set_option maxHeartbeats 4000000 in
theorem rclock_Learn_u (g : Nat) (c : CK) (lo hi : Int) (w : World) (hk : ClockAt w g 33 c) (ok : c.ok) (r : rightB lo hi = true) (c0 : c.known = false) :
    Calls Tryd.prog 9 #[.pointer (some ⟨g, 0, none⟩), .agg #[.int .i64 lo, .int .i64 hi]] w fun e w' => e = .returned (.int .i64 (learnC c lo hi)) ∧ ClockAt w' g 33 (learnK c lo hi) ∧ Touched g w w' := by
  have hlt := Blk.lt hk
  obtain ⟨k0, k1, k2, k3, k4, k5, k6, k7⟩ := hk.all
  have kf := fun o => Blk.fz hk o
  have H := Lib.hid hk
  have OK := Lib.hid ok
  clear hk
  obtain ⟨o1, o2, o3, o4, o5, o6, o7, o8, o9, o10⟩ := ok
  obtain ⟨r1, r2, r3⟩ := rightB_iff.1 r
  have s1 := Lib.hid (show learnC c lo hi = 0 by simp [learnC, r, c0])
  have s2 := Lib.hid (show learnK c lo hi = { c with known := true, lo := lo, hi := hi, at_ := c.here } by simp [learnK, s1.out, c0])
  go_enter Tryd.func9, Tryd.ntmps9
  go_wp2_with fail
  (try (go_at_call 20; refine (r1_Span _ _ _).mono ?_; rintro e w1 ⟨rfl, hb1⟩; obtain ⟨hc1, hf1⟩ := bcell hb1; have hz1 := hb1.size; (try simp at hz1); (try have q1_0_0_0 : w.heap.size < w1.heap.size := by omega); (try have q1_0_0_2 : w.heap.size < w1.heap.size + 1 + 1 := by omega); (try have q1_0_0_3 : w.heap.size < w1.heap.size + 1 + 1 + 1 := by omega); (try have q1_0_1_0 : w.heap.size + 1 < w1.heap.size := by omega); (try have q1_0_1_2 : w.heap.size + 1 < w1.heap.size + 1 + 1 := by omega); (try have q1_0_1_3 : w.heap.size + 1 < w1.heap.size + 1 + 1 + 1 := by omega); (try have q1_0_2_0 : w.heap.size + 1 + 1 < w1.heap.size := by omega); (try have q1_0_2_2 : w.heap.size + 1 + 1 < w1.heap.size + 1 + 1 := by omega); (try have q1_0_2_3 : w.heap.size + 1 + 1 < w1.heap.size + 1 + 1 + 1 := by omega); (try have q1_0_3_0 : w.heap.size + 1 + 1 + 1 < w1.heap.size := by omega); (try have q1_0_3_2 : w.heap.size + 1 + 1 + 1 < w1.heap.size + 1 + 1 := by omega); (try have q1_0_3_3 : w.heap.size + 1 + 1 + 1 < w1.heap.size + 1 + 1 + 1 := by omega); (try go_wp2_with fail)))
  have hB1 : Below w.heap.size w w1 := bel_step hb1 (by repeat (first | with_reducible exact Below.refl _ _ | (with_reducible refine Below.alloc ?_ (by first | omega | (simp; done) | (simp; omega)) _) | (with_reducible refine Below.setCell ?_ (by first | omega | (simp; done) | (simp; omega)) _) | (with_reducible refine Below.drew ?_) | (with_reducible refine below_drewN ?_ _) | (with_reducible assumption) | (with_reducible refine bel_step (by with_reducible assumption) ?_ (by first | omega | (simp; done) | (simp; omega))))) (by simp)
  have H1 := H.out.below hB1 hlt
  have gl := Blk.lt H1
  obtain ⟨m0, m1, m2, m3, m4, m5, m6, m7⟩ := H1.all
  have mf := fun o => Blk.fz H1 o
  clear H1
  go_wp2_with fail
  go_ret
  rw [s1.out, s2.out]
  exact ⟨rfl, H.out.setN hB1 hlt lo hi, (by repeat (first | with_reducible exact Touched.refl _ _ | (with_reducible refine Touched.alloc ?_ _) | (with_reducible refine Touched.setp ?_ _ (by first | exact .inl rfl | (right; first | omega | (simp; done) | (simp; omega))) _) | (with_reducible refine Touched.drew ?_) | (with_reducible refine Touched.drewN ?_ _) | (with_reducible assumption) | (with_reducible refine Touched.then (by with_reducible assumption) ?_)))⟩
set_option maxHeartbeats 4000000 in
theorem rclock_Learn_7 (g : Nat) (c : CK) (lo hi : Int) (w : World) (hk : ClockAt w g 33 c) (ok : c.ok) (r : rightB lo hi = true) (c0 : c.known = true) (d : rightB (c.lo - agedN c + c.here) (c.hi + agedN c + c.here) = true) (e1 : commonB (c.lo - agedN c) (c.hi + agedN c) lo hi = false) :
    Calls Tryd.prog 9 #[.pointer (some ⟨g, 0, none⟩), .agg #[.int .i64 lo, .int .i64 hi]] w fun e w' => e = .returned (.int .i64 (learnC c lo hi)) ∧ ClockAt w' g 33 (learnK c lo hi) ∧ Touched g w w' := by
  have hlt := Blk.lt hk
  obtain ⟨k0, k1, k2, k3, k4, k5, k6, k7⟩ := hk.all
  have kf := fun o => Blk.fz hk o
  have H := Lib.hid hk
  have OK := Lib.hid ok
  clear hk
  obtain ⟨o1, o2, o3, o4, o5, o6, o7, o8, o9, o10⟩ := ok
  obtain ⟨r1, r2, r3⟩ := rightB_iff.1 r
  obtain ⟨b1, b2⟩ := byP_bd (n := c.here - c.at_) (p := 2 * c.ppm) (by omega) (by omega) (by omega) (by omega)
  have a1 : 1 ≤ agedN c := by unfold agedN; omega
  have a2 : agedN c ≤ 6000000001 := by unfold agedN; omega
  clear b1 b2
  have n0 : nowS c = ⟨c.lo - agedN c + c.here, c.hi + agedN c + c.here, 0⟩ := by simp [nowS, c0, whole, d]
  have s1 := Lib.hid (show learnC c lo hi = 7 by simp [learnC, r, c0, n0, e1])
  have s2 := Lib.hid (show learnK c lo hi = c by simp [learnK, s1.out, c0])
  go_enter Tryd.func9, Tryd.ntmps9
  go_wp2_with fail
  (try (go_at_call 20; refine (r1_Span _ _ _).mono ?_; rintro e w1 ⟨rfl, hb1⟩; obtain ⟨hc1, hf1⟩ := bcell hb1; have hz1 := hb1.size; (try simp at hz1); (try have q1_0_0_0 : w.heap.size < w1.heap.size := by omega); (try have q1_0_0_2 : w.heap.size < w1.heap.size + 1 + 1 := by omega); (try have q1_0_0_3 : w.heap.size < w1.heap.size + 1 + 1 + 1 := by omega); (try have q1_0_1_0 : w.heap.size + 1 < w1.heap.size := by omega); (try have q1_0_1_2 : w.heap.size + 1 < w1.heap.size + 1 + 1 := by omega); (try have q1_0_1_3 : w.heap.size + 1 < w1.heap.size + 1 + 1 + 1 := by omega); (try have q1_0_2_0 : w.heap.size + 1 + 1 < w1.heap.size := by omega); (try have q1_0_2_2 : w.heap.size + 1 + 1 < w1.heap.size + 1 + 1 := by omega); (try have q1_0_2_3 : w.heap.size + 1 + 1 < w1.heap.size + 1 + 1 + 1 := by omega); (try have q1_0_3_0 : w.heap.size + 1 + 1 + 1 < w1.heap.size := by omega); (try have q1_0_3_2 : w.heap.size + 1 + 1 + 1 < w1.heap.size + 1 + 1 := by omega); (try have q1_0_3_3 : w.heap.size + 1 + 1 + 1 < w1.heap.size + 1 + 1 + 1 := by omega); (try go_wp2_with fail)))
  have hB1 : Below w.heap.size w w1 := bel_step hb1 (by repeat (first | with_reducible exact Below.refl _ _ | (with_reducible refine Below.alloc ?_ (by first | omega | (simp; done) | (simp; omega)) _) | (with_reducible refine Below.setCell ?_ (by first | omega | (simp; done) | (simp; omega)) _) | (with_reducible refine Below.drew ?_) | (with_reducible refine below_drewN ?_ _) | (with_reducible assumption) | (with_reducible refine bel_step (by with_reducible assumption) ?_ (by first | omega | (simp; done) | (simp; omega))))) (by simp)
  (try (go_at_call 12; refine (rclock_Now _ _ _ (H.out.below hB1 hlt) OK.out).mono ?_; rintro e w2 ⟨rfl, hb2⟩; obtain ⟨hc2, hf2⟩ := bcell hb2; have hz2 := hb2.size; (try simp at hz2); (try have q2_0_0_0 : w.heap.size < w2.heap.size := by omega); (try have q2_0_0_2 : w.heap.size < w2.heap.size + 1 + 1 := by omega); (try have q2_0_0_3 : w.heap.size < w2.heap.size + 1 + 1 + 1 := by omega); (try have q2_0_1_0 : w.heap.size + 1 < w2.heap.size := by omega); (try have q2_0_1_2 : w.heap.size + 1 < w2.heap.size + 1 + 1 := by omega); (try have q2_0_1_3 : w.heap.size + 1 < w2.heap.size + 1 + 1 + 1 := by omega); (try have q2_0_2_0 : w.heap.size + 1 + 1 < w2.heap.size := by omega); (try have q2_0_2_2 : w.heap.size + 1 + 1 < w2.heap.size + 1 + 1 := by omega); (try have q2_0_2_3 : w.heap.size + 1 + 1 < w2.heap.size + 1 + 1 + 1 := by omega); (try have q2_0_3_0 : w.heap.size + 1 + 1 + 1 < w2.heap.size := by omega); (try have q2_0_3_2 : w.heap.size + 1 + 1 + 1 < w2.heap.size + 1 + 1 := by omega); (try have q2_0_3_3 : w.heap.size + 1 + 1 + 1 < w2.heap.size + 1 + 1 + 1 := by omega); (try have q2_1_0_0 : w1.heap.size < w2.heap.size := by omega); (try have q2_1_0_2 : w1.heap.size < w2.heap.size + 1 + 1 := by omega); (try have q2_1_1_0 : w1.heap.size + 1 < w2.heap.size := by omega); (try have q2_1_1_2 : w1.heap.size + 1 < w2.heap.size + 1 + 1 := by omega); (try go_wp2_with fail)))
  have hB2 : Below w.heap.size w w2 := bel_step hb2 (by repeat (first | with_reducible exact Below.refl _ _ | (with_reducible refine Below.alloc ?_ (by first | omega | (simp; done) | (simp; omega)) _) | (with_reducible refine Below.setCell ?_ (by first | omega | (simp; done) | (simp; omega)) _) | (with_reducible refine Below.drew ?_) | (with_reducible refine below_drewN ?_ _) | (with_reducible assumption) | (with_reducible refine bel_step (by with_reducible assumption) ?_ (by first | omega | (simp; done) | (simp; omega))))) (by omega)
  have H2 := H.out.below hB2 hlt
  have gl := Blk.lt H2
  obtain ⟨m0, m1, m2, m3, m4, m5, m6, m7⟩ := H2.all
  have mf := fun o => Blk.fz H2 o
  clear H2
  have p0 : w2.cell? ⟨w.heap.size, 0, none⟩ = some (.int .i64 lo) := by rw [hc2 _ _ (by first | omega | (simp; done) | (simp; omega)), hc1 _ _ (by first | omega | (simp; done) | (simp; omega))]; simp
  have p1 : w2.cell? ⟨w.heap.size, 1, none⟩ = some (.int .i64 hi) := by rw [hc2 _ _ (by first | omega | (simp; done) | (simp; omega)), hc1 _ _ (by first | omega | (simp; done) | (simp; omega))]; simp
  have q1 : w.heap.size < w2.heap.size + 1 := by omega
  have q2 : w.heap.size < w2.heap.size := by omega
  have q3 : g < w2.heap.size + 1 := by omega
  go_region_held3 (fun w' => w'.cell? ⟨w.heap.size, 0, none⟩ = some (.int .i64 lo) ∧ w'.cell? ⟨w.heap.size, 1, none⟩ = some (.int .i64 hi)) ((repeat' apply And.intro) <;> exact (Below.cell (B := (w2).heap.size) (w := w2) (by repeat (first | with_reducible exact Below.refl _ _ | (with_reducible refine Below.alloc ?_ (by first | omega | (simp; done) | (simp; omega)) _) | (with_reducible refine Below.setCell ?_ (by first | omega | (simp; done) | (simp; omega)) _) | (with_reducible refine Below.drew ?_) | (with_reducible refine below_drewN ?_ _) | (with_reducible assumption) | (with_reducible refine bel_step (by with_reducible assumption) ?_ (by first | omega | (simp; done) | (simp; omega))))) (by first | omega | (simp; done) | (simp; omega))).trans (by assumption))
    (first | (go_at_call 22; refine (rclock_aged _ _ _ (H.out.below (by repeat (first | with_reducible exact Below.refl _ _ | (with_reducible refine Below.alloc ?_ (by first | omega | (simp; done) | (simp; omega)) _) | (with_reducible refine Below.setCell ?_ (by first | omega | (simp; done) | (simp; omega)) _) | (with_reducible refine Below.drew ?_) | (with_reducible refine below_drewN ?_ _) | (with_reducible assumption) | (with_reducible refine bel_step (by with_reducible assumption) ?_ (by first | omega | (simp; done) | (simp; omega))))) hlt) OK.out).mono ?_; rintro e w3 ⟨rfl, hb3⟩; obtain ⟨hc3, hf3⟩ := bcell hb3; have hz3 := hb3.size; (try simp at hz3); (try have q3_0_0_0 : w.heap.size < w3.heap.size := by omega); (try have q3_0_0_2 : w.heap.size < w3.heap.size + 1 + 1 := by omega); (try have q3_0_0_3 : w.heap.size < w3.heap.size + 1 + 1 + 1 := by omega); (try have q3_0_1_0 : w.heap.size + 1 < w3.heap.size := by omega); (try have q3_0_1_2 : w.heap.size + 1 < w3.heap.size + 1 + 1 := by omega); (try have q3_0_1_3 : w.heap.size + 1 < w3.heap.size + 1 + 1 + 1 := by omega); (try have q3_0_2_0 : w.heap.size + 1 + 1 < w3.heap.size := by omega); (try have q3_0_2_2 : w.heap.size + 1 + 1 < w3.heap.size + 1 + 1 := by omega); (try have q3_0_2_3 : w.heap.size + 1 + 1 < w3.heap.size + 1 + 1 + 1 := by omega); (try have q3_0_3_0 : w.heap.size + 1 + 1 + 1 < w3.heap.size := by omega); (try have q3_0_3_2 : w.heap.size + 1 + 1 + 1 < w3.heap.size + 1 + 1 := by omega); (try have q3_0_3_3 : w.heap.size + 1 + 1 + 1 < w3.heap.size + 1 + 1 + 1 := by omega); (try have q3_1_0_0 : w1.heap.size < w3.heap.size := by omega); (try have q3_1_0_2 : w1.heap.size < w3.heap.size + 1 + 1 := by omega); (try have q3_1_1_0 : w1.heap.size + 1 < w3.heap.size := by omega); (try have q3_1_1_2 : w1.heap.size + 1 < w3.heap.size + 1 + 1 := by omega); (try have q3_2_0_0 : w2.heap.size < w3.heap.size := by omega); (try have q3_2_0_2 : w2.heap.size < w3.heap.size + 1 + 1 := by omega); (try have q3_2_1_0 : w2.heap.size + 1 < w3.heap.size := by omega); (try have q3_2_1_2 : w2.heap.size + 1 < w3.heap.size + 1 + 1 := by omega)) | (go_at_call 21; refine (r1_Meet _ _ _ _ _).mono ?_; rintro e w4 ⟨rfl, hb4⟩; obtain ⟨hc4, hf4⟩ := bcell hb4; have hz4 := hb4.size; (try simp at hz4); (try have q4_0_0_0 : w.heap.size < w4.heap.size := by omega); (try have q4_0_0_2 : w.heap.size < w4.heap.size + 1 + 1 := by omega); (try have q4_0_0_3 : w.heap.size < w4.heap.size + 1 + 1 + 1 := by omega); (try have q4_0_1_0 : w.heap.size + 1 < w4.heap.size := by omega); (try have q4_0_1_2 : w.heap.size + 1 < w4.heap.size + 1 + 1 := by omega); (try have q4_0_1_3 : w.heap.size + 1 < w4.heap.size + 1 + 1 + 1 := by omega); (try have q4_0_2_0 : w.heap.size + 1 + 1 < w4.heap.size := by omega); (try have q4_0_2_2 : w.heap.size + 1 + 1 < w4.heap.size + 1 + 1 := by omega); (try have q4_0_2_3 : w.heap.size + 1 + 1 < w4.heap.size + 1 + 1 + 1 := by omega); (try have q4_0_3_0 : w.heap.size + 1 + 1 + 1 < w4.heap.size := by omega); (try have q4_0_3_2 : w.heap.size + 1 + 1 + 1 < w4.heap.size + 1 + 1 := by omega); (try have q4_0_3_3 : w.heap.size + 1 + 1 + 1 < w4.heap.size + 1 + 1 + 1 := by omega); (try have q4_1_0_0 : w1.heap.size < w4.heap.size := by omega); (try have q4_1_0_2 : w1.heap.size < w4.heap.size + 1 + 1 := by omega); (try have q4_1_1_0 : w1.heap.size + 1 < w4.heap.size := by omega); (try have q4_1_1_2 : w1.heap.size + 1 < w4.heap.size + 1 + 1 := by omega); (try have q4_2_0_0 : w2.heap.size < w4.heap.size := by omega); (try have q4_2_0_2 : w2.heap.size < w4.heap.size + 1 + 1 := by omega); (try have q4_2_1_0 : w2.heap.size + 1 < w4.heap.size := by omega); (try have q4_2_1_2 : w2.heap.size + 1 < w4.heap.size + 1 + 1 := by omega); (try have q4_3_0_0 : w3.heap.size < w4.heap.size := by omega); (try have q4_3_0_2 : w3.heap.size < w4.heap.size + 1 + 1 := by omega); (try have q4_3_1_0 : w3.heap.size + 1 < w4.heap.size := by omega); (try have q4_3_1_2 : w3.heap.size + 1 < w4.heap.size + 1 + 1 := by omega)))
  all_goals
    have hB4 : Below w.heap.size w w4 := bel_step hb4 (by repeat (first | with_reducible exact Below.refl _ _ | (with_reducible refine Below.alloc ?_ (by first | omega | (simp; done) | (simp; omega)) _) | (with_reducible refine Below.setCell ?_ (by first | omega | (simp; done) | (simp; omega)) _) | (with_reducible refine Below.drew ?_) | (with_reducible refine below_drewN ?_ _) | (with_reducible assumption) | (with_reducible refine bel_step (by with_reducible assumption) ?_ (by first | omega | (simp; done) | (simp; omega))))) (by first | omega | (simp; omega))
    have hB24 : Below w2.heap.size w2 w4 := bel_step hb4 (by repeat (first | with_reducible exact Below.refl _ _ | (with_reducible refine Below.alloc ?_ (by first | omega | (simp; done) | (simp; omega)) _) | (with_reducible refine Below.setCell ?_ (by first | omega | (simp; done) | (simp; omega)) _) | (with_reducible refine Below.drew ?_) | (with_reducible refine below_drewN ?_ _) | (with_reducible assumption) | (with_reducible refine bel_step (by with_reducible assumption) ?_ (by first | omega | (simp; done) | (simp; omega))))) (by first | omega | (simp; omega))
    go_wp2_with fail
    go_ret
    rw [s1.out, s2.out]
    exact ⟨rfl, H.out.below (by repeat (first | with_reducible exact Below.refl _ _ | (with_reducible refine Below.alloc ?_ (by first | omega | (simp; done) | (simp; omega)) _) | (with_reducible refine Below.setCell ?_ (by first | omega | (simp; done) | (simp; omega)) _) | (with_reducible refine Below.drew ?_) | (with_reducible refine below_drewN ?_ _) | (with_reducible assumption) | (with_reducible refine bel_step (by with_reducible assumption) ?_ (by first | omega | (simp; done) | (simp; omega))))) hlt, (by repeat (first | with_reducible exact Touched.refl _ _ | (with_reducible refine Touched.alloc ?_ _) | (with_reducible refine Touched.setp ?_ _ (by first | exact .inl rfl | (right; first | omega | (simp; done) | (simp; omega))) _) | (with_reducible refine Touched.drew ?_) | (with_reducible refine Touched.drewN ?_ _) | (with_reducible assumption) | (with_reducible refine Touched.then (by with_reducible assumption) ?_)))⟩
set_option maxHeartbeats 4000000 in
theorem rclock_Learn_0 (g : Nat) (c : CK) (lo hi : Int) (w : World) (hk : ClockAt w g 33 c) (ok : c.ok) (r : rightB lo hi = true) (c0 : c.known = true) (d : rightB (c.lo - agedN c + c.here) (c.hi + agedN c + c.here) = true) (e1 : commonB (c.lo - agedN c) (c.hi + agedN c) lo hi = true) :
    Calls Tryd.prog 9 #[.pointer (some ⟨g, 0, none⟩), .agg #[.int .i64 lo, .int .i64 hi]] w fun e w' => e = .returned (.int .i64 (learnC c lo hi)) ∧ ClockAt w' g 33 (learnK c lo hi) ∧ Touched g w w' := by
  have hlt := Blk.lt hk
  obtain ⟨k0, k1, k2, k3, k4, k5, k6, k7⟩ := hk.all
  have kf := fun o => Blk.fz hk o
  have H := Lib.hid hk
  have OK := Lib.hid ok
  clear hk
  obtain ⟨o1, o2, o3, o4, o5, o6, o7, o8, o9, o10⟩ := ok
  obtain ⟨r1, r2, r3⟩ := rightB_iff.1 r
  obtain ⟨b1, b2⟩ := byP_bd (n := c.here - c.at_) (p := 2 * c.ppm) (by omega) (by omega) (by omega) (by omega)
  have a1 : 1 ≤ agedN c := by unfold agedN; omega
  have a2 : agedN c ≤ 6000000001 := by unfold agedN; omega
  clear b1 b2
  have n0 : nowS c = ⟨c.lo - agedN c + c.here, c.hi + agedN c + c.here, 0⟩ := by simp [nowS, c0, whole, d]
  have s1 := Lib.hid (show learnC c lo hi = 0 by simp [learnC, r, c0, n0, e1])
  have s2 := Lib.hid (show learnK c lo hi = { c with known := true, lo := max (c.lo - agedN c) lo, hi := min (c.hi + agedN c) hi, at_ := c.here } by simp [learnK, s1.out, c0])
  go_enter Tryd.func9, Tryd.ntmps9
  go_wp2_with fail
  (try (go_at_call 20; refine (r1_Span _ _ _).mono ?_; rintro e w1 ⟨rfl, hb1⟩; obtain ⟨hc1, hf1⟩ := bcell hb1; have hz1 := hb1.size; (try simp at hz1); (try have q1_0_0_0 : w.heap.size < w1.heap.size := by omega); (try have q1_0_0_2 : w.heap.size < w1.heap.size + 1 + 1 := by omega); (try have q1_0_0_3 : w.heap.size < w1.heap.size + 1 + 1 + 1 := by omega); (try have q1_0_1_0 : w.heap.size + 1 < w1.heap.size := by omega); (try have q1_0_1_2 : w.heap.size + 1 < w1.heap.size + 1 + 1 := by omega); (try have q1_0_1_3 : w.heap.size + 1 < w1.heap.size + 1 + 1 + 1 := by omega); (try have q1_0_2_0 : w.heap.size + 1 + 1 < w1.heap.size := by omega); (try have q1_0_2_2 : w.heap.size + 1 + 1 < w1.heap.size + 1 + 1 := by omega); (try have q1_0_2_3 : w.heap.size + 1 + 1 < w1.heap.size + 1 + 1 + 1 := by omega); (try have q1_0_3_0 : w.heap.size + 1 + 1 + 1 < w1.heap.size := by omega); (try have q1_0_3_2 : w.heap.size + 1 + 1 + 1 < w1.heap.size + 1 + 1 := by omega); (try have q1_0_3_3 : w.heap.size + 1 + 1 + 1 < w1.heap.size + 1 + 1 + 1 := by omega); (try go_wp2_with fail)))
  have hB1 : Below w.heap.size w w1 := bel_step hb1 (by repeat (first | with_reducible exact Below.refl _ _ | (with_reducible refine Below.alloc ?_ (by first | omega | (simp; done) | (simp; omega)) _) | (with_reducible refine Below.setCell ?_ (by first | omega | (simp; done) | (simp; omega)) _) | (with_reducible refine Below.drew ?_) | (with_reducible refine below_drewN ?_ _) | (with_reducible assumption) | (with_reducible refine bel_step (by with_reducible assumption) ?_ (by first | omega | (simp; done) | (simp; omega))))) (by simp)
  (try (go_at_call 12; refine (rclock_Now _ _ _ (H.out.below hB1 hlt) OK.out).mono ?_; rintro e w2 ⟨rfl, hb2⟩; obtain ⟨hc2, hf2⟩ := bcell hb2; have hz2 := hb2.size; (try simp at hz2); (try have q2_0_0_0 : w.heap.size < w2.heap.size := by omega); (try have q2_0_0_2 : w.heap.size < w2.heap.size + 1 + 1 := by omega); (try have q2_0_0_3 : w.heap.size < w2.heap.size + 1 + 1 + 1 := by omega); (try have q2_0_1_0 : w.heap.size + 1 < w2.heap.size := by omega); (try have q2_0_1_2 : w.heap.size + 1 < w2.heap.size + 1 + 1 := by omega); (try have q2_0_1_3 : w.heap.size + 1 < w2.heap.size + 1 + 1 + 1 := by omega); (try have q2_0_2_0 : w.heap.size + 1 + 1 < w2.heap.size := by omega); (try have q2_0_2_2 : w.heap.size + 1 + 1 < w2.heap.size + 1 + 1 := by omega); (try have q2_0_2_3 : w.heap.size + 1 + 1 < w2.heap.size + 1 + 1 + 1 := by omega); (try have q2_0_3_0 : w.heap.size + 1 + 1 + 1 < w2.heap.size := by omega); (try have q2_0_3_2 : w.heap.size + 1 + 1 + 1 < w2.heap.size + 1 + 1 := by omega); (try have q2_0_3_3 : w.heap.size + 1 + 1 + 1 < w2.heap.size + 1 + 1 + 1 := by omega); (try have q2_1_0_0 : w1.heap.size < w2.heap.size := by omega); (try have q2_1_0_2 : w1.heap.size < w2.heap.size + 1 + 1 := by omega); (try have q2_1_1_0 : w1.heap.size + 1 < w2.heap.size := by omega); (try have q2_1_1_2 : w1.heap.size + 1 < w2.heap.size + 1 + 1 := by omega); (try go_wp2_with fail)))
  have hB2 : Below w.heap.size w w2 := bel_step hb2 (by repeat (first | with_reducible exact Below.refl _ _ | (with_reducible refine Below.alloc ?_ (by first | omega | (simp; done) | (simp; omega)) _) | (with_reducible refine Below.setCell ?_ (by first | omega | (simp; done) | (simp; omega)) _) | (with_reducible refine Below.drew ?_) | (with_reducible refine below_drewN ?_ _) | (with_reducible assumption) | (with_reducible refine bel_step (by with_reducible assumption) ?_ (by first | omega | (simp; done) | (simp; omega))))) (by omega)
  have H2 := H.out.below hB2 hlt
  have gl := Blk.lt H2
  obtain ⟨m0, m1, m2, m3, m4, m5, m6, m7⟩ := H2.all
  have mf := fun o => Blk.fz H2 o
  clear H2
  have p0 : w2.cell? ⟨w.heap.size, 0, none⟩ = some (.int .i64 lo) := by rw [hc2 _ _ (by first | omega | (simp; done) | (simp; omega)), hc1 _ _ (by first | omega | (simp; done) | (simp; omega))]; simp
  have p1 : w2.cell? ⟨w.heap.size, 1, none⟩ = some (.int .i64 hi) := by rw [hc2 _ _ (by first | omega | (simp; done) | (simp; omega)), hc1 _ _ (by first | omega | (simp; done) | (simp; omega))]; simp
  have q1 : w.heap.size < w2.heap.size + 1 := by omega
  have q2 : w.heap.size < w2.heap.size := by omega
  have q3 : g < w2.heap.size + 1 := by omega
  go_region_held3 (fun w' => w'.cell? ⟨w.heap.size, 0, none⟩ = some (.int .i64 lo) ∧ w'.cell? ⟨w.heap.size, 1, none⟩ = some (.int .i64 hi)) ((repeat' apply And.intro) <;> exact (Below.cell (B := (w2).heap.size) (w := w2) (by repeat (first | with_reducible exact Below.refl _ _ | (with_reducible refine Below.alloc ?_ (by first | omega | (simp; done) | (simp; omega)) _) | (with_reducible refine Below.setCell ?_ (by first | omega | (simp; done) | (simp; omega)) _) | (with_reducible refine Below.drew ?_) | (with_reducible refine below_drewN ?_ _) | (with_reducible assumption) | (with_reducible refine bel_step (by with_reducible assumption) ?_ (by first | omega | (simp; done) | (simp; omega))))) (by first | omega | (simp; done) | (simp; omega))).trans (by assumption))
    (first | (go_at_call 22; refine (rclock_aged _ _ _ (H.out.below (by repeat (first | with_reducible exact Below.refl _ _ | (with_reducible refine Below.alloc ?_ (by first | omega | (simp; done) | (simp; omega)) _) | (with_reducible refine Below.setCell ?_ (by first | omega | (simp; done) | (simp; omega)) _) | (with_reducible refine Below.drew ?_) | (with_reducible refine below_drewN ?_ _) | (with_reducible assumption) | (with_reducible refine bel_step (by with_reducible assumption) ?_ (by first | omega | (simp; done) | (simp; omega))))) hlt) OK.out).mono ?_; rintro e w3 ⟨rfl, hb3⟩; obtain ⟨hc3, hf3⟩ := bcell hb3; have hz3 := hb3.size; (try simp at hz3); (try have q3_0_0_0 : w.heap.size < w3.heap.size := by omega); (try have q3_0_0_2 : w.heap.size < w3.heap.size + 1 + 1 := by omega); (try have q3_0_0_3 : w.heap.size < w3.heap.size + 1 + 1 + 1 := by omega); (try have q3_0_1_0 : w.heap.size + 1 < w3.heap.size := by omega); (try have q3_0_1_2 : w.heap.size + 1 < w3.heap.size + 1 + 1 := by omega); (try have q3_0_1_3 : w.heap.size + 1 < w3.heap.size + 1 + 1 + 1 := by omega); (try have q3_0_2_0 : w.heap.size + 1 + 1 < w3.heap.size := by omega); (try have q3_0_2_2 : w.heap.size + 1 + 1 < w3.heap.size + 1 + 1 := by omega); (try have q3_0_2_3 : w.heap.size + 1 + 1 < w3.heap.size + 1 + 1 + 1 := by omega); (try have q3_0_3_0 : w.heap.size + 1 + 1 + 1 < w3.heap.size := by omega); (try have q3_0_3_2 : w.heap.size + 1 + 1 + 1 < w3.heap.size + 1 + 1 := by omega); (try have q3_0_3_3 : w.heap.size + 1 + 1 + 1 < w3.heap.size + 1 + 1 + 1 := by omega); (try have q3_1_0_0 : w1.heap.size < w3.heap.size := by omega); (try have q3_1_0_2 : w1.heap.size < w3.heap.size + 1 + 1 := by omega); (try have q3_1_1_0 : w1.heap.size + 1 < w3.heap.size := by omega); (try have q3_1_1_2 : w1.heap.size + 1 < w3.heap.size + 1 + 1 := by omega); (try have q3_2_0_0 : w2.heap.size < w3.heap.size := by omega); (try have q3_2_0_2 : w2.heap.size < w3.heap.size + 1 + 1 := by omega); (try have q3_2_1_0 : w2.heap.size + 1 < w3.heap.size := by omega); (try have q3_2_1_2 : w2.heap.size + 1 < w3.heap.size + 1 + 1 := by omega)) | (go_at_call 21; refine (r1_Meet _ _ _ _ _).mono ?_; rintro e w4 ⟨rfl, hb4⟩; obtain ⟨hc4, hf4⟩ := bcell hb4; have hz4 := hb4.size; (try simp at hz4); (try have q4_0_0_0 : w.heap.size < w4.heap.size := by omega); (try have q4_0_0_2 : w.heap.size < w4.heap.size + 1 + 1 := by omega); (try have q4_0_0_3 : w.heap.size < w4.heap.size + 1 + 1 + 1 := by omega); (try have q4_0_1_0 : w.heap.size + 1 < w4.heap.size := by omega); (try have q4_0_1_2 : w.heap.size + 1 < w4.heap.size + 1 + 1 := by omega); (try have q4_0_1_3 : w.heap.size + 1 < w4.heap.size + 1 + 1 + 1 := by omega); (try have q4_0_2_0 : w.heap.size + 1 + 1 < w4.heap.size := by omega); (try have q4_0_2_2 : w.heap.size + 1 + 1 < w4.heap.size + 1 + 1 := by omega); (try have q4_0_2_3 : w.heap.size + 1 + 1 < w4.heap.size + 1 + 1 + 1 := by omega); (try have q4_0_3_0 : w.heap.size + 1 + 1 + 1 < w4.heap.size := by omega); (try have q4_0_3_2 : w.heap.size + 1 + 1 + 1 < w4.heap.size + 1 + 1 := by omega); (try have q4_0_3_3 : w.heap.size + 1 + 1 + 1 < w4.heap.size + 1 + 1 + 1 := by omega); (try have q4_1_0_0 : w1.heap.size < w4.heap.size := by omega); (try have q4_1_0_2 : w1.heap.size < w4.heap.size + 1 + 1 := by omega); (try have q4_1_1_0 : w1.heap.size + 1 < w4.heap.size := by omega); (try have q4_1_1_2 : w1.heap.size + 1 < w4.heap.size + 1 + 1 := by omega); (try have q4_2_0_0 : w2.heap.size < w4.heap.size := by omega); (try have q4_2_0_2 : w2.heap.size < w4.heap.size + 1 + 1 := by omega); (try have q4_2_1_0 : w2.heap.size + 1 < w4.heap.size := by omega); (try have q4_2_1_2 : w2.heap.size + 1 < w4.heap.size + 1 + 1 := by omega); (try have q4_3_0_0 : w3.heap.size < w4.heap.size := by omega); (try have q4_3_0_2 : w3.heap.size < w4.heap.size + 1 + 1 := by omega); (try have q4_3_1_0 : w3.heap.size + 1 < w4.heap.size := by omega); (try have q4_3_1_2 : w3.heap.size + 1 < w4.heap.size + 1 + 1 := by omega)))
  all_goals
    have hB4 : Below w.heap.size w w4 := bel_step hb4 (by repeat (first | with_reducible exact Below.refl _ _ | (with_reducible refine Below.alloc ?_ (by first | omega | (simp; done) | (simp; omega)) _) | (with_reducible refine Below.setCell ?_ (by first | omega | (simp; done) | (simp; omega)) _) | (with_reducible refine Below.drew ?_) | (with_reducible refine below_drewN ?_ _) | (with_reducible assumption) | (with_reducible refine bel_step (by with_reducible assumption) ?_ (by first | omega | (simp; done) | (simp; omega))))) (by first | omega | (simp; omega))
    have hB24 : Below w2.heap.size w2 w4 := bel_step hb4 (by repeat (first | with_reducible exact Below.refl _ _ | (with_reducible refine Below.alloc ?_ (by first | omega | (simp; done) | (simp; omega)) _) | (with_reducible refine Below.setCell ?_ (by first | omega | (simp; done) | (simp; omega)) _) | (with_reducible refine Below.drew ?_) | (with_reducible refine below_drewN ?_ _) | (with_reducible assumption) | (with_reducible refine bel_step (by with_reducible assumption) ?_ (by first | omega | (simp; done) | (simp; omega))))) (by first | omega | (simp; omega))
    have H4 := H.out.below hB4 hlt
    have gl4 := Blk.lt H4
    have gs4 := hB4.size
    obtain ⟨x0, x1, x2, x3, x4, x5, x6, x7⟩ := H4.all
    have xf := fun o => Blk.fz H4 o
    have y0 := (hB24.cell (p := ⟨w.heap.size, 0, none⟩) q2).trans p0
    have y1 := (hB24.cell (p := ⟨w.heap.size, 1, none⟩) q2).trans p1
    have yf := (hB24.frozen (p := ⟨w.heap.size, 0, none⟩) q2)
    clear H4
    go_wp2_with fail
    go_ret
    rw [s1.out, s2.out]
    exact ⟨rfl, (by first | with_reducible exact H.out.setN (by repeat (first | with_reducible exact Below.refl _ _ | (with_reducible refine Below.alloc ?_ (by first | omega | (simp; done) | (simp; omega)) _) | (with_reducible refine Below.setCell ?_ (by first | omega | (simp; done) | (simp; omega)) _) | (with_reducible refine Below.drew ?_) | (with_reducible refine below_drewN ?_ _) | (with_reducible assumption) | (with_reducible refine bel_step (by with_reducible assumption) ?_ (by first | omega | (simp; done) | (simp; omega))))) hlt _ _ | with_reducible exact H.out.setNa (by repeat (first | with_reducible exact Below.refl _ _ | (with_reducible refine Below.alloc ?_ (by first | omega | (simp; done) | (simp; omega)) _) | (with_reducible refine Below.setCell ?_ (by first | omega | (simp; done) | (simp; omega)) _) | (with_reducible refine Below.drew ?_) | (with_reducible refine below_drewN ?_ _) | (with_reducible assumption) | (with_reducible refine bel_step (by with_reducible assumption) ?_ (by first | omega | (simp; done) | (simp; omega))))) hlt _ _), (by repeat (first | with_reducible exact Touched.refl _ _ | (with_reducible refine Touched.alloc ?_ _) | (with_reducible refine Touched.setp ?_ _ (by first | exact .inl rfl | (right; first | omega | (simp; done) | (simp; omega))) _) | (with_reducible refine Touched.drew ?_) | (with_reducible refine Touched.drewN ?_ _) | (with_reducible assumption) | (with_reducible refine Touched.then (by with_reducible assumption) ?_)))⟩
set_option maxHeartbeats 4000000 in
theorem rclock_Learn_1 (g : Nat) (c : CK) (lo hi : Int) (w : World) (hk : ClockAt w g 33 c) (ok : c.ok) (r : rightB lo hi = true) (c0 : c.known = true) (d : ¬ rightB (c.lo - agedN c + c.here) (c.hi + agedN c + c.here) = true) :
    Calls Tryd.prog 9 #[.pointer (some ⟨g, 0, none⟩), .agg #[.int .i64 lo, .int .i64 hi]] w fun e w' => e = .returned (.int .i64 (learnC c lo hi)) ∧ ClockAt w' g 33 (learnK c lo hi) ∧ Touched g w w' := by
  have hlt := Blk.lt hk
  obtain ⟨k0, k1, k2, k3, k4, k5, k6, k7⟩ := hk.all
  have kf := fun o => Blk.fz hk o
  have H := Lib.hid hk
  have OK := Lib.hid ok
  clear hk
  obtain ⟨o1, o2, o3, o4, o5, o6, o7, o8, o9, o10⟩ := ok
  obtain ⟨r1, r2, r3⟩ := rightB_iff.1 r
  obtain ⟨b1, b2⟩ := byP_bd (n := c.here - c.at_) (p := 2 * c.ppm) (by omega) (by omega) (by omega) (by omega)
  have a1 : 1 ≤ agedN c := by unfold agedN; omega
  have a2 : agedN c ≤ 6000000001 := by unfold agedN; omega
  clear b1 b2
  have n0 : nowS c = ⟨0, 0, 1⟩ := by simp [nowS, c0, whole, d]
  have s1 := Lib.hid (show learnC c lo hi = 1 by simp [learnC, r, c0, n0])
  have s2 := Lib.hid (show learnK c lo hi = c by simp [learnK, s1.out])
  go_enter Tryd.func9, Tryd.ntmps9
  go_wp2_with fail
  (try (go_at_call 20; refine (r1_Span _ _ _).mono ?_; rintro e w1 ⟨rfl, hb1⟩; obtain ⟨hc1, hf1⟩ := bcell hb1; have hz1 := hb1.size; (try simp at hz1); (try have q1_0_0_0 : w.heap.size < w1.heap.size := by omega); (try have q1_0_0_2 : w.heap.size < w1.heap.size + 1 + 1 := by omega); (try have q1_0_0_3 : w.heap.size < w1.heap.size + 1 + 1 + 1 := by omega); (try have q1_0_1_0 : w.heap.size + 1 < w1.heap.size := by omega); (try have q1_0_1_2 : w.heap.size + 1 < w1.heap.size + 1 + 1 := by omega); (try have q1_0_1_3 : w.heap.size + 1 < w1.heap.size + 1 + 1 + 1 := by omega); (try have q1_0_2_0 : w.heap.size + 1 + 1 < w1.heap.size := by omega); (try have q1_0_2_2 : w.heap.size + 1 + 1 < w1.heap.size + 1 + 1 := by omega); (try have q1_0_2_3 : w.heap.size + 1 + 1 < w1.heap.size + 1 + 1 + 1 := by omega); (try have q1_0_3_0 : w.heap.size + 1 + 1 + 1 < w1.heap.size := by omega); (try have q1_0_3_2 : w.heap.size + 1 + 1 + 1 < w1.heap.size + 1 + 1 := by omega); (try have q1_0_3_3 : w.heap.size + 1 + 1 + 1 < w1.heap.size + 1 + 1 + 1 := by omega); (try go_wp2_with fail)))
  have hB1 : Below w.heap.size w w1 := bel_step hb1 (by repeat (first | with_reducible exact Below.refl _ _ | (with_reducible refine Below.alloc ?_ (by first | omega | (simp; done) | (simp; omega)) _) | (with_reducible refine Below.setCell ?_ (by first | omega | (simp; done) | (simp; omega)) _) | (with_reducible refine Below.drew ?_) | (with_reducible refine below_drewN ?_ _) | (with_reducible assumption) | (with_reducible refine bel_step (by with_reducible assumption) ?_ (by first | omega | (simp; done) | (simp; omega))))) (by simp)
  (try (go_at_call 12; refine (rclock_Now _ _ _ (H.out.below hB1 hlt) OK.out).mono ?_; rintro e w2 ⟨rfl, hb2⟩; obtain ⟨hc2, hf2⟩ := bcell hb2; have hz2 := hb2.size; (try simp at hz2); (try have q2_0_0_0 : w.heap.size < w2.heap.size := by omega); (try have q2_0_0_2 : w.heap.size < w2.heap.size + 1 + 1 := by omega); (try have q2_0_0_3 : w.heap.size < w2.heap.size + 1 + 1 + 1 := by omega); (try have q2_0_1_0 : w.heap.size + 1 < w2.heap.size := by omega); (try have q2_0_1_2 : w.heap.size + 1 < w2.heap.size + 1 + 1 := by omega); (try have q2_0_1_3 : w.heap.size + 1 < w2.heap.size + 1 + 1 + 1 := by omega); (try have q2_0_2_0 : w.heap.size + 1 + 1 < w2.heap.size := by omega); (try have q2_0_2_2 : w.heap.size + 1 + 1 < w2.heap.size + 1 + 1 := by omega); (try have q2_0_2_3 : w.heap.size + 1 + 1 < w2.heap.size + 1 + 1 + 1 := by omega); (try have q2_0_3_0 : w.heap.size + 1 + 1 + 1 < w2.heap.size := by omega); (try have q2_0_3_2 : w.heap.size + 1 + 1 + 1 < w2.heap.size + 1 + 1 := by omega); (try have q2_0_3_3 : w.heap.size + 1 + 1 + 1 < w2.heap.size + 1 + 1 + 1 := by omega); (try have q2_1_0_0 : w1.heap.size < w2.heap.size := by omega); (try have q2_1_0_2 : w1.heap.size < w2.heap.size + 1 + 1 := by omega); (try have q2_1_1_0 : w1.heap.size + 1 < w2.heap.size := by omega); (try have q2_1_1_2 : w1.heap.size + 1 < w2.heap.size + 1 + 1 := by omega); (try go_wp2_with fail)))
  go_ret
  rw [s1.out, s2.out]
  exact ⟨rfl, H.out.below (by repeat (first | with_reducible exact Below.refl _ _ | (with_reducible refine Below.alloc ?_ (by first | omega | (simp; done) | (simp; omega)) _) | (with_reducible refine Below.setCell ?_ (by first | omega | (simp; done) | (simp; omega)) _) | (with_reducible refine Below.drew ?_) | (with_reducible refine below_drewN ?_ _) | (with_reducible assumption) | (with_reducible refine bel_step (by with_reducible assumption) ?_ (by first | omega | (simp; done) | (simp; omega))))) hlt, (by repeat (first | with_reducible exact Touched.refl _ _ | (with_reducible refine Touched.alloc ?_ _) | (with_reducible refine Touched.setp ?_ _ (by first | exact .inl rfl | (right; first | omega | (simp; done) | (simp; omega))) _) | (with_reducible refine Touched.drew ?_) | (with_reducible refine Touched.drewN ?_ _) | (with_reducible assumption) | (with_reducible refine Touched.then (by with_reducible assumption) ?_)))⟩
set_option maxHeartbeats 4000000 in
theorem rclock_Learn_b (g : Nat) (c : CK) (lo hi : Int) (w : World) (hk : ClockAt w g 33 c) (ok : c.ok) (r : ¬ rightB lo hi = true) :
    Calls Tryd.prog 9 #[.pointer (some ⟨g, 0, none⟩), .agg #[.int .i64 lo, .int .i64 hi]] w fun e w' => e = .returned (.int .i64 (learnC c lo hi)) ∧ ClockAt w' g 33 (learnK c lo hi) ∧ Touched g w w' := by
  have hlt := Blk.lt hk
  obtain ⟨k0, k1, k2, k3, k4, k5, k6, k7⟩ := hk.all
  have kf := fun o => Blk.fz hk o
  have H := Lib.hid hk
  have OK := Lib.hid ok
  clear hk
  obtain ⟨o1, o2, o3, o4, o5, o6, o7, o8, o9, o10⟩ := ok
  have s1 := Lib.hid (show learnC c lo hi = 1 by simp [learnC, r])
  have s2 := Lib.hid (show learnK c lo hi = c by simp [learnK, s1.out])
  go_enter Tryd.func9, Tryd.ntmps9
  go_wp2_with fail
  (try (go_at_call 20; refine (r1_Span _ _ _).mono ?_; rintro e w1 ⟨rfl, hb1⟩; obtain ⟨hc1, hf1⟩ := bcell hb1; have hz1 := hb1.size; (try simp at hz1); (try have q1_0_0_0 : w.heap.size < w1.heap.size := by omega); (try have q1_0_0_2 : w.heap.size < w1.heap.size + 1 + 1 := by omega); (try have q1_0_0_3 : w.heap.size < w1.heap.size + 1 + 1 + 1 := by omega); (try have q1_0_1_0 : w.heap.size + 1 < w1.heap.size := by omega); (try have q1_0_1_2 : w.heap.size + 1 < w1.heap.size + 1 + 1 := by omega); (try have q1_0_1_3 : w.heap.size + 1 < w1.heap.size + 1 + 1 + 1 := by omega); (try have q1_0_2_0 : w.heap.size + 1 + 1 < w1.heap.size := by omega); (try have q1_0_2_2 : w.heap.size + 1 + 1 < w1.heap.size + 1 + 1 := by omega); (try have q1_0_2_3 : w.heap.size + 1 + 1 < w1.heap.size + 1 + 1 + 1 := by omega); (try have q1_0_3_0 : w.heap.size + 1 + 1 + 1 < w1.heap.size := by omega); (try have q1_0_3_2 : w.heap.size + 1 + 1 + 1 < w1.heap.size + 1 + 1 := by omega); (try have q1_0_3_3 : w.heap.size + 1 + 1 + 1 < w1.heap.size + 1 + 1 + 1 := by omega); (try go_wp2_with fail)))
  go_ret
  rw [s1.out, s2.out]
  exact ⟨rfl, H.out.below (bel_step hb1 (by repeat (first | with_reducible exact Below.refl _ _ | (with_reducible refine Below.alloc ?_ (by first | omega | (simp; done) | (simp; omega)) _) | (with_reducible refine Below.setCell ?_ (by first | omega | (simp; done) | (simp; omega)) _) | (with_reducible refine Below.drew ?_) | (with_reducible refine below_drewN ?_ _) | (with_reducible assumption) | (with_reducible refine bel_step (by with_reducible assumption) ?_ (by first | omega | (simp; done) | (simp; omega))))) (by simp)) hlt, (by repeat (first | with_reducible exact Touched.refl _ _ | (with_reducible refine Touched.alloc ?_ _) | (with_reducible refine Touched.setp ?_ _ (by first | exact .inl rfl | (right; first | omega | (simp; done) | (simp; omega))) _) | (with_reducible refine Touched.drew ?_) | (with_reducible refine Touched.drewN ?_ _) | (with_reducible assumption) | (with_reducible refine Touched.then (by with_reducible assumption) ?_)))⟩
theorem rclock_Learn (g : Nat) (c : CK) (lo hi : Int) (w : World) (hk : ClockAt w g 33 c) (ok : c.ok) :
    Calls Tryd.prog 9 #[.pointer (some ⟨g, 0, none⟩), .agg #[.int .i64 lo, .int .i64 hi]] w fun e w' => e = .returned (.int .i64 (learnC c lo hi)) ∧ ClockAt w' g 33 (learnK c lo hi) ∧ Touched g w w' := by
  by_cases r : rightB lo hi = true
  · cases c0 : c.known
    · exact rclock_Learn_u g c lo hi w hk ok r c0
    · by_cases d : rightB (c.lo - agedN c + c.here) (c.hi + agedN c + c.here) = true
      · cases e1 : commonB (c.lo - agedN c) (c.hi + agedN c) lo hi
        · exact rclock_Learn_7 g c lo hi w hk ok r c0 d e1
        · exact rclock_Learn_0 g c lo hi w hk ok r c0 d e1
      · exact rclock_Learn_1 g c lo hi w hk ok r c0 d
  · exact rclock_Learn_b g c lo hi w hk ok r
theorem halve (s : Int) : (2 * Int.tdiv s 2 ≤ s ∧ Int.tdiv s 2 = s / 2) ∨ (s < 2 * Int.tdiv s 2 ∧ Int.tdiv s 2 - 1 = s / 2) := by
  have h1 := Int.mul_tdiv_add_tmod s 2
  have h2 : s.tmod 2 < 2 := Int.tmod_lt_of_pos s (by omega)
  have h3 : (-s).tmod 2 < 2 := Int.tmod_lt_of_pos (-s) (by omega)
  rw [Int.neg_tmod] at h3
  omega
set_option maxHeartbeats 2000000 in
theorem rclock_Point (g : Nat) (c : CK) (w : World) (hk : ClockAt w g 33 c) (ok : c.ok) :
    Calls Tryd.prog 10 #[.pointer (some ⟨g, 0, none⟩)] w fun e w' => e = .returned (.tuple #[.int .i64 (pointV c), .int .i64 (pointC c)]) ∧ ClockAt w' g 33 (pointK c) ∧ Touched g w w' := by
  have hlt := Blk.lt hk
  obtain ⟨k0, k1, k2, k3, k4, k5, k6, k7⟩ := hk.all
  have kf := fun o => Blk.fz hk o
  have H := Lib.hid hk
  have OK := Lib.hid ok
  clear hk
  obtain ⟨o1, o2, o3, o4, o5, o6, o7, o8, o9, o10⟩ := ok
  rcases nowS_cases c with ⟨l, h, n0, n1, n2, n3⟩ | n0 | n0
  · have hm : midV c = (l + h) / 2 := by simp [midV, n0]
    have b1 : -1000000000000 ≤ (l + h) / 2 := by omega
    have b2 : (l + h) / 2 ≤ 1000000000000 := by omega
    obtain ⟨n, e1, e2⟩ : ∃ n, Int.tdiv (l + h) 2 = n ∧ ((2 * n ≤ l + h ∧ n = (l + h) / 2) ∨ (l + h < 2 * n ∧ n - 1 = (l + h) / 2)) := ⟨_, rfl, halve _⟩
    have e3 : -1000000000000 ≤ n := by omega
    have e4 : n ≤ 1000000000001 := by omega
    rcases e2 with ⟨e5, e6⟩ | ⟨e5, e6⟩
    · subst e6
      (skip)
      cases t : c.told
      · (skip)
        have p0 : pointN c = (l + h) / 2 := by simp [pointN, t, hm]
        have q : ¬ h < (l + h) / 2 := by omega
        · have s1 := Lib.hid (show pointC c = 0 by simp [pointC, n0, p0]; omega)
          have s2 := Lib.hid (show pointK c = { c with told := true, last := (l + h) / 2 } by simp [pointK, s1.out, p0])
          have s3 := Lib.hid (show pointV c = (l + h) / 2 by simp [pointV, s1.out, p0])
          clear p0 hm
          go_enter Tryd.func10, Tryd.ntmps10
          go_wp2_with fail
          (try (go_at_call 12; refine (rclock_Now _ _ _ H.out OK.out).mono ?_; rintro e w1 ⟨rfl, hb1⟩; obtain ⟨hc1, hf1⟩ := bcell hb1; have hz1 := hb1.size; (try simp at hz1); (try have q1_0_0_0 : w.heap.size < w1.heap.size := by omega); (try have q1_0_0_2 : w.heap.size < w1.heap.size + 1 + 1 := by omega); (try have q1_0_0_3 : w.heap.size < w1.heap.size + 1 + 1 + 1 := by omega); (try have q1_0_1_0 : w.heap.size + 1 < w1.heap.size := by omega); (try have q1_0_1_2 : w.heap.size + 1 < w1.heap.size + 1 + 1 := by omega); (try have q1_0_1_3 : w.heap.size + 1 < w1.heap.size + 1 + 1 + 1 := by omega); (try have q1_0_2_0 : w.heap.size + 1 + 1 < w1.heap.size := by omega); (try have q1_0_2_2 : w.heap.size + 1 + 1 < w1.heap.size + 1 + 1 := by omega); (try have q1_0_2_3 : w.heap.size + 1 + 1 < w1.heap.size + 1 + 1 + 1 := by omega); (try have q1_0_3_0 : w.heap.size + 1 + 1 + 1 < w1.heap.size := by omega); (try have q1_0_3_2 : w.heap.size + 1 + 1 + 1 < w1.heap.size + 1 + 1 := by omega); (try have q1_0_3_3 : w.heap.size + 1 + 1 + 1 < w1.heap.size + 1 + 1 + 1 := by omega); have H1 := H.out.below hb1 hlt; have gl1 := Blk.lt H1; obtain ⟨m0, m1, m2, m3, m4, m5, m6, m7⟩ := H1.all; have mf := fun o => Blk.fz H1 o; rw [t] at m6; have H1' := Lib.hid H1; clear H1; (try go_wp2_with fail)))
          go_ret2
          rw [s1.out, s2.out, s3.out]
          exact ⟨rfl, Blk.alloc (H1'.out.set67 _) _, (by repeat (first | with_reducible exact Touched.refl _ _ | (with_reducible refine Touched.alloc ?_ _) | (with_reducible refine Touched.setp ?_ _ (by first | exact .inl rfl | (right; first | omega | (simp; done) | (simp; omega))) _) | (with_reducible refine Touched.drew ?_) | (with_reducible refine Touched.drewN ?_ _) | (with_reducible assumption) | (with_reducible refine Touched.then (by with_reducible assumption) ?_)))⟩
      · by_cases d : (l + h) / 2 < c.last
        · (skip)
          have p0 : pointN c = c.last := by simp [pointN, t, hm]; omega
          by_cases q : h < c.last
          · have s1 := Lib.hid (show pointC c = 8 by simp [pointC, n0, p0, q])
            have s2 := Lib.hid (show pointK c = c by simp [pointK, s1.out])
            have s3 := Lib.hid (show pointV c = 0 by simp [pointV, s1.out])
            clear p0 hm
            go_enter Tryd.func10, Tryd.ntmps10
            go_wp2_with fail
            (try (go_at_call 12; refine (rclock_Now _ _ _ H.out OK.out).mono ?_; rintro e w1 ⟨rfl, hb1⟩; obtain ⟨hc1, hf1⟩ := bcell hb1; have hz1 := hb1.size; (try simp at hz1); (try have q1_0_0_0 : w.heap.size < w1.heap.size := by omega); (try have q1_0_0_2 : w.heap.size < w1.heap.size + 1 + 1 := by omega); (try have q1_0_0_3 : w.heap.size < w1.heap.size + 1 + 1 + 1 := by omega); (try have q1_0_1_0 : w.heap.size + 1 < w1.heap.size := by omega); (try have q1_0_1_2 : w.heap.size + 1 < w1.heap.size + 1 + 1 := by omega); (try have q1_0_1_3 : w.heap.size + 1 < w1.heap.size + 1 + 1 + 1 := by omega); (try have q1_0_2_0 : w.heap.size + 1 + 1 < w1.heap.size := by omega); (try have q1_0_2_2 : w.heap.size + 1 + 1 < w1.heap.size + 1 + 1 := by omega); (try have q1_0_2_3 : w.heap.size + 1 + 1 < w1.heap.size + 1 + 1 + 1 := by omega); (try have q1_0_3_0 : w.heap.size + 1 + 1 + 1 < w1.heap.size := by omega); (try have q1_0_3_2 : w.heap.size + 1 + 1 + 1 < w1.heap.size + 1 + 1 := by omega); (try have q1_0_3_3 : w.heap.size + 1 + 1 + 1 < w1.heap.size + 1 + 1 + 1 := by omega); have H1 := H.out.below hb1 hlt; have gl1 := Blk.lt H1; obtain ⟨m0, m1, m2, m3, m4, m5, m6, m7⟩ := H1.all; have mf := fun o => Blk.fz H1 o; rw [t] at m6; have H1' := Lib.hid H1; clear H1; (try go_wp2_with fail)))
            rw [s1.out, s2.out, s3.out]
            go_ret2
            exact ⟨rfl, Blk.alloc H1'.out _, (by repeat (first | with_reducible exact Touched.refl _ _ | (with_reducible refine Touched.alloc ?_ _) | (with_reducible refine Touched.setp ?_ _ (by first | exact .inl rfl | (right; first | omega | (simp; done) | (simp; omega))) _) | (with_reducible refine Touched.drew ?_) | (with_reducible refine Touched.drewN ?_ _) | (with_reducible assumption) | (with_reducible refine Touched.then (by with_reducible assumption) ?_)))⟩
          · have s1 := Lib.hid (show pointC c = 0 by simp [pointC, n0, p0]; omega)
            have s2 := Lib.hid (show pointK c = { c with told := true, last := c.last } by simp [pointK, s1.out, p0])
            have s3 := Lib.hid (show pointV c = c.last by simp [pointV, s1.out, p0])
            clear p0 hm
            go_enter Tryd.func10, Tryd.ntmps10
            go_wp2_with fail
            (try (go_at_call 12; refine (rclock_Now _ _ _ H.out OK.out).mono ?_; rintro e w1 ⟨rfl, hb1⟩; obtain ⟨hc1, hf1⟩ := bcell hb1; have hz1 := hb1.size; (try simp at hz1); (try have q1_0_0_0 : w.heap.size < w1.heap.size := by omega); (try have q1_0_0_2 : w.heap.size < w1.heap.size + 1 + 1 := by omega); (try have q1_0_0_3 : w.heap.size < w1.heap.size + 1 + 1 + 1 := by omega); (try have q1_0_1_0 : w.heap.size + 1 < w1.heap.size := by omega); (try have q1_0_1_2 : w.heap.size + 1 < w1.heap.size + 1 + 1 := by omega); (try have q1_0_1_3 : w.heap.size + 1 < w1.heap.size + 1 + 1 + 1 := by omega); (try have q1_0_2_0 : w.heap.size + 1 + 1 < w1.heap.size := by omega); (try have q1_0_2_2 : w.heap.size + 1 + 1 < w1.heap.size + 1 + 1 := by omega); (try have q1_0_2_3 : w.heap.size + 1 + 1 < w1.heap.size + 1 + 1 + 1 := by omega); (try have q1_0_3_0 : w.heap.size + 1 + 1 + 1 < w1.heap.size := by omega); (try have q1_0_3_2 : w.heap.size + 1 + 1 + 1 < w1.heap.size + 1 + 1 := by omega); (try have q1_0_3_3 : w.heap.size + 1 + 1 + 1 < w1.heap.size + 1 + 1 + 1 := by omega); have H1 := H.out.below hb1 hlt; have gl1 := Blk.lt H1; obtain ⟨m0, m1, m2, m3, m4, m5, m6, m7⟩ := H1.all; have mf := fun o => Blk.fz H1 o; rw [t] at m6; have H1' := Lib.hid H1; clear H1; (try go_wp2_with fail)))
            go_ret2
            rw [s1.out, s2.out, s3.out]
            exact ⟨rfl, Blk.alloc (H1'.out.set67 _) _, (by repeat (first | with_reducible exact Touched.refl _ _ | (with_reducible refine Touched.alloc ?_ _) | (with_reducible refine Touched.setp ?_ _ (by first | exact .inl rfl | (right; first | omega | (simp; done) | (simp; omega))) _) | (with_reducible refine Touched.drew ?_) | (with_reducible refine Touched.drewN ?_ _) | (with_reducible assumption) | (with_reducible refine Touched.then (by with_reducible assumption) ?_)))⟩
        · (skip)
          have p0 : pointN c = (l + h) / 2 := by simp [pointN, t, hm]; omega
          have q : ¬ h < (l + h) / 2 := by omega
          · have s1 := Lib.hid (show pointC c = 0 by simp [pointC, n0, p0]; omega)
            have s2 := Lib.hid (show pointK c = { c with told := true, last := (l + h) / 2 } by simp [pointK, s1.out, p0])
            have s3 := Lib.hid (show pointV c = (l + h) / 2 by simp [pointV, s1.out, p0])
            clear p0 hm
            go_enter Tryd.func10, Tryd.ntmps10
            go_wp2_with fail
            (try (go_at_call 12; refine (rclock_Now _ _ _ H.out OK.out).mono ?_; rintro e w1 ⟨rfl, hb1⟩; obtain ⟨hc1, hf1⟩ := bcell hb1; have hz1 := hb1.size; (try simp at hz1); (try have q1_0_0_0 : w.heap.size < w1.heap.size := by omega); (try have q1_0_0_2 : w.heap.size < w1.heap.size + 1 + 1 := by omega); (try have q1_0_0_3 : w.heap.size < w1.heap.size + 1 + 1 + 1 := by omega); (try have q1_0_1_0 : w.heap.size + 1 < w1.heap.size := by omega); (try have q1_0_1_2 : w.heap.size + 1 < w1.heap.size + 1 + 1 := by omega); (try have q1_0_1_3 : w.heap.size + 1 < w1.heap.size + 1 + 1 + 1 := by omega); (try have q1_0_2_0 : w.heap.size + 1 + 1 < w1.heap.size := by omega); (try have q1_0_2_2 : w.heap.size + 1 + 1 < w1.heap.size + 1 + 1 := by omega); (try have q1_0_2_3 : w.heap.size + 1 + 1 < w1.heap.size + 1 + 1 + 1 := by omega); (try have q1_0_3_0 : w.heap.size + 1 + 1 + 1 < w1.heap.size := by omega); (try have q1_0_3_2 : w.heap.size + 1 + 1 + 1 < w1.heap.size + 1 + 1 := by omega); (try have q1_0_3_3 : w.heap.size + 1 + 1 + 1 < w1.heap.size + 1 + 1 + 1 := by omega); have H1 := H.out.below hb1 hlt; have gl1 := Blk.lt H1; obtain ⟨m0, m1, m2, m3, m4, m5, m6, m7⟩ := H1.all; have mf := fun o => Blk.fz H1 o; rw [t] at m6; have H1' := Lib.hid H1; clear H1; (try go_wp2_with fail)))
            go_ret2
            rw [s1.out, s2.out, s3.out]
            exact ⟨rfl, Blk.alloc (H1'.out.set67 _) _, (by repeat (first | with_reducible exact Touched.refl _ _ | (with_reducible refine Touched.alloc ?_ _) | (with_reducible refine Touched.setp ?_ _ (by first | exact .inl rfl | (right; first | omega | (simp; done) | (simp; omega))) _) | (with_reducible refine Touched.drew ?_) | (with_reducible refine Touched.drewN ?_ _) | (with_reducible assumption) | (with_reducible refine Touched.then (by with_reducible assumption) ?_)))⟩
    · have e7 : n = (l + h) / 2 + 1 := by omega
      subst e7
      (skip)
      cases t : c.told
      · (skip)
        have p0 : pointN c = (l + h) / 2 := by simp [pointN, t, hm]
        have q : ¬ h < (l + h) / 2 := by omega
        · have s1 := Lib.hid (show pointC c = 0 by simp [pointC, n0, p0]; omega)
          have s2 := Lib.hid (show pointK c = { c with told := true, last := (l + h) / 2 } by simp [pointK, s1.out, p0])
          have s3 := Lib.hid (show pointV c = (l + h) / 2 by simp [pointV, s1.out, p0])
          clear p0 hm
          go_enter Tryd.func10, Tryd.ntmps10
          go_wp2_with fail
          (try (go_at_call 12; refine (rclock_Now _ _ _ H.out OK.out).mono ?_; rintro e w1 ⟨rfl, hb1⟩; obtain ⟨hc1, hf1⟩ := bcell hb1; have hz1 := hb1.size; (try simp at hz1); (try have q1_0_0_0 : w.heap.size < w1.heap.size := by omega); (try have q1_0_0_2 : w.heap.size < w1.heap.size + 1 + 1 := by omega); (try have q1_0_0_3 : w.heap.size < w1.heap.size + 1 + 1 + 1 := by omega); (try have q1_0_1_0 : w.heap.size + 1 < w1.heap.size := by omega); (try have q1_0_1_2 : w.heap.size + 1 < w1.heap.size + 1 + 1 := by omega); (try have q1_0_1_3 : w.heap.size + 1 < w1.heap.size + 1 + 1 + 1 := by omega); (try have q1_0_2_0 : w.heap.size + 1 + 1 < w1.heap.size := by omega); (try have q1_0_2_2 : w.heap.size + 1 + 1 < w1.heap.size + 1 + 1 := by omega); (try have q1_0_2_3 : w.heap.size + 1 + 1 < w1.heap.size + 1 + 1 + 1 := by omega); (try have q1_0_3_0 : w.heap.size + 1 + 1 + 1 < w1.heap.size := by omega); (try have q1_0_3_2 : w.heap.size + 1 + 1 + 1 < w1.heap.size + 1 + 1 := by omega); (try have q1_0_3_3 : w.heap.size + 1 + 1 + 1 < w1.heap.size + 1 + 1 + 1 := by omega); have H1 := H.out.below hb1 hlt; have gl1 := Blk.lt H1; obtain ⟨m0, m1, m2, m3, m4, m5, m6, m7⟩ := H1.all; have mf := fun o => Blk.fz H1 o; rw [t] at m6; have H1' := Lib.hid H1; clear H1; (try go_wp2_with fail)))
          go_ret2
          rw [s1.out, s2.out, s3.out]
          exact ⟨rfl, Blk.alloc (H1'.out.set67 _) _, (by repeat (first | with_reducible exact Touched.refl _ _ | (with_reducible refine Touched.alloc ?_ _) | (with_reducible refine Touched.setp ?_ _ (by first | exact .inl rfl | (right; first | omega | (simp; done) | (simp; omega))) _) | (with_reducible refine Touched.drew ?_) | (with_reducible refine Touched.drewN ?_ _) | (with_reducible assumption) | (with_reducible refine Touched.then (by with_reducible assumption) ?_)))⟩
      · by_cases d : (l + h) / 2 < c.last
        · (skip)
          have p0 : pointN c = c.last := by simp [pointN, t, hm]; omega
          by_cases q : h < c.last
          · have s1 := Lib.hid (show pointC c = 8 by simp [pointC, n0, p0, q])
            have s2 := Lib.hid (show pointK c = c by simp [pointK, s1.out])
            have s3 := Lib.hid (show pointV c = 0 by simp [pointV, s1.out])
            clear p0 hm
            go_enter Tryd.func10, Tryd.ntmps10
            go_wp2_with fail
            (try (go_at_call 12; refine (rclock_Now _ _ _ H.out OK.out).mono ?_; rintro e w1 ⟨rfl, hb1⟩; obtain ⟨hc1, hf1⟩ := bcell hb1; have hz1 := hb1.size; (try simp at hz1); (try have q1_0_0_0 : w.heap.size < w1.heap.size := by omega); (try have q1_0_0_2 : w.heap.size < w1.heap.size + 1 + 1 := by omega); (try have q1_0_0_3 : w.heap.size < w1.heap.size + 1 + 1 + 1 := by omega); (try have q1_0_1_0 : w.heap.size + 1 < w1.heap.size := by omega); (try have q1_0_1_2 : w.heap.size + 1 < w1.heap.size + 1 + 1 := by omega); (try have q1_0_1_3 : w.heap.size + 1 < w1.heap.size + 1 + 1 + 1 := by omega); (try have q1_0_2_0 : w.heap.size + 1 + 1 < w1.heap.size := by omega); (try have q1_0_2_2 : w.heap.size + 1 + 1 < w1.heap.size + 1 + 1 := by omega); (try have q1_0_2_3 : w.heap.size + 1 + 1 < w1.heap.size + 1 + 1 + 1 := by omega); (try have q1_0_3_0 : w.heap.size + 1 + 1 + 1 < w1.heap.size := by omega); (try have q1_0_3_2 : w.heap.size + 1 + 1 + 1 < w1.heap.size + 1 + 1 := by omega); (try have q1_0_3_3 : w.heap.size + 1 + 1 + 1 < w1.heap.size + 1 + 1 + 1 := by omega); have H1 := H.out.below hb1 hlt; have gl1 := Blk.lt H1; obtain ⟨m0, m1, m2, m3, m4, m5, m6, m7⟩ := H1.all; have mf := fun o => Blk.fz H1 o; rw [t] at m6; have H1' := Lib.hid H1; clear H1; (try go_wp2_with fail)))
            rw [s1.out, s2.out, s3.out]
            go_ret2
            exact ⟨rfl, Blk.alloc H1'.out _, (by repeat (first | with_reducible exact Touched.refl _ _ | (with_reducible refine Touched.alloc ?_ _) | (with_reducible refine Touched.setp ?_ _ (by first | exact .inl rfl | (right; first | omega | (simp; done) | (simp; omega))) _) | (with_reducible refine Touched.drew ?_) | (with_reducible refine Touched.drewN ?_ _) | (with_reducible assumption) | (with_reducible refine Touched.then (by with_reducible assumption) ?_)))⟩
          · have s1 := Lib.hid (show pointC c = 0 by simp [pointC, n0, p0]; omega)
            have s2 := Lib.hid (show pointK c = { c with told := true, last := c.last } by simp [pointK, s1.out, p0])
            have s3 := Lib.hid (show pointV c = c.last by simp [pointV, s1.out, p0])
            clear p0 hm
            go_enter Tryd.func10, Tryd.ntmps10
            go_wp2_with fail
            (try (go_at_call 12; refine (rclock_Now _ _ _ H.out OK.out).mono ?_; rintro e w1 ⟨rfl, hb1⟩; obtain ⟨hc1, hf1⟩ := bcell hb1; have hz1 := hb1.size; (try simp at hz1); (try have q1_0_0_0 : w.heap.size < w1.heap.size := by omega); (try have q1_0_0_2 : w.heap.size < w1.heap.size + 1 + 1 := by omega); (try have q1_0_0_3 : w.heap.size < w1.heap.size + 1 + 1 + 1 := by omega); (try have q1_0_1_0 : w.heap.size + 1 < w1.heap.size := by omega); (try have q1_0_1_2 : w.heap.size + 1 < w1.heap.size + 1 + 1 := by omega); (try have q1_0_1_3 : w.heap.size + 1 < w1.heap.size + 1 + 1 + 1 := by omega); (try have q1_0_2_0 : w.heap.size + 1 + 1 < w1.heap.size := by omega); (try have q1_0_2_2 : w.heap.size + 1 + 1 < w1.heap.size + 1 + 1 := by omega); (try have q1_0_2_3 : w.heap.size + 1 + 1 < w1.heap.size + 1 + 1 + 1 := by omega); (try have q1_0_3_0 : w.heap.size + 1 + 1 + 1 < w1.heap.size := by omega); (try have q1_0_3_2 : w.heap.size + 1 + 1 + 1 < w1.heap.size + 1 + 1 := by omega); (try have q1_0_3_3 : w.heap.size + 1 + 1 + 1 < w1.heap.size + 1 + 1 + 1 := by omega); have H1 := H.out.below hb1 hlt; have gl1 := Blk.lt H1; obtain ⟨m0, m1, m2, m3, m4, m5, m6, m7⟩ := H1.all; have mf := fun o => Blk.fz H1 o; rw [t] at m6; have H1' := Lib.hid H1; clear H1; (try go_wp2_with fail)))
            go_ret2
            rw [s1.out, s2.out, s3.out]
            exact ⟨rfl, Blk.alloc (H1'.out.set67 _) _, (by repeat (first | with_reducible exact Touched.refl _ _ | (with_reducible refine Touched.alloc ?_ _) | (with_reducible refine Touched.setp ?_ _ (by first | exact .inl rfl | (right; first | omega | (simp; done) | (simp; omega))) _) | (with_reducible refine Touched.drew ?_) | (with_reducible refine Touched.drewN ?_ _) | (with_reducible assumption) | (with_reducible refine Touched.then (by with_reducible assumption) ?_)))⟩
        · (skip)
          have p0 : pointN c = (l + h) / 2 := by simp [pointN, t, hm]; omega
          have q : ¬ h < (l + h) / 2 := by omega
          · have s1 := Lib.hid (show pointC c = 0 by simp [pointC, n0, p0]; omega)
            have s2 := Lib.hid (show pointK c = { c with told := true, last := (l + h) / 2 } by simp [pointK, s1.out, p0])
            have s3 := Lib.hid (show pointV c = (l + h) / 2 by simp [pointV, s1.out, p0])
            clear p0 hm
            go_enter Tryd.func10, Tryd.ntmps10
            go_wp2_with fail
            (try (go_at_call 12; refine (rclock_Now _ _ _ H.out OK.out).mono ?_; rintro e w1 ⟨rfl, hb1⟩; obtain ⟨hc1, hf1⟩ := bcell hb1; have hz1 := hb1.size; (try simp at hz1); (try have q1_0_0_0 : w.heap.size < w1.heap.size := by omega); (try have q1_0_0_2 : w.heap.size < w1.heap.size + 1 + 1 := by omega); (try have q1_0_0_3 : w.heap.size < w1.heap.size + 1 + 1 + 1 := by omega); (try have q1_0_1_0 : w.heap.size + 1 < w1.heap.size := by omega); (try have q1_0_1_2 : w.heap.size + 1 < w1.heap.size + 1 + 1 := by omega); (try have q1_0_1_3 : w.heap.size + 1 < w1.heap.size + 1 + 1 + 1 := by omega); (try have q1_0_2_0 : w.heap.size + 1 + 1 < w1.heap.size := by omega); (try have q1_0_2_2 : w.heap.size + 1 + 1 < w1.heap.size + 1 + 1 := by omega); (try have q1_0_2_3 : w.heap.size + 1 + 1 < w1.heap.size + 1 + 1 + 1 := by omega); (try have q1_0_3_0 : w.heap.size + 1 + 1 + 1 < w1.heap.size := by omega); (try have q1_0_3_2 : w.heap.size + 1 + 1 + 1 < w1.heap.size + 1 + 1 := by omega); (try have q1_0_3_3 : w.heap.size + 1 + 1 + 1 < w1.heap.size + 1 + 1 + 1 := by omega); have H1 := H.out.below hb1 hlt; have gl1 := Blk.lt H1; obtain ⟨m0, m1, m2, m3, m4, m5, m6, m7⟩ := H1.all; have mf := fun o => Blk.fz H1 o; rw [t] at m6; have H1' := Lib.hid H1; clear H1; (try go_wp2_with fail)))
            go_ret2
            rw [s1.out, s2.out, s3.out]
            exact ⟨rfl, Blk.alloc (H1'.out.set67 _) _, (by repeat (first | with_reducible exact Touched.refl _ _ | (with_reducible refine Touched.alloc ?_ _) | (with_reducible refine Touched.setp ?_ _ (by first | exact .inl rfl | (right; first | omega | (simp; done) | (simp; omega))) _) | (with_reducible refine Touched.drew ?_) | (with_reducible refine Touched.drewN ?_ _) | (with_reducible assumption) | (with_reducible refine Touched.then (by with_reducible assumption) ?_)))⟩
  · have s1 := Lib.hid (show pointC c = 1 by simp [pointC, n0])
    have s2 := Lib.hid (show pointK c = c by simp [pointK, s1.out])
    have s3 := Lib.hid (show pointV c = 0 by simp [pointV, s1.out])
    go_enter Tryd.func10, Tryd.ntmps10
    go_wp2_with fail
    (try (go_at_call 12; refine (rclock_Now _ _ _ H.out OK.out).mono ?_; rintro e w1 ⟨rfl, hb1⟩; obtain ⟨hc1, hf1⟩ := bcell hb1; have hz1 := hb1.size; (try simp at hz1); (try have q1_0_0_0 : w.heap.size < w1.heap.size := by omega); (try have q1_0_0_2 : w.heap.size < w1.heap.size + 1 + 1 := by omega); (try have q1_0_0_3 : w.heap.size < w1.heap.size + 1 + 1 + 1 := by omega); (try have q1_0_1_0 : w.heap.size + 1 < w1.heap.size := by omega); (try have q1_0_1_2 : w.heap.size + 1 < w1.heap.size + 1 + 1 := by omega); (try have q1_0_1_3 : w.heap.size + 1 < w1.heap.size + 1 + 1 + 1 := by omega); (try have q1_0_2_0 : w.heap.size + 1 + 1 < w1.heap.size := by omega); (try have q1_0_2_2 : w.heap.size + 1 + 1 < w1.heap.size + 1 + 1 := by omega); (try have q1_0_2_3 : w.heap.size + 1 + 1 < w1.heap.size + 1 + 1 + 1 := by omega); (try have q1_0_3_0 : w.heap.size + 1 + 1 + 1 < w1.heap.size := by omega); (try have q1_0_3_2 : w.heap.size + 1 + 1 + 1 < w1.heap.size + 1 + 1 := by omega); (try have q1_0_3_3 : w.heap.size + 1 + 1 + 1 < w1.heap.size + 1 + 1 + 1 := by omega); (try go_wp2_with fail)))
    go_ret2
    rw [s1.out, s2.out, s3.out]
    exact ⟨rfl, Blk.alloc (H.out.below hb1 hlt) _, (by repeat (first | with_reducible exact Touched.refl _ _ | (with_reducible refine Touched.alloc ?_ _) | (with_reducible refine Touched.setp ?_ _ (by first | exact .inl rfl | (right; first | omega | (simp; done) | (simp; omega))) _) | (with_reducible refine Touched.drew ?_) | (with_reducible refine Touched.drewN ?_ _) | (with_reducible assumption) | (with_reducible refine Touched.then (by with_reducible assumption) ?_)))⟩
  · have s1 := Lib.hid (show pointC c = 6 by simp [pointC, n0])
    have s2 := Lib.hid (show pointK c = c by simp [pointK, s1.out])
    have s3 := Lib.hid (show pointV c = 0 by simp [pointV, s1.out])
    go_enter Tryd.func10, Tryd.ntmps10
    go_wp2_with fail
    (try (go_at_call 12; refine (rclock_Now _ _ _ H.out OK.out).mono ?_; rintro e w1 ⟨rfl, hb1⟩; obtain ⟨hc1, hf1⟩ := bcell hb1; have hz1 := hb1.size; (try simp at hz1); (try have q1_0_0_0 : w.heap.size < w1.heap.size := by omega); (try have q1_0_0_2 : w.heap.size < w1.heap.size + 1 + 1 := by omega); (try have q1_0_0_3 : w.heap.size < w1.heap.size + 1 + 1 + 1 := by omega); (try have q1_0_1_0 : w.heap.size + 1 < w1.heap.size := by omega); (try have q1_0_1_2 : w.heap.size + 1 < w1.heap.size + 1 + 1 := by omega); (try have q1_0_1_3 : w.heap.size + 1 < w1.heap.size + 1 + 1 + 1 := by omega); (try have q1_0_2_0 : w.heap.size + 1 + 1 < w1.heap.size := by omega); (try have q1_0_2_2 : w.heap.size + 1 + 1 < w1.heap.size + 1 + 1 := by omega); (try have q1_0_2_3 : w.heap.size + 1 + 1 < w1.heap.size + 1 + 1 + 1 := by omega); (try have q1_0_3_0 : w.heap.size + 1 + 1 + 1 < w1.heap.size := by omega); (try have q1_0_3_2 : w.heap.size + 1 + 1 + 1 < w1.heap.size + 1 + 1 := by omega); (try have q1_0_3_3 : w.heap.size + 1 + 1 + 1 < w1.heap.size + 1 + 1 + 1 := by omega); (try go_wp2_with fail)))
    go_ret2
    rw [s1.out, s2.out, s3.out]
    exact ⟨rfl, Blk.alloc (H.out.below hb1 hlt) _, (by repeat (first | with_reducible exact Touched.refl _ _ | (with_reducible refine Touched.alloc ?_ _) | (with_reducible refine Touched.setp ?_ _ (by first | exact .inl rfl | (right; first | omega | (simp; done) | (simp; omega))) _) | (with_reducible refine Touched.drew ?_) | (with_reducible refine Touched.drewN ?_ _) | (with_reducible assumption) | (with_reducible refine Touched.then (by with_reducible assumption) ?_)))⟩
end Go.Proofs.YtjaglpfmlappjaaDoor
