/- Package clock, walked: a clock is one block of eight cells. -/
import Derived.Test.YtfjpfkejajgkbaaDoorHG1
namespace Go.Proofs.YtfjpfkejajgkbaaDoor
open Go.RowKit
set_option linter.unusedVariables false
set_option linter.unusedSimpArgs false
structure CK where
  ppm : Int
  here : Int
  known : Bool
  lo : Int
  hi : Int
  at_ : Int
  told : Bool
  last : Int
def CK.cells (c : CK) : Array Value := #[.int .i64 c.ppm, .int .i64 c.here, .bool c.known, .int .i64 c.lo, .int .i64 c.hi, .int .i64 c.at_, .bool c.told, .int .i64 c.last]
structure CK.ok (c : CK) : Prop where
  p0 : 0 ≤ c.ppm
  p1 : c.ppm ≤ 1000
  a0 : 0 ≤ c.at_
  a1 : c.at_ ≤ c.here
  h1 : c.here ≤ 1000000000000
  l0 : -1000000000000 ≤ c.lo
  l1 : c.lo ≤ c.hi
  l2 : c.hi ≤ 1000000000000
  t0 : -1000000000000 ≤ c.last
  t1 : c.last ≤ 1000000000000
def ClockAt (w : World) (g : Nat) (T : TypeId) (c : CK) : Prop := Blk w g T c.cells
theorem ClockAt.all {w : World} {g : Nat} {T : TypeId} {c : CK} (h : ClockAt w g T c) :
    w.cell? ⟨g, 0, none⟩ = some (.int .i64 c.ppm) ∧ w.cell? ⟨g, 1, none⟩ = some (.int .i64 c.here) ∧ w.cell? ⟨g, 2, none⟩ = some (.bool c.known) ∧ w.cell? ⟨g, 3, none⟩ = some (.int .i64 c.lo) ∧
    w.cell? ⟨g, 4, none⟩ = some (.int .i64 c.hi) ∧ w.cell? ⟨g, 5, none⟩ = some (.int .i64 c.at_) ∧ w.cell? ⟨g, 6, none⟩ = some (.bool c.told) ∧ w.cell? ⟨g, 7, none⟩ = some (.int .i64 c.last) :=
  ⟨(Blk.cell h 0).trans rfl, (Blk.cell h 1).trans rfl, (Blk.cell h 2).trans rfl, (Blk.cell h 3).trans rfl, (Blk.cell h 4).trans rfl, (Blk.cell h 5).trans rfl, (Blk.cell h 6).trans rfl, (Blk.cell h 7).trans rfl⟩
def agedN (c : CK) : Int := 1 + byP (c.here - c.at_) (2 * c.ppm)
def nowS (c : CK) : SE := if c.known = true then whole (c.lo - agedN c + c.here) (c.hi + agedN c + c.here) else ⟨0, 0, 6⟩
def stepC (c : CK) (to : Int) : Int := if to < 0 ∨ 1000000000000 < to then 1 else if to < c.here then 8 else 0
def stepK (c : CK) (to : Int) : CK := if stepC c to = 0 then { c with here := to } else c
def learnC (c : CK) (lo hi : Int) : Int :=
  if rightB lo hi = true then (if c.known = true then (if (nowS c).c = 0 then (if commonB (c.lo - agedN c) (c.hi + agedN c) lo hi = true then 0 else 7) else (nowS c).c) else 0) else 1
def learnK (c : CK) (lo hi : Int) : CK :=
  if learnC c lo hi = 0 then (if c.known = true then { c with known := true, lo := max (c.lo - agedN c) lo, hi := min (c.hi + agedN c) hi, at_ := c.here } else { c with known := true, lo := lo, hi := hi, at_ := c.here }) else c
def midV (c : CK) : Int := ((nowS c).lo + (nowS c).hi) / 2
def pointN (c : CK) : Int := if c.told = true then max (midV c) c.last else midV c
def pointC (c : CK) : Int := if (nowS c).c = 0 then (if (nowS c).hi < pointN c then 8 else 0) else (nowS c).c
def pointV (c : CK) : Int := if pointC c = 0 then pointN c else 0
def pointK (c : CK) : CK := if pointC c = 0 then { c with told := true, last := pointN c } else c
set_option maxHeartbeats 2000000 in
theorem clock_aged (g : Nat) (c : CK) (w : World) (hk : ClockAt w g 92 c) (ok : c.ok) :
    Calls Tryd.prog 38 #[.pointer (some ⟨g, 0, none⟩)] w fun e w' => e = .returned (.agg #[.int .i64 (c.lo - agedN c), .int .i64 (c.hi + agedN c)]) ∧ Below w.heap.size w w' := by
  have hlt := Blk.lt hk
  obtain ⟨k0, k1, k2, k3, k4, k5, k6, k7⟩ := hk.all
  clear hk
  obtain ⟨ppm, here, known, lo, hi, at_, told, last⟩ := c
  obtain ⟨o1, o2, o3, o4, o5, o6, o7, o8, o9, o10⟩ := ok
  have ea := Lib.hid (show 1 + byP (here - at_) (2 * ppm) = agedN ⟨ppm, here, known, lo, hi, at_, told, last⟩ from rfl)
  dsimp only at *
  obtain ⟨b1, b2⟩ := byP_bd (n := here - at_) (p := 2 * ppm) (by omega) (by omega) (by omega) (by omega)
  have i1 := IntWalk.i64_in (here - at_) (by omega)
  have i2 := IntWalk.i64_in (2 * ppm) (by omega)
  have i3 := IntWalk.i64_in (1 + byP (here - at_) (2 * ppm)) (by omega)
  have u1 : 0 ≤ here - at_ := by omega
  have u2 : here - at_ ≤ 2000000000000 := by omega
  have u3 : 0 ≤ 2 * ppm := by omega
  have u4 : 2 * ppm ≤ 3000 := by omega
  have u5 : -2000000000000 ≤ lo := by omega
  have u6 : lo ≤ 2000000000000 := by omega
  have u7 : -2000000000000 ≤ hi := by omega
  have u8 : hi ≤ 2000000000000 := by omega
  have u9 : 0 ≤ 1 + byP (here - at_) (2 * ppm) := by omega
  have u10 : 1 + byP (here - at_) (2 * ppm) ≤ 2000000000000 := by omega
  rw [← ea.out]
  go_enter Tryd.func38, Tryd.ntmps38
  go_wp2_with fail
  go_region_held3 (fun w' => w'.cell? ⟨g, 0, none⟩ = some (.int .i64 ppm) ∧ w'.cell? ⟨g, 1, none⟩ = some (.int .i64 here) ∧ w'.cell? ⟨g, 3, none⟩ = some (.int .i64 lo) ∧ w'.cell? ⟨g, 4, none⟩ = some (.int .i64 hi) ∧ w'.cell? ⟨g, 5, none⟩ = some (.int .i64 at_)) (first | go_keep | ((repeat' apply And.intro) <;> first | (rw [hc1 _ _ (by first | omega | (simp; done) | (simp; omega))]; simp [*]; done) | ((repeat (rw [World.cell?_setCell_other _ _ _ _ (by first | omega | (simp; done) | (simp; omega))])); first | assumption | (simp [*]; done))))
    (first | (go_at_call 69; refine (By_any _ _ _ u1 u2 u3 u4).mono ?_; rintro e w' ⟨rfl, rfl⟩) | (go_at_call 68; refine (span_Wider _ _ _ _ u5 u6 u7 u8 u9 u10).mono ?_; rintro e w1 ⟨rfl, hb1⟩; obtain ⟨hc1, hf1⟩ := bcell hb1; have hz1 := hb1.size; (try simp at hz1)))
  all_goals
    go_wp2_with fail
    refine bodyPost_ret (v := (.agg #[.int .i64 (lo - (1 + byP (here - at_) (2 * ppm))), .int .i64 (hi + (1 + byP (here - at_) (2 * ppm)))])) (by simp [results, Tryd.results38, go_sem, errV, okC, *]) rfl ⟨rfl, ?_⟩; exact (by repeat (first | with_reducible exact Below.refl _ _ | (with_reducible refine Below.alloc ?_ (by first | omega | (simp; done) | (simp; omega)) _) | (with_reducible refine Below.setCell ?_ (by first | omega | (simp; done) | (simp; omega)) _) | (with_reducible refine Below.drew ?_) | (with_reducible refine below_drewN ?_ _) | (with_reducible assumption) | (with_reducible refine bel_step (by with_reducible assumption) ?_ (by first | omega | (simp; done) | (simp; omega)))))
theorem clock_New_ok (p : Int) (w : World) (h : rateB p = true) :
    Calls Tryd.prog 8 #[.int .i64 p] w fun e w' => e = .returned (.tuple #[.pointer (some ⟨w.heap.size, 0, none⟩), .nilIface]) ∧ w' = w.alloc (.cells (CK.cells ⟨p, 0, false, 0, 0, 0, false, 0⟩) 92) := by
  go_enter Tryd.func8, Tryd.ntmps8
  go_wp2_with fail
  (try (go_at_call 29; refine (Rate_any _ _).mono ?_; rintro e w' ⟨rfl, rfl⟩; (try go_wp2_with fail)))
  go_ret2
  exact ⟨rfl, rfl⟩
theorem clock_New_no (p : Int) (w : World) (h : rateB p = false) :
    Calls Tryd.prog 8 #[.int .i64 p] w fun e w' => e = .returned (.tuple #[.pointer none, .iface 87 (.int .i64 1)]) ∧ w = w' := by
  go_enter Tryd.func8, Tryd.ntmps8
  go_wp2_with fail
  (try (go_at_call 29; refine (Rate_any _ _).mono ?_; rintro e w' ⟨rfl, rfl⟩; (try go_wp2_with fail)))
  go_ret2
  exact ⟨rfl, rfl⟩
theorem ClockAt.below {w w' : World} {g B : Nat} {T : TypeId} {c : CK} (h : ClockAt w g T c) (hb : Below B w w') (hg : g < B) : ClockAt w' g T c := Blk.below h hb hg
theorem ClockAt.set1 {w : World} {g : Nat} {T : TypeId} {c : CK} (h : ClockAt w g T c) (n : Int) : ClockAt (w.setCell ⟨g, 1, none⟩ (.int .i64 n)) g T { c with here := n } := (Blk.set h 1 _)
theorem ClockAt.set67 {w : World} {g : Nat} {T : TypeId} {c : CK} (h : ClockAt w g T c) (n : Int) : ClockAt ((w.setCell ⟨g, 6, none⟩ (.bool true)).setCell ⟨g, 7, none⟩ (.int .i64 n)) g T { c with told := true, last := n } := (Blk.set (Blk.set h 6 _) 7 _)
theorem clock_Step (g : Nat) (c : CK) (to : Int) (w : World) (hk : ClockAt w g 92 c) :
    Calls Tryd.prog 12 #[.pointer (some ⟨g, 0, none⟩), .int .i64 to] w fun e w' => e = .returned (errV (stepC c to)) ∧ ClockAt w' g 92 (stepK c to) ∧ Touched g w w' := by
  obtain ⟨k0, k1, k2, k3, k4, k5, k6, k7⟩ := hk.all
  have kf := fun o => Blk.fz hk o
  have H := Lib.hid hk
  clear hk
  by_cases c1 : to < 0
  · have s1 := Lib.hid (show stepC c to = 1 by unfold stepC; rw [if_pos (.inl c1)])
    have s2 := Lib.hid (show stepK c to = c by unfold stepK; rw [s1.out]; rfl)
    go_enter Tryd.func12, Tryd.ntmps12
    go_wp2_with fail
    go_ret
    exact ⟨by rw [s1.out]; rfl, by rw [s2.out]; exact H.out, Touched.refl _ _⟩
  by_cases c2 : 1000000000000 < to
  · have s1 := Lib.hid (show stepC c to = 1 by unfold stepC; rw [if_pos (.inr c2)])
    have s2 := Lib.hid (show stepK c to = c by unfold stepK; rw [s1.out]; rfl)
    go_enter Tryd.func12, Tryd.ntmps12
    go_wp2_with fail
    go_ret
    exact ⟨by rw [s1.out]; rfl, by rw [s2.out]; exact H.out, Touched.refl _ _⟩
  by_cases c3 : to < c.here
  · have s1 := Lib.hid (show stepC c to = 8 by unfold stepC; rw [if_neg (by omega), if_pos c3])
    have s2 := Lib.hid (show stepK c to = c by unfold stepK; rw [s1.out]; rfl)
    go_enter Tryd.func12, Tryd.ntmps12
    go_wp2_with fail
    go_ret
    exact ⟨by rw [s1.out]; rfl, by rw [s2.out]; exact H.out, Touched.refl _ _⟩
  · have s1 := Lib.hid (show stepC c to = 0 by unfold stepC; rw [if_neg (by omega), if_neg c3])
    have s2 := Lib.hid (show stepK c to = { c with here := to } by unfold stepK; rw [if_pos s1.out])
    go_enter Tryd.func12, Tryd.ntmps12
    go_wp2_with fail
    go_ret
    exact ⟨by rw [s1.out]; rfl, by rw [s2.out]; exact H.out.set1 _, (Touched.refl _ _).set _ _⟩
set_option maxHeartbeats 2000000 in
theorem clock_Now (g : Nat) (c : CK) (w : World) (hk : ClockAt w g 92 c) (ok : c.ok) :
    Calls Tryd.prog 14 #[.pointer (some ⟨g, 0, none⟩)] w fun e w' => e = .returned (.tuple #[.agg #[.int .i64 (nowS c).lo, .int .i64 (nowS c).hi], errV (nowS c).c]) ∧ Below w.heap.size w w' := by
  have hlt := Blk.lt hk
  obtain ⟨k0, k1, k2, k3, k4, k5, k6, k7⟩ := hk.all
  have H := Lib.hid hk
  have OK := Lib.hid ok
  clear hk
  obtain ⟨o1, o2, o3, o4, o5, o6, o7, o8, o9, o10⟩ := ok
  cases c0 : c.known
  · have hv := Lib.hid (show nowS c = ⟨0, 0, 6⟩ by unfold nowS; rw [if_neg (by simp [c0])])
    rw [hv.out]
    go_enter Tryd.func14, Tryd.ntmps14
    go_wp2_with fail
    refine bodyPost_ret (v := (.tuple #[.agg #[.int .i64 0, .int .i64 0], errV 6])) (by simp [results, Tryd.results14, go_sem, errV, okC, *]) rfl ⟨rfl, ?_⟩; exact (by repeat (first | with_reducible exact Below.refl _ _ | (with_reducible refine Below.alloc ?_ (by first | omega | (simp; done) | (simp; omega)) _) | (with_reducible refine Below.setCell ?_ (by first | omega | (simp; done) | (simp; omega)) _) | (with_reducible refine Below.drew ?_) | (with_reducible refine below_drewN ?_ _) | (with_reducible assumption) | (with_reducible refine bel_step (by with_reducible assumption) ?_ (by first | omega | (simp; done) | (simp; omega)))))
  · have hv := Lib.hid (show nowS c = whole (c.lo - agedN c + c.here) (c.hi + agedN c + c.here) by unfold nowS; rw [if_pos c0])
    rw [hv.out]
    obtain ⟨b1, b2⟩ := byP_bd (n := c.here - c.at_) (p := 2 * c.ppm) (by omega) (by omega) (by omega) (by omega)
    have a1 : 1 ≤ agedN c := by unfold agedN; omega
    have a2 : agedN c ≤ 6000000001 := by unfold agedN; omega
    clear b1 b2
    by_cases d : rightB (c.lo - agedN c + c.here) (c.hi + agedN c + c.here) = true
    · have hw := Lib.hid (show whole (c.lo - agedN c + c.here) (c.hi + agedN c + c.here) = ⟨c.lo - agedN c + c.here, c.hi + agedN c + c.here, 0⟩ by unfold whole; rw [if_pos d])
      rw [hw.out]
      go_enter Tryd.func14, Tryd.ntmps14
      go_wp2_with fail
      (try (go_at_call 38; refine (clock_aged _ _ _ (H.out.below (by repeat (first | with_reducible exact Below.refl _ _ | (with_reducible refine Below.alloc ?_ (by first | omega | (simp; done) | (simp; omega)) _) | (with_reducible refine Below.setCell ?_ (by first | omega | (simp; done) | (simp; omega)) _) | (with_reducible refine Below.drew ?_) | (with_reducible refine below_drewN ?_ _) | (with_reducible assumption) | (with_reducible refine bel_step (by with_reducible assumption) ?_ (by first | omega | (simp; done) | (simp; omega))))) hlt) OK.out).mono ?_; rintro e w1 ⟨rfl, hb1⟩; obtain ⟨hc1, hf1⟩ := bcell hb1; have hz1 := hb1.size; (try simp at hz1); (try have q1_0_0_0 : w.heap.size < w1.heap.size := by omega); (try have q1_0_0_2 : w.heap.size < w1.heap.size + 1 + 1 := by omega); (try have q1_0_0_3 : w.heap.size < w1.heap.size + 1 + 1 + 1 := by omega); (try have q1_0_1_0 : w.heap.size + 1 < w1.heap.size := by omega); (try have q1_0_1_2 : w.heap.size + 1 < w1.heap.size + 1 + 1 := by omega); (try have q1_0_1_3 : w.heap.size + 1 < w1.heap.size + 1 + 1 + 1 := by omega); (try have q1_0_2_0 : w.heap.size + 1 + 1 < w1.heap.size := by omega); (try have q1_0_2_2 : w.heap.size + 1 + 1 < w1.heap.size + 1 + 1 := by omega); (try have q1_0_2_3 : w.heap.size + 1 + 1 < w1.heap.size + 1 + 1 + 1 := by omega); (try have q1_0_3_0 : w.heap.size + 1 + 1 + 1 < w1.heap.size := by omega); (try have q1_0_3_2 : w.heap.size + 1 + 1 + 1 < w1.heap.size + 1 + 1 := by omega); (try have q1_0_3_3 : w.heap.size + 1 + 1 + 1 < w1.heap.size + 1 + 1 + 1 := by omega); (try go_wp2_with fail)))
      have hB1 : Below w.heap.size w w1 := bel_step hb1 (by repeat (first | with_reducible exact Below.refl _ _ | (with_reducible refine Below.alloc ?_ (by first | omega | (simp; done) | (simp; omega)) _) | (with_reducible refine Below.setCell ?_ (by first | omega | (simp; done) | (simp; omega)) _) | (with_reducible refine Below.drew ?_) | (with_reducible refine below_drewN ?_ _) | (with_reducible assumption) | (with_reducible refine bel_step (by with_reducible assumption) ?_ (by first | omega | (simp; done) | (simp; omega))))) (by simp)
      have H1 := H.out.below hB1 hlt
      have gl := Blk.lt H1
      have n1 : w.heap.size < w1.heap.size + 1 := by omega
      obtain ⟨m0, m1, m2, m3, m4, m5, m6, m7⟩ := H1.all
      clear H1
      go_region
      all_goals go_wp2_with fail
      all_goals go_region
      all_goals go_wp2_with fail
      all_goals (try (go_at_call 39; refine (Right_any _ _ _).mono ?_; rintro e w2 ⟨rfl, hb2⟩; obtain ⟨hc2, hf2⟩ := bcell hb2; have hz2 := hb2.size; (try simp at hz2); (try have q2_0_0_0 : w.heap.size < w2.heap.size := by omega); (try have q2_0_0_2 : w.heap.size < w2.heap.size + 1 + 1 := by omega); (try have q2_0_0_3 : w.heap.size < w2.heap.size + 1 + 1 + 1 := by omega); (try have q2_0_1_0 : w.heap.size + 1 < w2.heap.size := by omega); (try have q2_0_1_2 : w.heap.size + 1 < w2.heap.size + 1 + 1 := by omega); (try have q2_0_1_3 : w.heap.size + 1 < w2.heap.size + 1 + 1 + 1 := by omega); (try have q2_0_2_0 : w.heap.size + 1 + 1 < w2.heap.size := by omega); (try have q2_0_2_2 : w.heap.size + 1 + 1 < w2.heap.size + 1 + 1 := by omega); (try have q2_0_2_3 : w.heap.size + 1 + 1 < w2.heap.size + 1 + 1 + 1 := by omega); (try have q2_0_3_0 : w.heap.size + 1 + 1 + 1 < w2.heap.size := by omega); (try have q2_0_3_2 : w.heap.size + 1 + 1 + 1 < w2.heap.size + 1 + 1 := by omega); (try have q2_0_3_3 : w.heap.size + 1 + 1 + 1 < w2.heap.size + 1 + 1 + 1 := by omega); (try have q2_1_0_0 : w1.heap.size < w2.heap.size := by omega); (try have q2_1_0_2 : w1.heap.size < w2.heap.size + 1 + 1 := by omega); (try have q2_1_1_0 : w1.heap.size + 1 < w2.heap.size := by omega); (try have q2_1_1_2 : w1.heap.size + 1 < w2.heap.size + 1 + 1 := by omega); (try go_wp2_with fail)))
      all_goals (refine bodyPost_ret (v := (.tuple #[.agg #[.int .i64 (c.lo - agedN c + c.here), .int .i64 (c.hi + agedN c + c.here)], errV 0])) (by simp [results, Tryd.results14, go_sem, errV, okC, *]) rfl ⟨rfl, ?_⟩; exact (by repeat (first | with_reducible exact Below.refl _ _ | (with_reducible refine Below.alloc ?_ (by first | omega | (simp; done) | (simp; omega)) _) | (with_reducible refine Below.setCell ?_ (by first | omega | (simp; done) | (simp; omega)) _) | (with_reducible refine Below.drew ?_) | (with_reducible refine below_drewN ?_ _) | (with_reducible assumption) | (with_reducible refine bel_step (by with_reducible assumption) ?_ (by first | omega | (simp; done) | (simp; omega))))))
    · have hw := Lib.hid (show whole (c.lo - agedN c + c.here) (c.hi + agedN c + c.here) = ⟨0, 0, 1⟩ by unfold whole; rw [if_neg d])
      rw [hw.out]
      go_enter Tryd.func14, Tryd.ntmps14
      go_wp2_with fail
      (try (go_at_call 38; refine (clock_aged _ _ _ (H.out.below (by repeat (first | with_reducible exact Below.refl _ _ | (with_reducible refine Below.alloc ?_ (by first | omega | (simp; done) | (simp; omega)) _) | (with_reducible refine Below.setCell ?_ (by first | omega | (simp; done) | (simp; omega)) _) | (with_reducible refine Below.drew ?_) | (with_reducible refine below_drewN ?_ _) | (with_reducible assumption) | (with_reducible refine bel_step (by with_reducible assumption) ?_ (by first | omega | (simp; done) | (simp; omega))))) hlt) OK.out).mono ?_; rintro e w1 ⟨rfl, hb1⟩; obtain ⟨hc1, hf1⟩ := bcell hb1; have hz1 := hb1.size; (try simp at hz1); (try have q1_0_0_0 : w.heap.size < w1.heap.size := by omega); (try have q1_0_0_2 : w.heap.size < w1.heap.size + 1 + 1 := by omega); (try have q1_0_0_3 : w.heap.size < w1.heap.size + 1 + 1 + 1 := by omega); (try have q1_0_1_0 : w.heap.size + 1 < w1.heap.size := by omega); (try have q1_0_1_2 : w.heap.size + 1 < w1.heap.size + 1 + 1 := by omega); (try have q1_0_1_3 : w.heap.size + 1 < w1.heap.size + 1 + 1 + 1 := by omega); (try have q1_0_2_0 : w.heap.size + 1 + 1 < w1.heap.size := by omega); (try have q1_0_2_2 : w.heap.size + 1 + 1 < w1.heap.size + 1 + 1 := by omega); (try have q1_0_2_3 : w.heap.size + 1 + 1 < w1.heap.size + 1 + 1 + 1 := by omega); (try have q1_0_3_0 : w.heap.size + 1 + 1 + 1 < w1.heap.size := by omega); (try have q1_0_3_2 : w.heap.size + 1 + 1 + 1 < w1.heap.size + 1 + 1 := by omega); (try have q1_0_3_3 : w.heap.size + 1 + 1 + 1 < w1.heap.size + 1 + 1 + 1 := by omega); (try go_wp2_with fail)))
      have hB1 : Below w.heap.size w w1 := bel_step hb1 (by repeat (first | with_reducible exact Below.refl _ _ | (with_reducible refine Below.alloc ?_ (by first | omega | (simp; done) | (simp; omega)) _) | (with_reducible refine Below.setCell ?_ (by first | omega | (simp; done) | (simp; omega)) _) | (with_reducible refine Below.drew ?_) | (with_reducible refine below_drewN ?_ _) | (with_reducible assumption) | (with_reducible refine bel_step (by with_reducible assumption) ?_ (by first | omega | (simp; done) | (simp; omega))))) (by simp)
      have H1 := H.out.below hB1 hlt
      have gl := Blk.lt H1
      have n1 : w.heap.size < w1.heap.size + 1 := by omega
      obtain ⟨m0, m1, m2, m3, m4, m5, m6, m7⟩ := H1.all
      clear H1
      go_region
      all_goals go_wp2_with fail
      all_goals go_region
      all_goals go_wp2_with fail
      all_goals (try (go_at_call 39; refine (Right_any _ _ _).mono ?_; rintro e w2 ⟨rfl, hb2⟩; obtain ⟨hc2, hf2⟩ := bcell hb2; have hz2 := hb2.size; (try simp at hz2); (try have q2_0_0_0 : w.heap.size < w2.heap.size := by omega); (try have q2_0_0_2 : w.heap.size < w2.heap.size + 1 + 1 := by omega); (try have q2_0_0_3 : w.heap.size < w2.heap.size + 1 + 1 + 1 := by omega); (try have q2_0_1_0 : w.heap.size + 1 < w2.heap.size := by omega); (try have q2_0_1_2 : w.heap.size + 1 < w2.heap.size + 1 + 1 := by omega); (try have q2_0_1_3 : w.heap.size + 1 < w2.heap.size + 1 + 1 + 1 := by omega); (try have q2_0_2_0 : w.heap.size + 1 + 1 < w2.heap.size := by omega); (try have q2_0_2_2 : w.heap.size + 1 + 1 < w2.heap.size + 1 + 1 := by omega); (try have q2_0_2_3 : w.heap.size + 1 + 1 < w2.heap.size + 1 + 1 + 1 := by omega); (try have q2_0_3_0 : w.heap.size + 1 + 1 + 1 < w2.heap.size := by omega); (try have q2_0_3_2 : w.heap.size + 1 + 1 + 1 < w2.heap.size + 1 + 1 := by omega); (try have q2_0_3_3 : w.heap.size + 1 + 1 + 1 < w2.heap.size + 1 + 1 + 1 := by omega); (try have q2_1_0_0 : w1.heap.size < w2.heap.size := by omega); (try have q2_1_0_2 : w1.heap.size < w2.heap.size + 1 + 1 := by omega); (try have q2_1_1_0 : w1.heap.size + 1 < w2.heap.size := by omega); (try have q2_1_1_2 : w1.heap.size + 1 < w2.heap.size + 1 + 1 := by omega); (try go_wp2_with fail)))
      all_goals (refine bodyPost_ret (v := (.tuple #[.agg #[.int .i64 0, .int .i64 0], errV 1])) (by simp [results, Tryd.results14, go_sem, errV, okC, *]) rfl ⟨rfl, ?_⟩; exact (by repeat (first | with_reducible exact Below.refl _ _ | (with_reducible refine Below.alloc ?_ (by first | omega | (simp; done) | (simp; omega)) _) | (with_reducible refine Below.setCell ?_ (by first | omega | (simp; done) | (simp; omega)) _) | (with_reducible refine Below.drew ?_) | (with_reducible refine below_drewN ?_ _) | (with_reducible assumption) | (with_reducible refine bel_step (by with_reducible assumption) ?_ (by first | omega | (simp; done) | (simp; omega))))))
theorem ClockAt.setL {w W : World} {g : Nat} {T : TypeId} {c : CK} (h : ClockAt w g T c) (hB : Below w.heap.size w W) (hlt : g < w.heap.size) (lo hi : Int) :
    ClockAt (((((W.setCell ⟨g, 2, none⟩ (.bool true)).setCell ⟨g, 3, none⟩ (.int .i64 lo)).setCell ⟨g, 4, none⟩ (.int .i64 hi)).setCell ⟨g, 5, none⟩ (.int .i64 c.here)).drew) g T { c with known := true, lo := lo, hi := hi, at_ := c.here } :=
  Blk.drew (Blk.set (Blk.set (Blk.set (Blk.set (Blk.below h hB hlt) 2 _) 3 _) 4 _) 5 _)
theorem ClockAt.setLa {w W : World} {g : Nat} {T : TypeId} {c : CK} {o : Obj} (h : ClockAt w g T c) (hB : Below w.heap.size w W) (hlt : g < w.heap.size) (lo hi : Int) :
    ClockAt ((((((W.setCell ⟨g, 2, none⟩ (.bool true)).setCell ⟨g, 3, none⟩ (.int .i64 lo)).setCell ⟨g, 4, none⟩ (.int .i64 hi)).setCell ⟨g, 5, none⟩ (.int .i64 c.here)).alloc o).drew) g T { c with known := true, lo := lo, hi := hi, at_ := c.here } :=
  Blk.drew (Blk.alloc (Blk.set (Blk.set (Blk.set (Blk.set (Blk.below h hB hlt) 2 _) 3 _) 4 _) 5 _) o)
set_option maxHeartbeats 4000000 in
theorem clock_Learn_u (g : Nat) (c : CK) (lo hi : Int) (w : World) (hk : ClockAt w g 92 c) (ok : c.ok) (r : rightB lo hi = true) (c0 : c.known = false) :
    Calls Tryd.prog 13 #[.pointer (some ⟨g, 0, none⟩), .agg #[.int .i64 lo, .int .i64 hi]] w fun e w' => e = .returned (errV (learnC c lo hi)) ∧ ClockAt w' g 92 (learnK c lo hi) ∧ Touched g w w' := by
  have hlt := Blk.lt hk
  obtain ⟨k0, k1, k2, k3, k4, k5, k6, k7⟩ := hk.all
  have kf := fun o => Blk.fz hk o
  have H := Lib.hid hk
  have OK := Lib.hid ok
  clear hk
  obtain ⟨o1, o2, o3, o4, o5, o6, o7, o8, o9, o10⟩ := ok
  obtain ⟨r1, r2, r3⟩ := rightB_iff.1 r
  have s1 := Lib.hid (show learnC c lo hi = 0 by simp [learnC, r, c0])
  have s2 := Lib.hid (show learnK c lo hi = { c with known := true, lo := lo, hi := hi, at_ := c.here } by simp [learnK, s1.out, c0])
  go_enter Tryd.func13, Tryd.ntmps13
  go_wp2_with fail
  (try (go_at_call 36; refine (span_Check _ _ _).mono ?_; rintro e w1 ⟨rfl, hb1⟩; obtain ⟨hc1, hf1⟩ := bcell hb1; have hz1 := hb1.size; (try simp at hz1); (try have q1_0_0_0 : w.heap.size < w1.heap.size := by omega); (try have q1_0_0_2 : w.heap.size < w1.heap.size + 1 + 1 := by omega); (try have q1_0_0_3 : w.heap.size < w1.heap.size + 1 + 1 + 1 := by omega); (try have q1_0_1_0 : w.heap.size + 1 < w1.heap.size := by omega); (try have q1_0_1_2 : w.heap.size + 1 < w1.heap.size + 1 + 1 := by omega); (try have q1_0_1_3 : w.heap.size + 1 < w1.heap.size + 1 + 1 + 1 := by omega); (try have q1_0_2_0 : w.heap.size + 1 + 1 < w1.heap.size := by omega); (try have q1_0_2_2 : w.heap.size + 1 + 1 < w1.heap.size + 1 + 1 := by omega); (try have q1_0_2_3 : w.heap.size + 1 + 1 < w1.heap.size + 1 + 1 + 1 := by omega); (try have q1_0_3_0 : w.heap.size + 1 + 1 + 1 < w1.heap.size := by omega); (try have q1_0_3_2 : w.heap.size + 1 + 1 + 1 < w1.heap.size + 1 + 1 := by omega); (try have q1_0_3_3 : w.heap.size + 1 + 1 + 1 < w1.heap.size + 1 + 1 + 1 := by omega); (try go_wp2_with fail)))
  have hB1 : Below w.heap.size w w1 := bel_step hb1 (by repeat (first | with_reducible exact Below.refl _ _ | (with_reducible refine Below.alloc ?_ (by first | omega | (simp; done) | (simp; omega)) _) | (with_reducible refine Below.setCell ?_ (by first | omega | (simp; done) | (simp; omega)) _) | (with_reducible refine Below.drew ?_) | (with_reducible refine below_drewN ?_ _) | (with_reducible assumption) | (with_reducible refine bel_step (by with_reducible assumption) ?_ (by first | omega | (simp; done) | (simp; omega))))) (by simp)
  have H1 := H.out.below hB1 hlt
  have gl := Blk.lt H1
  obtain ⟨m0, m1, m2, m3, m4, m5, m6, m7⟩ := H1.all
  have mf := fun o => Blk.fz H1 o
  clear H1
  go_region
  all_goals go_wp2_with fail
  go_ret
  rw [s1.out, s2.out]
  exact ⟨rfl, H.out.setL hB1 hlt lo hi, (by repeat (first | with_reducible exact Touched.refl _ _ | (with_reducible refine Touched.alloc ?_ _) | (with_reducible refine Touched.setp ?_ _ (by first | exact .inl rfl | (right; first | omega | (simp; done) | (simp; omega))) _) | (with_reducible refine Touched.drew ?_) | (with_reducible refine Touched.drewN ?_ _) | (with_reducible assumption) | (with_reducible refine Touched.then (by with_reducible assumption) ?_)))⟩
set_option maxHeartbeats 4000000 in
theorem clock_Learn_7 (g : Nat) (c : CK) (lo hi : Int) (w : World) (hk : ClockAt w g 92 c) (ok : c.ok) (r : rightB lo hi = true) (c0 : c.known = true) (d : rightB (c.lo - agedN c + c.here) (c.hi + agedN c + c.here) = true) (e1 : commonB (c.lo - agedN c) (c.hi + agedN c) lo hi = false) :
    Calls Tryd.prog 13 #[.pointer (some ⟨g, 0, none⟩), .agg #[.int .i64 lo, .int .i64 hi]] w fun e w' => e = .returned (errV (learnC c lo hi)) ∧ ClockAt w' g 92 (learnK c lo hi) ∧ Touched g w w' := by
  have hlt := Blk.lt hk
  obtain ⟨k0, k1, k2, k3, k4, k5, k6, k7⟩ := hk.all
  have kf := fun o => Blk.fz hk o
  have H := Lib.hid hk
  have OK := Lib.hid ok
  clear hk
  obtain ⟨o1, o2, o3, o4, o5, o6, o7, o8, o9, o10⟩ := ok
  obtain ⟨r1, r2, r3⟩ := rightB_iff.1 r
  obtain ⟨b1, b2⟩ := byP_bd (n := c.here - c.at_) (p := 2 * c.ppm) (by omega) (by omega) (by omega) (by omega)
  have a1 : 1 ≤ agedN c := by unfold agedN; omega
  have a2 : agedN c ≤ 6000000001 := by unfold agedN; omega
  clear b1 b2
  have n0 : nowS c = ⟨c.lo - agedN c + c.here, c.hi + agedN c + c.here, 0⟩ := by simp [nowS, c0, whole, d]
  have s1 := Lib.hid (show learnC c lo hi = 7 by simp [learnC, r, c0, n0, e1])
  have s2 := Lib.hid (show learnK c lo hi = c by simp [learnK, s1.out, c0])
  go_enter Tryd.func13, Tryd.ntmps13
  go_wp2_with fail
  (try (go_at_call 36; refine (span_Check _ _ _).mono ?_; rintro e w1 ⟨rfl, hb1⟩; obtain ⟨hc1, hf1⟩ := bcell hb1; have hz1 := hb1.size; (try simp at hz1); (try have q1_0_0_0 : w.heap.size < w1.heap.size := by omega); (try have q1_0_0_2 : w.heap.size < w1.heap.size + 1 + 1 := by omega); (try have q1_0_0_3 : w.heap.size < w1.heap.size + 1 + 1 + 1 := by omega); (try have q1_0_1_0 : w.heap.size + 1 < w1.heap.size := by omega); (try have q1_0_1_2 : w.heap.size + 1 < w1.heap.size + 1 + 1 := by omega); (try have q1_0_1_3 : w.heap.size + 1 < w1.heap.size + 1 + 1 + 1 := by omega); (try have q1_0_2_0 : w.heap.size + 1 + 1 < w1.heap.size := by omega); (try have q1_0_2_2 : w.heap.size + 1 + 1 < w1.heap.size + 1 + 1 := by omega); (try have q1_0_2_3 : w.heap.size + 1 + 1 < w1.heap.size + 1 + 1 + 1 := by omega); (try have q1_0_3_0 : w.heap.size + 1 + 1 + 1 < w1.heap.size := by omega); (try have q1_0_3_2 : w.heap.size + 1 + 1 + 1 < w1.heap.size + 1 + 1 := by omega); (try have q1_0_3_3 : w.heap.size + 1 + 1 + 1 < w1.heap.size + 1 + 1 + 1 := by omega); (try go_wp2_with fail)))
  have hB1 : Below w.heap.size w w1 := bel_step hb1 (by repeat (first | with_reducible exact Below.refl _ _ | (with_reducible refine Below.alloc ?_ (by first | omega | (simp; done) | (simp; omega)) _) | (with_reducible refine Below.setCell ?_ (by first | omega | (simp; done) | (simp; omega)) _) | (with_reducible refine Below.drew ?_) | (with_reducible refine below_drewN ?_ _) | (with_reducible assumption) | (with_reducible refine bel_step (by with_reducible assumption) ?_ (by first | omega | (simp; done) | (simp; omega))))) (by simp)
  (try (go_at_call 14; refine (clock_Now _ _ _ (H.out.below hB1 hlt) OK.out).mono ?_; rintro e w2 ⟨rfl, hb2⟩; obtain ⟨hc2, hf2⟩ := bcell hb2; have hz2 := hb2.size; (try simp at hz2); (try have q2_0_0_0 : w.heap.size < w2.heap.size := by omega); (try have q2_0_0_2 : w.heap.size < w2.heap.size + 1 + 1 := by omega); (try have q2_0_0_3 : w.heap.size < w2.heap.size + 1 + 1 + 1 := by omega); (try have q2_0_1_0 : w.heap.size + 1 < w2.heap.size := by omega); (try have q2_0_1_2 : w.heap.size + 1 < w2.heap.size + 1 + 1 := by omega); (try have q2_0_1_3 : w.heap.size + 1 < w2.heap.size + 1 + 1 + 1 := by omega); (try have q2_0_2_0 : w.heap.size + 1 + 1 < w2.heap.size := by omega); (try have q2_0_2_2 : w.heap.size + 1 + 1 < w2.heap.size + 1 + 1 := by omega); (try have q2_0_2_3 : w.heap.size + 1 + 1 < w2.heap.size + 1 + 1 + 1 := by omega); (try have q2_0_3_0 : w.heap.size + 1 + 1 + 1 < w2.heap.size := by omega); (try have q2_0_3_2 : w.heap.size + 1 + 1 + 1 < w2.heap.size + 1 + 1 := by omega); (try have q2_0_3_3 : w.heap.size + 1 + 1 + 1 < w2.heap.size + 1 + 1 + 1 := by omega); (try have q2_1_0_0 : w1.heap.size < w2.heap.size := by omega); (try have q2_1_0_2 : w1.heap.size < w2.heap.size + 1 + 1 := by omega); (try have q2_1_1_0 : w1.heap.size + 1 < w2.heap.size := by omega); (try have q2_1_1_2 : w1.heap.size + 1 < w2.heap.size + 1 + 1 := by omega); (try go_wp2_with fail)))
  have hB2 : Below w.heap.size w w2 := bel_step hb2 (by repeat (first | with_reducible exact Below.refl _ _ | (with_reducible refine Below.alloc ?_ (by first | omega | (simp; done) | (simp; omega)) _) | (with_reducible refine Below.setCell ?_ (by first | omega | (simp; done) | (simp; omega)) _) | (with_reducible refine Below.drew ?_) | (with_reducible refine below_drewN ?_ _) | (with_reducible assumption) | (with_reducible refine bel_step (by with_reducible assumption) ?_ (by first | omega | (simp; done) | (simp; omega))))) (by omega)
  have H2 := H.out.below hB2 hlt
  have gl := Blk.lt H2
  obtain ⟨m0, m1, m2, m3, m4, m5, m6, m7⟩ := H2.all
  have mf := fun o => Blk.fz H2 o
  clear H2
  have p0 : w2.cell? ⟨w.heap.size, 0, none⟩ = some (.int .i64 lo) := by rw [hc2 _ _ (by first | omega | (simp; done) | (simp; omega)), hc1 _ _ (by first | omega | (simp; done) | (simp; omega))]; simp
  have p1 : w2.cell? ⟨w.heap.size, 1, none⟩ = some (.int .i64 hi) := by rw [hc2 _ _ (by first | omega | (simp; done) | (simp; omega)), hc1 _ _ (by first | omega | (simp; done) | (simp; omega))]; simp
  have q1 : w.heap.size < w2.heap.size + 1 := by omega
  have q2 : w.heap.size < w2.heap.size := by omega
  have q3 : g < w2.heap.size + 1 := by omega
  go_region_held3 (fun w' => w'.cell? ⟨w.heap.size, 0, none⟩ = some (.int .i64 lo) ∧ w'.cell? ⟨w.heap.size, 1, none⟩ = some (.int .i64 hi)) ((repeat' apply And.intro) <;> exact (Below.cell (B := (w2).heap.size) (w := w2) (by repeat (first | with_reducible exact Below.refl _ _ | (with_reducible refine Below.alloc ?_ (by first | omega | (simp; done) | (simp; omega)) _) | (with_reducible refine Below.setCell ?_ (by first | omega | (simp; done) | (simp; omega)) _) | (with_reducible refine Below.drew ?_) | (with_reducible refine below_drewN ?_ _) | (with_reducible assumption) | (with_reducible refine bel_step (by with_reducible assumption) ?_ (by first | omega | (simp; done) | (simp; omega))))) (by first | omega | (simp; done) | (simp; omega))).trans (by assumption))
    (first | (go_at_call 38; refine (clock_aged _ _ _ (H.out.below (by repeat (first | with_reducible exact Below.refl _ _ | (with_reducible refine Below.alloc ?_ (by first | omega | (simp; done) | (simp; omega)) _) | (with_reducible refine Below.setCell ?_ (by first | omega | (simp; done) | (simp; omega)) _) | (with_reducible refine Below.drew ?_) | (with_reducible refine below_drewN ?_ _) | (with_reducible assumption) | (with_reducible refine bel_step (by with_reducible assumption) ?_ (by first | omega | (simp; done) | (simp; omega))))) hlt) OK.out).mono ?_; rintro e w3 ⟨rfl, hb3⟩; obtain ⟨hc3, hf3⟩ := bcell hb3; have hz3 := hb3.size; (try simp at hz3); (try have q3_0_0_0 : w.heap.size < w3.heap.size := by omega); (try have q3_0_0_2 : w.heap.size < w3.heap.size + 1 + 1 := by omega); (try have q3_0_0_3 : w.heap.size < w3.heap.size + 1 + 1 + 1 := by omega); (try have q3_0_1_0 : w.heap.size + 1 < w3.heap.size := by omega); (try have q3_0_1_2 : w.heap.size + 1 < w3.heap.size + 1 + 1 := by omega); (try have q3_0_1_3 : w.heap.size + 1 < w3.heap.size + 1 + 1 + 1 := by omega); (try have q3_0_2_0 : w.heap.size + 1 + 1 < w3.heap.size := by omega); (try have q3_0_2_2 : w.heap.size + 1 + 1 < w3.heap.size + 1 + 1 := by omega); (try have q3_0_2_3 : w.heap.size + 1 + 1 < w3.heap.size + 1 + 1 + 1 := by omega); (try have q3_0_3_0 : w.heap.size + 1 + 1 + 1 < w3.heap.size := by omega); (try have q3_0_3_2 : w.heap.size + 1 + 1 + 1 < w3.heap.size + 1 + 1 := by omega); (try have q3_0_3_3 : w.heap.size + 1 + 1 + 1 < w3.heap.size + 1 + 1 + 1 := by omega); (try have q3_1_0_0 : w1.heap.size < w3.heap.size := by omega); (try have q3_1_0_2 : w1.heap.size < w3.heap.size + 1 + 1 := by omega); (try have q3_1_1_0 : w1.heap.size + 1 < w3.heap.size := by omega); (try have q3_1_1_2 : w1.heap.size + 1 < w3.heap.size + 1 + 1 := by omega); (try have q3_2_0_0 : w2.heap.size < w3.heap.size := by omega); (try have q3_2_0_2 : w2.heap.size < w3.heap.size + 1 + 1 := by omega); (try have q3_2_1_0 : w2.heap.size + 1 < w3.heap.size := by omega); (try have q3_2_1_2 : w2.heap.size + 1 < w3.heap.size + 1 + 1 := by omega)) | (go_at_call 37; refine (Common_any _ _ _ _ _).mono ?_; rintro e w4 ⟨rfl, hb4⟩; obtain ⟨hc4, hf4⟩ := bcell hb4; have hz4 := hb4.size; (try simp at hz4); (try have q4_0_0_0 : w.heap.size < w4.heap.size := by omega); (try have q4_0_0_2 : w.heap.size < w4.heap.size + 1 + 1 := by omega); (try have q4_0_0_3 : w.heap.size < w4.heap.size + 1 + 1 + 1 := by omega); (try have q4_0_1_0 : w.heap.size + 1 < w4.heap.size := by omega); (try have q4_0_1_2 : w.heap.size + 1 < w4.heap.size + 1 + 1 := by omega); (try have q4_0_1_3 : w.heap.size + 1 < w4.heap.size + 1 + 1 + 1 := by omega); (try have q4_0_2_0 : w.heap.size + 1 + 1 < w4.heap.size := by omega); (try have q4_0_2_2 : w.heap.size + 1 + 1 < w4.heap.size + 1 + 1 := by omega); (try have q4_0_2_3 : w.heap.size + 1 + 1 < w4.heap.size + 1 + 1 + 1 := by omega); (try have q4_0_3_0 : w.heap.size + 1 + 1 + 1 < w4.heap.size := by omega); (try have q4_0_3_2 : w.heap.size + 1 + 1 + 1 < w4.heap.size + 1 + 1 := by omega); (try have q4_0_3_3 : w.heap.size + 1 + 1 + 1 < w4.heap.size + 1 + 1 + 1 := by omega); (try have q4_1_0_0 : w1.heap.size < w4.heap.size := by omega); (try have q4_1_0_2 : w1.heap.size < w4.heap.size + 1 + 1 := by omega); (try have q4_1_1_0 : w1.heap.size + 1 < w4.heap.size := by omega); (try have q4_1_1_2 : w1.heap.size + 1 < w4.heap.size + 1 + 1 := by omega); (try have q4_2_0_0 : w2.heap.size < w4.heap.size := by omega); (try have q4_2_0_2 : w2.heap.size < w4.heap.size + 1 + 1 := by omega); (try have q4_2_1_0 : w2.heap.size + 1 < w4.heap.size := by omega); (try have q4_2_1_2 : w2.heap.size + 1 < w4.heap.size + 1 + 1 := by omega); (try have q4_3_0_0 : w3.heap.size < w4.heap.size := by omega); (try have q4_3_0_2 : w3.heap.size < w4.heap.size + 1 + 1 := by omega); (try have q4_3_1_0 : w3.heap.size + 1 < w4.heap.size := by omega); (try have q4_3_1_2 : w3.heap.size + 1 < w4.heap.size + 1 + 1 := by omega)))
  all_goals
    have hB4 : Below w.heap.size w w4 := bel_step hb4 (by repeat (first | with_reducible exact Below.refl _ _ | (with_reducible refine Below.alloc ?_ (by first | omega | (simp; done) | (simp; omega)) _) | (with_reducible refine Below.setCell ?_ (by first | omega | (simp; done) | (simp; omega)) _) | (with_reducible refine Below.drew ?_) | (with_reducible refine below_drewN ?_ _) | (with_reducible assumption) | (with_reducible refine bel_step (by with_reducible assumption) ?_ (by first | omega | (simp; done) | (simp; omega))))) (by first | omega | (simp; omega))
    have hB24 : Below w2.heap.size w2 w4 := bel_step hb4 (by repeat (first | with_reducible exact Below.refl _ _ | (with_reducible refine Below.alloc ?_ (by first | omega | (simp; done) | (simp; omega)) _) | (with_reducible refine Below.setCell ?_ (by first | omega | (simp; done) | (simp; omega)) _) | (with_reducible refine Below.drew ?_) | (with_reducible refine below_drewN ?_ _) | (with_reducible assumption) | (with_reducible refine bel_step (by with_reducible assumption) ?_ (by first | omega | (simp; done) | (simp; omega))))) (by first | omega | (simp; omega))
    go_wp2_with fail
    go_ret
    rw [s1.out, s2.out]
    exact ⟨rfl, H.out.below (by repeat (first | with_reducible exact Below.refl _ _ | (with_reducible refine Below.alloc ?_ (by first | omega | (simp; done) | (simp; omega)) _) | (with_reducible refine Below.setCell ?_ (by first | omega | (simp; done) | (simp; omega)) _) | (with_reducible refine Below.drew ?_) | (with_reducible refine below_drewN ?_ _) | (with_reducible assumption) | (with_reducible refine bel_step (by with_reducible assumption) ?_ (by first | omega | (simp; done) | (simp; omega))))) hlt, (by repeat (first | with_reducible exact Touched.refl _ _ | (with_reducible refine Touched.alloc ?_ _) | (with_reducible refine Touched.setp ?_ _ (by first | exact .inl rfl | (right; first | omega | (simp; done) | (simp; omega))) _) | (with_reducible refine Touched.drew ?_) | (with_reducible refine Touched.drewN ?_ _) | (with_reducible assumption) | (with_reducible refine Touched.then (by with_reducible assumption) ?_)))⟩
set_option maxHeartbeats 4000000 in
theorem clock_Learn_0 (g : Nat) (c : CK) (lo hi : Int) (w : World) (hk : ClockAt w g 92 c) (ok : c.ok) (r : rightB lo hi = true) (c0 : c.known = true) (d : rightB (c.lo - agedN c + c.here) (c.hi + agedN c + c.here) = true) (e1 : commonB (c.lo - agedN c) (c.hi + agedN c) lo hi = true) :
    Calls Tryd.prog 13 #[.pointer (some ⟨g, 0, none⟩), .agg #[.int .i64 lo, .int .i64 hi]] w fun e w' => e = .returned (errV (learnC c lo hi)) ∧ ClockAt w' g 92 (learnK c lo hi) ∧ Touched g w w' := by
  have hlt := Blk.lt hk
  obtain ⟨k0, k1, k2, k3, k4, k5, k6, k7⟩ := hk.all
  have kf := fun o => Blk.fz hk o
  have H := Lib.hid hk
  have OK := Lib.hid ok
  clear hk
  obtain ⟨o1, o2, o3, o4, o5, o6, o7, o8, o9, o10⟩ := ok
  obtain ⟨r1, r2, r3⟩ := rightB_iff.1 r
  obtain ⟨b1, b2⟩ := byP_bd (n := c.here - c.at_) (p := 2 * c.ppm) (by omega) (by omega) (by omega) (by omega)
  have a1 : 1 ≤ agedN c := by unfold agedN; omega
  have a2 : agedN c ≤ 6000000001 := by unfold agedN; omega
  clear b1 b2
  have n0 : nowS c = ⟨c.lo - agedN c + c.here, c.hi + agedN c + c.here, 0⟩ := by simp [nowS, c0, whole, d]
  have s1 := Lib.hid (show learnC c lo hi = 0 by simp [learnC, r, c0, n0, e1])
  have s2 := Lib.hid (show learnK c lo hi = { c with known := true, lo := max (c.lo - agedN c) lo, hi := min (c.hi + agedN c) hi, at_ := c.here } by simp [learnK, s1.out, c0])
  go_enter Tryd.func13, Tryd.ntmps13
  go_wp2_with fail
  (try (go_at_call 36; refine (span_Check _ _ _).mono ?_; rintro e w1 ⟨rfl, hb1⟩; obtain ⟨hc1, hf1⟩ := bcell hb1; have hz1 := hb1.size; (try simp at hz1); (try have q1_0_0_0 : w.heap.size < w1.heap.size := by omega); (try have q1_0_0_2 : w.heap.size < w1.heap.size + 1 + 1 := by omega); (try have q1_0_0_3 : w.heap.size < w1.heap.size + 1 + 1 + 1 := by omega); (try have q1_0_1_0 : w.heap.size + 1 < w1.heap.size := by omega); (try have q1_0_1_2 : w.heap.size + 1 < w1.heap.size + 1 + 1 := by omega); (try have q1_0_1_3 : w.heap.size + 1 < w1.heap.size + 1 + 1 + 1 := by omega); (try have q1_0_2_0 : w.heap.size + 1 + 1 < w1.heap.size := by omega); (try have q1_0_2_2 : w.heap.size + 1 + 1 < w1.heap.size + 1 + 1 := by omega); (try have q1_0_2_3 : w.heap.size + 1 + 1 < w1.heap.size + 1 + 1 + 1 := by omega); (try have q1_0_3_0 : w.heap.size + 1 + 1 + 1 < w1.heap.size := by omega); (try have q1_0_3_2 : w.heap.size + 1 + 1 + 1 < w1.heap.size + 1 + 1 := by omega); (try have q1_0_3_3 : w.heap.size + 1 + 1 + 1 < w1.heap.size + 1 + 1 + 1 := by omega); (try go_wp2_with fail)))
  have hB1 : Below w.heap.size w w1 := bel_step hb1 (by repeat (first | with_reducible exact Below.refl _ _ | (with_reducible refine Below.alloc ?_ (by first | omega | (simp; done) | (simp; omega)) _) | (with_reducible refine Below.setCell ?_ (by first | omega | (simp; done) | (simp; omega)) _) | (with_reducible refine Below.drew ?_) | (with_reducible refine below_drewN ?_ _) | (with_reducible assumption) | (with_reducible refine bel_step (by with_reducible assumption) ?_ (by first | omega | (simp; done) | (simp; omega))))) (by simp)
  (try (go_at_call 14; refine (clock_Now _ _ _ (H.out.below hB1 hlt) OK.out).mono ?_; rintro e w2 ⟨rfl, hb2⟩; obtain ⟨hc2, hf2⟩ := bcell hb2; have hz2 := hb2.size; (try simp at hz2); (try have q2_0_0_0 : w.heap.size < w2.heap.size := by omega); (try have q2_0_0_2 : w.heap.size < w2.heap.size + 1 + 1 := by omega); (try have q2_0_0_3 : w.heap.size < w2.heap.size + 1 + 1 + 1 := by omega); (try have q2_0_1_0 : w.heap.size + 1 < w2.heap.size := by omega); (try have q2_0_1_2 : w.heap.size + 1 < w2.heap.size + 1 + 1 := by omega); (try have q2_0_1_3 : w.heap.size + 1 < w2.heap.size + 1 + 1 + 1 := by omega); (try have q2_0_2_0 : w.heap.size + 1 + 1 < w2.heap.size := by omega); (try have q2_0_2_2 : w.heap.size + 1 + 1 < w2.heap.size + 1 + 1 := by omega); (try have q2_0_2_3 : w.heap.size + 1 + 1 < w2.heap.size + 1 + 1 + 1 := by omega); (try have q2_0_3_0 : w.heap.size + 1 + 1 + 1 < w2.heap.size := by omega); (try have q2_0_3_2 : w.heap.size + 1 + 1 + 1 < w2.heap.size + 1 + 1 := by omega); (try have q2_0_3_3 : w.heap.size + 1 + 1 + 1 < w2.heap.size + 1 + 1 + 1 := by omega); (try have q2_1_0_0 : w1.heap.size < w2.heap.size := by omega); (try have q2_1_0_2 : w1.heap.size < w2.heap.size + 1 + 1 := by omega); (try have q2_1_1_0 : w1.heap.size + 1 < w2.heap.size := by omega); (try have q2_1_1_2 : w1.heap.size + 1 < w2.heap.size + 1 + 1 := by omega); (try go_wp2_with fail)))
  have hB2 : Below w.heap.size w w2 := bel_step hb2 (by repeat (first | with_reducible exact Below.refl _ _ | (with_reducible refine Below.alloc ?_ (by first | omega | (simp; done) | (simp; omega)) _) | (with_reducible refine Below.setCell ?_ (by first | omega | (simp; done) | (simp; omega)) _) | (with_reducible refine Below.drew ?_) | (with_reducible refine below_drewN ?_ _) | (with_reducible assumption) | (with_reducible refine bel_step (by with_reducible assumption) ?_ (by first | omega | (simp; done) | (simp; omega))))) (by omega)
  have H2 := H.out.below hB2 hlt
  have gl := Blk.lt H2
  obtain ⟨m0, m1, m2, m3, m4, m5, m6, m7⟩ := H2.all
  have mf := fun o => Blk.fz H2 o
  clear H2
  have p0 : w2.cell? ⟨w.heap.size, 0, none⟩ = some (.int .i64 lo) := by rw [hc2 _ _ (by first | omega | (simp; done) | (simp; omega)), hc1 _ _ (by first | omega | (simp; done) | (simp; omega))]; simp
  have p1 : w2.cell? ⟨w.heap.size, 1, none⟩ = some (.int .i64 hi) := by rw [hc2 _ _ (by first | omega | (simp; done) | (simp; omega)), hc1 _ _ (by first | omega | (simp; done) | (simp; omega))]; simp
  have q1 : w.heap.size < w2.heap.size + 1 := by omega
  have q2 : w.heap.size < w2.heap.size := by omega
  have q3 : g < w2.heap.size + 1 := by omega
  go_region_held3 (fun w' => w'.cell? ⟨w.heap.size, 0, none⟩ = some (.int .i64 lo) ∧ w'.cell? ⟨w.heap.size, 1, none⟩ = some (.int .i64 hi)) ((repeat' apply And.intro) <;> exact (Below.cell (B := (w2).heap.size) (w := w2) (by repeat (first | with_reducible exact Below.refl _ _ | (with_reducible refine Below.alloc ?_ (by first | omega | (simp; done) | (simp; omega)) _) | (with_reducible refine Below.setCell ?_ (by first | omega | (simp; done) | (simp; omega)) _) | (with_reducible refine Below.drew ?_) | (with_reducible refine below_drewN ?_ _) | (with_reducible assumption) | (with_reducible refine bel_step (by with_reducible assumption) ?_ (by first | omega | (simp; done) | (simp; omega))))) (by first | omega | (simp; done) | (simp; omega))).trans (by assumption))
    (first | (go_at_call 38; refine (clock_aged _ _ _ (H.out.below (by repeat (first | with_reducible exact Below.refl _ _ | (with_reducible refine Below.alloc ?_ (by first | omega | (simp; done) | (simp; omega)) _) | (with_reducible refine Below.setCell ?_ (by first | omega | (simp; done) | (simp; omega)) _) | (with_reducible refine Below.drew ?_) | (with_reducible refine below_drewN ?_ _) | (with_reducible assumption) | (with_reducible refine bel_step (by with_reducible assumption) ?_ (by first | omega | (simp; done) | (simp; omega))))) hlt) OK.out).mono ?_; rintro e w3 ⟨rfl, hb3⟩; obtain ⟨hc3, hf3⟩ := bcell hb3; have hz3 := hb3.size; (try simp at hz3); (try have q3_0_0_0 : w.heap.size < w3.heap.size := by omega); (try have q3_0_0_2 : w.heap.size < w3.heap.size + 1 + 1 := by omega); (try have q3_0_0_3 : w.heap.size < w3.heap.size + 1 + 1 + 1 := by omega); (try have q3_0_1_0 : w.heap.size + 1 < w3.heap.size := by omega); (try have q3_0_1_2 : w.heap.size + 1 < w3.heap.size + 1 + 1 := by omega); (try have q3_0_1_3 : w.heap.size + 1 < w3.heap.size + 1 + 1 + 1 := by omega); (try have q3_0_2_0 : w.heap.size + 1 + 1 < w3.heap.size := by omega); (try have q3_0_2_2 : w.heap.size + 1 + 1 < w3.heap.size + 1 + 1 := by omega); (try have q3_0_2_3 : w.heap.size + 1 + 1 < w3.heap.size + 1 + 1 + 1 := by omega); (try have q3_0_3_0 : w.heap.size + 1 + 1 + 1 < w3.heap.size := by omega); (try have q3_0_3_2 : w.heap.size + 1 + 1 + 1 < w3.heap.size + 1 + 1 := by omega); (try have q3_0_3_3 : w.heap.size + 1 + 1 + 1 < w3.heap.size + 1 + 1 + 1 := by omega); (try have q3_1_0_0 : w1.heap.size < w3.heap.size := by omega); (try have q3_1_0_2 : w1.heap.size < w3.heap.size + 1 + 1 := by omega); (try have q3_1_1_0 : w1.heap.size + 1 < w3.heap.size := by omega); (try have q3_1_1_2 : w1.heap.size + 1 < w3.heap.size + 1 + 1 := by omega); (try have q3_2_0_0 : w2.heap.size < w3.heap.size := by omega); (try have q3_2_0_2 : w2.heap.size < w3.heap.size + 1 + 1 := by omega); (try have q3_2_1_0 : w2.heap.size + 1 < w3.heap.size := by omega); (try have q3_2_1_2 : w2.heap.size + 1 < w3.heap.size + 1 + 1 := by omega)) | (go_at_call 37; refine (Common_any _ _ _ _ _).mono ?_; rintro e w4 ⟨rfl, hb4⟩; obtain ⟨hc4, hf4⟩ := bcell hb4; have hz4 := hb4.size; (try simp at hz4); (try have q4_0_0_0 : w.heap.size < w4.heap.size := by omega); (try have q4_0_0_2 : w.heap.size < w4.heap.size + 1 + 1 := by omega); (try have q4_0_0_3 : w.heap.size < w4.heap.size + 1 + 1 + 1 := by omega); (try have q4_0_1_0 : w.heap.size + 1 < w4.heap.size := by omega); (try have q4_0_1_2 : w.heap.size + 1 < w4.heap.size + 1 + 1 := by omega); (try have q4_0_1_3 : w.heap.size + 1 < w4.heap.size + 1 + 1 + 1 := by omega); (try have q4_0_2_0 : w.heap.size + 1 + 1 < w4.heap.size := by omega); (try have q4_0_2_2 : w.heap.size + 1 + 1 < w4.heap.size + 1 + 1 := by omega); (try have q4_0_2_3 : w.heap.size + 1 + 1 < w4.heap.size + 1 + 1 + 1 := by omega); (try have q4_0_3_0 : w.heap.size + 1 + 1 + 1 < w4.heap.size := by omega); (try have q4_0_3_2 : w.heap.size + 1 + 1 + 1 < w4.heap.size + 1 + 1 := by omega); (try have q4_0_3_3 : w.heap.size + 1 + 1 + 1 < w4.heap.size + 1 + 1 + 1 := by omega); (try have q4_1_0_0 : w1.heap.size < w4.heap.size := by omega); (try have q4_1_0_2 : w1.heap.size < w4.heap.size + 1 + 1 := by omega); (try have q4_1_1_0 : w1.heap.size + 1 < w4.heap.size := by omega); (try have q4_1_1_2 : w1.heap.size + 1 < w4.heap.size + 1 + 1 := by omega); (try have q4_2_0_0 : w2.heap.size < w4.heap.size := by omega); (try have q4_2_0_2 : w2.heap.size < w4.heap.size + 1 + 1 := by omega); (try have q4_2_1_0 : w2.heap.size + 1 < w4.heap.size := by omega); (try have q4_2_1_2 : w2.heap.size + 1 < w4.heap.size + 1 + 1 := by omega); (try have q4_3_0_0 : w3.heap.size < w4.heap.size := by omega); (try have q4_3_0_2 : w3.heap.size < w4.heap.size + 1 + 1 := by omega); (try have q4_3_1_0 : w3.heap.size + 1 < w4.heap.size := by omega); (try have q4_3_1_2 : w3.heap.size + 1 < w4.heap.size + 1 + 1 := by omega)))
  all_goals
    have hB4 : Below w.heap.size w w4 := bel_step hb4 (by repeat (first | with_reducible exact Below.refl _ _ | (with_reducible refine Below.alloc ?_ (by first | omega | (simp; done) | (simp; omega)) _) | (with_reducible refine Below.setCell ?_ (by first | omega | (simp; done) | (simp; omega)) _) | (with_reducible refine Below.drew ?_) | (with_reducible refine below_drewN ?_ _) | (with_reducible assumption) | (with_reducible refine bel_step (by with_reducible assumption) ?_ (by first | omega | (simp; done) | (simp; omega))))) (by first | omega | (simp; omega))
    have hB24 : Below w2.heap.size w2 w4 := bel_step hb4 (by repeat (first | with_reducible exact Below.refl _ _ | (with_reducible refine Below.alloc ?_ (by first | omega | (simp; done) | (simp; omega)) _) | (with_reducible refine Below.setCell ?_ (by first | omega | (simp; done) | (simp; omega)) _) | (with_reducible refine Below.drew ?_) | (with_reducible refine below_drewN ?_ _) | (with_reducible assumption) | (with_reducible refine bel_step (by with_reducible assumption) ?_ (by first | omega | (simp; done) | (simp; omega))))) (by first | omega | (simp; omega))
    have H4 := H.out.below hB4 hlt
    have gl4 := Blk.lt H4
    have gs4 := hB4.size
    obtain ⟨x0, x1, x2, x3, x4, x5, x6, x7⟩ := H4.all
    have xf := fun o => Blk.fz H4 o
    have y0 := (hB24.cell (p := ⟨w.heap.size, 0, none⟩) q2).trans p0
    have y1 := (hB24.cell (p := ⟨w.heap.size, 1, none⟩) q2).trans p1
    have yf := (hB24.frozen (p := ⟨w.heap.size, 0, none⟩) q2)
    clear H4
    go_wp2_with fail
    go_region
    go_wp2_with fail
    go_ret
    rw [s1.out, s2.out]
    exact ⟨rfl, (by first | with_reducible exact H.out.setL (by repeat (first | with_reducible exact Below.refl _ _ | (with_reducible refine Below.alloc ?_ (by first | omega | (simp; done) | (simp; omega)) _) | (with_reducible refine Below.setCell ?_ (by first | omega | (simp; done) | (simp; omega)) _) | (with_reducible refine Below.drew ?_) | (with_reducible refine below_drewN ?_ _) | (with_reducible assumption) | (with_reducible refine bel_step (by with_reducible assumption) ?_ (by first | omega | (simp; done) | (simp; omega))))) hlt _ _ | with_reducible exact H.out.setLa (by repeat (first | with_reducible exact Below.refl _ _ | (with_reducible refine Below.alloc ?_ (by first | omega | (simp; done) | (simp; omega)) _) | (with_reducible refine Below.setCell ?_ (by first | omega | (simp; done) | (simp; omega)) _) | (with_reducible refine Below.drew ?_) | (with_reducible refine below_drewN ?_ _) | (with_reducible assumption) | (with_reducible refine bel_step (by with_reducible assumption) ?_ (by first | omega | (simp; done) | (simp; omega))))) hlt _ _), (by repeat (first | with_reducible exact Touched.refl _ _ | (with_reducible refine Touched.alloc ?_ _) | (with_reducible refine Touched.setp ?_ _ (by first | exact .inl rfl | (right; first | omega | (simp; done) | (simp; omega))) _) | (with_reducible refine Touched.drew ?_) | (with_reducible refine Touched.drewN ?_ _) | (with_reducible assumption) | (with_reducible refine Touched.then (by with_reducible assumption) ?_)))⟩
set_option maxHeartbeats 4000000 in
theorem clock_Learn_1 (g : Nat) (c : CK) (lo hi : Int) (w : World) (hk : ClockAt w g 92 c) (ok : c.ok) (r : rightB lo hi = true) (c0 : c.known = true) (d : ¬ rightB (c.lo - agedN c + c.here) (c.hi + agedN c + c.here) = true) :
    Calls Tryd.prog 13 #[.pointer (some ⟨g, 0, none⟩), .agg #[.int .i64 lo, .int .i64 hi]] w fun e w' => e = .returned (errV (learnC c lo hi)) ∧ ClockAt w' g 92 (learnK c lo hi) ∧ Touched g w w' := by
  have hlt := Blk.lt hk
  obtain ⟨k0, k1, k2, k3, k4, k5, k6, k7⟩ := hk.all
  have kf := fun o => Blk.fz hk o
  have H := Lib.hid hk
  have OK := Lib.hid ok
  clear hk
  obtain ⟨o1, o2, o3, o4, o5, o6, o7, o8, o9, o10⟩ := ok
  obtain ⟨r1, r2, r3⟩ := rightB_iff.1 r
  obtain ⟨b1, b2⟩ := byP_bd (n := c.here - c.at_) (p := 2 * c.ppm) (by omega) (by omega) (by omega) (by omega)
  have a1 : 1 ≤ agedN c := by unfold agedN; omega
  have a2 : agedN c ≤ 6000000001 := by unfold agedN; omega
  clear b1 b2
  have n0 : nowS c = ⟨0, 0, 1⟩ := by simp [nowS, c0, whole, d]
  have s1 := Lib.hid (show learnC c lo hi = 1 by simp [learnC, r, c0, n0])
  have s2 := Lib.hid (show learnK c lo hi = c by simp [learnK, s1.out])
  go_enter Tryd.func13, Tryd.ntmps13
  go_wp2_with fail
  (try (go_at_call 36; refine (span_Check _ _ _).mono ?_; rintro e w1 ⟨rfl, hb1⟩; obtain ⟨hc1, hf1⟩ := bcell hb1; have hz1 := hb1.size; (try simp at hz1); (try have q1_0_0_0 : w.heap.size < w1.heap.size := by omega); (try have q1_0_0_2 : w.heap.size < w1.heap.size + 1 + 1 := by omega); (try have q1_0_0_3 : w.heap.size < w1.heap.size + 1 + 1 + 1 := by omega); (try have q1_0_1_0 : w.heap.size + 1 < w1.heap.size := by omega); (try have q1_0_1_2 : w.heap.size + 1 < w1.heap.size + 1 + 1 := by omega); (try have q1_0_1_3 : w.heap.size + 1 < w1.heap.size + 1 + 1 + 1 := by omega); (try have q1_0_2_0 : w.heap.size + 1 + 1 < w1.heap.size := by omega); (try have q1_0_2_2 : w.heap.size + 1 + 1 < w1.heap.size + 1 + 1 := by omega); (try have q1_0_2_3 : w.heap.size + 1 + 1 < w1.heap.size + 1 + 1 + 1 := by omega); (try have q1_0_3_0 : w.heap.size + 1 + 1 + 1 < w1.heap.size := by omega); (try have q1_0_3_2 : w.heap.size + 1 + 1 + 1 < w1.heap.size + 1 + 1 := by omega); (try have q1_0_3_3 : w.heap.size + 1 + 1 + 1 < w1.heap.size + 1 + 1 + 1 := by omega); (try go_wp2_with fail)))
  have hB1 : Below w.heap.size w w1 := bel_step hb1 (by repeat (first | with_reducible exact Below.refl _ _ | (with_reducible refine Below.alloc ?_ (by first | omega | (simp; done) | (simp; omega)) _) | (with_reducible refine Below.setCell ?_ (by first | omega | (simp; done) | (simp; omega)) _) | (with_reducible refine Below.drew ?_) | (with_reducible refine below_drewN ?_ _) | (with_reducible assumption) | (with_reducible refine bel_step (by with_reducible assumption) ?_ (by first | omega | (simp; done) | (simp; omega))))) (by simp)
  (try (go_at_call 14; refine (clock_Now _ _ _ (H.out.below hB1 hlt) OK.out).mono ?_; rintro e w2 ⟨rfl, hb2⟩; obtain ⟨hc2, hf2⟩ := bcell hb2; have hz2 := hb2.size; (try simp at hz2); (try have q2_0_0_0 : w.heap.size < w2.heap.size := by omega); (try have q2_0_0_2 : w.heap.size < w2.heap.size + 1 + 1 := by omega); (try have q2_0_0_3 : w.heap.size < w2.heap.size + 1 + 1 + 1 := by omega); (try have q2_0_1_0 : w.heap.size + 1 < w2.heap.size := by omega); (try have q2_0_1_2 : w.heap.size + 1 < w2.heap.size + 1 + 1 := by omega); (try have q2_0_1_3 : w.heap.size + 1 < w2.heap.size + 1 + 1 + 1 := by omega); (try have q2_0_2_0 : w.heap.size + 1 + 1 < w2.heap.size := by omega); (try have q2_0_2_2 : w.heap.size + 1 + 1 < w2.heap.size + 1 + 1 := by omega); (try have q2_0_2_3 : w.heap.size + 1 + 1 < w2.heap.size + 1 + 1 + 1 := by omega); (try have q2_0_3_0 : w.heap.size + 1 + 1 + 1 < w2.heap.size := by omega); (try have q2_0_3_2 : w.heap.size + 1 + 1 + 1 < w2.heap.size + 1 + 1 := by omega); (try have q2_0_3_3 : w.heap.size + 1 + 1 + 1 < w2.heap.size + 1 + 1 + 1 := by omega); (try have q2_1_0_0 : w1.heap.size < w2.heap.size := by omega); (try have q2_1_0_2 : w1.heap.size < w2.heap.size + 1 + 1 := by omega); (try have q2_1_1_0 : w1.heap.size + 1 < w2.heap.size := by omega); (try have q2_1_1_2 : w1.heap.size + 1 < w2.heap.size + 1 + 1 := by omega); (try go_wp2_with fail)))
  go_ret
  rw [s1.out, s2.out]
  exact ⟨rfl, H.out.below (by repeat (first | with_reducible exact Below.refl _ _ | (with_reducible refine Below.alloc ?_ (by first | omega | (simp; done) | (simp; omega)) _) | (with_reducible refine Below.setCell ?_ (by first | omega | (simp; done) | (simp; omega)) _) | (with_reducible refine Below.drew ?_) | (with_reducible refine below_drewN ?_ _) | (with_reducible assumption) | (with_reducible refine bel_step (by with_reducible assumption) ?_ (by first | omega | (simp; done) | (simp; omega))))) hlt, (by repeat (first | with_reducible exact Touched.refl _ _ | (with_reducible refine Touched.alloc ?_ _) | (with_reducible refine Touched.setp ?_ _ (by first | exact .inl rfl | (right; first | omega | (simp; done) | (simp; omega))) _) | (with_reducible refine Touched.drew ?_) | (with_reducible refine Touched.drewN ?_ _) | (with_reducible assumption) | (with_reducible refine Touched.then (by with_reducible assumption) ?_)))⟩
set_option maxHeartbeats 4000000 in
theorem clock_Learn_b (g : Nat) (c : CK) (lo hi : Int) (w : World) (hk : ClockAt w g 92 c) (ok : c.ok) (r : ¬ rightB lo hi = true) :
    Calls Tryd.prog 13 #[.pointer (some ⟨g, 0, none⟩), .agg #[.int .i64 lo, .int .i64 hi]] w fun e w' => e = .returned (errV (learnC c lo hi)) ∧ ClockAt w' g 92 (learnK c lo hi) ∧ Touched g w w' := by
  have hlt := Blk.lt hk
  obtain ⟨k0, k1, k2, k3, k4, k5, k6, k7⟩ := hk.all
  have kf := fun o => Blk.fz hk o
  have H := Lib.hid hk
  have OK := Lib.hid ok
  clear hk
  obtain ⟨o1, o2, o3, o4, o5, o6, o7, o8, o9, o10⟩ := ok
  have s1 := Lib.hid (show learnC c lo hi = 1 by simp [learnC, r])
  have s2 := Lib.hid (show learnK c lo hi = c by simp [learnK, s1.out])
  go_enter Tryd.func13, Tryd.ntmps13
  go_wp2_with fail
  (try (go_at_call 36; refine (span_Check _ _ _).mono ?_; rintro e w1 ⟨rfl, hb1⟩; obtain ⟨hc1, hf1⟩ := bcell hb1; have hz1 := hb1.size; (try simp at hz1); (try have q1_0_0_0 : w.heap.size < w1.heap.size := by omega); (try have q1_0_0_2 : w.heap.size < w1.heap.size + 1 + 1 := by omega); (try have q1_0_0_3 : w.heap.size < w1.heap.size + 1 + 1 + 1 := by omega); (try have q1_0_1_0 : w.heap.size + 1 < w1.heap.size := by omega); (try have q1_0_1_2 : w.heap.size + 1 < w1.heap.size + 1 + 1 := by omega); (try have q1_0_1_3 : w.heap.size + 1 < w1.heap.size + 1 + 1 + 1 := by omega); (try have q1_0_2_0 : w.heap.size + 1 + 1 < w1.heap.size := by omega); (try have q1_0_2_2 : w.heap.size + 1 + 1 < w1.heap.size + 1 + 1 := by omega); (try have q1_0_2_3 : w.heap.size + 1 + 1 < w1.heap.size + 1 + 1 + 1 := by omega); (try have q1_0_3_0 : w.heap.size + 1 + 1 + 1 < w1.heap.size := by omega); (try have q1_0_3_2 : w.heap.size + 1 + 1 + 1 < w1.heap.size + 1 + 1 := by omega); (try have q1_0_3_3 : w.heap.size + 1 + 1 + 1 < w1.heap.size + 1 + 1 + 1 := by omega); (try go_wp2_with fail)))
  go_ret
  rw [s1.out, s2.out]
  exact ⟨by simp [errV, okC, r], H.out.below (bel_step hb1 (by repeat (first | with_reducible exact Below.refl _ _ | (with_reducible refine Below.alloc ?_ (by first | omega | (simp; done) | (simp; omega)) _) | (with_reducible refine Below.setCell ?_ (by first | omega | (simp; done) | (simp; omega)) _) | (with_reducible refine Below.drew ?_) | (with_reducible refine below_drewN ?_ _) | (with_reducible assumption) | (with_reducible refine bel_step (by with_reducible assumption) ?_ (by first | omega | (simp; done) | (simp; omega))))) (by simp)) hlt, (by repeat (first | with_reducible exact Touched.refl _ _ | (with_reducible refine Touched.alloc ?_ _) | (with_reducible refine Touched.setp ?_ _ (by first | exact .inl rfl | (right; first | omega | (simp; done) | (simp; omega))) _) | (with_reducible refine Touched.drew ?_) | (with_reducible refine Touched.drewN ?_ _) | (with_reducible assumption) | (with_reducible refine Touched.then (by with_reducible assumption) ?_)))⟩
theorem clock_Learn (g : Nat) (c : CK) (lo hi : Int) (w : World) (hk : ClockAt w g 92 c) (ok : c.ok) :
    Calls Tryd.prog 13 #[.pointer (some ⟨g, 0, none⟩), .agg #[.int .i64 lo, .int .i64 hi]] w fun e w' => e = .returned (errV (learnC c lo hi)) ∧ ClockAt w' g 92 (learnK c lo hi) ∧ Touched g w w' := by
  by_cases r : rightB lo hi = true
  · cases c0 : c.known
    · exact clock_Learn_u g c lo hi w hk ok r c0
    · by_cases d : rightB (c.lo - agedN c + c.here) (c.hi + agedN c + c.here) = true
      · cases e1 : commonB (c.lo - agedN c) (c.hi + agedN c) lo hi
        · exact clock_Learn_7 g c lo hi w hk ok r c0 d e1
        · exact clock_Learn_0 g c lo hi w hk ok r c0 d e1
      · exact clock_Learn_1 g c lo hi w hk ok r c0 d
  · exact clock_Learn_b g c lo hi w hk ok r
theorem nowS_cases (c : CK) : (∃ l h, nowS c = ⟨l, h, 0⟩ ∧ -1000000000000 ≤ l ∧ l ≤ h ∧ h ≤ 1000000000000) ∨ nowS c = ⟨0, 0, 1⟩ ∨ nowS c = ⟨0, 0, 6⟩ := by
  unfold nowS
  split
  · unfold whole
    split
    · rename_i h
      have := rightB_iff.1 h
      exact .inl ⟨_, _, rfl, by omega, by omega, by omega⟩
    · right; left; rfl
  · right; right; rfl
set_option maxHeartbeats 2000000 in
theorem clock_Point (g : Nat) (c : CK) (w : World) (hk : ClockAt w g 92 c) (ok : c.ok) :
    Calls Tryd.prog 16 #[.pointer (some ⟨g, 0, none⟩)] w fun e w' => e = .returned (.tuple #[.int .i64 (pointV c), errV (pointC c)]) ∧ ClockAt w' g 92 (pointK c) ∧ Touched g w w' := by
  have hlt := Blk.lt hk
  obtain ⟨k0, k1, k2, k3, k4, k5, k6, k7⟩ := hk.all
  have kf := fun o => Blk.fz hk o
  have H := Lib.hid hk
  have OK := Lib.hid ok
  clear hk
  obtain ⟨o1, o2, o3, o4, o5, o6, o7, o8, o9, o10⟩ := ok
  rcases nowS_cases c with ⟨l, h, n0, n1, n2, n3⟩ | n0 | n0
  · have hm : midV c = (l + h) / 2 := by simp [midV, n0]
    have b1 : -1000000000000 ≤ (l + h) / 2 := by omega
    have b2 : (l + h) / 2 ≤ 1000000000000 := by omega
    cases t : c.told
    · (skip)
      have p0 : pointN c = (l + h) / 2 := by simp [pointN, t, hm]
      have q : ¬ h < (l + h) / 2 := by omega
      · have s1 := Lib.hid (show pointC c = 0 by simp [pointC, n0, p0]; omega)
        have s2 := Lib.hid (show pointK c = { c with told := true, last := (l + h) / 2 } by simp [pointK, s1.out, p0])
        have s3 := Lib.hid (show pointV c = (l + h) / 2 by simp [pointV, s1.out, p0])
        clear p0 hm
        go_enter Tryd.func16, Tryd.ntmps16
        go_wp2_with fail
        (try (go_at_call 14; refine (clock_Now _ _ _ H.out OK.out).mono ?_; rintro e w1 ⟨rfl, hb1⟩; obtain ⟨hc1, hf1⟩ := bcell hb1; have hz1 := hb1.size; (try simp at hz1); (try have q1_0_0_0 : w.heap.size < w1.heap.size := by omega); (try have q1_0_0_2 : w.heap.size < w1.heap.size + 1 + 1 := by omega); (try have q1_0_0_3 : w.heap.size < w1.heap.size + 1 + 1 + 1 := by omega); (try have q1_0_1_0 : w.heap.size + 1 < w1.heap.size := by omega); (try have q1_0_1_2 : w.heap.size + 1 < w1.heap.size + 1 + 1 := by omega); (try have q1_0_1_3 : w.heap.size + 1 < w1.heap.size + 1 + 1 + 1 := by omega); (try have q1_0_2_0 : w.heap.size + 1 + 1 < w1.heap.size := by omega); (try have q1_0_2_2 : w.heap.size + 1 + 1 < w1.heap.size + 1 + 1 := by omega); (try have q1_0_2_3 : w.heap.size + 1 + 1 < w1.heap.size + 1 + 1 + 1 := by omega); (try have q1_0_3_0 : w.heap.size + 1 + 1 + 1 < w1.heap.size := by omega); (try have q1_0_3_2 : w.heap.size + 1 + 1 + 1 < w1.heap.size + 1 + 1 := by omega); (try have q1_0_3_3 : w.heap.size + 1 + 1 + 1 < w1.heap.size + 1 + 1 + 1 := by omega); have H1 := H.out.below hb1 hlt; have gl1 := Blk.lt H1; obtain ⟨m0, m1, m2, m3, m4, m5, m6, m7⟩ := H1.all; have mf := fun o => Blk.fz H1 o; rw [t] at m6; have H1' := Lib.hid H1; clear H1; (try go_wp2_with fail)))
        go_ret2
        rw [s1.out, s2.out, s3.out]
        exact ⟨rfl, Blk.alloc (H1'.out.set67 _) _, (by repeat (first | with_reducible exact Touched.refl _ _ | (with_reducible refine Touched.alloc ?_ _) | (with_reducible refine Touched.setp ?_ _ (by first | exact .inl rfl | (right; first | omega | (simp; done) | (simp; omega))) _) | (with_reducible refine Touched.drew ?_) | (with_reducible refine Touched.drewN ?_ _) | (with_reducible assumption) | (with_reducible refine Touched.then (by with_reducible assumption) ?_)))⟩
    · by_cases d : (l + h) / 2 < c.last
      · (skip)
        have p0 : pointN c = c.last := by simp [pointN, t, hm]; omega
        by_cases q : h < c.last
        · have s1 := Lib.hid (show pointC c = 8 by simp [pointC, n0, p0, q])
          have s2 := Lib.hid (show pointK c = c by simp [pointK, s1.out])
          have s3 := Lib.hid (show pointV c = 0 by simp [pointV, s1.out])
          clear p0 hm
          go_enter Tryd.func16, Tryd.ntmps16
          go_wp2_with fail
          (try (go_at_call 14; refine (clock_Now _ _ _ H.out OK.out).mono ?_; rintro e w1 ⟨rfl, hb1⟩; obtain ⟨hc1, hf1⟩ := bcell hb1; have hz1 := hb1.size; (try simp at hz1); (try have q1_0_0_0 : w.heap.size < w1.heap.size := by omega); (try have q1_0_0_2 : w.heap.size < w1.heap.size + 1 + 1 := by omega); (try have q1_0_0_3 : w.heap.size < w1.heap.size + 1 + 1 + 1 := by omega); (try have q1_0_1_0 : w.heap.size + 1 < w1.heap.size := by omega); (try have q1_0_1_2 : w.heap.size + 1 < w1.heap.size + 1 + 1 := by omega); (try have q1_0_1_3 : w.heap.size + 1 < w1.heap.size + 1 + 1 + 1 := by omega); (try have q1_0_2_0 : w.heap.size + 1 + 1 < w1.heap.size := by omega); (try have q1_0_2_2 : w.heap.size + 1 + 1 < w1.heap.size + 1 + 1 := by omega); (try have q1_0_2_3 : w.heap.size + 1 + 1 < w1.heap.size + 1 + 1 + 1 := by omega); (try have q1_0_3_0 : w.heap.size + 1 + 1 + 1 < w1.heap.size := by omega); (try have q1_0_3_2 : w.heap.size + 1 + 1 + 1 < w1.heap.size + 1 + 1 := by omega); (try have q1_0_3_3 : w.heap.size + 1 + 1 + 1 < w1.heap.size + 1 + 1 + 1 := by omega); have H1 := H.out.below hb1 hlt; have gl1 := Blk.lt H1; obtain ⟨m0, m1, m2, m3, m4, m5, m6, m7⟩ := H1.all; have mf := fun o => Blk.fz H1 o; rw [t] at m6; have H1' := Lib.hid H1; clear H1; (try go_wp2_with fail)))
          rw [s1.out, s2.out, s3.out]
          go_ret2
          exact ⟨rfl, Blk.alloc H1'.out _, (by repeat (first | with_reducible exact Touched.refl _ _ | (with_reducible refine Touched.alloc ?_ _) | (with_reducible refine Touched.setp ?_ _ (by first | exact .inl rfl | (right; first | omega | (simp; done) | (simp; omega))) _) | (with_reducible refine Touched.drew ?_) | (with_reducible refine Touched.drewN ?_ _) | (with_reducible assumption) | (with_reducible refine Touched.then (by with_reducible assumption) ?_)))⟩
        · have s1 := Lib.hid (show pointC c = 0 by simp [pointC, n0, p0]; omega)
          have s2 := Lib.hid (show pointK c = { c with told := true, last := c.last } by simp [pointK, s1.out, p0])
          have s3 := Lib.hid (show pointV c = c.last by simp [pointV, s1.out, p0])
          clear p0 hm
          go_enter Tryd.func16, Tryd.ntmps16
          go_wp2_with fail
          (try (go_at_call 14; refine (clock_Now _ _ _ H.out OK.out).mono ?_; rintro e w1 ⟨rfl, hb1⟩; obtain ⟨hc1, hf1⟩ := bcell hb1; have hz1 := hb1.size; (try simp at hz1); (try have q1_0_0_0 : w.heap.size < w1.heap.size := by omega); (try have q1_0_0_2 : w.heap.size < w1.heap.size + 1 + 1 := by omega); (try have q1_0_0_3 : w.heap.size < w1.heap.size + 1 + 1 + 1 := by omega); (try have q1_0_1_0 : w.heap.size + 1 < w1.heap.size := by omega); (try have q1_0_1_2 : w.heap.size + 1 < w1.heap.size + 1 + 1 := by omega); (try have q1_0_1_3 : w.heap.size + 1 < w1.heap.size + 1 + 1 + 1 := by omega); (try have q1_0_2_0 : w.heap.size + 1 + 1 < w1.heap.size := by omega); (try have q1_0_2_2 : w.heap.size + 1 + 1 < w1.heap.size + 1 + 1 := by omega); (try have q1_0_2_3 : w.heap.size + 1 + 1 < w1.heap.size + 1 + 1 + 1 := by omega); (try have q1_0_3_0 : w.heap.size + 1 + 1 + 1 < w1.heap.size := by omega); (try have q1_0_3_2 : w.heap.size + 1 + 1 + 1 < w1.heap.size + 1 + 1 := by omega); (try have q1_0_3_3 : w.heap.size + 1 + 1 + 1 < w1.heap.size + 1 + 1 + 1 := by omega); have H1 := H.out.below hb1 hlt; have gl1 := Blk.lt H1; obtain ⟨m0, m1, m2, m3, m4, m5, m6, m7⟩ := H1.all; have mf := fun o => Blk.fz H1 o; rw [t] at m6; have H1' := Lib.hid H1; clear H1; (try go_wp2_with fail)))
          go_ret2
          rw [s1.out, s2.out, s3.out]
          exact ⟨rfl, Blk.alloc (H1'.out.set67 _) _, (by repeat (first | with_reducible exact Touched.refl _ _ | (with_reducible refine Touched.alloc ?_ _) | (with_reducible refine Touched.setp ?_ _ (by first | exact .inl rfl | (right; first | omega | (simp; done) | (simp; omega))) _) | (with_reducible refine Touched.drew ?_) | (with_reducible refine Touched.drewN ?_ _) | (with_reducible assumption) | (with_reducible refine Touched.then (by with_reducible assumption) ?_)))⟩
      · (skip)
        have p0 : pointN c = (l + h) / 2 := by simp [pointN, t, hm]; omega
        have q : ¬ h < (l + h) / 2 := by omega
        · have s1 := Lib.hid (show pointC c = 0 by simp [pointC, n0, p0]; omega)
          have s2 := Lib.hid (show pointK c = { c with told := true, last := (l + h) / 2 } by simp [pointK, s1.out, p0])
          have s3 := Lib.hid (show pointV c = (l + h) / 2 by simp [pointV, s1.out, p0])
          clear p0 hm
          go_enter Tryd.func16, Tryd.ntmps16
          go_wp2_with fail
          (try (go_at_call 14; refine (clock_Now _ _ _ H.out OK.out).mono ?_; rintro e w1 ⟨rfl, hb1⟩; obtain ⟨hc1, hf1⟩ := bcell hb1; have hz1 := hb1.size; (try simp at hz1); (try have q1_0_0_0 : w.heap.size < w1.heap.size := by omega); (try have q1_0_0_2 : w.heap.size < w1.heap.size + 1 + 1 := by omega); (try have q1_0_0_3 : w.heap.size < w1.heap.size + 1 + 1 + 1 := by omega); (try have q1_0_1_0 : w.heap.size + 1 < w1.heap.size := by omega); (try have q1_0_1_2 : w.heap.size + 1 < w1.heap.size + 1 + 1 := by omega); (try have q1_0_1_3 : w.heap.size + 1 < w1.heap.size + 1 + 1 + 1 := by omega); (try have q1_0_2_0 : w.heap.size + 1 + 1 < w1.heap.size := by omega); (try have q1_0_2_2 : w.heap.size + 1 + 1 < w1.heap.size + 1 + 1 := by omega); (try have q1_0_2_3 : w.heap.size + 1 + 1 < w1.heap.size + 1 + 1 + 1 := by omega); (try have q1_0_3_0 : w.heap.size + 1 + 1 + 1 < w1.heap.size := by omega); (try have q1_0_3_2 : w.heap.size + 1 + 1 + 1 < w1.heap.size + 1 + 1 := by omega); (try have q1_0_3_3 : w.heap.size + 1 + 1 + 1 < w1.heap.size + 1 + 1 + 1 := by omega); have H1 := H.out.below hb1 hlt; have gl1 := Blk.lt H1; obtain ⟨m0, m1, m2, m3, m4, m5, m6, m7⟩ := H1.all; have mf := fun o => Blk.fz H1 o; rw [t] at m6; have H1' := Lib.hid H1; clear H1; (try go_wp2_with fail)))
          go_ret2
          rw [s1.out, s2.out, s3.out]
          exact ⟨rfl, Blk.alloc (H1'.out.set67 _) _, (by repeat (first | with_reducible exact Touched.refl _ _ | (with_reducible refine Touched.alloc ?_ _) | (with_reducible refine Touched.setp ?_ _ (by first | exact .inl rfl | (right; first | omega | (simp; done) | (simp; omega))) _) | (with_reducible refine Touched.drew ?_) | (with_reducible refine Touched.drewN ?_ _) | (with_reducible assumption) | (with_reducible refine Touched.then (by with_reducible assumption) ?_)))⟩
  · have s1 := Lib.hid (show pointC c = 1 by simp [pointC, n0])
    have s2 := Lib.hid (show pointK c = c by simp [pointK, s1.out])
    have s3 := Lib.hid (show pointV c = 0 by simp [pointV, s1.out])
    go_enter Tryd.func16, Tryd.ntmps16
    go_wp2_with fail
    (try (go_at_call 14; refine (clock_Now _ _ _ H.out OK.out).mono ?_; rintro e w1 ⟨rfl, hb1⟩; obtain ⟨hc1, hf1⟩ := bcell hb1; have hz1 := hb1.size; (try simp at hz1); (try have q1_0_0_0 : w.heap.size < w1.heap.size := by omega); (try have q1_0_0_2 : w.heap.size < w1.heap.size + 1 + 1 := by omega); (try have q1_0_0_3 : w.heap.size < w1.heap.size + 1 + 1 + 1 := by omega); (try have q1_0_1_0 : w.heap.size + 1 < w1.heap.size := by omega); (try have q1_0_1_2 : w.heap.size + 1 < w1.heap.size + 1 + 1 := by omega); (try have q1_0_1_3 : w.heap.size + 1 < w1.heap.size + 1 + 1 + 1 := by omega); (try have q1_0_2_0 : w.heap.size + 1 + 1 < w1.heap.size := by omega); (try have q1_0_2_2 : w.heap.size + 1 + 1 < w1.heap.size + 1 + 1 := by omega); (try have q1_0_2_3 : w.heap.size + 1 + 1 < w1.heap.size + 1 + 1 + 1 := by omega); (try have q1_0_3_0 : w.heap.size + 1 + 1 + 1 < w1.heap.size := by omega); (try have q1_0_3_2 : w.heap.size + 1 + 1 + 1 < w1.heap.size + 1 + 1 := by omega); (try have q1_0_3_3 : w.heap.size + 1 + 1 + 1 < w1.heap.size + 1 + 1 + 1 := by omega); (try go_wp2_with fail)))
    go_ret2
    rw [s1.out, s2.out, s3.out]
    exact ⟨rfl, Blk.alloc (H.out.below hb1 hlt) _, (by repeat (first | with_reducible exact Touched.refl _ _ | (with_reducible refine Touched.alloc ?_ _) | (with_reducible refine Touched.setp ?_ _ (by first | exact .inl rfl | (right; first | omega | (simp; done) | (simp; omega))) _) | (with_reducible refine Touched.drew ?_) | (with_reducible refine Touched.drewN ?_ _) | (with_reducible assumption) | (with_reducible refine Touched.then (by with_reducible assumption) ?_)))⟩
  · have s1 := Lib.hid (show pointC c = 6 by simp [pointC, n0])
    have s2 := Lib.hid (show pointK c = c by simp [pointK, s1.out])
    have s3 := Lib.hid (show pointV c = 0 by simp [pointV, s1.out])
    go_enter Tryd.func16, Tryd.ntmps16
    go_wp2_with fail
    (try (go_at_call 14; refine (clock_Now _ _ _ H.out OK.out).mono ?_; rintro e w1 ⟨rfl, hb1⟩; obtain ⟨hc1, hf1⟩ := bcell hb1; have hz1 := hb1.size; (try simp at hz1); (try have q1_0_0_0 : w.heap.size < w1.heap.size := by omega); (try have q1_0_0_2 : w.heap.size < w1.heap.size + 1 + 1 := by omega); (try have q1_0_0_3 : w.heap.size < w1.heap.size + 1 + 1 + 1 := by omega); (try have q1_0_1_0 : w.heap.size + 1 < w1.heap.size := by omega); (try have q1_0_1_2 : w.heap.size + 1 < w1.heap.size + 1 + 1 := by omega); (try have q1_0_1_3 : w.heap.size + 1 < w1.heap.size + 1 + 1 + 1 := by omega); (try have q1_0_2_0 : w.heap.size + 1 + 1 < w1.heap.size := by omega); (try have q1_0_2_2 : w.heap.size + 1 + 1 < w1.heap.size + 1 + 1 := by omega); (try have q1_0_2_3 : w.heap.size + 1 + 1 < w1.heap.size + 1 + 1 + 1 := by omega); (try have q1_0_3_0 : w.heap.size + 1 + 1 + 1 < w1.heap.size := by omega); (try have q1_0_3_2 : w.heap.size + 1 + 1 + 1 < w1.heap.size + 1 + 1 := by omega); (try have q1_0_3_3 : w.heap.size + 1 + 1 + 1 < w1.heap.size + 1 + 1 + 1 := by omega); (try go_wp2_with fail)))
    go_ret2
    rw [s1.out, s2.out, s3.out]
    exact ⟨rfl, Blk.alloc (H.out.below hb1 hlt) _, (by repeat (first | with_reducible exact Touched.refl _ _ | (with_reducible refine Touched.alloc ?_ _) | (with_reducible refine Touched.setp ?_ _ (by first | exact .inl rfl | (right; first | omega | (simp; done) | (simp; omega))) _) | (with_reducible refine Touched.drew ?_) | (with_reducible refine Touched.drewN ?_ _) | (with_reducible assumption) | (with_reducible refine Touched.then (by with_reducible assumption) ?_)))⟩
end Go.Proofs.YtfjpfkejajgkbaaDoor
