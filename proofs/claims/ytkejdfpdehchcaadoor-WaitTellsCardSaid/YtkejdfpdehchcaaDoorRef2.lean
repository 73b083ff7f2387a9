/- The reference's later functions, walked. -/
import Derived.Test.YtkejdfpdehchcaaDoorRef1
import Derived.Test.YtkejdfpdehchcaaDoorWait
namespace Go.Proofs.YtkejdfpdehchcaaDoor
open Go.RowKit
set_option linter.unusedVariables false
set_option linter.unusedSimpArgs false
theorem r2_Wait (a b t p : Int) (w : World) (h1 : rightB a b = true) (h2 : timeB t = true) (h3 : rateB p = true) :
    Calls Tryd.prog 27 #[.agg #[.int .i64 a, .int .i64 b], .int .i64 t, .int .i64 p] w fun e w' => e = .returned (.tuple #[.int .i64 (waitV a b t p), .int .i64 (waitC a b t p)]) ∧ Below w.heap.size w w' := by
  have h : wreadyB a b t = true := by simp [wreadyB, h1, h2]
  obtain ⟨g1, g2, g3⟩ := rightB_iff.1 h1
  obtain ⟨g4, g5⟩ := timeB_iff.1 h2
  obtain ⟨r2, r3⟩ := rateB_iff.1 h3
  by_cases c1 : t < a
  · have hV : waitV a b t p = 0 := by unfold waitV; rw [if_neg (by omega)]
    have hC : waitC a b t p = 0 := by simp [waitC, lateB, h, h3, okC]; omega
    have HV := Lib.hid hV
    have HC := Lib.hid hC
    clear hV hC
    go_enter Tryd.func27, Tryd.ntmps27
    go_wp2_with fail
    go_ret2
    exact ⟨by rw [HV.out, HC.out] <;> rfl, (by repeat (first | exact Below.refl _ _ | (refine Below.alloc ?_ (by first | omega | (simp; done) | (simp; omega)) _) | (refine Below.setCell ?_ (by first | omega | (simp; done) | (simp; omega)) _) | (refine Below.drew ?_) | (refine below_drewN ?_ _) | (exact (by assumption)) | (refine bel_step (by assumption) ?_ (by first | omega | (simp; done) | (simp; omega)))))⟩
  · obtain ⟨m1, m2⟩ := mul_bd (show (0:Int) ≤ t - a + 1 by omega) (show t - a + 1 ≤ 2000000000001 by omega) (show (0:Int) ≤ 1000000 + p by omega) (show 1000000 + p ≤ 1001000 by omega)
    by_cases c2 : 1000000000000 < upD ((t - a + 1) * (1000000 + p)) 1000000
    · have h4 : farB a t p = true := by unfold farB needD; simpa using c2
      have hV : waitV a b t p = 0 := by unfold waitV; rw [if_neg (by simp [h4])]
      have hC : waitC a b t p = 1 := by simp [waitC, lateB, h, h3, okC, h4]; omega
      have HV := Lib.hid hV
      have HC := Lib.hid hC
      clear hV hC h4
      go_enter Tryd.func27, Tryd.ntmps27
      go_wp2_with (go_at_call 76; refine (r1_Up _ _ _ (by omega) (by omega) (by omega) (by omega)).mono ?_; rintro e w' ⟨rfl, rfl⟩)
      go_ret2
      exact ⟨by rw [HV.out, HC.out] <;> rfl, (by repeat (first | exact Below.refl _ _ | (refine Below.alloc ?_ (by first | omega | (simp; done) | (simp; omega)) _) | (refine Below.setCell ?_ (by first | omega | (simp; done) | (simp; omega)) _) | (refine Below.drew ?_) | (refine below_drewN ?_ _) | (exact (by assumption)) | (refine bel_step (by assumption) ?_ (by first | omega | (simp; done) | (simp; omega)))))⟩
    · have h4 : farB a t p = false := by unfold farB needD; simpa using c2
      have hV : waitV a b t p = upD ((t - a + 1) * (1000000 + p)) 1000000 := by unfold waitV; rw [if_pos ⟨h, h3, by omega, h4⟩]; rfl
      have hC : waitC a b t p = 0 := by simp [waitC, lateB, h, h3, okC, h4]
      have HV := Lib.hid hV
      have HC := Lib.hid hC
      clear hV hC h4
      go_enter Tryd.func27, Tryd.ntmps27
      go_wp2_with (go_at_call 76; refine (r1_Up _ _ _ (by omega) (by omega) (by omega) (by omega)).mono ?_; rintro e w' ⟨rfl, rfl⟩)
      go_ret2
      exact ⟨by rw [HV.out, HC.out] <;> rfl, (by repeat (first | exact Below.refl _ _ | (refine Below.alloc ?_ (by first | omega | (simp; done) | (simp; omega)) _) | (refine Below.setCell ?_ (by first | omega | (simp; done) | (simp; omega)) _) | (refine Below.drew ?_) | (refine below_drewN ?_ _) | (exact (by assumption)) | (refine bel_step (by assumption) ?_ (by first | omega | (simp; done) | (simp; omega)))))⟩
end Go.Proofs.YtkejdfpdehchcaaDoor
