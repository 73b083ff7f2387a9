/- The reference's small functions (spans, drift, probes), walked: each computes what its plain namesake does. -/
import Derived.Test.YtjhfikbjfipmkaaDoorDrift
import Derived.Test.YtjhfikbjfipmkaaDoorRec
namespace Go.Proofs.YtjhfikbjfipmkaaDoor
open Go.RowKit
set_option linter.unusedVariables false
set_option linter.unusedSimpArgs false
theorem upD_eq {a b : Int} (h0 : 0 ≤ a) (hb : 1 ≤ b) : (if a / b * b < a then a / b + 1 else a / b) = upD a b := by
  have h1 := Int.emod_add_ediv_mul a b
  have h2 := Int.emod_nonneg a (show b ≠ 0 by omega)
  have h3 := Int.emod_lt_of_pos a (show 0 < b by omega)
  have h4 := upD_spec (a := a) (b := b) hb
  have hm : ∀ x y : Int, x * b ≤ y * b + (b - 1) → x ≤ y := fun x y h => by
    rcases Int.lt_or_le y x with hlt | hge
    · have := Int.mul_le_mul_of_nonneg_right (show y + 1 ≤ x by omega) (show (0 : Int) ≤ b by omega)
      rw [Int.add_mul] at this; omega
    · exact hge
  have hq : (a / b + 1) * b = a / b * b + b := by rw [Int.add_mul]; omega
  split
  · exact Int.le_antisymm (hm _ _ (by omega)) (hm _ _ (by omega))
  · exact Int.le_antisymm (hm _ _ (by omega)) (hm _ _ (by omega))
theorem r1_Time (n : Int) (w : World) :
    Calls Tryd.prog 29 #[.int .i64 n] w fun e w' => e = .returned (.bool (timeB n)) ∧ w = w' := by
  go_enter Tryd.func29, Tryd.ntmps29
  go_wp2
  all_goals (go_ret; exact ⟨ret_bool (by simp [timeB]; try omega), rfl⟩)
theorem r1_Span (lo hi : Int) (w : World) :
    Calls Tryd.prog 12 #[.agg #[.int .i64 lo, .int .i64 hi]] w fun e w' => e = .returned (.bool (rightB lo hi)) ∧ Below w.heap.size w w' := by
  go_enter Tryd.func12, Tryd.ntmps12
  go_wp2_with (go_at_call 29; refine (r1_Time _ _).mono ?_; rintro e w' ⟨rfl, rfl⟩)
  all_goals (go_ret; exact ⟨ret_bool (by simp_all [rightB]; try omega), (by repeat (first | with_reducible exact Below.refl _ _ | (with_reducible refine Below.alloc ?_ (by first | omega | (simp; done) | (simp; omega)) _) | (with_reducible refine Below.setCell ?_ (by first | omega | (simp; done) | (simp; omega)) _) | (with_reducible refine Below.drew ?_) | (with_reducible refine below_drewN ?_ _) | (with_reducible assumption) | (with_reducible refine bel_step (by with_reducible assumption) ?_ (by first | omega | (simp; done) | (simp; omega)))))⟩)
