/- The reference's small functions (spans, drift, probes), walked: each computes what its plain namesake does. -/
import Derived.Test.YtdjkhagdckhijaaDoorDrift
import Derived.Test.YtdjkhagdckhijaaDoorRec
namespace Go.Proofs.YtdjkhagdckhijaaDoor
open Go.RowKit
set_option linter.unusedVariables false
set_option linter.unusedSimpArgs false
theorem upD_eq {a b : Int} (h0 : 0 ≤ a) (hb : 1 ≤ b) : (if a / b * b < a then a / b + 1 else a / b) = upD a b := by
  have h1 := Int.emod_add_ediv_mul a b
  have h2 := Int.emod_nonneg a (show b ≠ 0 by omega)
  have h3 := Int.emod_lt_of_pos a (show 0 < b by omega)
  have h4 := upD_spec (a := a) (b := b) hb
  have hm : ∀ x y : Int, x * b ≤ y * b + (b - 1) → x ≤ y := fun x y h => by
    rcases Int.lt_or_le y x with hlt | hge
    · have := Int.mul_le_mul_of_nonneg_right (show y + 1 ≤ x by omega) (show (0 : Int) ≤ b by omega)
      rw [Int.add_mul] at this; omega
    · exact hge
  have hq : (a / b + 1) * b = a / b * b + b := by rw [Int.add_mul]; omega
  split
  · exact Int.le_antisymm (hm _ _ (by omega)) (hm _ _ (by omega))
  · exact Int.le_antisymm (hm _ _ (by omega)) (hm _ _ (by omega))
