/- What a net of true clocks tells, for what reads it. No program stands here. -/
import Derived.Test.YtfjpfkejajgkbaaHTruthE
namespace Go.Proofs.Ytfjpfkejajgkbaa
open Go.RowKit
set_option linter.unusedVariables false
set_option linter.unusedSimpArgs false
theorem TrueN.offset_in {n : Nat} {ss rs : List Int} {p t : Int} {us : List RLetter} {S : Nat → NSt} (h : TrueN n ss rs p t us S) (h1 : 1 ≤ n) {a b : Int} {x : RSpan} {c : Int} (hO : OffS n (hereAt ss rs t) S a b x c) :
    c ≠ 0 ∨ (c = 0 ∧ ∃ i k : Nat, a = i ∧ b = k ∧ i < n ∧ k < n ∧ hasB x.lo x.hi (hereAt ss rs t k - hereAt ss rs t i) = true) := by
  by_cases hc : c = 0
  · have hn : (nodeB (n : Int) a && nodeB (n : Int) b) = true := by
      rcases hO with ⟨_, h0, _⟩ | ⟨h0, _⟩
      · omega
      · exact h0
    rw [Bool.and_eq_true, nodeB_iff, nodeB_iff] at hn
    obtain ⟨i, rfl⟩ := Int.eq_ofNat_of_zero_le (show 0 ≤ a by omega)
    obtain ⟨k, rfl⟩ := Int.eq_ofNat_of_zero_le (show 0 ≤ b by omega)
    refine .inr ⟨hc, i, k, rfl, rfl, by omega, by omega, ?_⟩
    rcases h.offset h1 (by omega) (by omega) hO with h5 | h5
    · omega
    · exact h5.2
  · exact .inl hc
end Go.Proofs.Ytfjpfkejajgkbaa
