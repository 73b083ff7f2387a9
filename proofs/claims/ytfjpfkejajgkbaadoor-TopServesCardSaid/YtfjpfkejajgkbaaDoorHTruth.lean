/- True clocks: what they show drifts within bounds; what letters say of them is true. No program stands here. -/
import Derived.Test.YtfjpfkejajgkbaaDoorHNetE
namespace Go.Proofs.YtfjpfkejajgkbaaDoor
open Go.RowKit
set_option linter.unusedVariables false
set_option linter.unusedSimpArgs false
/-- one floor. -/
theorem floor_bd (x : Int) : 1000000 * (x / 1000000) ≤ x ∧ x < 1000000 * (x / 1000000) + 1000000 := by omega
theorem mul_range {d r p : Int} (d0 : 0 ≤ d) (h1 : -p ≤ r) (h2 : r ≤ p) : -(p * d) ≤ d * r ∧ d * r ≤ p * d := by
  have a := Int.mul_le_mul_of_nonneg_left h2 d0
  have b := Int.mul_le_mul_of_nonneg_left h1 d0
  rw [Int.mul_neg] at b
  rw [Int.mul_comm p d]
  omega
theorem read_mono {s r p t t' : Int} (ht : t ≤ t') (h1 : -p ≤ r) (h2 : r ≤ p) (p1 : p ≤ 1000) : readV s r t ≤ readV s r t' := by
  have d0 : 0 ≤ t' - t := by omega
  have m := mul_range d0 h1 h2
  have e : t' * r = t * r + (t' - t) * r := by rw [← Int.add_mul]; congr 1; omega
  have pd := Int.mul_le_mul_of_nonneg_right p1 d0
  unfold readV
  rw [e]
  generalize (t' - t) * r = Q at *
  generalize t * r = P at *
  generalize p * (t' - t) = E at *
  omega
/-- two clocks drift apart by no more than the slack of what one of them goes by. -/
theorem drift_apart {s1 r1 s2 r2 p t t' : Int} (ht : t ≤ t') (h1 : -p ≤ r1) (h2 : r1 ≤ p) (h3 : -p ≤ r2) (h4 : r2 ≤ p) (p0 : 0 ≤ p) (p1 : p ≤ 1000) :
    (readV s2 r2 t' - readV s2 r2 t) - (readV s1 r1 t' - readV s1 r1 t) ≤ slackD (readV s1 r1 t' - readV s1 r1 t) p ∧ (readV s1 r1 t' - readV s1 r1 t) - (readV s2 r2 t' - readV s2 r2 t) ≤ slackD (readV s1 r1 t' - readV s1 r1 t) p := by
  have d0 : 0 ≤ t' - t := by omega
  have m1 := mul_range d0 h1 h2
  have m2 := mul_range d0 h3 h4
  have e1 : t' * r1 = t * r1 + (t' - t) * r1 := by rw [← Int.add_mul]; congr 1; omega
  have e2 : t' * r2 = t * r2 + (t' - t) * r2 := by rw [← Int.add_mul]; congr 1; omega
  have pd0 := Int.mul_nonneg p0 d0
  unfold readV
  rw [e1, e2]
  obtain ⟨d, hd⟩ : ∃ d, t' - t = d := ⟨_, rfl⟩
  have ht' : t' = t + d := by omega
  rw [hd] at m1 m2 pd0 d0 ⊢
  subst ht'
  clear e1 e2 hd
  obtain ⟨E, hE⟩ : ∃ E, p * d = E := ⟨_, rfl⟩
  obtain ⟨Q1, hQ1⟩ : ∃ E, d * r1 = E := ⟨_, rfl⟩
  obtain ⟨Q2, hQ2⟩ : ∃ E, d * r2 = E := ⟨_, rfl⟩
  obtain ⟨P1, hP1⟩ : ∃ E, t * r1 = E := ⟨_, rfl⟩
  obtain ⟨P2, hP2⟩ : ∃ E, t * r2 = E := ⟨_, rfl⟩
  rw [hE, hQ1] at m1
  rw [hE, hQ2] at m2
  rw [hQ1, hQ2, hP1, hP2]
  rw [hE] at pd0
  clear hQ1 hQ2 hP1 hP2
  obtain ⟨n, hn⟩ : ∃ n, (s1 + (t + d) + (P1 + Q1) / 1000000) - (s1 + t + P1 / 1000000) = n := ⟨_, rfl⟩
  rw [hn]
  have f1 := floor_bd (P1 + Q1)
  have f2 := floor_bd P1
  have f3 := floor_bd (P2 + Q2)
  have f4 := floor_bd P2
  have hn1 : 1000000 * n ≥ 1000000 * d - E - 1000000 + 1 := by omega
  have F0 := Int.mul_le_mul_of_nonneg_right p1 pd0
  have hpn := Int.mul_le_mul_of_nonneg_left hn1 p0
  have ex1 : p * (1000000 * d - E - 1000000 + 1) = 1000000 * E - p * E - 1000000 * p + p := by
    rw [Int.mul_add, Int.mul_sub, Int.mul_sub, ← hE]
    rw [Int.mul_left_comm p 1000000 d]
    omega
  have ex2 : p * (1000000 * n) = 1000000 * (p * n) := Int.mul_left_comm p 1000000 n
  rw [ex1, ex2] at hpn
  have sp := upD_spec (a := n * (3 * p)) (b := 1000000) (by omega)
  have ex3 : n * (3 * p) = 3 * (p * n) := by rw [Int.mul_left_comm, Int.mul_comm n p]
  rw [ex3] at sp
  unfold slackD byP
  rw [ex3]
  generalize upD (3 * (p * n)) 1000000 = U at *
  generalize p * n = W at *
  generalize p * E = F at *
  clear hE ex1 ex2 ex3
  constructor
  · omega
  · omega
end Go.Proofs.YtfjpfkejajgkbaaDoor
