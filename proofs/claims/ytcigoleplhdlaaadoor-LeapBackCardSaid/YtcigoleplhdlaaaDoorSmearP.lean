/- Smeared time never goes back, in plain Lean: no program stands here. -/
import Derived.Test.YtcigoleplhdlaaaDoorLeapP
namespace Go.Proofs.YtcigoleplhdlaaaDoor
open Go.RowKit
set_option linter.unusedVariables false
set_option linter.unusedSimpArgs false
theorem from_end {l : List RLeap} (h : LeapGood l) {x : RLeap} (hx : x ∈ l) : fromL l x + wideL x = beginL l (x.day + 1) + 43200 := by
  have := beginL_succ l x.day
  have := atL_mem h hx
  unfold fromL wideL
  omega
theorem smear_some {l : List RLeap} (h : LeapGood l) {t d : Int} {x : RLeap} (hf : l.find? (inL l t) = some x) :
    x ∈ l ∧ beginL l x.day + 43200 ≤ t ∧ t < beginL l (x.day + 1) + 43200 ∧
    ∃ Q, smearV l t d = 1000 * (86400 * x.day + 43200) + Q ∧ Q = 86400000 * (t - (beginL l x.day + 43200)) / wideL x ∧ 0 ≤ Q ∧ Q ≤ 86400000 := by
  have hm := List.mem_of_find?_eq_some hf
  have hp := List.find?_some hf
  simp only [inL, Bool.and_eq_true, decide_eq_true_eq] at hp
  have he := from_end h hm
  have hw := byL_bd x
  have hW : 86399 ≤ wideL x := by unfold wideL; omega
  obtain ⟨p1, p2⟩ := hp
  have hfr : fromL l x = beginL l x.day + 43200 := rfl
  rw [he] at p2
  rw [hfr] at p1 he
  refine ⟨hm, p1, p2, 86400000 * (t - (beginL l x.day + 43200)) / wideL x, ?_, rfl, Int.ediv_nonneg (by omega) (by omega), ?_⟩
  · unfold smearV
    rw [hf]
    show 1000 * (fromL l x - moreL l x.day) + 86400000 * (t - fromL l x) / wideL x = _
    rw [hfr]
    have : beginL l x.day - moreL l x.day = 86400 * x.day := by unfold beginL; omega
    congr 1
    omega
  · exact Int.ediv_le_of_le_mul (by omega) (by
      have : t - (beginL l x.day + 43200) ≤ wideL x := by omega
      exact Int.mul_le_mul_of_nonneg_left this (by omega))
theorem smear_none {l : List RLeap} (h : LeapGood l) {t d : Int} (k1 : beginL l d ≤ t) (k2 : t < beginL l (d + 1)) (hf : l.find? (inL l t) = none) :
    smearV l t d = 1000 * (86400 * d + (t - beginL l d)) ∧ t - beginL l d < 86400 ∧ ∀ x ∈ l, ¬ (beginL l x.day + 43200 ≤ t ∧ t < beginL l (x.day + 1) + 43200) := by
  have hall : ∀ x ∈ l, ¬ (beginL l x.day + 43200 ≤ t ∧ t < beginL l (x.day + 1) + 43200) := by
    intro x hx hc
    have := List.find?_eq_none.1 hf x hx
    apply this
    have he := from_end h hx
    have hfr : fromL l x = beginL l x.day + 43200 := rfl
    simp only [inL, Bool.and_eq_true, decide_eq_true_eq]
    omega
  refine ⟨?_, ?_, hall⟩
  · unfold smearV
    rw [hf]
    show 1000 * (t - moreL l d) = _
    unfold beginL
    omega
  · have hs := beginL_succ l d
    rcases atL_one h.chk d with ⟨h0, _⟩ | ⟨x, hx, hd, h1⟩
    · omega
    · have := hall x hx
      rw [hd] at this
      have := byL_bd x
      omega
/-- smeared time never goes back. -/
theorem smear_mono {l : List RLeap} (h : LeapGood l) {n m d e : Int} (hnm : n < m) (a1 : beginL l d ≤ n) (a2 : n < beginL l (d + 1)) (b1 : beginL l e ≤ m) (b2 : m < beginL l (e + 1)) : smearV l n d ≤ smearV l m e := by
  have hde : d ≤ e := by
    rcases Int.lt_or_le e d with hlt | hle
    · have := beginL_mono h (show e + 1 ≤ d by omega); omega
    · exact hle
  cases hf : l.find? (inL l n) with
  | none =>
    obtain ⟨v1, s1, o1⟩ := smear_none h a1 a2 hf
    cases hg : l.find? (inL l m) with
    | none =>
      obtain ⟨v2, s2, o2⟩ := smear_none h b1 b2 hg
      rw [v1, v2]
      rcases Int.lt_or_le d e with hlt | hle
      · omega
      · obtain rfl : d = e := by omega
        omega
    | some y =>
      obtain ⟨hy, p1, p2, Q, v2, _, q0, q1⟩ := smear_some (d := e) h hg
      have hn := o1 y hy
      have hE := beginL_succ l y.day
      have hA := atL_bd h y.day
      have hd : d ≤ y.day := by
        rcases Int.lt_or_le y.day d with hlt | hle
        · have := beginL_mono h (show y.day + 1 ≤ d by omega); omega
        · exact hle
      rw [v1, v2]
      rcases Int.lt_or_le d y.day with hlt | hle
      · omega
      · obtain rfl : d = y.day := by omega
        omega
  | some x =>
    obtain ⟨hx, p1, p2, Q, v1, eQ, q0, q1⟩ := smear_some (d := d) h hf
    cases hg : l.find? (inL l m) with
    | none =>
      obtain ⟨v2, s2, o2⟩ := smear_none h b1 b2 hg
      have hn := o2 x hx
      have he : x.day + 1 ≤ e := by
        rcases Int.lt_or_le e (x.day + 1) with hlt | hle
        · have := beginL_mono h (show e + 1 ≤ x.day + 1 by omega); omega
        · exact hle
      rw [v1, v2]
      rcases Int.lt_or_le (x.day + 1) e with hlt | hle
      · omega
      · obtain rfl : e = x.day + 1 := by omega
        omega
    | some y =>
      obtain ⟨hy, r1, r2, R, v2, eR, t0, t1⟩ := smear_some (d := e) h hg
      rw [v1, v2]
      rcases Int.lt_trichotomy x.day y.day with hlt | he | hlt
      · omega
      · have := chk_one h.chk hx hy he
        subst this
        have : Q ≤ R := by
          rw [eQ, eR]
          exact Int.ediv_le_ediv (by have := byL_bd x; unfold wideL; omega) (by omega)
        omega
      · have := beginL_mono h (show y.day + 1 ≤ x.day by omega)
        omega
end Go.Proofs.YtcigoleplhdlaaaDoor
