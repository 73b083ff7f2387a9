/- Days, months and years, in plain Lean: no program stands here. -/
import Derived.Test.YtcigoleplhdlaaaDoorPlain
namespace Go.Proofs.YtcigoleplhdlaaaDoor
open Go.RowKit
set_option linter.unusedVariables false
set_option linter.unusedSimpArgs false
def leapB (y : Int) : Bool := decide (y % 4 = 0) && (!decide (y % 100 = 0) || decide (y % 400 = 0))
def leapN (y : Int) : Int := if leapB y = true then 1 else 0
/-- days ahead of the first day of a year. -/
def firstD (y : Int) : Int := (y - 1970) * 365 + ((y - 1) / 4 - (y - 1) / 100 + (y - 1) / 400) - 477
/-- days of a year ahead of a month, with no leap day. -/
def beforeD (m : Int) : Int := if m ≤ 1 then 0 else if m = 2 then 31 else if m = 3 then 59 else if m = 4 then 90 else if m = 5 then 120 else if m = 6 then 151 else if m = 7 then 181 else if m = 8 then 212 else if m = 9 then 243 else if m = 10 then 273 else if m = 11 then 304 else if m = 12 then 334 else 365
def daysD (y m : Int) : Int := beforeD (m + 1) - beforeD m + (if m = 2 then leapN y else 0)
def aheadD (y m : Int) : Int := beforeD m + (if 2 < m then leapN y else 0)
theorem leapN_01 (y : Int) : 0 ≤ leapN y ∧ leapN y ≤ 1 := by unfold leapN; split <;> omega
theorem firstD_succ (y : Int) : firstD (y + 1) = firstD y + 365 + leapN y := by
  unfold firstD leapN leapB
  by_cases a : y % 4 = 0 <;> by_cases b : y % 100 = 0 <;> by_cases c : y % 400 = 0 <;> simp [a, b, c] <;> omega
def ymB (y m : Int) : Bool := decide (1970 ≤ y) && (decide (y ≤ 2199) && (decide (1 ≤ m) && decide (m ≤ 12)))
def dateB (y m d : Int) : Bool := ymB y m && (decide (1 ≤ d) && decide (d ≤ daysD y m))
def numD (y m d : Int) : Int := firstD y + aheadD y m + d - 1
def lastDay : Int := firstD 2200 - 1
theorem lastDay_eq : lastDay = 84005 := by decide
theorem aheadD_succ (y m : Int) (h1 : 1 ≤ m) (h2 : m ≤ 12) : aheadD y (m + 1) = aheadD y m + daysD y m := by
  have hc : m = 1 ∨ m = 2 ∨ m = 3 ∨ m = 4 ∨ m = 5 ∨ m = 6 ∨ m = 7 ∨ m = 8 ∨ m = 9 ∨ m = 10 ∨ m = 11 ∨ m = 12 := by omega
  unfold aheadD daysD
  rcases hc with rfl | rfl | rfl | rfl | rfl | rfl | rfl | rfl | rfl | rfl | rfl | rfl <;> simp [beforeD] <;> omega
theorem before_bd (m : Int) : 0 ≤ beforeD m ∧ beforeD m ≤ 365 := by
  unfold beforeD
  (repeat' split) <;> omega
theorem firstD_bd {y : Int} (h1 : 1970 ≤ y) (h2 : y ≤ 2200) : 0 ≤ firstD y ∧ firstD y ≤ 84006 := by unfold firstD; omega
theorem firstD_up {y : Int} (h1 : 1970 ≤ y) : firstD y + 365 ≤ firstD (y + 1) ∧ firstD (y + 1) ≤ firstD y + 366 := by
  have := firstD_succ y
  have := leapN_01 y
  omega
theorem aheadD_bd (y m : Int) : 0 ≤ aheadD y m ∧ aheadD y m ≤ 366 := by
  have := before_bd m
  have := leapN_01 y
  unfold aheadD
  split <;> omega
theorem daysD_bd {y m : Int} (h1 : 1 ≤ m) (h2 : m ≤ 12) : 28 ≤ daysD y m ∧ daysD y m ≤ 31 := by
  have hc : m = 1 ∨ m = 2 ∨ m = 3 ∨ m = 4 ∨ m = 5 ∨ m = 6 ∨ m = 7 ∨ m = 8 ∨ m = 9 ∨ m = 10 ∨ m = 11 ∨ m = 12 := by omega
  have := leapN_01 y
  unfold daysD
  rcases hc with rfl | rfl | rfl | rfl | rfl | rfl | rfl | rfl | rfl | rfl | rfl | rfl <;> simp [beforeD] <;> omega
theorem dateB_bd {y m d : Int} (h : dateB y m d = true) : 1970 ≤ y ∧ y ≤ 2199 ∧ 1 ≤ m ∧ m ≤ 12 ∧ 1 ≤ d ∧ d ≤ 31 := by
  simp only [dateB, ymB, Bool.and_eq_true, decide_eq_true_eq] at h
  have := daysD_bd (y := y) (m := m) (by omega) (by omega)
  omega
theorem ahead_13 (y : Int) : aheadD y 13 = 365 + leapN y := rfl
theorem ahead_1 (y : Int) : aheadD y 1 = 0 := rfl
theorem ahead_mono {y a b : Int} (h1 : 1 ≤ a) (h2 : a ≤ b) (h3 : b ≤ 13) : aheadD y a ≤ aheadD y b := by
  obtain ⟨k, rfl⟩ : ∃ k : Nat, b = a + k := ⟨(b - a).toNat, by omega⟩
  induction k with
  | zero => simp
  | succ k ih =>
    have := ih (by omega) (by omega)
    have e := aheadD_succ y (a + k) (by omega) (by omega)
    have := daysD_bd (y := y) (m := a + k) (by omega) (by omega)
    rw [show a + ((k + 1 : Nat) : Int) = a + k + 1 by omega]
    omega
theorem first_mono {a b : Int} (h1 : 1970 ≤ a) (h2 : a ≤ b) : firstD a ≤ firstD b := by unfold firstD; omega
theorem date_within {y m d n : Int} (h : dateB y m d = true) (hn : numD y m d = n) : firstD y ≤ n ∧ n < firstD (y + 1) ∧ aheadD y m ≤ n - firstD y ∧ n - firstD y < aheadD y (m + 1) := by
  obtain ⟨g1, g2, g3, g4, g5, g6⟩ := dateB_bd h
  have hd : d ≤ daysD y m := by simp only [dateB, Bool.and_eq_true, decide_eq_true_eq] at h; omega
  have e := aheadD_succ y m g3 g4
  have := aheadD_bd y m
  have := firstD_succ y
  have := ahead_13 y
  have := ahead_mono (y := y) (a := m + 1) (b := 13) (by omega) (by omega) (by omega)
  unfold numD at hn
  omega
theorem first_guess (n y : Int) (h0 : 0 ≤ n) (h1 : 1970 ≤ y) (h : n < firstD (y + 1)) : 1970 + n / 366 ≤ y := by
  rcases Int.lt_or_le y (1970 + n / 366) with hlt | hle
  · exfalso
    have : firstD (y + 1) ≤ firstD (1970 + n / 366) := first_mono (by omega) (by omega)
    have : firstD (1970 + n / 366) ≤ n := by unfold firstD; omega
    omega
  · exact hle
theorem ymB_mk {y m : Int} (h1 : 1970 ≤ y) (h2 : y ≤ 2199) (h3 : 1 ≤ m) (h4 : m ≤ 12) : ymB y m = true := by unfold ymB; simp; omega
theorem ymB_no {y m : Int} (h : y < 1970 ∨ 2199 < y ∨ m < 1 ∨ 12 < m) : ymB y m = false := by unfold ymB; simp; omega
theorem dateB_mk {y m d : Int} (h : ymB y m = true) (h1 : 1 ≤ d) (h2 : d ≤ daysD y m) : dateB y m d = true := by unfold dateB; rw [h]; simp; omega
theorem dateB_no {y m d : Int} (h : ymB y m = false) : dateB y m d = false := by unfold dateB; rw [h]; simp
theorem num_top {y n : Int} (h : y ≤ 2199) (h1 : n < firstD (y + 1)) : n ≤ 84005 := by unfold firstD at h1; omega
end Go.Proofs.YtcigoleplhdlaaaDoor
