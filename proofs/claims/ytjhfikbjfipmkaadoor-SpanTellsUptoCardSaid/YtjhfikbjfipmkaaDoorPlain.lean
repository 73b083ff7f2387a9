/- The plain functions: what the packages compute, on numbers alone. No program stands here. -/
import Derived.Below
namespace Go.Proofs.YtjhfikbjfipmkaaDoor
open Go.RowKit
set_option linter.unusedVariables false
set_option linter.unusedSimpArgs false

def timeB (n : Int) : Bool := decide (-1000000000000 ≤ n) && decide (n ≤ 1000000000000)
def rightB (lo hi : Int) : Bool := decide (lo ≤ hi) && timeB lo && timeB hi
def rateB (n : Int) : Bool := decide (0 ≤ n) && decide (n ≤ 1000)
def readyB (n p : Int) : Bool := decide (0 ≤ n) && decide (n ≤ 1000000000000) && rateB p
theorem timeB_iff {n : Int} : timeB n = true ↔ -1000000000000 ≤ n ∧ n ≤ 1000000000000 := by simp [timeB]
theorem rightB_iff {a b : Int} : rightB a b = true ↔ a ≤ b ∧ -1000000000000 ≤ a ∧ b ≤ 1000000000000 := by simp [rightB, timeB]; omega
theorem rateB_iff {n : Int} : rateB n = true ↔ 0 ≤ n ∧ n ≤ 1000 := by simp [rateB]
theorem readyB_iff {n p : Int} : readyB n p = true ↔ 0 ≤ n ∧ n ≤ 1000000000000 ∧ 0 ≤ p ∧ p ≤ 1000 := by simp [readyB, rateB]; omega
/-- 0 where it is right, 1 (out of range) where not. -/
def okC (b : Bool) : Int := if b = true then 0 else 1
/-- a span, and the number of an error. -/
structure SE where
  lo : Int
  hi : Int
  c : Int
def whole (lo hi : Int) : SE := if rightB lo hi = true then ⟨lo, hi, 0⟩ else ⟨0, 0, 1⟩
def commonB (a b c d : Int) : Bool := decide (max a c ≤ min b d)
def meet (a b c d : Int) : SE := if rightB a b = true ∧ rightB c d = true then (if commonB a b c d = true then ⟨max a c, min b d, 0⟩ else ⟨0, 0, 5⟩) else ⟨0, 0, 1⟩
def hull (a b c d : Int) : SE := if rightB a b = true ∧ rightB c d = true then ⟨min a c, max b d, 0⟩ else ⟨0, 0, 1⟩
def addS (a b c d : Int) : SE := if rightB a b = true ∧ rightB c d = true then whole (a + c) (b + d) else ⟨0, 0, 1⟩
def turnS (a b : Int) : SE := if rightB a b = true then ⟨-b, -a, 0⟩ else ⟨0, 0, 1⟩
def widen (a b n : Int) : SE := if rightB a b = true ∧ 0 ≤ n ∧ n ≤ 1000000000000 then whole (a - n) (b + n) else ⟨0, 0, 1⟩
def hasB (a b n : Int) : Bool := rightB a b && (decide (a ≤ n) && decide (n ≤ b))
def beforeB (a b c d : Int) : Bool := rightB a b && (rightB c d && decide (b < c))
/-- rounded up -/
def upD (a b : Int) : Int := (a + b - 1) / b
def byP (n p : Int) : Int := upD (n * p) 1000000
theorem mul_bd {n q A B : Int} (h0 : 0 ≤ n) (h1 : n ≤ A) (h2 : 0 ≤ q) (h3 : q ≤ B) : 0 ≤ n * q ∧ n * q ≤ A * B :=
  ⟨Int.mul_nonneg h0 h2, Int.mul_le_mul h1 h3 h2 (by omega)⟩
theorem upD_bd {a b : Int} (h0 : 0 ≤ a) (h1 : 1 ≤ b) : 0 ≤ upD a b ∧ upD a b ≤ a := by
  unfold upD
  refine ⟨Int.ediv_nonneg (by omega) (by omega), ?_⟩
  rcases Int.lt_or_le 0 a with h | h
  · have : a + b - 1 ≤ a * b := by
      have := Int.mul_nonneg (show (0:Int) ≤ a - 1 by omega) (show (0:Int) ≤ b - 1 by omega)
      have e : (a - 1) * (b - 1) = a * b - a - b + 1 := by rw [Int.sub_mul, Int.mul_sub, Int.mul_sub]; omega
      rw [e] at this; omega
    exact Int.ediv_le_of_le_mul (by omega) this
  · have : a = 0 := by omega
    subst this
    rw [show (0 + b - 1 : Int) = b - 1 by omega]
    exact Int.le_of_eq (Int.ediv_eq_zero_of_lt (by omega) (by omega))
/-- upD is the least that times b is no less than a. -/
theorem upD_spec {a b : Int} (h1 : 1 ≤ b) : a ≤ upD a b * b ∧ upD a b * b ≤ a + b - 1 := by
  unfold upD
  have := Int.emod_add_ediv_mul (a + b - 1) b
  have := Int.emod_nonneg (a + b - 1) (show b ≠ 0 by omega)
  have := Int.emod_lt_of_pos (a + b - 1) (show 0 < b by omega)
  omega
theorem upD_mono {a a' b : Int} (h : a ≤ a') (h1 : 1 ≤ b) : upD a b ≤ upD a' b := Int.ediv_le_ediv (by omega) (by omega)
theorem byP_bd {n p : Int} (h0 : 0 ≤ n) (h1 : n ≤ 2000000000000) (h2 : 0 ≤ p) (h3 : p ≤ 3000) : 0 ≤ byP n p ∧ byP n p ≤ 6000000000 := by
  unfold byP
  have h := mul_bd h0 h1 h2 h3
  refine ⟨(upD_bd h.1 (by omega)).1, ?_⟩
  exact Int.le_trans (upD_mono h.2 (by omega)) (by decide)
def growV (n p : Int) : Int := if readyB n p = true then byP n p else 0
def growC (n p : Int) : Int := okC (readyB n p)
def localS (n p : Int) : SE := if readyB n p = true then whole (n * (1000000 - p) / 1000000) (upD (n * (1000000 + p)) 1000000) else ⟨0, 0, 1⟩
def leastD (n p : Int) : Int := n * 1000000 / (1000000 + p)
def trueS (n p : Int) : SE := if readyB n p = true then whole (leastD n p) (upD (n * 1000000) (1000000 - p)) else ⟨0, 0, 1⟩
def ageS (a b n p : Int) : SE := if rightB a b = true ∧ readyB n p = true then widen a b (byP n p) else ⟨0, 0, 1⟩
/-- wait -/
def wreadyB (a b t : Int) : Bool := rightB a b && timeB t
def needD (a t p : Int) : Int := upD ((t - a + 1) * (1000000 + p)) 1000000
def farB (a t p : Int) : Bool := decide (1000000000000 < needD a t p)
def lateB (a t p : Int) : Bool := decide (a ≤ t) && farB a t p
def waitC (a b t p : Int) : Int := okC (wreadyB a b t && (rateB p && !lateB a t p))
def waitV (a b t p : Int) : Int := if wreadyB a b t = true ∧ rateB p = true ∧ a ≤ t ∧ farB a t p = false then needD a t p else 0
/-- probe -/
def slackD (n p : Int) : Int := 2 + byP n (3 * p)
def times4B (a b c d : Int) : Bool := timeB a && (timeB b && (timeB c && timeB d))
def probeC (a b c d : Int) : Int := if times4B a b c d = true then (if d < a ∨ c < b then 3 else 0) else 1
theorem probeC_bad {t1 t2 t3 t4 : Int} (h : timeB t1 = false ∨ timeB t2 = false ∨ timeB t3 = false ∨ timeB t4 = false) : probeC t1 t2 t3 t4 = 1 := by
  unfold probeC times4B
  rcases h with h | h | h | h <;> simp [h]
theorem probeC_good {t1 t2 t3 t4 : Int} (h1 : timeB t1 = true) (h2 : timeB t2 = true) (h3 : timeB t3 = true) (h4 : timeB t4 = true) : probeC t1 t2 t3 t4 = if t4 < t1 ∨ t3 < t2 then 3 else 0 := by
  unfold probeC times4B
  simp [h1, h2, h3, h4]
def okP (t1 t4 p : Int) : Bool := rateB p && decide (t4 - t1 ≤ 1000000000000)
def offHi (t1 t2 t4 p : Int) : Int := t2 - t1 + slackD (t4 - t1) p
def offIn (t1 t2 t3 t4 p : Int) : Bool := timeB (t3 - t4) && timeB (offHi t1 t2 t4 p)
def offS (t1 t2 t3 t4 p : Int) : SE :=
  if probeC t1 t2 t3 t4 = 0 then
    (if okP t1 t4 p = true then (if offIn t1 t2 t3 t4 p = true then (if t3 - t4 ≤ offHi t1 t2 t4 p then ⟨t3 - t4, offHi t1 t2 t4 p, 0⟩ else ⟨0, 0, 7⟩) else ⟨0, 0, 1⟩) else ⟨0, 0, 1⟩)
  else ⟨0, 0, probeC t1 t2 t3 t4⟩
theorem probeC_0 {t1 t2 t3 t4 : Int} (h : probeC t1 t2 t3 t4 = 0) : timeB t1 = true ∧ timeB t2 = true ∧ timeB t3 = true ∧ timeB t4 = true ∧ t1 ≤ t4 ∧ t2 ≤ t3 := by
  unfold probeC times4B at h
  split at h
  · rename_i g
    simp only [Bool.and_eq_true] at g
    split at h
    · omega
    · exact ⟨g.1, g.2.1, g.2.2.1, g.2.2.2, by omega, by omega⟩
  · omega
theorem probeC_3 (t1 t2 t3 t4 : Int) : probeC t1 t2 t3 t4 = 0 ∨ probeC t1 t2 t3 t4 = 1 ∨ probeC t1 t2 t3 t4 = 3 := by
  unfold probeC
  split
  · split <;> simp
  · simp
theorem offS_bd (t1 t2 t3 t4 p : Int) : -1000000000000 ≤ (offS t1 t2 t3 t4 p).lo ∧ (offS t1 t2 t3 t4 p).lo ≤ 1000000000000 ∧ -1000000000000 ≤ (offS t1 t2 t3 t4 p).hi ∧ (offS t1 t2 t3 t4 p).hi ≤ 1000000000000 := by
  unfold offS
  split
  · split
    · split
      · rename_i h
        simp only [offIn, Bool.and_eq_true, timeB_iff] at h
        split <;> simp <;> omega
      · simp
    · simp
  · simp
theorem offS_c (t1 t2 t3 t4 p : Int) : (offS t1 t2 t3 t4 p).c = 0 ∨ (offS t1 t2 t3 t4 p).c = 1 ∨ (offS t1 t2 t3 t4 p).c = 3 ∨ (offS t1 t2 t3 t4 p).c = 7 := by
  unfold offS
  rcases probeC_3 t1 t2 t3 t4 with h | h | h
  · rw [if_pos h]
    split
    · split
      · split <;> simp
      · simp
    · simp
  · rw [if_neg (by omega), h]; simp
  · rw [if_neg (by omega), h]; simp
theorem whole_c0 {lo hi : Int} (h : (whole lo hi).c = 0) : rightB lo hi = true ∧ whole lo hi = ⟨lo, hi, 0⟩ := by
  unfold whole at h ⊢
  by_cases c : rightB lo hi = true
  · simp [c]
  · rw [if_neg c] at h; simp at h
theorem whole_01 (lo hi : Int) : (whole lo hi).c = 0 ∨ (whole lo hi).c = 1 := by
  unfold whole; split <;> simp
theorem localS_0 {n p : Int} (h : (localS n p).c = 0) : readyB n p = true ∧ rightB (n * (1000000 - p) / 1000000) (upD (n * (1000000 + p)) 1000000) = true ∧ localS n p = ⟨n * (1000000 - p) / 1000000, upD (n * (1000000 + p)) 1000000, 0⟩ := by
  unfold localS at h ⊢
  by_cases c : readyB n p = true
  · rw [if_pos c] at h ⊢
    have := whole_c0 h
    exact ⟨c, this.1, this.2⟩
  · rw [if_neg c] at h; simp at h
theorem trueS_0 {n p : Int} (h : (trueS n p).c = 0) : readyB n p = true ∧ rightB (leastD n p) (upD (n * 1000000) (1000000 - p)) = true ∧ trueS n p = ⟨leastD n p, upD (n * 1000000) (1000000 - p), 0⟩ := by
  unfold trueS at h ⊢
  by_cases c : readyB n p = true
  · rw [if_pos c] at h ⊢
    have := whole_c0 h
    exact ⟨c, this.1, this.2⟩
  · rw [if_neg c] at h; simp at h
theorem trueS_01 (n p : Int) : (trueS n p).c = 0 ∨ (trueS n p).c = 1 := by
  unfold trueS; split
  · exact whole_01 _ _
  · simp
def pastB (a b t : Int) : Bool := wreadyB a b t && decide (t < a)
def futureB (a b t : Int) : Bool := wreadyB a b t && decide (b < t)
def stampV (a b : Int) : Int := if rightB a b = true then b else 0
theorem wreadyB_iff {a b t : Int} : wreadyB a b t = true ↔ rightB a b = true ∧ timeB t = true := by simp [wreadyB]
theorem okC_cases (b : Bool) : okC b = 0 ∧ b = true ∨ okC b = 1 ∧ b = false := by cases b <;> simp [okC]
end Go.Proofs.YtjhfikbjfipmkaaDoor
