/- Worlds of clocks, in plain Lean: no program stands here. -/
import Derived.Test.YtloniibmmajlbaaDoorPlain
namespace Go.Proofs.YtloniibmmajlbaaDoor
open Go.RowKit
set_option linter.unusedVariables false
set_option linter.unusedSimpArgs false
/-- what a clock shows that began so, goes at a rate, at a time. -/
def readV (s r t : Int) : Int := s + t + t * r / 1000000
def hasN (n : Nat) (i : Int) : Bool := decide (0 ≤ i) && decide (i < n)
theorem mul_bd2 {t r : Int} (h0 : 0 ≤ t) (h1 : t ≤ 1000000000) (h2 : -1000 ≤ r) (h3 : r ≤ 1000) : -1000000000000 ≤ t * r ∧ t * r ≤ 1000000000000 := by
  have a := Int.mul_le_mul_of_nonneg_left h3 h0
  have b := Int.mul_le_mul_of_nonneg_left h2 h0
  omega
theorem readV_bd {s r t : Int} (s0 : 0 ≤ s) (s1 : s ≤ 1000000) (h0 : 0 ≤ t) (h1 : t ≤ 1000000000) (h2 : -1000 ≤ r) (h3 : r ≤ 1000) : 0 ≤ readV s r t ∧ readV s r t ≤ 1002000000 := by
  have a := Int.mul_le_mul_of_nonneg_left h3 h0
  have b := Int.mul_le_mul_of_nonneg_left h2 h0
  unfold readV
  omega
def clocksB (p : Int) : List Int → List Int → Bool
  | s :: ss, r :: rs => decide (0 ≤ s) && (decide (s ≤ 1000000) && (decide (-p ≤ r) && (decide (r ≤ p) && clocksB p ss rs)))
  | _, _ => true
/-- the fault of a world. -/
def newC (ss rs : List Int) (p : Int) : Int :=
  if rateB p = true ∧ 1 ≤ ss.length ∧ ss.length ≤ 6 then (if rs.length = ss.length then okC (clocksB p ss rs) else 3) else 1
theorem down_eq (n : Int) : (if n.tmod 1000000 < 0 then n.tdiv 1000000 - 1 else n.tdiv 1000000) = n / 1000000 := by
  have h1 := Int.mul_tdiv_add_tmod n 1000000
  have h2 : n.tmod 1000000 < 1000000 := Int.tmod_lt_of_pos n (by omega)
  have h3 : (-n).tmod 1000000 < 1000000 := Int.tmod_lt_of_pos (-n) (by omega)
  rw [Int.neg_tmod] at h3
  have h4 : 0 ≤ n → 0 ≤ n.tmod 1000000 := fun h => Int.tmod_nonneg 1000000 h
  generalize n.tdiv 1000000 = q at *
  generalize n.tmod 1000000 = r at *
  split <;> omega
theorem newC_bad1 {ss rs : List Int} {p : Int} (h : rateB p = false ∨ ss.length < 1 ∨ 6 < ss.length) : newC ss rs p = 1 := by
  unfold newC
  rw [if_neg]
  rintro ⟨h1, h2, h3⟩
  rw [h1] at h
  rcases h with h | h | h
  · cases h
  · omega
  · omega
theorem newC_go {ss rs : List Int} {p : Int} (h : rateB p = true) (h1 : 1 ≤ ss.length) (h2 : ss.length ≤ 6) : newC ss rs p = if rs.length = ss.length then okC (clocksB p ss rs) else 3 := by
  unfold newC; rw [if_pos ⟨h, h1, h2⟩]
theorem clocksB_step {p : Int} {ss rs : List Int} {i : Nat} {s r : Int} (hs : ss[i]? = some s) (hr : rs[i]? = some r) :
    clocksB p (ss.drop i) (rs.drop i) = (decide (0 ≤ s) && (decide (s ≤ 1000000) && (decide (-p ≤ r) && (decide (r ≤ p) && clocksB p (ss.drop (i + 1)) (rs.drop (i + 1)))))) := by
  have l1 := (List.getElem?_eq_some_iff.1 hs).1
  have l2 := (List.getElem?_eq_some_iff.1 hr).1
  have d1 : ss.drop i = s :: ss.drop (i + 1) := by rw [List.drop_eq_getElem_cons l1]; congr 1; exact (List.getElem?_eq_some_iff.1 hs).2
  have d2 : rs.drop i = r :: rs.drop (i + 1) := by rw [List.drop_eq_getElem_cons l2]; congr 1; exact (List.getElem?_eq_some_iff.1 hr).2
  rw [d1, d2, clocksB]
theorem clocksB_nil {p : Int} {ss rs : List Int} {i : Nat} (h : ss.length ≤ i) : clocksB p (ss.drop i) (rs.drop i) = true := by
  rw [List.drop_of_length_le h]; rfl
theorem clocksB_get {p : Int} {ss rs : List Int} (h : clocksB p ss rs = true) (hl : rs.length = ss.length) (hp : p ≤ 1000) :
    (∀ (i : Nat) z, ss[i]? = some z → 0 ≤ z ∧ z ≤ 1000000) ∧ (∀ (i : Nat) z, rs[i]? = some z → -1000 ≤ z ∧ z ≤ 1000) := by
  induction ss generalizing rs with
  | nil => simp at hl; subst hl; simp
  | cons s ss ih =>
    cases rs with
    | nil => simp at hl
    | cons r rs =>
      simp only [clocksB, Bool.and_eq_true, decide_eq_true_eq] at h
      obtain ⟨h1, h2, h3, h4, h5⟩ := h
      obtain ⟨a, b⟩ := ih h5 (by simpa using hl)
      refine ⟨fun i z hz => ?_, fun i z hz => ?_⟩
      · cases i with
        | zero => simp at hz; subst hz; exact ⟨h1, h2⟩
        | succ i => exact a i z (by simpa using hz)
      · cases i with
        | zero => simp at hz; subst hz; omega
        | succ i => exact b i z (by simpa using hz)
theorem newC_0 {ss rs : List Int} {p : Int} (h : newC ss rs p = 0) : rateB p = true ∧ 1 ≤ ss.length ∧ ss.length ≤ 6 ∧ rs.length = ss.length ∧ clocksB p ss rs = true := by
  unfold newC at h
  split at h
  · rename_i g
    split at h
    · rename_i g2
      refine ⟨g.1, g.2.1, g.2.2, g2, ?_⟩
      cases hb : clocksB p ss rs with
      | true => rfl
      | false => rw [hb] at h; simp [okC] at h
    · omega
  · omega
theorem clocksB_rate {p : Int} {ss rs : List Int} (h : clocksB p ss rs = true) (hl : rs.length = ss.length) : ∀ (i : Nat) z, rs[i]? = some z → -p ≤ z ∧ z ≤ p := by
  induction ss generalizing rs with
  | nil => simp at hl; subst hl; simp
  | cons s ss ih =>
    cases rs with
    | nil => simp at hl
    | cons r rs =>
      simp only [clocksB, Bool.and_eq_true, decide_eq_true_eq] at h
      obtain ⟨h1, h2, h3, h4, h5⟩ := h
      intro i z hz
      cases i with
      | zero => simp at hz; subst hz; omega
      | succ i => exact ih h5 (by simpa using hl) i z (by simpa using hz)
/-- while time goes on by n. -/
theorem goes_plain {s r t n p : Int} (n0 : 0 ≤ n) (n1 : n ≤ 1000000) (p0 : 0 ≤ p) (p1 : p ≤ 1000) (r0 : -p ≤ r) (r1 : r ≤ p) :
    readV s r t ≤ readV s r (t + n) ∧ n * (1000000 - p) / 1000000 - 1 ≤ readV s r (t + n) - readV s r t ∧ readV s r (t + n) - readV s r t ≤ upD (n * (1000000 + p)) 1000000 + 1 := by
  have a := Int.mul_le_mul_of_nonneg_left r1 n0
  have b := Int.mul_le_mul_of_nonneg_left r0 n0
  have c := Int.mul_le_mul_of_nonneg_left p1 n0
  have d := upD_spec (a := n * (1000000 + p)) (b := 1000000) (by omega)
  have e1 : n * (1000000 - p) = n * 1000000 - n * p := Int.mul_sub _ _ _
  have e2 : n * (1000000 + p) = n * 1000000 + n * p := Int.mul_add _ _ _
  have e3 : (t + n) * r = t * r + n * r := Int.add_mul _ _ _
  have e4 : n * -p = -(n * p) := Int.mul_neg _ _
  unfold readV
  rw [e3]
  rw [e1]
  rw [e2] at d ⊢
  rw [e4] at b
  generalize n * p = X at *
  generalize n * r = Y at *
  generalize t * r = Z at *
  generalize upD (n * 1000000 + X) 1000000 = U at *
  refine ⟨by omega, by omega, by omega⟩
theorem local_ok {n p : Int} (n0 : 0 ≤ n) (n1 : n ≤ 1000000) (p0 : 0 ≤ p) (p1 : p ≤ 1000) : localS n p = ⟨n * (1000000 - p) / 1000000, upD (n * (1000000 + p)) 1000000, 0⟩ := by
  have c := Int.mul_le_mul_of_nonneg_left p1 n0
  have c0 := Int.mul_nonneg n0 p0
  have d := upD_spec (a := n * (1000000 + p)) (b := 1000000) (by omega)
  have e1 : n * (1000000 - p) = n * 1000000 - n * p := Int.mul_sub _ _ _
  have e2 : n * (1000000 + p) = n * 1000000 + n * p := Int.mul_add _ _ _
  unfold localS
  rw [if_pos (readyB_iff.2 (by omega))]
  unfold whole
  rw [if_pos]
  rw [rightB_iff]
  rw [e1]
  rw [e2] at d ⊢
  generalize n * p = X at *
  generalize upD (n * 1000000 + X) 1000000 = U at *
  omega
end Go.Proofs.YtloniibmmajlbaaDoor
