/- Texts that serve many laws, one behind the other. -/
import Derived.Test.YtfjpfkejajgkbaaDoorHG1
import GoSem.Op.String
/- Days, months and years, in plain Lean: no program stands here. -/
namespace Go.Proofs.YtfjpfkejajgkbaaDoor
open Go.RowKit
set_option linter.unusedVariables false
set_option linter.unusedSimpArgs false
def leapB (y : Int) : Bool := decide (y % 4 = 0) && (!decide (y % 100 = 0) || decide (y % 400 = 0))
def leapN (y : Int) : Int := if leapB y = true then 1 else 0
/-- days ahead of the first day of a year. -/
def firstD (y : Int) : Int := (y - 1970) * 365 + ((y - 1) / 4 - (y - 1) / 100 + (y - 1) / 400) - 477
/-- days of a year ahead of a month, with no leap day. -/
def beforeD (m : Int) : Int := if m ≤ 1 then 0 else if m = 2 then 31 else if m = 3 then 59 else if m = 4 then 90 else if m = 5 then 120 else if m = 6 then 151 else if m = 7 then 181 else if m = 8 then 212 else if m = 9 then 243 else if m = 10 then 273 else if m = 11 then 304 else if m = 12 then 334 else 365
def daysD (y m : Int) : Int := beforeD (m + 1) - beforeD m + (if m = 2 then leapN y else 0)
def aheadD (y m : Int) : Int := beforeD m + (if 2 < m then leapN y else 0)
theorem leapN_01 (y : Int) : 0 ≤ leapN y ∧ leapN y ≤ 1 := by unfold leapN; split <;> omega
theorem firstD_succ (y : Int) : firstD (y + 1) = firstD y + 365 + leapN y := by
  unfold firstD leapN leapB
  by_cases a : y % 4 = 0 <;> by_cases b : y % 100 = 0 <;> by_cases c : y % 400 = 0 <;> simp [a, b, c] <;> omega
def ymB (y m : Int) : Bool := decide (1970 ≤ y) && (decide (y ≤ 2199) && (decide (1 ≤ m) && decide (m ≤ 12)))
def dateB (y m d : Int) : Bool := ymB y m && (decide (1 ≤ d) && decide (d ≤ daysD y m))
def numD (y m d : Int) : Int := firstD y + aheadD y m + d - 1
def lastDay : Int := firstD 2200 - 1
theorem lastDay_eq : lastDay = 84005 := by decide
theorem aheadD_succ (y m : Int) (h1 : 1 ≤ m) (h2 : m ≤ 12) : aheadD y (m + 1) = aheadD y m + daysD y m := by
  have hc : m = 1 ∨ m = 2 ∨ m = 3 ∨ m = 4 ∨ m = 5 ∨ m = 6 ∨ m = 7 ∨ m = 8 ∨ m = 9 ∨ m = 10 ∨ m = 11 ∨ m = 12 := by omega
  unfold aheadD daysD
  rcases hc with rfl | rfl | rfl | rfl | rfl | rfl | rfl | rfl | rfl | rfl | rfl | rfl <;> simp [beforeD] <;> omega
theorem before_bd (m : Int) : 0 ≤ beforeD m ∧ beforeD m ≤ 365 := by
  unfold beforeD
  (repeat' split) <;> omega
theorem firstD_bd {y : Int} (h1 : 1970 ≤ y) (h2 : y ≤ 2200) : 0 ≤ firstD y ∧ firstD y ≤ 84006 := by unfold firstD; omega
theorem firstD_up {y : Int} (h1 : 1970 ≤ y) : firstD y + 365 ≤ firstD (y + 1) ∧ firstD (y + 1) ≤ firstD y + 366 := by
  have := firstD_succ y
  have := leapN_01 y
  omega
theorem aheadD_bd (y m : Int) : 0 ≤ aheadD y m ∧ aheadD y m ≤ 366 := by
  have := before_bd m
  have := leapN_01 y
  unfold aheadD
  split <;> omega
theorem daysD_bd {y m : Int} (h1 : 1 ≤ m) (h2 : m ≤ 12) : 28 ≤ daysD y m ∧ daysD y m ≤ 31 := by
  have hc : m = 1 ∨ m = 2 ∨ m = 3 ∨ m = 4 ∨ m = 5 ∨ m = 6 ∨ m = 7 ∨ m = 8 ∨ m = 9 ∨ m = 10 ∨ m = 11 ∨ m = 12 := by omega
  have := leapN_01 y
  unfold daysD
  rcases hc with rfl | rfl | rfl | rfl | rfl | rfl | rfl | rfl | rfl | rfl | rfl | rfl <;> simp [beforeD] <;> omega
theorem dateB_bd {y m d : Int} (h : dateB y m d = true) : 1970 ≤ y ∧ y ≤ 2199 ∧ 1 ≤ m ∧ m ≤ 12 ∧ 1 ≤ d ∧ d ≤ 31 := by
  simp only [dateB, ymB, Bool.and_eq_true, decide_eq_true_eq] at h
  have := daysD_bd (y := y) (m := m) (by omega) (by omega)
  omega
theorem ahead_13 (y : Int) : aheadD y 13 = 365 + leapN y := rfl
theorem ahead_1 (y : Int) : aheadD y 1 = 0 := rfl
theorem ahead_mono {y a b : Int} (h1 : 1 ≤ a) (h2 : a ≤ b) (h3 : b ≤ 13) : aheadD y a ≤ aheadD y b := by
  obtain ⟨k, rfl⟩ : ∃ k : Nat, b = a + k := ⟨(b - a).toNat, by omega⟩
  induction k with
  | zero => simp
  | succ k ih =>
    have := ih (by omega) (by omega)
    have e := aheadD_succ y (a + k) (by omega) (by omega)
    have := daysD_bd (y := y) (m := a + k) (by omega) (by omega)
    rw [show a + ((k + 1 : Nat) : Int) = a + k + 1 by omega]
    omega
theorem first_mono {a b : Int} (h1 : 1970 ≤ a) (h2 : a ≤ b) : firstD a ≤ firstD b := by unfold firstD; omega
theorem date_within {y m d n : Int} (h : dateB y m d = true) (hn : numD y m d = n) : firstD y ≤ n ∧ n < firstD (y + 1) ∧ aheadD y m ≤ n - firstD y ∧ n - firstD y < aheadD y (m + 1) := by
  obtain ⟨g1, g2, g3, g4, g5, g6⟩ := dateB_bd h
  have hd : d ≤ daysD y m := by simp only [dateB, Bool.and_eq_true, decide_eq_true_eq] at h; omega
  have e := aheadD_succ y m g3 g4
  have := aheadD_bd y m
  have := firstD_succ y
  have := ahead_13 y
  have := ahead_mono (y := y) (a := m + 1) (b := 13) (by omega) (by omega) (by omega)
  unfold numD at hn
  omega
theorem first_guess (n y : Int) (h0 : 0 ≤ n) (h1 : 1970 ≤ y) (h : n < firstD (y + 1)) : 1970 + n / 366 ≤ y := by
  rcases Int.lt_or_le y (1970 + n / 366) with hlt | hle
  · exfalso
    have : firstD (y + 1) ≤ firstD (1970 + n / 366) := first_mono (by omega) (by omega)
    have : firstD (1970 + n / 366) ≤ n := by unfold firstD; omega
    omega
  · exact hle
theorem ymB_mk {y m : Int} (h1 : 1970 ≤ y) (h2 : y ≤ 2199) (h3 : 1 ≤ m) (h4 : m ≤ 12) : ymB y m = true := by unfold ymB; simp; omega
theorem ymB_no {y m : Int} (h : y < 1970 ∨ 2199 < y ∨ m < 1 ∨ 12 < m) : ymB y m = false := by unfold ymB; simp; omega
theorem dateB_mk {y m d : Int} (h : ymB y m = true) (h1 : 1 ≤ d) (h2 : d ≤ daysD y m) : dateB y m d = true := by unfold dateB; rw [h]; simp; omega
theorem dateB_no {y m d : Int} (h : ymB y m = false) : dateB y m d = false := by unfold dateB; rw [h]; simp
theorem num_top {y n : Int} (h : y ≤ 2199) (h1 : n < firstD (y + 1)) : n ≤ 84005 := by unfold firstD at h1; omega
end Go.Proofs.YtfjpfkejajgkbaaDoor

/- Leaps, in plain Lean: no program stands here. -/
namespace Go.Proofs.YtfjpfkejajgkbaaDoor
open Go.RowKit
set_option linter.unusedVariables false
set_option linter.unusedSimpArgs false
def byL (x : RLeap) : Int := if x.up = true then 1 else -1
theorem byL_bd (x : RLeap) : -1 ≤ byL x ∧ byL x ≤ 1 := by unfold byL; split <;> omega
def moreL : List RLeap → Int → Int
  | [], _ => 0
  | x :: l, d => (if x.day < d then byL x else 0) + moreL l d
theorem moreL_snoc (l : List RLeap) (x : RLeap) (d : Int) : moreL (l ++ [x]) d = moreL l d + (if x.day < d then byL x else 0) := by
  induction l with
  | nil => simp [moreL]
  | cons y l ih => simp only [List.cons_append, moreL, ih]; omega
theorem moreL_bd (l : List RLeap) (d : Int) : -(l.length : Int) ≤ moreL l d ∧ moreL l d ≤ l.length := by
  induction l with
  | nil => simp [moreL]
  | cons y l ih =>
    have := byL_bd y
    simp only [moreL, List.length_cons]
    split <;> omega
def beginL (l : List RLeap) (d : Int) : Int := 86400 * d + moreL l d
/-- the fault of leaps behind one at p. -/
def chkL : Int → List RLeap → Int
  | _, [] => 0
  | p, x :: l => if x.day < 1 ∨ 84005 ≤ x.day then 1 else if x.day < p + 2 then 3 else chkL x.day l
def leapsC (l : List RLeap) : Int := if 20 < l.length then 4 else chkL (-1) l
def prevL (l : List RLeap) : Nat → Int
  | 0 => -1
  | i + 1 => (l[i]?.map (·.day)).getD (-1)
theorem leapsC_cases (l : List RLeap) : leapsC l = 0 ∨ leapsC l = 1 ∨ leapsC l = 3 ∨ leapsC l = 4 := by
  have h : ∀ p l, chkL p l = 0 ∨ chkL p l = 1 ∨ chkL p l = 3 := by
    intro p l
    induction l generalizing p with
    | nil => simp [chkL]
    | cons x l ih => unfold chkL; (repeat' split) <;> first | omega | exact ih _
  unfold leapsC
  split
  · omega
  · rcases h (-1) l with h | h | h <;> omega
structure LeapGood (l : List RLeap) : Prop where
  len : l.length ≤ 20
  chk : chkL (-1) l = 0
theorem leapsC_0 {l : List RLeap} (h : leapsC l = 0) : LeapGood l := by
  unfold leapsC at h
  split at h
  · omega
  · exact ⟨by omega, h⟩
theorem leapsC_of {l : List RLeap} (h : LeapGood l) : leapsC l = 0 := by
  unfold leapsC
  rw [if_neg (by have := h.len; omega)]; exact h.chk
theorem chkL_cons {p : Int} {x : RLeap} {l : List RLeap} (h : chkL p (x :: l) = 0) : 1 ≤ x.day ∧ x.day < 84005 ∧ p + 2 ≤ x.day ∧ chkL x.day l = 0 := by
  unfold chkL at h
  split at h
  · omega
  · split at h
    · omega
    · exact ⟨by omega, by omega, by omega, h⟩
theorem chkL_mem {p : Int} {l : List RLeap} (h : chkL p l = 0) : ∀ x ∈ l, 1 ≤ x.day ∧ x.day < 84005 ∧ p + 2 ≤ x.day := by
  induction l generalizing p with
  | nil => simp
  | cons x l ih =>
    obtain ⟨h1, h2, h3, h4⟩ := chkL_cons h
    intro z hz
    rcases List.mem_cons.1 hz with rfl | hz
    · exact ⟨h1, h2, h3⟩
    · have := ih h4 z hz; omega
/-- what leaps at just that day make. -/
def atL : List RLeap → Int → Int
  | [], _ => 0
  | x :: l, d => (if x.day = d then byL x else 0) + atL l d
theorem moreL_succ (l : List RLeap) (d : Int) : moreL l (d + 1) = moreL l d + atL l d := by
  induction l with
  | nil => rfl
  | cons x l ih =>
    simp only [moreL, atL, ih]
    rcases Int.lt_trichotomy x.day d with h | h | h
    · rw [if_pos (by omega), if_pos h, if_neg (by omega)]; omega
    · rw [if_pos (by omega), if_neg (by omega), if_pos h]; omega
    · rw [if_neg (by omega), if_neg (by omega), if_neg (by omega)]; omega
theorem atL_far {p : Int} {l : List RLeap} (h : chkL p l = 0) {d : Int} (hd : d < p + 2) : atL l d = 0 := by
  have hm := chkL_mem h
  clear h
  induction l with
  | nil => rfl
  | cons x l ih =>
    unfold atL
    rw [if_neg (by have := hm x (by simp); omega), ih (fun z hz => hm z (by simp [hz]))]; rfl
theorem atL_one {p : Int} {l : List RLeap} (h : chkL p l = 0) (d : Int) : (atL l d = 0 ∧ ∀ x ∈ l, x.day ≠ d) ∨ ∃ x ∈ l, x.day = d ∧ atL l d = byL x := by
  induction l generalizing p with
  | nil => left; exact ⟨rfl, by simp⟩
  | cons x l ih =>
    obtain ⟨h1, h2, h3, h4⟩ := chkL_cons h
    by_cases hx : x.day = d
    · right
      refine ⟨x, by simp, hx, ?_⟩
      unfold atL
      rw [if_pos hx, atL_far h4 (by omega)]; omega
    · unfold atL
      rw [if_neg hx]
      rcases ih h4 with ⟨h5, h6⟩ | ⟨y, hy, h5, h6⟩
      · left
        refine ⟨by omega, fun z hz => ?_⟩
        rcases List.mem_cons.1 hz with rfl | hz
        · exact hx
        · exact h6 z hz
      · right; exact ⟨y, by simp [hy], h5, by omega⟩
theorem atL_bd {l : List RLeap} (h : LeapGood l) (d : Int) : -1 ≤ atL l d ∧ atL l d ≤ 1 := by
  rcases atL_one h.chk d with ⟨h, _⟩ | ⟨x, _, _, h⟩
  · omega
  · have := byL_bd x; omega
theorem beginL_succ (l : List RLeap) (d : Int) : beginL l (d + 1) = beginL l d + 86400 + atL l d := by
  unfold beginL; have := moreL_succ l d; omega
theorem beginL_bd {l : List RLeap} (h : LeapGood l) (d : Int) : 86400 * d - 20 ≤ beginL l d ∧ beginL l d ≤ 86400 * d + 20 := by
  have := moreL_bd l d
  have := h.len
  unfold beginL; omega
theorem beginL_mono {l : List RLeap} (h : LeapGood l) {a b : Int} (hab : a ≤ b) : beginL l a ≤ beginL l b := by
  rcases Int.lt_or_le a b with hlt | hle
  · have := beginL_bd h a
    have := beginL_bd h b
    rcases Int.lt_or_le (a + 1) b with h2 | h2
    · omega
    · have := beginL_succ l a
      have := atL_bd h a
      have : b = a + 1 := by omega
      subst this; omega
  · have : a = b := by omega
    subst this; omega
theorem beginL_0 {l : List RLeap} (h : LeapGood l) : beginL l 0 = 0 := by
  have : moreL l 0 = 0 := by
    have hm := chkL_mem h.chk
    clear h
    induction l with
    | nil => rfl
    | cons x l ih =>
      unfold moreL
      rw [if_neg (by have := hm x (by simp); omega), ih (fun z hz => hm z (by simp [hz]))]; rfl
  unfold beginL; omega
theorem day_of {l : List RLeap} (h : LeapGood l) {n : Int} (h0 : 0 ≤ n) (h1 : n < beginL l 84006) : ∃ d, 0 ≤ d ∧ d ≤ 84005 ∧ beginL l d ≤ n ∧ n < beginL l (d + 1) := by
  have key : ∀ k : Nat, n < beginL l k → ∃ d : Int, 0 ≤ d ∧ d + 1 ≤ k ∧ beginL l d ≤ n ∧ n < beginL l (d + 1) := by
    intro k
    induction k with
    | zero => intro hk; have := beginL_0 h; simp at hk; omega
    | succ k ih =>
      intro hk
      by_cases hk2 : n < beginL l k
      · obtain ⟨d, a, b, c, e⟩ := ih hk2
        exact ⟨d, a, by omega, c, e⟩
      · exact ⟨k, by omega, by omega, by omega, by simpa using hk⟩
  obtain ⟨d, a, b, c, e⟩ := key 84006 (by simpa using h1)
  exact ⟨d, a, by omega, c, e⟩
theorem day_one {l : List RLeap} (h : LeapGood l) {n a b : Int} (ha : beginL l a ≤ n) (ha2 : n < beginL l (a + 1)) (hb : beginL l b ≤ n) (hb2 : n < beginL l (b + 1)) : a = b := by
  rcases Int.lt_trichotomy a b with hlt | he | hlt
  · have := beginL_mono h (show a + 1 ≤ b by omega); omega
  · exact he
  · have := beginL_mono h (show b + 1 ≤ a by omega); omega
theorem moreL_take_succ {l : List RLeap} {i : Nat} {x : RLeap} (h : l[i]? = some x) (d : Int) : moreL (l.take (i + 1)) d = moreL (l.take i) d + (if x.day < d then byL x else 0) := by
  have hl := (List.getElem?_eq_some_iff.1 h).1
  rw [List.take_succ_eq_append_getElem hl, moreL_snoc, (List.getElem?_eq_some_iff.1 h).2]
theorem moreL_take_bd (l : List RLeap) (i : Nat) (d : Int) (h : l.length ≤ 1000) : -1000 ≤ moreL (l.take i) d ∧ moreL (l.take i) d ≤ 1000 := by
  have := moreL_bd (l.take i) d
  have : (l.take i).length ≤ l.length := by rw [List.length_take]; omega
  omega
theorem chk_step {l : List RLeap} {i : Nat} {x : RLeap} (h : l[i]? = some x) : chkL (prevL l i) (l.drop i) = if x.day < 1 ∨ 84005 ≤ x.day then 1 else if x.day < prevL l i + 2 then 3 else chkL (prevL l (i + 1)) (l.drop (i + 1)) := by
  have hl := (List.getElem?_eq_some_iff.1 h).1
  have hd : l.drop i = x :: l.drop (i + 1) := by rw [List.drop_eq_getElem_cons hl]; congr 1; exact (List.getElem?_eq_some_iff.1 h).2
  rw [hd, chkL]
  have : prevL l (i + 1) = x.day := by simp [prevL, h]
  rw [this]
theorem day_guess {l : List RLeap} (h : LeapGood l) {n d : Int} (h0 : 0 ≤ d) (k2 : n < beginL l (d + 1)) : n / 86400 - 1 ≤ d := by
  rcases Int.lt_or_le d (n / 86400 - 1) with hlt | hle
  · exfalso
    have := beginL_bd h (d + 1)
    omega
  · exact hle
theorem n_bd {l : List RLeap} (h : LeapGood l) {n d : Int} (h0 : 0 ≤ d) (h1 : d ≤ 84005) (k1 : beginL l d ≤ n) (k2 : n < beginL l (d + 1)) : 0 ≤ n ∧ n ≤ 7258118420 := by
  have := beginL_bd h (d + 1)
  have := beginL_mono h h0
  have := beginL_0 h
  omega
def readyC (l : List RLeap) (t : Int) : Int := if leapsC l = 0 then (if t < 0 ∨ beginL l 84006 ≤ t then 1 else 0) else leapsC l
theorem readyC_0 {l : List RLeap} {t : Int} (h : readyC l t = 0) : LeapGood l ∧ ∃ d, 0 ≤ d ∧ d ≤ 84005 ∧ beginL l d ≤ t ∧ t < beginL l (d + 1) := by
  unfold readyC at h
  split at h
  · rename_i g
    split at h
    · omega
    · exact ⟨leapsC_0 g, day_of (leapsC_0 g) (by omega) (by omega)⟩
  · omega
theorem ready_0 {l : List RLeap} {t d : Int} (hg : LeapGood l) (h0 : 0 ≤ d) (h1 : d ≤ 84005) (k1 : beginL l d ≤ t) (k2 : t < beginL l (d + 1)) : readyC l t = 0 := by
  have := n_bd hg h0 h1 k1 k2
  have := beginL_mono hg (show d + 1 ≤ 84006 by omega)
  unfold readyC
  rw [if_pos (leapsC_of hg), if_neg (by omega)]
def labH (s : Int) : Int := if 86400 ≤ s then 23 else s / 3600
def labM (s : Int) : Int := if 86400 ≤ s then 59 else s / 60 % 60
def labS (s : Int) : Int := if 86400 ≤ s then 60 else s % 60
theorem sec_bd {l : List RLeap} (h : LeapGood l) {t d : Int} (k1 : beginL l d ≤ t) (k2 : t < beginL l (d + 1)) : 0 ≤ t - beginL l d ∧ t - beginL l d ≤ 86400 ∧ (t - beginL l d = 86400 → atL l d = 1) := by
  have := beginL_succ l d
  have := atL_bd h d
  omega
/-- the second from which a leap is smeared; how many seconds that takes; is it so at one? -/
def fromL (l : List RLeap) (x : RLeap) : Int := beginL l x.day + 43200
def wideL (x : RLeap) : Int := 86400 + byL x
def inL (l : List RLeap) (t : Int) (x : RLeap) : Bool := decide (fromL l x ≤ t) && decide (t < fromL l x + wideL x)
def smearV (l : List RLeap) (t d : Int) : Int := match l.find? (inL l t) with
  | some x => 1000 * (fromL l x - moreL l x.day) + 86400000 * (t - fromL l x) / wideL x
  | none => 1000 * (t - moreL l d)
theorem find_step {l : List RLeap} {p : RLeap → Bool} {i : Nat} {x : RLeap} (h : l[i]? = some x) : (l.drop i).find? p = if p x = true then some x else (l.drop (i + 1)).find? p := by
  have hl := (List.getElem?_eq_some_iff.1 h).1
  have hd : l.drop i = x :: l.drop (i + 1) := by rw [List.drop_eq_getElem_cons hl]; congr 1; exact (List.getElem?_eq_some_iff.1 h).2
  rw [hd, List.find?_cons]
  cases p x <;> rfl
theorem chk_one {p : Int} {l : List RLeap} (h : chkL p l = 0) {x y : RLeap} (hx : x ∈ l) (hy : y ∈ l) (e : x.day = y.day) : x = y := by
  induction l generalizing p with
  | nil => simp at hx
  | cons z l ih =>
    obtain ⟨_, _, _, h4⟩ := chkL_cons h
    have hm := chkL_mem h4
    rcases List.mem_cons.1 hx with e1 | e1
    · rcases List.mem_cons.1 hy with e2 | e2
      · rw [e1, e2]
      · have := hm y e2; rw [e1] at e; omega
    · rcases List.mem_cons.1 hy with e2 | e2
      · have := hm x e1; rw [e2] at e; omega
      · exact ih h4 e1 e2
theorem atL_mem {l : List RLeap} (h : LeapGood l) {x : RLeap} (hx : x ∈ l) : atL l x.day = byL x := by
  rcases atL_one h.chk x.day with ⟨_, h2⟩ | ⟨y, hy, e, h2⟩
  · exact absurd rfl (h2 x hx)
  · rw [h2, chk_one h.chk hx hy e.symm]
theorem atL_none {l : List RLeap} (h : LeapGood l) {d : Int} (hd : ∀ x ∈ l, x.day ≠ d) : atL l d = 0 := by
  rcases atL_one h.chk d with ⟨h1, _⟩ | ⟨y, hy, e, _⟩
  · exact h1
  · exact absurd e (hd y hy)
end Go.Proofs.YtfjpfkejajgkbaaDoor

/- Dates as texts, in plain Lean: no program stands here. -/
namespace Go.Proofs.YtfjpfkejajgkbaaDoor
open Go.RowKit
set_option linter.unusedVariables false
set_option linter.unusedSimpArgs false
/-- the last digit of a number, as a byte. -/
def dgU (n : Int) : UInt8 := UInt8.ofNat (48 + (n % 10).toNat)
theorem dgU_toNat (n : Int) : ((dgU n).toNat : Int) = 48 + n % 10 := by
  unfold dgU
  rw [UInt8.toNat_ofNat']
  omega
def pad2 (n : Int) : List UInt8 := [dgU (n / 10), dgU n]
def pad4 (n : Int) : List UInt8 := [dgU (n / 1000), dgU (n / 100), dgU (n / 10), dgU n]
def dateT (y m d : Int) : List UInt8 := pad4 y ++ (45 :: (pad2 m ++ (45 :: pad2 d)))
theorem dateT_len (y m d : Int) : (dateT y m d).length = 10 := rfl
def digB (c : UInt8) : Bool := decide (48 ≤ c.toNat) && decide (c.toNat ≤ 57)
def twoV (l : List UInt8) : Int := l.foldl (fun n c => n * 10 + ((c.toNat : Int) - 48)) 0
def twoB (l : List UInt8) : Bool := l.all digB
theorem twoV_snoc (l : List UInt8) (c : UInt8) : twoV (l ++ [c]) = twoV l * 10 + ((c.toNat : Int) - 48) := by simp [twoV]
theorem twoV_bd (l : List UInt8) (h : twoB l = true) (hl : l.length ≤ 4) : 0 ≤ twoV l ∧ twoV l ≤ 9999 := by
  match l, hl with
  | [], _ => simp [twoV]
  | [a], _ => simp [twoB, digB] at h; simp [twoV]; omega
  | [a, b], _ => simp [twoB, digB] at h; simp [twoV]; omega
  | [a, b, c], _ => simp [twoB, digB] at h; simp [twoV]; omega
  | [a, b, c, d], _ => simp [twoB, digB] at h; simp [twoV]; omega
theorem twoB_snoc (l : List UInt8) (c : UInt8) : twoB (l ++ [c]) = (twoB l && digB c) := by simp [twoB]
theorem take_snoc_g {l : List UInt8} {k : Nat} (h : k < l.length) : l.take (k + 1) = l.take k ++ [l.getD k 0] := by
  rw [List.take_succ_eq_append_getElem h, List.getD_eq_getElem?_getD, List.getElem?_eq_getElem h]; rfl
theorem twoB_take {l : List UInt8} {k : Nat} (h : twoB (l.take k) = false) : twoB l = false := by
  cases hb : twoB l with
  | false => rfl
  | true =>
    have : twoB (l.take k) = true := by
      unfold twoB at hb ⊢
      rw [List.all_eq_true] at hb ⊢
      exact fun x hx => hb x (List.mem_of_mem_take hx)
    rw [this] at h; cases h
theorem dgU_dig (n : Int) : digB (dgU n) = true := by
  have := dgU_toNat n
  unfold digB; simp; omega
theorem two_pad2 {n : Int} (h0 : 0 ≤ n) (h1 : n ≤ 99) : twoB (pad2 n) = true ∧ twoV (pad2 n) = n := by
  refine ⟨by simp [twoB, pad2, dgU_dig], ?_⟩
  simp only [twoV, pad2, List.foldl_cons, List.foldl_nil, dgU_toNat]
  omega
theorem two_pad4 {n : Int} (h0 : 0 ≤ n) (h1 : n ≤ 9999) : twoB (pad4 n) = true ∧ twoV (pad4 n) = n := by
  refine ⟨by simp [twoB, pad4, dgU_dig], ?_⟩
  simp only [twoV, pad4, List.foldl_cons, List.foldl_nil, dgU_toNat]
  omega
theorem dgU_back {c : UInt8} (h : digB c = true) {n : Int} (hn : n % 10 = (c.toNat : Int) - 48) : dgU n = c := by
  apply UInt8.toNat_inj.1
  have := dgU_toNat n
  omega
theorem pad2_two {l : List UInt8} (h : twoB l = true) (hl : l.length = 2) : pad2 (twoV l) = l := by
  match l, hl with
  | [a, b], _ =>
    have ha : digB a = true := by simp [twoB] at h; exact h.1
    have hb : digB b = true := by simp [twoB] at h; exact h.2
    have e1 := ha
    have e2 := hb
    simp [digB] at e1 e2
    have ev : twoV [a, b] = ((a.toNat : Int) - 48) * 10 + ((b.toNat : Int) - 48) := by simp [twoV]
    unfold pad2
    rw [ev, dgU_back ha (by omega), dgU_back hb (by omega)]
theorem pad4_two {l : List UInt8} (h : twoB l = true) (hl : l.length = 4) : pad4 (twoV l) = l := by
  match l, hl with
  | [a, b, c, d], _ =>
    simp [twoB] at h
    obtain ⟨ha, hb, hc, hd⟩ := h
    have e1 := ha
    have e2 := hb
    have e3 := hc
    have e4 := hd
    simp [digB] at e1 e2 e3 e4
    have ev : twoV [a, b, c, d] = ((((a.toNat : Int) - 48) * 10 + ((b.toNat : Int) - 48)) * 10 + ((c.toNat : Int) - 48)) * 10 + ((d.toNat : Int) - 48) := by simp [twoV]
    unfold pad4
    rw [ev, dgU_back ha (by omega), dgU_back hb (by omega), dgU_back hc (by omega), dgU_back hd (by omega)]
/-- a text as a date: its parts; whether it is one. -/

def dateOfB (l : List UInt8) : Bool := decide (l.length = 10) && (decide (l.getD 4 0 = 45) && (decide (l.getD 7 0 = 45) && (twoB (l.take 4) && (twoB ((l.drop 5).take 2) && twoB ((l.drop 8).take 2)))))
def pY (l : List UInt8) : Int := twoV (l.take 4)
def pM (l : List UInt8) : Int := twoV ((l.drop 5).take 2)
def pD (l : List UInt8) : Int := twoV ((l.drop 8).take 2)
/-- the fault of a text. -/
def parC (l : List UInt8) : Int := if dateOfB l = true then okC (dateB (pY l) (pM l) (pD l)) else 2
theorem list10 {α : Type} {l : List α} (h : l.length = 10) : ∃ a b c d e f g i j k, l = [a, b, c, d, e, f, g, i, j, k] := by
  match l, h with
  | [a, b, c, d, e, f, g, i, j, k], _ => exact ⟨a, b, c, d, e, f, g, i, j, k, rfl⟩
/-- what is read writes the same. -/
theorem dateT_back {l : List UInt8} (h : dateOfB l = true) : dateT (pY l) (pM l) (pD l) = l := by
  simp only [dateOfB, Bool.and_eq_true, decide_eq_true_eq] at h
  obtain ⟨h1, h2, h3, h4, h5, h6⟩ := h
  unfold dateT pY pM pD
  rw [pad4_two h4 (by rw [List.length_take]; omega), pad2_two h5 (by rw [List.length_take, List.length_drop]; omega), pad2_two h6 (by rw [List.length_take, List.length_drop]; omega)]
  obtain ⟨a, b, c, d, e, f, g, i, j, k, rfl⟩ := list10 h1
  simp at h2 h3
  subst h2 h3
  rfl
/-- what is written reads the same. -/
theorem dateT_read {y m d : Int} (h1 : 0 ≤ y) (h2 : y ≤ 9999) (h3 : 0 ≤ m) (h4 : m ≤ 99) (h5 : 0 ≤ d) (h6 : d ≤ 99) : dateOfB (dateT y m d) = true ∧ pY (dateT y m d) = y ∧ pM (dateT y m d) = m ∧ pD (dateT y m d) = d := by
  obtain ⟨a, a'⟩ := two_pad4 h1 h2
  obtain ⟨b, b'⟩ := two_pad2 h3 h4
  obtain ⟨c, c'⟩ := two_pad2 h5 h6
  have e1 : (dateT y m d).take 4 = pad4 y := rfl
  have e2 : ((dateT y m d).drop 5).take 2 = pad2 m := rfl
  have e3 : ((dateT y m d).drop 8).take 2 = pad2 d := rfl
  unfold dateOfB pY pM pD
  rw [e1, e2, e3, a, a', b, b', c, c']
  exact ⟨rfl, rfl, rfl, rfl⟩
theorem dateB_iff {y m d : Int} : dateB y m d = true ↔ 1970 ≤ y ∧ y ≤ 2199 ∧ 1 ≤ m ∧ m ≤ 12 ∧ 1 ≤ d ∧ d ≤ daysD y m := by
  simp only [dateB, ymB, Bool.and_eq_true, decide_eq_true_eq]; omega
theorem next_a {y m d n : Int} (h : dateB y m d = true) (hn : numD y m d = n) (hd : d < daysD y m) : dateB y m (d + 1) = true ∧ numD y m (d + 1) = n + 1 := by
  have := dateB_iff.1 h
  exact ⟨dateB_iff.2 (by omega), by unfold numD at hn ⊢; omega⟩
theorem next_b {y m d n : Int} (h : dateB y m d = true) (hn : numD y m d = n) (hd : ¬ d < daysD y m) (hm : m < 12) : dateB y (m + 1) 1 = true ∧ numD y (m + 1) 1 = n + 1 := by
  have := dateB_iff.1 h
  have := daysD_bd (y := y) (m := m + 1) (by omega) (by omega)
  have := aheadD_succ y m (by omega) (by omega)
  exact ⟨dateB_iff.2 (by omega), by unfold numD at hn ⊢; omega⟩
theorem last_num : numD 2199 12 31 = 84005 := by decide
theorem next_c {y m d n : Int} (h : dateB y m d = true) (hn : numD y m d = n) (hd : ¬ d < daysD y m) (hm : ¬ m < 12) (h5 : n < 84005) : dateB (y + 1) 1 1 = true ∧ numD (y + 1) 1 1 = n + 1 := by
  have := dateB_iff.1 h
  obtain rfl : m = 12 := by omega
  have e : daysD y 12 = 31 := rfl
  obtain rfl : d = 31 := by omega
  have := daysD_bd (y := y + 1) (m := 1) (by omega) (by omega)
  have := aheadD_succ y 12 (by omega) (by omega)
  have := firstD_succ y
  have a13 : aheadD y (12 + 1) = 365 + leapN y := rfl
  have a1 := ahead_1 (y + 1)
  have : y < 2199 := by
    rcases Int.lt_or_le y 2199 with hlt | hle
    · exact hlt
    · obtain rfl : y = 2199 := by omega
      have := last_num
      omega
  exact ⟨dateB_iff.2 (by omega), by unfold numD at hn ⊢; omega⟩
theorem date_of {n : Int} (h0 : 0 ≤ n) (h1 : n ≤ 84005) : ∃ y m d, dateB y m d = true ∧ numD y m d = n := by
  obtain ⟨k, rfl⟩ : ∃ k : Nat, n = k := ⟨n.toNat, by omega⟩
  clear h0
  induction k with
  | zero => exact ⟨1970, 1, 1, by decide, by decide⟩
  | succ k ih =>
    obtain ⟨y, m, d, hd, hn⟩ := ih (by omega)
    rw [show ((k + 1 : Nat) : Int) = (k : Int) + 1 by omega]
    by_cases a : d < daysD y m
    · exact ⟨_, _, _, next_a hd hn a⟩
    · by_cases b : m < 12
      · exact ⟨_, _, _, next_b hd hn a b⟩
      · exact ⟨_, _, _, next_c hd hn a b (by omega)⟩
theorem parC_dateT {y m d : Int} (h : dateB y m d = true) : parC (dateT y m d) = 0 ∧ pY (dateT y m d) = y ∧ pM (dateT y m d) = m ∧ pD (dateT y m d) = d := by
  obtain ⟨g1, g2, g3, g4, g5, g6⟩ := dateB_bd h
  obtain ⟨a, b, c, e⟩ := dateT_read (y := y) (m := m) (d := d) (by omega) (by omega) (by omega) (by omega) (by omega) (by omega)
  refine ⟨?_, b, c, e⟩
  unfold parC
  rw [a, if_pos rfl, b, c, e, h]; rfl
theorem parC_0 {l : List UInt8} (h : parC l = 0) : dateOfB l = true ∧ dateB (pY l) (pM l) (pD l) = true := by
  unfold parC at h
  split at h
  · rename_i g
    refine ⟨g, ?_⟩
    cases hb : dateB (pY l) (pM l) (pD l) with
    | true => rfl
    | false => rw [hb] at h; simp [okC] at h
  · omega
theorem numD_inj {y m d y' m' d' : Int} (h : dateB y m d = true) (h' : dateB y' m' d' = true) (hn : numD y m d = numD y' m' d') : y = y' ∧ m = m' ∧ d = d' := by
  obtain ⟨a1, a2, a3, a4⟩ := date_within h hn
  obtain ⟨b1, b2, b3, b4⟩ := date_within h' rfl
  have g := dateB_iff.1 h
  have g' := dateB_iff.1 h'
  have hy : y = y' := by
    rcases Int.lt_trichotomy y y' with hlt | he | hlt
    · have := first_mono (a := y + 1) (b := y') (by omega) (by omega); omega
    · exact he
    · have := first_mono (a := y' + 1) (b := y) (by omega) (by omega); omega
  subst hy
  have hm : m = m' := by
    rcases Int.lt_trichotomy m m' with hlt | he | hlt
    · have := ahead_mono (y := y) (a := m + 1) (b := m') (by omega) (by omega) (by omega); omega
    · exact he
    · have := ahead_mono (y := y) (a := m' + 1) (b := m) (by omega) (by omega) (by omega); omega
  subst hm
  unfold numD at hn
  exact ⟨rfl, rfl, by omega⟩
end Go.Proofs.YtfjpfkejajgkbaaDoor

/- Labels of seconds, in plain Lean: no program stands here. -/
namespace Go.Proofs.YtfjpfkejajgkbaaDoor
open Go.RowKit
set_option linter.unusedVariables false
set_option linter.unusedSimpArgs false
def labB (x : RLabel) : Bool := dateB x.year x.month x.day && (decide (0 ≤ x.h) && (decide (x.h ≤ 23) && (decide (0 ≤ x.m) && (decide (x.m ≤ 59) && (decide (0 ≤ x.s) && decide (x.s ≤ 60))))))
theorem labB_iff {x : RLabel} : labB x = true ↔ dateB x.year x.month x.day = true ∧ 0 ≤ x.h ∧ x.h ≤ 23 ∧ 0 ≤ x.m ∧ x.m ≤ 59 ∧ 0 ≤ x.s ∧ x.s ≤ 60 := by
  simp only [labB, Bool.and_eq_true, decide_eq_true_eq]
theorem labB_no {x : RLabel} (h : dateB x.year x.month x.day = false ∨ x.h < 0 ∨ 23 < x.h ∨ x.m < 0 ∨ 59 < x.m ∨ x.s < 0 ∨ 60 < x.s) : labB x = false := by
  cases hb : labB x with
  | false => rfl
  | true =>
    have := labB_iff.1 hb
    rcases h with h | h
    · rw [this.1] at h; cases h
    · omega
/-- the text of a label. -/
def labT (x : RLabel) : List UInt8 := dateT x.year x.month x.day ++ (84 :: (pad2 x.h ++ (58 :: (pad2 x.m ++ (58 :: pad2 x.s)))))
theorem labT_len (x : RLabel) : (labT x).length = 19 := rfl
def secL (x : RLabel) : Int := x.h * 3600 + x.m * 60 + x.s
def longL (l : List RLeap) (d : Int) : Int := beginL l (d + 1) - beginL l d
def dayL (x : RLabel) : Int := numD x.year x.month x.day
/-- the fault of a label, with leaps that are right; the second. -/
def taiC (l : List RLeap) (x : RLabel) : Int := if labB x = true then (if longL l (dayL x) ≤ secL x ∨ (x.s = 60 ∧ secL x < 86400) then 5 else 0) else 1
def taiV (l : List RLeap) (x : RLabel) : Int := if taiC l x = 0 then beginL l (dayL x) + secL x else 0
/-- a text as a label. -/
def labOfB (l : List UInt8) : Bool := decide (l.length = 19) && (decide (l.getD 4 0 = 45) && (decide (l.getD 7 0 = 45) && (decide (l.getD 10 0 = 84) && (decide (l.getD 13 0 = 58) && (decide (l.getD 16 0 = 58) &&
  (twoB (l.take 4) && (twoB ((l.drop 5).take 2) && (twoB ((l.drop 8).take 2) && (twoB ((l.drop 11).take 2) && (twoB ((l.drop 14).take 2) && twoB ((l.drop 17).take 2)))))))))))
def parL (l : List UInt8) : RLabel := ⟨twoV (l.take 4), twoV ((l.drop 5).take 2), twoV ((l.drop 8).take 2), twoV ((l.drop 11).take 2), twoV ((l.drop 14).take 2), twoV ((l.drop 17).take 2)⟩
def labC (l : List UInt8) : Int := if labOfB l = true then okC (labB (parL l)) else 2
theorem list19 {α : Type} {l : List α} (h : l.length = 19) : ∃ a b c d e f g i j k m n o p q r s t u, l = [a, b, c, d, e, f, g, i, j, k, m, n, o, p, q, r, s, t, u] := by
  match l, h with
  | [a, b, c, d, e, f, g, i, j, k, m, n, o, p, q, r, s, t, u], _ => exact ⟨a, b, c, d, e, f, g, i, j, k, m, n, o, p, q, r, s, t, u, rfl⟩
theorem labT_back {l : List UInt8} (h : labOfB l = true) : labT (parL l) = l := by
  simp only [labOfB, Bool.and_eq_true, decide_eq_true_eq] at h
  obtain ⟨h1, h2, h3, h4, h5, h6, a1, a2, a3, a4, a5, a6⟩ := h
  unfold labT dateT parL
  dsimp only
  rw [pad4_two a1 (by rw [List.length_take]; omega), pad2_two a2 (by rw [List.length_take, List.length_drop]; omega), pad2_two a3 (by rw [List.length_take, List.length_drop]; omega), pad2_two a4 (by rw [List.length_take, List.length_drop]; omega), pad2_two a5 (by rw [List.length_take, List.length_drop]; omega), pad2_two a6 (by rw [List.length_take, List.length_drop]; omega)]
  obtain ⟨a, b, c, d, e, f, g, i, j, k, m, n, o, p, q, r, s, t, u, rfl⟩ := list19 h1
  simp at h2 h3 h4 h5 h6
  subst h2 h3 h4 h5 h6
  rfl
theorem labT_read {x : RLabel} (h : labB x = true) : labOfB (labT x) = true ∧ parL (labT x) = x := by
  obtain ⟨hd, h1, h2, h3, h4, h5, h6⟩ := labB_iff.1 h
  obtain ⟨g1, g2, g3, g4, g5, g6⟩ := dateB_bd hd
  obtain ⟨y, m, d, hh, mi, s⟩ := x
  dsimp only at *
  obtain ⟨a, a'⟩ := two_pad4 (n := y) (by omega) (by omega)
  obtain ⟨b, b'⟩ := two_pad2 (n := m) (by omega) (by omega)
  obtain ⟨c, c'⟩ := two_pad2 (n := d) (by omega) (by omega)
  obtain ⟨e, e'⟩ := two_pad2 (n := hh) (by omega) (by omega)
  obtain ⟨f, f'⟩ := two_pad2 (n := mi) (by omega) (by omega)
  obtain ⟨i, i'⟩ := two_pad2 (n := s) (by omega) (by omega)
  unfold labOfB parL
  rw [show (labT ⟨y, m, d, hh, mi, s⟩).take 4 = pad4 y from rfl, show ((labT ⟨y, m, d, hh, mi, s⟩).drop 5).take 2 = pad2 m from rfl, show ((labT ⟨y, m, d, hh, mi, s⟩).drop 8).take 2 = pad2 d from rfl,
    show ((labT ⟨y, m, d, hh, mi, s⟩).drop 11).take 2 = pad2 hh from rfl, show ((labT ⟨y, m, d, hh, mi, s⟩).drop 14).take 2 = pad2 mi from rfl, show ((labT ⟨y, m, d, hh, mi, s⟩).drop 17).take 2 = pad2 s from rfl,
    a, a', b, b', c, c', e, e', f, f', i, i']
  exact ⟨rfl, rfl⟩
theorem labC_0 {l : List UInt8} (h : labC l = 0) : labOfB l = true ∧ labB (parL l) = true := by
  unfold labC at h
  split at h
  · rename_i g
    refine ⟨g, ?_⟩
    cases hb : labB (parL l) with
    | true => rfl
    | false => rw [hb] at h; simp [okC] at h
  · omega
theorem labC_T {x : RLabel} (h : labB x = true) : labC (labT x) = 0 := by
  obtain ⟨a, b⟩ := labT_read h
  unfold labC
  rw [a, if_pos rfl, b, h]; rfl
end Go.Proofs.YtfjpfkejajgkbaaDoor

/- A later second has a greater label, and each label its second: no program stands here. -/
namespace Go.Proofs.YtfjpfkejajgkbaaDoor
open Go.RowKit
set_option linter.unusedVariables false
set_option linter.unusedSimpArgs false
theorem bl_append (a b c d : List UInt8) (h : a.length = b.length) : Op.bytesLess (a ++ c) (b ++ d) = (Op.bytesLess a b || (a == b && Op.bytesLess c d)) := by
  induction a generalizing b with
  | nil =>
    have : b = [] := List.length_eq_zero_iff.1 h.symm
    subst this
    simp [Op.bytesLess]
  | cons x a ih =>
    cases b with
    | nil => simp at h
    | cons y b =>
      have := ih b (by simpa using h)
      simp only [List.cons_append, Op.bytesLess, this]
      by_cases hxy : x = y
      · subst hxy
        simp
      · have hb : (x == y) = false := by simpa using hxy
        simp [hb]
theorem bl_cons (c : UInt8) (a b : List UInt8) : Op.bytesLess (c :: a) (c :: b) = Op.bytesLess a b := by simp [Op.bytesLess]
theorem dg_lt (a b : Int) : (dgU a < dgU b) ↔ a % 10 < b % 10 := by
  have h1 := dgU_toNat a
  have h2 := dgU_toNat b
  rw [UInt8.lt_iff_toNat_lt]
  omega
theorem dg_eq (a b : Int) : (dgU a = dgU b) ↔ a % 10 = b % 10 := by
  have h1 := dgU_toNat a
  have h2 := dgU_toNat b
  rw [← UInt8.toNat_inj]
  omega
theorem bl_pad2 {n m : Int} (n0 : 0 ≤ n) (n1 : n ≤ 99) (m0 : 0 ≤ m) (m1 : m ≤ 99) : Op.bytesLess (pad2 n) (pad2 m) = decide (n < m) ∧ (pad2 n == pad2 m) = decide (n = m) := by
  constructor
  · rw [Bool.eq_iff_iff]
    simp only [pad2, Op.bytesLess, Bool.or_eq_true, Bool.and_eq_true, decide_eq_true_eq, beq_iff_eq, dg_lt, dg_eq, Bool.and_false, Bool.or_false, and_false, or_false]
    (try simp only [Bool.false_eq_true, and_false, or_false])
    omega
  · rw [Bool.eq_iff_iff]
    simp only [pad2, beq_iff_eq, List.cons.injEq, dg_eq, decide_eq_true_eq, and_true]
    omega
theorem bl_pad4 {n m : Int} (n0 : 0 ≤ n) (n1 : n ≤ 9999) (m0 : 0 ≤ m) (m1 : m ≤ 9999) : Op.bytesLess (pad4 n) (pad4 m) = decide (n < m) ∧ (pad4 n == pad4 m) = decide (n = m) := by
  have hn : n = 1000 * (n / 1000 % 10) + 100 * (n / 100 % 10) + 10 * (n / 10 % 10) + n % 10 := by omega
  have hm : m = 1000 * (m / 1000 % 10) + 100 * (m / 100 % 10) + 10 * (m / 10 % 10) + m % 10 := by omega
  have r1 : (0 ≤ n / 1000 % 10 ∧ n / 1000 % 10 ≤ 9) ∧ (0 ≤ n / 100 % 10 ∧ n / 100 % 10 ≤ 9) ∧ (0 ≤ n / 10 % 10 ∧ n / 10 % 10 ≤ 9) ∧ (0 ≤ n % 10 ∧ n % 10 ≤ 9) := by omega
  have r2 : (0 ≤ m / 1000 % 10 ∧ m / 1000 % 10 ≤ 9) ∧ (0 ≤ m / 100 % 10 ∧ m / 100 % 10 ≤ 9) ∧ (0 ≤ m / 10 % 10 ∧ m / 10 % 10 ≤ 9) ∧ (0 ≤ m % 10 ∧ m % 10 ≤ 9) := by omega
  constructor
  · rw [Bool.eq_iff_iff]
    simp only [pad4, Op.bytesLess, Bool.or_eq_true, Bool.and_eq_true, decide_eq_true_eq, beq_iff_eq, dg_lt, dg_eq, Bool.and_false, Bool.or_false, and_false, or_false]
    (try simp only [Bool.false_eq_true, and_false, or_false])
    generalize n / 1000 % 10 = a3 at *
    generalize n / 100 % 10 = a2 at *
    generalize n / 10 % 10 = a1 at *
    generalize n % 10 = a0 at *
    generalize m / 1000 % 10 = b3 at *
    generalize m / 100 % 10 = b2 at *
    generalize m / 10 % 10 = b1 at *
    generalize m % 10 = b0 at *
    omega
  · rw [Bool.eq_iff_iff]
    simp only [pad4, beq_iff_eq, List.cons.injEq, dg_eq, decide_eq_true_eq, and_true]
    generalize n / 1000 % 10 = a3 at *
    generalize n / 100 % 10 = a2 at *
    generalize n / 10 % 10 = a1 at *
    generalize n % 10 = a0 at *
    generalize m / 1000 % 10 = b3 at *
    generalize m / 100 % 10 = b2 at *
    generalize m / 10 % 10 = b1 at *
    generalize m % 10 = b0 at *
    omega
theorem bl4 (n m : Int) (c d : List UInt8) : Op.bytesLess (pad4 n ++ c) (pad4 m ++ d) = (Op.bytesLess (pad4 n) (pad4 m) || (pad4 n == pad4 m && Op.bytesLess c d)) := bl_append _ _ _ _ rfl
theorem bl2 (n m : Int) (c d : List UInt8) : Op.bytesLess (pad2 n ++ c) (pad2 m ++ d) = (Op.bytesLess (pad2 n) (pad2 m) || (pad2 n == pad2 m && Op.bytesLess c d)) := bl_append _ _ _ _ rfl
/-- one label stands ahead of another one. -/
def lexL (x z : RLabel) : Prop := x.year < z.year ∨ (x.year = z.year ∧ (x.month < z.month ∨ (x.month = z.month ∧ (x.day < z.day ∨ (x.day = z.day ∧ (x.h < z.h ∨ (x.h = z.h ∧ (x.m < z.m ∨ (x.m = z.m ∧ x.s < z.s)))))))))
theorem text_order {x z : RLabel} (hx : labB x = true) (hz : labB z = true) (h : lexL x z) : Op.bytesLess (labT z) (labT x) = false ∧ (labT z == labT x) = false := by
  obtain ⟨a0, a1, a2, a3, a4, a5, a6⟩ := labB_iff.1 hx
  obtain ⟨b0, b1, b2, b3, b4, b5, b6⟩ := labB_iff.1 hz
  obtain ⟨c1, c2, c3, c4, c5, c6⟩ := dateB_bd a0
  obtain ⟨d1, d2, d3, d4, d5, d6⟩ := dateB_bd b0
  clear a0 b0 hx hz
  obtain ⟨y, m, d, hh, mi, s⟩ := x
  obtain ⟨y', m', d', hh', mi', s'⟩ := z
  dsimp only [lexL] at *
  have e1 : labT ⟨y, m, d, hh, mi, s⟩ = pad4 y ++ (45 :: (pad2 m ++ (45 :: (pad2 d ++ (84 :: (pad2 hh ++ (58 :: (pad2 mi ++ (58 :: pad2 s))))))))) := rfl
  have e2 : labT ⟨y', m', d', hh', mi', s'⟩ = pad4 y' ++ (45 :: (pad2 m' ++ (45 :: (pad2 d' ++ (84 :: (pad2 hh' ++ (58 :: (pad2 mi' ++ (58 :: pad2 s'))))))))) := rfl
  have p1 := bl_pad4 (n := y') (m := y) (by omega) (by omega) (by omega) (by omega)
  have p2 := bl_pad2 (n := m') (m := m) (by omega) (by omega) (by omega) (by omega)
  have p3 := bl_pad2 (n := d') (m := d) (by omega) (by omega) (by omega) (by omega)
  have p4 := bl_pad2 (n := hh') (m := hh) (by omega) (by omega) (by omega) (by omega)
  have p5 := bl_pad2 (n := mi') (m := mi) (by omega) (by omega) (by omega) (by omega)
  have p6 := bl_pad2 (n := s') (m := s) (by omega) (by omega) (by omega) (by omega)
  constructor
  · rw [e1, e2, bl4, bl_cons, bl2, bl_cons, bl2, bl_cons, bl2, bl_cons, bl2, bl_cons, p1.1, p1.2, p2.1, p2.2, p3.1, p3.2, p4.1, p4.2, p5.1, p5.2, p6.1]
    rw [Bool.eq_false_iff]
    simp only [ne_eq, Bool.or_eq_true, Bool.and_eq_true, decide_eq_true_eq]
    omega
  · rw [beq_eq_false_iff_ne]
    intro he
    have hx := congrArg parL he
    have r1 : parL (labT ⟨y', m', d', hh', mi', s'⟩) = ⟨y', m', d', hh', mi', s'⟩ := by
      unfold parL
      rw [show (labT ⟨y', m', d', hh', mi', s'⟩).take 4 = pad4 y' from rfl, show ((labT ⟨y', m', d', hh', mi', s'⟩).drop 5).take 2 = pad2 m' from rfl, show ((labT ⟨y', m', d', hh', mi', s'⟩).drop 8).take 2 = pad2 d' from rfl,
        show ((labT ⟨y', m', d', hh', mi', s'⟩).drop 11).take 2 = pad2 hh' from rfl, show ((labT ⟨y', m', d', hh', mi', s'⟩).drop 14).take 2 = pad2 mi' from rfl, show ((labT ⟨y', m', d', hh', mi', s'⟩).drop 17).take 2 = pad2 s' from rfl,
        (two_pad4 (n := y') (by omega) (by omega)).2, (two_pad2 (n := m') (by omega) (by omega)).2, (two_pad2 (n := d') (by omega) (by omega)).2, (two_pad2 (n := hh') (by omega) (by omega)).2, (two_pad2 (n := mi') (by omega) (by omega)).2, (two_pad2 (n := s') (by omega) (by omega)).2]
    have r2 : parL (labT ⟨y, m, d, hh, mi, s⟩) = ⟨y, m, d, hh, mi, s⟩ := by
      unfold parL
      rw [show (labT ⟨y, m, d, hh, mi, s⟩).take 4 = pad4 y from rfl, show ((labT ⟨y, m, d, hh, mi, s⟩).drop 5).take 2 = pad2 m from rfl, show ((labT ⟨y, m, d, hh, mi, s⟩).drop 8).take 2 = pad2 d from rfl,
        show ((labT ⟨y, m, d, hh, mi, s⟩).drop 11).take 2 = pad2 hh from rfl, show ((labT ⟨y, m, d, hh, mi, s⟩).drop 14).take 2 = pad2 mi from rfl, show ((labT ⟨y, m, d, hh, mi, s⟩).drop 17).take 2 = pad2 s from rfl,
        (two_pad4 (n := y) (by omega) (by omega)).2, (two_pad2 (n := m) (by omega) (by omega)).2, (two_pad2 (n := d) (by omega) (by omega)).2, (two_pad2 (n := hh) (by omega) (by omega)).2, (two_pad2 (n := mi) (by omega) (by omega)).2, (two_pad2 (n := s) (by omega) (by omega)).2]
    rw [r1, r2] at hx
    simp only [RLabel.mk.injEq] at hx
    omega
theorem date_lex {y m d y' m' d' : Int} (h : dateB y m d = true) (h' : dateB y' m' d' = true) (hn : numD y m d < numD y' m' d') : y < y' ∨ (y = y' ∧ (m < m' ∨ (m = m' ∧ d < d'))) := by
  obtain ⟨a1, a2, a3, a4⟩ := date_within h rfl
  obtain ⟨b1, b2, b3, b4⟩ := date_within h' rfl
  have g := dateB_iff.1 h
  have g' := dateB_iff.1 h'
  rcases Int.lt_trichotomy y y' with hy | hy | hy
  · exact .inl hy
  · subst hy
    right
    refine ⟨rfl, ?_⟩
    rcases Int.lt_trichotomy m m' with hm | hm | hm
    · exact .inl hm
    · subst hm
      right
      refine ⟨rfl, ?_⟩
      unfold numD at hn; omega
    · exfalso
      have := ahead_mono (y := y) (a := m' + 1) (b := m) (by omega) (by omega) (by omega); omega
  · exfalso
    have := first_mono (a := y' + 1) (b := y) (by omega) (by omega); omega
/-- the label of a second of a day. -/
def labOf (y m dd s : Int) : RLabel := ⟨y, m, dd, labH s, labM s, labS s⟩
theorem labOf_ok {y m dd s : Int} (hd : dateB y m dd = true) (h0 : 0 ≤ s) (h1 : s ≤ 86400) : labB (labOf y m dd s) = true := by
  rw [labB_iff]
  refine ⟨hd, ?_⟩
  unfold labOf labH labM labS
  dsimp only
  by_cases h : 86400 ≤ s
  · simp only [if_pos h]; omega
  · simp only [if_neg h]; omega
theorem labOf_sec {y m dd s : Int} (h0 : 0 ≤ s) (h1 : s ≤ 86400) : secL (labOf y m dd s) = s := by
  unfold secL labOf labH labM labS
  dsimp only
  by_cases h : 86400 ≤ s
  · simp only [if_pos h]; omega
  · simp only [if_neg h]; omega
theorem labS_60 {s : Int} (h0 : 0 ≤ s) (h1 : s ≤ 86400) : labS s = 60 ↔ s = 86400 := by
  unfold labS
  split <;> omega
/-- each second's label is that second's. -/
theorem tai_back {l : List RLeap} (hg : LeapGood l) {t d y m dd : Int} (k1 : beginL l d ≤ t) (k2 : t < beginL l (d + 1)) (hd : dateB y m dd = true) (hn : numD y m dd = d) :
    taiC l (labOf y m dd (t - beginL l d)) = 0 ∧ taiV l (labOf y m dd (t - beginL l d)) = t := by
  obtain ⟨s0, s1, _⟩ := sec_bd hg k1 k2
  have hs := labOf_sec (y := y) (m := m) (dd := dd) s0 s1
  have hdl : dayL (labOf y m dd (t - beginL l d)) = d := hn
  have hL : longL l d = beginL l (d + 1) - beginL l d := rfl
  have h60 := labS_60 s0 s1
  have hc : taiC l (labOf y m dd (t - beginL l d)) = 0 := by
    unfold taiC
    rw [if_pos (labOf_ok hd s0 s1), hdl, hs, if_neg]
    rintro (h | ⟨h, h2⟩)
    · omega
    · have := h60.1 h; omega
  refine ⟨hc, ?_⟩
  unfold taiV
  rw [if_pos hc, hdl, hs]; omega
/-- a later second's label stands behind. -/
theorem lab_lex {l : List RLeap} (hg : LeapGood l) {n m d e y mo dd y' mo' dd' : Int} (hnm : n < m) (a1 : beginL l d ≤ n) (a2 : n < beginL l (d + 1)) (b1 : beginL l e ≤ m) (b2 : m < beginL l (e + 1))
    (hd : dateB y mo dd = true) (hn : numD y mo dd = d) (hd' : dateB y' mo' dd' = true) (hn' : numD y' mo' dd' = e) : lexL (labOf y mo dd (n - beginL l d)) (labOf y' mo' dd' (m - beginL l e)) := by
  obtain ⟨s0, s1, _⟩ := sec_bd hg a1 a2
  obtain ⟨t0, t1, _⟩ := sec_bd hg b1 b2
  have hde : d ≤ e := by
    rcases Int.lt_or_le e d with hlt | hle
    · have := beginL_mono hg (show e + 1 ≤ d by omega); omega
    · exact hle
  rcases Int.lt_or_le d e with hlt | hle
  · have := date_lex hd hd' (by omega)
    unfold lexL labOf
    dsimp only
    omega
  · obtain rfl : d = e := by omega
    obtain ⟨rfl, rfl, rfl⟩ := numD_inj hd hd' (hn.trans hn'.symm)
    have hs : n - beginL l d < m - beginL l d := by omega
    unfold lexL labOf labH labM labS
    dsimp only
    generalize n - beginL l d = s at *
    generalize m - beginL l d = t at *
    by_cases h1 : 86400 ≤ t
    · rw [if_pos h1, if_pos h1, if_pos h1, if_neg (by omega), if_neg (by omega), if_neg (by omega)]; omega
    · rw [if_neg h1, if_neg h1, if_neg h1, if_neg (by omega), if_neg (by omega), if_neg (by omega)]; omega
end Go.Proofs.YtfjpfkejajgkbaaDoor
