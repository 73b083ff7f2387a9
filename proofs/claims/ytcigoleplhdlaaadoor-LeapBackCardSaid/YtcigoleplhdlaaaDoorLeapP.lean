/- Leaps, in plain Lean: no program stands here. -/
import Derived.Test.YtcigoleplhdlaaaDoorCivilP
import Derived.Test.YtcigoleplhdlaaaDoorRec
namespace Go.Proofs.YtcigoleplhdlaaaDoor
open Go.RowKit
set_option linter.unusedVariables false
set_option linter.unusedSimpArgs false
def byL (x : RLeap) : Int := if x.up = true then 1 else -1
theorem byL_bd (x : RLeap) : -1 ≤ byL x ∧ byL x ≤ 1 := by unfold byL; split <;> omega
def moreL : List RLeap → Int → Int
  | [], _ => 0
  | x :: l, d => (if x.day < d then byL x else 0) + moreL l d
theorem moreL_snoc (l : List RLeap) (x : RLeap) (d : Int) : moreL (l ++ [x]) d = moreL l d + (if x.day < d then byL x else 0) := by
  induction l with
  | nil => simp [moreL]
  | cons y l ih => simp only [List.cons_append, moreL, ih]; omega
theorem moreL_bd (l : List RLeap) (d : Int) : -(l.length : Int) ≤ moreL l d ∧ moreL l d ≤ l.length := by
  induction l with
  | nil => simp [moreL]
  | cons y l ih =>
    have := byL_bd y
    simp only [moreL, List.length_cons]
    split <;> omega
def beginL (l : List RLeap) (d : Int) : Int := 86400 * d + moreL l d
/-- the fault of leaps behind one at p. -/
def chkL : Int → List RLeap → Int
  | _, [] => 0
  | p, x :: l => if x.day < 1 ∨ 84005 ≤ x.day then 1 else if x.day < p + 2 then 3 else chkL x.day l
def leapsC (l : List RLeap) : Int := if 20 < l.length then 4 else chkL (-1) l
def prevL (l : List RLeap) : Nat → Int
  | 0 => -1
  | i + 1 => (l[i]?.map (·.day)).getD (-1)
theorem leapsC_cases (l : List RLeap) : leapsC l = 0 ∨ leapsC l = 1 ∨ leapsC l = 3 ∨ leapsC l = 4 := by
  have h : ∀ p l, chkL p l = 0 ∨ chkL p l = 1 ∨ chkL p l = 3 := by
    intro p l
    induction l generalizing p with
    | nil => simp [chkL]
    | cons x l ih => unfold chkL; (repeat' split) <;> first | omega | exact ih _
  unfold leapsC
  split
  · omega
  · rcases h (-1) l with h | h | h <;> omega
structure LeapGood (l : List RLeap) : Prop where
  len : l.length ≤ 20
  chk : chkL (-1) l = 0
theorem leapsC_0 {l : List RLeap} (h : leapsC l = 0) : LeapGood l := by
  unfold leapsC at h
  split at h
  · omega
  · exact ⟨by omega, h⟩
theorem leapsC_of {l : List RLeap} (h : LeapGood l) : leapsC l = 0 := by
  unfold leapsC
  rw [if_neg (by have := h.len; omega)]; exact h.chk
theorem chkL_cons {p : Int} {x : RLeap} {l : List RLeap} (h : chkL p (x :: l) = 0) : 1 ≤ x.day ∧ x.day < 84005 ∧ p + 2 ≤ x.day ∧ chkL x.day l = 0 := by
  unfold chkL at h
  split at h
  · omega
  · split at h
    · omega
    · exact ⟨by omega, by omega, by omega, h⟩
theorem chkL_mem {p : Int} {l : List RLeap} (h : chkL p l = 0) : ∀ x ∈ l, 1 ≤ x.day ∧ x.day < 84005 ∧ p + 2 ≤ x.day := by
  induction l generalizing p with
  | nil => simp
  | cons x l ih =>
    obtain ⟨h1, h2, h3, h4⟩ := chkL_cons h
    intro z hz
    rcases List.mem_cons.1 hz with rfl | hz
    · exact ⟨h1, h2, h3⟩
    · have := ih h4 z hz; omega
/-- what leaps at just that day make. -/
def atL : List RLeap → Int → Int
  | [], _ => 0
  | x :: l, d => (if x.day = d then byL x else 0) + atL l d
theorem moreL_succ (l : List RLeap) (d : Int) : moreL l (d + 1) = moreL l d + atL l d := by
  induction l with
  | nil => rfl
  | cons x l ih =>
    simp only [moreL, atL, ih]
    rcases Int.lt_trichotomy x.day d with h | h | h
    · rw [if_pos (by omega), if_pos h, if_neg (by omega)]; omega
    · rw [if_pos (by omega), if_neg (by omega), if_pos h]; omega
    · rw [if_neg (by omega), if_neg (by omega), if_neg (by omega)]; omega
theorem atL_far {p : Int} {l : List RLeap} (h : chkL p l = 0) {d : Int} (hd : d < p + 2) : atL l d = 0 := by
  have hm := chkL_mem h
  clear h
  induction l with
  | nil => rfl
  | cons x l ih =>
    unfold atL
    rw [if_neg (by have := hm x (by simp); omega), ih (fun z hz => hm z (by simp [hz]))]; rfl
theorem atL_one {p : Int} {l : List RLeap} (h : chkL p l = 0) (d : Int) : (atL l d = 0 ∧ ∀ x ∈ l, x.day ≠ d) ∨ ∃ x ∈ l, x.day = d ∧ atL l d = byL x := by
  induction l generalizing p with
  | nil => left; exact ⟨rfl, by simp⟩
  | cons x l ih =>
    obtain ⟨h1, h2, h3, h4⟩ := chkL_cons h
    by_cases hx : x.day = d
    · right
      refine ⟨x, by simp, hx, ?_⟩
      unfold atL
      rw [if_pos hx, atL_far h4 (by omega)]; omega
    · unfold atL
      rw [if_neg hx]
      rcases ih h4 with ⟨h5, h6⟩ | ⟨y, hy, h5, h6⟩
      · left
        refine ⟨by omega, fun z hz => ?_⟩
        rcases List.mem_cons.1 hz with rfl | hz
        · exact hx
        · exact h6 z hz
      · right; exact ⟨y, by simp [hy], h5, by omega⟩
theorem atL_bd {l : List RLeap} (h : LeapGood l) (d : Int) : -1 ≤ atL l d ∧ atL l d ≤ 1 := by
  rcases atL_one h.chk d with ⟨h, _⟩ | ⟨x, _, _, h⟩
  · omega
  · have := byL_bd x; omega
theorem beginL_succ (l : List RLeap) (d : Int) : beginL l (d + 1) = beginL l d + 86400 + atL l d := by
  unfold beginL; have := moreL_succ l d; omega
theorem beginL_bd {l : List RLeap} (h : LeapGood l) (d : Int) : 86400 * d - 20 ≤ beginL l d ∧ beginL l d ≤ 86400 * d + 20 := by
  have := moreL_bd l d
  have := h.len
  unfold beginL; omega
theorem beginL_mono {l : List RLeap} (h : LeapGood l) {a b : Int} (hab : a ≤ b) : beginL l a ≤ beginL l b := by
  rcases Int.lt_or_le a b with hlt | hle
  · have := beginL_bd h a
    have := beginL_bd h b
    rcases Int.lt_or_le (a + 1) b with h2 | h2
    · omega
    · have := beginL_succ l a
      have := atL_bd h a
      have : b = a + 1 := by omega
      subst this; omega
  · have : a = b := by omega
    subst this; omega
theorem beginL_0 {l : List RLeap} (h : LeapGood l) : beginL l 0 = 0 := by
  have : moreL l 0 = 0 := by
    have hm := chkL_mem h.chk
    clear h
    induction l with
    | nil => rfl
    | cons x l ih =>
      unfold moreL
      rw [if_neg (by have := hm x (by simp); omega), ih (fun z hz => hm z (by simp [hz]))]; rfl
  unfold beginL; omega
theorem day_of {l : List RLeap} (h : LeapGood l) {n : Int} (h0 : 0 ≤ n) (h1 : n < beginL l 84006) : ∃ d, 0 ≤ d ∧ d ≤ 84005 ∧ beginL l d ≤ n ∧ n < beginL l (d + 1) := by
  have key : ∀ k : Nat, n < beginL l k → ∃ d : Int, 0 ≤ d ∧ d + 1 ≤ k ∧ beginL l d ≤ n ∧ n < beginL l (d + 1) := by
    intro k
    induction k with
    | zero => intro hk; have := beginL_0 h; simp at hk; omega
    | succ k ih =>
      intro hk
      by_cases hk2 : n < beginL l k
      · obtain ⟨d, a, b, c, e⟩ := ih hk2
        exact ⟨d, a, by omega, c, e⟩
      · exact ⟨k, by omega, by omega, by omega, by simpa using hk⟩
  obtain ⟨d, a, b, c, e⟩ := key 84006 (by simpa using h1)
  exact ⟨d, a, by omega, c, e⟩
theorem day_one {l : List RLeap} (h : LeapGood l) {n a b : Int} (ha : beginL l a ≤ n) (ha2 : n < beginL l (a + 1)) (hb : beginL l b ≤ n) (hb2 : n < beginL l (b + 1)) : a = b := by
  rcases Int.lt_trichotomy a b with hlt | he | hlt
  · have := beginL_mono h (show a + 1 ≤ b by omega); omega
  · exact he
  · have := beginL_mono h (show b + 1 ≤ a by omega); omega
theorem moreL_take_succ {l : List RLeap} {i : Nat} {x : RLeap} (h : l[i]? = some x) (d : Int) : moreL (l.take (i + 1)) d = moreL (l.take i) d + (if x.day < d then byL x else 0) := by
  have hl := (List.getElem?_eq_some_iff.1 h).1
  rw [List.take_succ_eq_append_getElem hl, moreL_snoc, (List.getElem?_eq_some_iff.1 h).2]
theorem moreL_take_bd (l : List RLeap) (i : Nat) (d : Int) (h : l.length ≤ 1000) : -1000 ≤ moreL (l.take i) d ∧ moreL (l.take i) d ≤ 1000 := by
  have := moreL_bd (l.take i) d
  have : (l.take i).length ≤ l.length := by rw [List.length_take]; omega
  omega
theorem chk_step {l : List RLeap} {i : Nat} {x : RLeap} (h : l[i]? = some x) : chkL (prevL l i) (l.drop i) = if x.day < 1 ∨ 84005 ≤ x.day then 1 else if x.day < prevL l i + 2 then 3 else chkL (prevL l (i + 1)) (l.drop (i + 1)) := by
  have hl := (List.getElem?_eq_some_iff.1 h).1
  have hd : l.drop i = x :: l.drop (i + 1) := by rw [List.drop_eq_getElem_cons hl]; congr 1; exact (List.getElem?_eq_some_iff.1 h).2
  rw [hd, chkL]
  have : prevL l (i + 1) = x.day := by simp [prevL, h]
  rw [this]
theorem day_guess {l : List RLeap} (h : LeapGood l) {n d : Int} (h0 : 0 ≤ d) (k2 : n < beginL l (d + 1)) : n / 86400 - 1 ≤ d := by
  rcases Int.lt_or_le d (n / 86400 - 1) with hlt | hle
  · exfalso
    have := beginL_bd h (d + 1)
    omega
  · exact hle
theorem n_bd {l : List RLeap} (h : LeapGood l) {n d : Int} (h0 : 0 ≤ d) (h1 : d ≤ 84005) (k1 : beginL l d ≤ n) (k2 : n < beginL l (d + 1)) : 0 ≤ n ∧ n ≤ 7258118420 := by
  have := beginL_bd h (d + 1)
  have := beginL_mono h h0
  have := beginL_0 h
  omega
def readyC (l : List RLeap) (t : Int) : Int := if leapsC l = 0 then (if t < 0 ∨ beginL l 84006 ≤ t then 1 else 0) else leapsC l
theorem readyC_0 {l : List RLeap} {t : Int} (h : readyC l t = 0) : LeapGood l ∧ ∃ d, 0 ≤ d ∧ d ≤ 84005 ∧ beginL l d ≤ t ∧ t < beginL l (d + 1) := by
  unfold readyC at h
  split at h
  · rename_i g
    split at h
    · omega
    · exact ⟨leapsC_0 g, day_of (leapsC_0 g) (by omega) (by omega)⟩
  · omega
theorem ready_0 {l : List RLeap} {t d : Int} (hg : LeapGood l) (h0 : 0 ≤ d) (h1 : d ≤ 84005) (k1 : beginL l d ≤ t) (k2 : t < beginL l (d + 1)) : readyC l t = 0 := by
  have := n_bd hg h0 h1 k1 k2
  have := beginL_mono hg (show d + 1 ≤ 84006 by omega)
  unfold readyC
  rw [if_pos (leapsC_of hg), if_neg (by omega)]
def labH (s : Int) : Int := if 86400 ≤ s then 23 else s / 3600
def labM (s : Int) : Int := if 86400 ≤ s then 59 else s / 60 % 60
def labS (s : Int) : Int := if 86400 ≤ s then 60 else s % 60
theorem sec_bd {l : List RLeap} (h : LeapGood l) {t d : Int} (k1 : beginL l d ≤ t) (k2 : t < beginL l (d + 1)) : 0 ≤ t - beginL l d ∧ t - beginL l d ≤ 86400 ∧ (t - beginL l d = 86400 → atL l d = 1) := by
  have := beginL_succ l d
  have := atL_bd h d
  omega
/-- the second from which a leap is smeared; how many seconds that takes; is it so at one? -/
def fromL (l : List RLeap) (x : RLeap) : Int := beginL l x.day + 43200
def wideL (x : RLeap) : Int := 86400 + byL x
def inL (l : List RLeap) (t : Int) (x : RLeap) : Bool := decide (fromL l x ≤ t) && decide (t < fromL l x + wideL x)
def smearV (l : List RLeap) (t d : Int) : Int := match l.find? (inL l t) with
  | some x => 1000 * (fromL l x - moreL l x.day) + 86400000 * (t - fromL l x) / wideL x
  | none => 1000 * (t - moreL l d)
theorem find_step {l : List RLeap} {p : RLeap → Bool} {i : Nat} {x : RLeap} (h : l[i]? = some x) : (l.drop i).find? p = if p x = true then some x else (l.drop (i + 1)).find? p := by
  have hl := (List.getElem?_eq_some_iff.1 h).1
  have hd : l.drop i = x :: l.drop (i + 1) := by rw [List.drop_eq_getElem_cons hl]; congr 1; exact (List.getElem?_eq_some_iff.1 h).2
  rw [hd, List.find?_cons]
  cases p x <;> rfl
theorem chk_one {p : Int} {l : List RLeap} (h : chkL p l = 0) {x y : RLeap} (hx : x ∈ l) (hy : y ∈ l) (e : x.day = y.day) : x = y := by
  induction l generalizing p with
  | nil => simp at hx
  | cons z l ih =>
    obtain ⟨_, _, _, h4⟩ := chkL_cons h
    have hm := chkL_mem h4
    rcases List.mem_cons.1 hx with e1 | e1
    · rcases List.mem_cons.1 hy with e2 | e2
      · rw [e1, e2]
      · have := hm y e2; rw [e1] at e; omega
    · rcases List.mem_cons.1 hy with e2 | e2
      · have := hm x e1; rw [e2] at e; omega
      · exact ih h4 e1 e2
theorem atL_mem {l : List RLeap} (h : LeapGood l) {x : RLeap} (hx : x ∈ l) : atL l x.day = byL x := by
  rcases atL_one h.chk x.day with ⟨_, h2⟩ | ⟨y, hy, e, h2⟩
  · exact absurd rfl (h2 x hx)
  · rw [h2, chk_one h.chk hx hy e.symm]
theorem atL_none {l : List RLeap} (h : LeapGood l) {d : Int} (hd : ∀ x ∈ l, x.day ≠ d) : atL l d = 0 := by
  rcases atL_one h.chk d with ⟨h1, _⟩ | ⟨y, hy, e, _⟩
  · exact h1
  · exact absurd e (hd y hy)
end Go.Proofs.YtcigoleplhdlaaaDoor
