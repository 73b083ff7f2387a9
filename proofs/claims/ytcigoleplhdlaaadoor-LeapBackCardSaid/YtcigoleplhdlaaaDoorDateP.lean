/- Dates as texts, in plain Lean: no program stands here. -/
import Derived.Test.YtcigoleplhdlaaaDoorCivilP
namespace Go.Proofs.YtcigoleplhdlaaaDoor
open Go.RowKit
set_option linter.unusedVariables false
set_option linter.unusedSimpArgs false
/-- the last digit of a number, as a byte. -/
def dgU (n : Int) : UInt8 := UInt8.ofNat (48 + (n % 10).toNat)
theorem dgU_toNat (n : Int) : ((dgU n).toNat : Int) = 48 + n % 10 := by
  unfold dgU
  rw [UInt8.toNat_ofNat']
  omega
def pad2 (n : Int) : List UInt8 := [dgU (n / 10), dgU n]
def pad4 (n : Int) : List UInt8 := [dgU (n / 1000), dgU (n / 100), dgU (n / 10), dgU n]
def dateT (y m d : Int) : List UInt8 := pad4 y ++ (45 :: (pad2 m ++ (45 :: pad2 d)))
theorem dateT_len (y m d : Int) : (dateT y m d).length = 10 := rfl
def digB (c : UInt8) : Bool := decide (48 ≤ c.toNat) && decide (c.toNat ≤ 57)
def twoV (l : List UInt8) : Int := l.foldl (fun n c => n * 10 + ((c.toNat : Int) - 48)) 0
def twoB (l : List UInt8) : Bool := l.all digB
theorem twoV_snoc (l : List UInt8) (c : UInt8) : twoV (l ++ [c]) = twoV l * 10 + ((c.toNat : Int) - 48) := by simp [twoV]
theorem twoV_bd (l : List UInt8) (h : twoB l = true) (hl : l.length ≤ 4) : 0 ≤ twoV l ∧ twoV l ≤ 9999 := by
  match l, hl with
  | [], _ => simp [twoV]
  | [a], _ => simp [twoB, digB] at h; simp [twoV]; omega
  | [a, b], _ => simp [twoB, digB] at h; simp [twoV]; omega
  | [a, b, c], _ => simp [twoB, digB] at h; simp [twoV]; omega
  | [a, b, c, d], _ => simp [twoB, digB] at h; simp [twoV]; omega
theorem twoB_snoc (l : List UInt8) (c : UInt8) : twoB (l ++ [c]) = (twoB l && digB c) := by simp [twoB]
theorem take_snoc_g {l : List UInt8} {k : Nat} (h : k < l.length) : l.take (k + 1) = l.take k ++ [l.getD k 0] := by
  rw [List.take_succ_eq_append_getElem h, List.getD_eq_getElem?_getD, List.getElem?_eq_getElem h]; rfl
theorem twoB_take {l : List UInt8} {k : Nat} (h : twoB (l.take k) = false) : twoB l = false := by
  cases hb : twoB l with
  | false => rfl
  | true =>
    have : twoB (l.take k) = true := by
      unfold twoB at hb ⊢
      rw [List.all_eq_true] at hb ⊢
      exact fun x hx => hb x (List.mem_of_mem_take hx)
    rw [this] at h; cases h
theorem dgU_dig (n : Int) : digB (dgU n) = true := by
  have := dgU_toNat n
  unfold digB; simp; omega
theorem two_pad2 {n : Int} (h0 : 0 ≤ n) (h1 : n ≤ 99) : twoB (pad2 n) = true ∧ twoV (pad2 n) = n := by
  refine ⟨by simp [twoB, pad2, dgU_dig], ?_⟩
  simp only [twoV, pad2, List.foldl_cons, List.foldl_nil, dgU_toNat]
  omega
theorem two_pad4 {n : Int} (h0 : 0 ≤ n) (h1 : n ≤ 9999) : twoB (pad4 n) = true ∧ twoV (pad4 n) = n := by
  refine ⟨by simp [twoB, pad4, dgU_dig], ?_⟩
  simp only [twoV, pad4, List.foldl_cons, List.foldl_nil, dgU_toNat]
  omega
theorem dgU_back {c : UInt8} (h : digB c = true) {n : Int} (hn : n % 10 = (c.toNat : Int) - 48) : dgU n = c := by
  apply UInt8.toNat_inj.1
  have := dgU_toNat n
  omega
theorem pad2_two {l : List UInt8} (h : twoB l = true) (hl : l.length = 2) : pad2 (twoV l) = l := by
  match l, hl with
  | [a, b], _ =>
    have ha : digB a = true := by simp [twoB] at h; exact h.1
    have hb : digB b = true := by simp [twoB] at h; exact h.2
    have e1 := ha
    have e2 := hb
    simp [digB] at e1 e2
    have ev : twoV [a, b] = ((a.toNat : Int) - 48) * 10 + ((b.toNat : Int) - 48) := by simp [twoV]
    unfold pad2
    rw [ev, dgU_back ha (by omega), dgU_back hb (by omega)]
theorem pad4_two {l : List UInt8} (h : twoB l = true) (hl : l.length = 4) : pad4 (twoV l) = l := by
  match l, hl with
  | [a, b, c, d], _ =>
    simp [twoB] at h
    obtain ⟨ha, hb, hc, hd⟩ := h
    have e1 := ha
    have e2 := hb
    have e3 := hc
    have e4 := hd
    simp [digB] at e1 e2 e3 e4
    have ev : twoV [a, b, c, d] = ((((a.toNat : Int) - 48) * 10 + ((b.toNat : Int) - 48)) * 10 + ((c.toNat : Int) - 48)) * 10 + ((d.toNat : Int) - 48) := by simp [twoV]
    unfold pad4
    rw [ev, dgU_back ha (by omega), dgU_back hb (by omega), dgU_back hc (by omega), dgU_back hd (by omega)]
/-- a text as a date: its parts; whether it is one. -/

def dateOfB (l : List UInt8) : Bool := decide (l.length = 10) && (decide (l.getD 4 0 = 45) && (decide (l.getD 7 0 = 45) && (twoB (l.take 4) && (twoB ((l.drop 5).take 2) && twoB ((l.drop 8).take 2)))))
def pY (l : List UInt8) : Int := twoV (l.take 4)
def pM (l : List UInt8) : Int := twoV ((l.drop 5).take 2)
def pD (l : List UInt8) : Int := twoV ((l.drop 8).take 2)
/-- the fault of a text. -/
def parC (l : List UInt8) : Int := if dateOfB l = true then okC (dateB (pY l) (pM l) (pD l)) else 2
theorem list10 {α : Type} {l : List α} (h : l.length = 10) : ∃ a b c d e f g i j k, l = [a, b, c, d, e, f, g, i, j, k] := by
  match l, h with
  | [a, b, c, d, e, f, g, i, j, k], _ => exact ⟨a, b, c, d, e, f, g, i, j, k, rfl⟩
/-- what is read writes the same. -/
theorem dateT_back {l : List UInt8} (h : dateOfB l = true) : dateT (pY l) (pM l) (pD l) = l := by
  simp only [dateOfB, Bool.and_eq_true, decide_eq_true_eq] at h
  obtain ⟨h1, h2, h3, h4, h5, h6⟩ := h
  unfold dateT pY pM pD
  rw [pad4_two h4 (by rw [List.length_take]; omega), pad2_two h5 (by rw [List.length_take, List.length_drop]; omega), pad2_two h6 (by rw [List.length_take, List.length_drop]; omega)]
  obtain ⟨a, b, c, d, e, f, g, i, j, k, rfl⟩ := list10 h1
  simp at h2 h3
  subst h2 h3
  rfl
/-- what is written reads the same. -/
theorem dateT_read {y m d : Int} (h1 : 0 ≤ y) (h2 : y ≤ 9999) (h3 : 0 ≤ m) (h4 : m ≤ 99) (h5 : 0 ≤ d) (h6 : d ≤ 99) : dateOfB (dateT y m d) = true ∧ pY (dateT y m d) = y ∧ pM (dateT y m d) = m ∧ pD (dateT y m d) = d := by
  obtain ⟨a, a'⟩ := two_pad4 h1 h2
  obtain ⟨b, b'⟩ := two_pad2 h3 h4
  obtain ⟨c, c'⟩ := two_pad2 h5 h6
  have e1 : (dateT y m d).take 4 = pad4 y := rfl
  have e2 : ((dateT y m d).drop 5).take 2 = pad2 m := rfl
  have e3 : ((dateT y m d).drop 8).take 2 = pad2 d := rfl
  unfold dateOfB pY pM pD
  rw [e1, e2, e3, a, a', b, b', c, c']
  exact ⟨rfl, rfl, rfl, rfl⟩
theorem dateB_iff {y m d : Int} : dateB y m d = true ↔ 1970 ≤ y ∧ y ≤ 2199 ∧ 1 ≤ m ∧ m ≤ 12 ∧ 1 ≤ d ∧ d ≤ daysD y m := by
  simp only [dateB, ymB, Bool.and_eq_true, decide_eq_true_eq]; omega
theorem next_a {y m d n : Int} (h : dateB y m d = true) (hn : numD y m d = n) (hd : d < daysD y m) : dateB y m (d + 1) = true ∧ numD y m (d + 1) = n + 1 := by
  have := dateB_iff.1 h
  exact ⟨dateB_iff.2 (by omega), by unfold numD at hn ⊢; omega⟩
theorem next_b {y m d n : Int} (h : dateB y m d = true) (hn : numD y m d = n) (hd : ¬ d < daysD y m) (hm : m < 12) : dateB y (m + 1) 1 = true ∧ numD y (m + 1) 1 = n + 1 := by
  have := dateB_iff.1 h
  have := daysD_bd (y := y) (m := m + 1) (by omega) (by omega)
  have := aheadD_succ y m (by omega) (by omega)
  exact ⟨dateB_iff.2 (by omega), by unfold numD at hn ⊢; omega⟩
theorem last_num : numD 2199 12 31 = 84005 := by decide
theorem next_c {y m d n : Int} (h : dateB y m d = true) (hn : numD y m d = n) (hd : ¬ d < daysD y m) (hm : ¬ m < 12) (h5 : n < 84005) : dateB (y + 1) 1 1 = true ∧ numD (y + 1) 1 1 = n + 1 := by
  have := dateB_iff.1 h
  obtain rfl : m = 12 := by omega
  have e : daysD y 12 = 31 := rfl
  obtain rfl : d = 31 := by omega
  have := daysD_bd (y := y + 1) (m := 1) (by omega) (by omega)
  have := aheadD_succ y 12 (by omega) (by omega)
  have := firstD_succ y
  have a13 : aheadD y (12 + 1) = 365 + leapN y := rfl
  have a1 := ahead_1 (y + 1)
  have : y < 2199 := by
    rcases Int.lt_or_le y 2199 with hlt | hle
    · exact hlt
    · obtain rfl : y = 2199 := by omega
      have := last_num
      omega
  exact ⟨dateB_iff.2 (by omega), by unfold numD at hn ⊢; omega⟩
theorem date_of {n : Int} (h0 : 0 ≤ n) (h1 : n ≤ 84005) : ∃ y m d, dateB y m d = true ∧ numD y m d = n := by
  obtain ⟨k, rfl⟩ : ∃ k : Nat, n = k := ⟨n.toNat, by omega⟩
  clear h0
  induction k with
  | zero => exact ⟨1970, 1, 1, by decide, by decide⟩
  | succ k ih =>
    obtain ⟨y, m, d, hd, hn⟩ := ih (by omega)
    rw [show ((k + 1 : Nat) : Int) = (k : Int) + 1 by omega]
    by_cases a : d < daysD y m
    · exact ⟨_, _, _, next_a hd hn a⟩
    · by_cases b : m < 12
      · exact ⟨_, _, _, next_b hd hn a b⟩
      · exact ⟨_, _, _, next_c hd hn a b (by omega)⟩
theorem parC_dateT {y m d : Int} (h : dateB y m d = true) : parC (dateT y m d) = 0 ∧ pY (dateT y m d) = y ∧ pM (dateT y m d) = m ∧ pD (dateT y m d) = d := by
  obtain ⟨g1, g2, g3, g4, g5, g6⟩ := dateB_bd h
  obtain ⟨a, b, c, e⟩ := dateT_read (y := y) (m := m) (d := d) (by omega) (by omega) (by omega) (by omega) (by omega) (by omega)
  refine ⟨?_, b, c, e⟩
  unfold parC
  rw [a, if_pos rfl, b, c, e, h]; rfl
theorem parC_0 {l : List UInt8} (h : parC l = 0) : dateOfB l = true ∧ dateB (pY l) (pM l) (pD l) = true := by
  unfold parC at h
  split at h
  · rename_i g
    refine ⟨g, ?_⟩
    cases hb : dateB (pY l) (pM l) (pD l) with
    | true => rfl
    | false => rw [hb] at h; simp [okC] at h
  · omega
theorem numD_inj {y m d y' m' d' : Int} (h : dateB y m d = true) (h' : dateB y' m' d' = true) (hn : numD y m d = numD y' m' d') : y = y' ∧ m = m' ∧ d = d' := by
  obtain ⟨a1, a2, a3, a4⟩ := date_within h hn
  obtain ⟨b1, b2, b3, b4⟩ := date_within h' rfl
  have g := dateB_iff.1 h
  have g' := dateB_iff.1 h'
  have hy : y = y' := by
    rcases Int.lt_trichotomy y y' with hlt | he | hlt
    · have := first_mono (a := y + 1) (b := y') (by omega) (by omega); omega
    · exact he
    · have := first_mono (a := y' + 1) (b := y) (by omega) (by omega); omega
  subst hy
  have hm : m = m' := by
    rcases Int.lt_trichotomy m m' with hlt | he | hlt
    · have := ahead_mono (y := y) (a := m + 1) (b := m') (by omega) (by omega) (by omega); omega
    · exact he
    · have := ahead_mono (y := y) (a := m' + 1) (b := m) (by omega) (by omega) (by omega); omega
  subst hm
  unfold numD at hn
  exact ⟨rfl, rfl, by omega⟩
end Go.Proofs.YtcigoleplhdlaaaDoor
