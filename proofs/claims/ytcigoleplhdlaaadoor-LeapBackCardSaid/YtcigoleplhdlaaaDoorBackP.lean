/- A later second has a greater label, and each label its second: no program stands here. -/
import Derived.Test.YtcigoleplhdlaaaDoorLabelP
import GoSem.Op.String
namespace Go.Proofs.YtcigoleplhdlaaaDoor
open Go.RowKit
set_option linter.unusedVariables false
set_option linter.unusedSimpArgs false
theorem bl_append (a b c d : List UInt8) (h : a.length = b.length) : Op.bytesLess (a ++ c) (b ++ d) = (Op.bytesLess a b || (a == b && Op.bytesLess c d)) := by
  induction a generalizing b with
  | nil =>
    have : b = [] := List.length_eq_zero_iff.1 h.symm
    subst this
    simp [Op.bytesLess]
  | cons x a ih =>
    cases b with
    | nil => simp at h
    | cons y b =>
      have := ih b (by simpa using h)
      simp only [List.cons_append, Op.bytesLess, this]
      by_cases hxy : x = y
      · subst hxy
        simp
      · have hb : (x == y) = false := by simpa using hxy
        simp [hb]
theorem bl_cons (c : UInt8) (a b : List UInt8) : Op.bytesLess (c :: a) (c :: b) = Op.bytesLess a b := by simp [Op.bytesLess]
theorem dg_lt (a b : Int) : (dgU a < dgU b) ↔ a % 10 < b % 10 := by
  have h1 := dgU_toNat a
  have h2 := dgU_toNat b
  rw [UInt8.lt_iff_toNat_lt]
  omega
theorem dg_eq (a b : Int) : (dgU a = dgU b) ↔ a % 10 = b % 10 := by
  have h1 := dgU_toNat a
  have h2 := dgU_toNat b
  rw [← UInt8.toNat_inj]
  omega
theorem bl_pad2 {n m : Int} (n0 : 0 ≤ n) (n1 : n ≤ 99) (m0 : 0 ≤ m) (m1 : m ≤ 99) : Op.bytesLess (pad2 n) (pad2 m) = decide (n < m) ∧ (pad2 n == pad2 m) = decide (n = m) := by
  constructor
  · rw [Bool.eq_iff_iff]
    simp only [pad2, Op.bytesLess, Bool.or_eq_true, Bool.and_eq_true, decide_eq_true_eq, beq_iff_eq, dg_lt, dg_eq, Bool.and_false, Bool.or_false, and_false, or_false]
    (try simp only [Bool.false_eq_true, and_false, or_false])
    omega
  · rw [Bool.eq_iff_iff]
    simp only [pad2, beq_iff_eq, List.cons.injEq, dg_eq, decide_eq_true_eq, and_true]
    omega
theorem bl_pad4 {n m : Int} (n0 : 0 ≤ n) (n1 : n ≤ 9999) (m0 : 0 ≤ m) (m1 : m ≤ 9999) : Op.bytesLess (pad4 n) (pad4 m) = decide (n < m) ∧ (pad4 n == pad4 m) = decide (n = m) := by
  have hn : n = 1000 * (n / 1000 % 10) + 100 * (n / 100 % 10) + 10 * (n / 10 % 10) + n % 10 := by omega
  have hm : m = 1000 * (m / 1000 % 10) + 100 * (m / 100 % 10) + 10 * (m / 10 % 10) + m % 10 := by omega
  have r1 : (0 ≤ n / 1000 % 10 ∧ n / 1000 % 10 ≤ 9) ∧ (0 ≤ n / 100 % 10 ∧ n / 100 % 10 ≤ 9) ∧ (0 ≤ n / 10 % 10 ∧ n / 10 % 10 ≤ 9) ∧ (0 ≤ n % 10 ∧ n % 10 ≤ 9) := by omega
  have r2 : (0 ≤ m / 1000 % 10 ∧ m / 1000 % 10 ≤ 9) ∧ (0 ≤ m / 100 % 10 ∧ m / 100 % 10 ≤ 9) ∧ (0 ≤ m / 10 % 10 ∧ m / 10 % 10 ≤ 9) ∧ (0 ≤ m % 10 ∧ m % 10 ≤ 9) := by omega
  constructor
  · rw [Bool.eq_iff_iff]
    simp only [pad4, Op.bytesLess, Bool.or_eq_true, Bool.and_eq_true, decide_eq_true_eq, beq_iff_eq, dg_lt, dg_eq, Bool.and_false, Bool.or_false, and_false, or_false]
    (try simp only [Bool.false_eq_true, and_false, or_false])
    generalize n / 1000 % 10 = a3 at *
    generalize n / 100 % 10 = a2 at *
    generalize n / 10 % 10 = a1 at *
    generalize n % 10 = a0 at *
    generalize m / 1000 % 10 = b3 at *
    generalize m / 100 % 10 = b2 at *
    generalize m / 10 % 10 = b1 at *
    generalize m % 10 = b0 at *
    omega
  · rw [Bool.eq_iff_iff]
    simp only [pad4, beq_iff_eq, List.cons.injEq, dg_eq, decide_eq_true_eq, and_true]
    generalize n / 1000 % 10 = a3 at *
    generalize n / 100 % 10 = a2 at *
    generalize n / 10 % 10 = a1 at *
    generalize n % 10 = a0 at *
    generalize m / 1000 % 10 = b3 at *
    generalize m / 100 % 10 = b2 at *
    generalize m / 10 % 10 = b1 at *
    generalize m % 10 = b0 at *
    omega
theorem bl4 (n m : Int) (c d : List UInt8) : Op.bytesLess (pad4 n ++ c) (pad4 m ++ d) = (Op.bytesLess (pad4 n) (pad4 m) || (pad4 n == pad4 m && Op.bytesLess c d)) := bl_append _ _ _ _ rfl
theorem bl2 (n m : Int) (c d : List UInt8) : Op.bytesLess (pad2 n ++ c) (pad2 m ++ d) = (Op.bytesLess (pad2 n) (pad2 m) || (pad2 n == pad2 m && Op.bytesLess c d)) := bl_append _ _ _ _ rfl
/-- one label stands ahead of another one. -/
def lexL (x z : RLabel) : Prop := x.year < z.year ∨ (x.year = z.year ∧ (x.month < z.month ∨ (x.month = z.month ∧ (x.day < z.day ∨ (x.day = z.day ∧ (x.h < z.h ∨ (x.h = z.h ∧ (x.m < z.m ∨ (x.m = z.m ∧ x.s < z.s)))))))))
theorem text_order {x z : RLabel} (hx : labB x = true) (hz : labB z = true) (h : lexL x z) : Op.bytesLess (labT z) (labT x) = false ∧ (labT z == labT x) = false := by
  obtain ⟨a0, a1, a2, a3, a4, a5, a6⟩ := labB_iff.1 hx
  obtain ⟨b0, b1, b2, b3, b4, b5, b6⟩ := labB_iff.1 hz
  obtain ⟨c1, c2, c3, c4, c5, c6⟩ := dateB_bd a0
  obtain ⟨d1, d2, d3, d4, d5, d6⟩ := dateB_bd b0
  clear a0 b0 hx hz
  obtain ⟨y, m, d, hh, mi, s⟩ := x
  obtain ⟨y', m', d', hh', mi', s'⟩ := z
  dsimp only [lexL] at *
  have e1 : labT ⟨y, m, d, hh, mi, s⟩ = pad4 y ++ (45 :: (pad2 m ++ (45 :: (pad2 d ++ (84 :: (pad2 hh ++ (58 :: (pad2 mi ++ (58 :: pad2 s))))))))) := rfl
  have e2 : labT ⟨y', m', d', hh', mi', s'⟩ = pad4 y' ++ (45 :: (pad2 m' ++ (45 :: (pad2 d' ++ (84 :: (pad2 hh' ++ (58 :: (pad2 mi' ++ (58 :: pad2 s'))))))))) := rfl
  have p1 := bl_pad4 (n := y') (m := y) (by omega) (by omega) (by omega) (by omega)
  have p2 := bl_pad2 (n := m') (m := m) (by omega) (by omega) (by omega) (by omega)
  have p3 := bl_pad2 (n := d') (m := d) (by omega) (by omega) (by omega) (by omega)
  have p4 := bl_pad2 (n := hh') (m := hh) (by omega) (by omega) (by omega) (by omega)
  have p5 := bl_pad2 (n := mi') (m := mi) (by omega) (by omega) (by omega) (by omega)
  have p6 := bl_pad2 (n := s') (m := s) (by omega) (by omega) (by omega) (by omega)
  constructor
  · rw [e1, e2, bl4, bl_cons, bl2, bl_cons, bl2, bl_cons, bl2, bl_cons, bl2, bl_cons, p1.1, p1.2, p2.1, p2.2, p3.1, p3.2, p4.1, p4.2, p5.1, p5.2, p6.1]
    rw [Bool.eq_false_iff]
    simp only [ne_eq, Bool.or_eq_true, Bool.and_eq_true, decide_eq_true_eq]
    omega
  · rw [beq_eq_false_iff_ne]
    intro he
    have hx := congrArg parL he
    have r1 : parL (labT ⟨y', m', d', hh', mi', s'⟩) = ⟨y', m', d', hh', mi', s'⟩ := by
      unfold parL
      rw [show (labT ⟨y', m', d', hh', mi', s'⟩).take 4 = pad4 y' from rfl, show ((labT ⟨y', m', d', hh', mi', s'⟩).drop 5).take 2 = pad2 m' from rfl, show ((labT ⟨y', m', d', hh', mi', s'⟩).drop 8).take 2 = pad2 d' from rfl,
        show ((labT ⟨y', m', d', hh', mi', s'⟩).drop 11).take 2 = pad2 hh' from rfl, show ((labT ⟨y', m', d', hh', mi', s'⟩).drop 14).take 2 = pad2 mi' from rfl, show ((labT ⟨y', m', d', hh', mi', s'⟩).drop 17).take 2 = pad2 s' from rfl,
        (two_pad4 (n := y') (by omega) (by omega)).2, (two_pad2 (n := m') (by omega) (by omega)).2, (two_pad2 (n := d') (by omega) (by omega)).2, (two_pad2 (n := hh') (by omega) (by omega)).2, (two_pad2 (n := mi') (by omega) (by omega)).2, (two_pad2 (n := s') (by omega) (by omega)).2]
    have r2 : parL (labT ⟨y, m, d, hh, mi, s⟩) = ⟨y, m, d, hh, mi, s⟩ := by
      unfold parL
      rw [show (labT ⟨y, m, d, hh, mi, s⟩).take 4 = pad4 y from rfl, show ((labT ⟨y, m, d, hh, mi, s⟩).drop 5).take 2 = pad2 m from rfl, show ((labT ⟨y, m, d, hh, mi, s⟩).drop 8).take 2 = pad2 d from rfl,
        show ((labT ⟨y, m, d, hh, mi, s⟩).drop 11).take 2 = pad2 hh from rfl, show ((labT ⟨y, m, d, hh, mi, s⟩).drop 14).take 2 = pad2 mi from rfl, show ((labT ⟨y, m, d, hh, mi, s⟩).drop 17).take 2 = pad2 s from rfl,
        (two_pad4 (n := y) (by omega) (by omega)).2, (two_pad2 (n := m) (by omega) (by omega)).2, (two_pad2 (n := d) (by omega) (by omega)).2, (two_pad2 (n := hh) (by omega) (by omega)).2, (two_pad2 (n := mi) (by omega) (by omega)).2, (two_pad2 (n := s) (by omega) (by omega)).2]
    rw [r1, r2] at hx
    simp only [RLabel.mk.injEq] at hx
    omega
theorem date_lex {y m d y' m' d' : Int} (h : dateB y m d = true) (h' : dateB y' m' d' = true) (hn : numD y m d < numD y' m' d') : y < y' ∨ (y = y' ∧ (m < m' ∨ (m = m' ∧ d < d'))) := by
  obtain ⟨a1, a2, a3, a4⟩ := date_within h rfl
  obtain ⟨b1, b2, b3, b4⟩ := date_within h' rfl
  have g := dateB_iff.1 h
  have g' := dateB_iff.1 h'
  rcases Int.lt_trichotomy y y' with hy | hy | hy
  · exact .inl hy
  · subst hy
    right
    refine ⟨rfl, ?_⟩
    rcases Int.lt_trichotomy m m' with hm | hm | hm
    · exact .inl hm
    · subst hm
      right
      refine ⟨rfl, ?_⟩
      unfold numD at hn; omega
    · exfalso
      have := ahead_mono (y := y) (a := m' + 1) (b := m) (by omega) (by omega) (by omega); omega
  · exfalso
    have := first_mono (a := y' + 1) (b := y) (by omega) (by omega); omega
/-- the label of a second of a day. -/
def labOf (y m dd s : Int) : RLabel := ⟨y, m, dd, labH s, labM s, labS s⟩
theorem labOf_ok {y m dd s : Int} (hd : dateB y m dd = true) (h0 : 0 ≤ s) (h1 : s ≤ 86400) : labB (labOf y m dd s) = true := by
  rw [labB_iff]
  refine ⟨hd, ?_⟩
  unfold labOf labH labM labS
  dsimp only
  by_cases h : 86400 ≤ s
  · simp only [if_pos h]; omega
  · simp only [if_neg h]; omega
theorem labOf_sec {y m dd s : Int} (h0 : 0 ≤ s) (h1 : s ≤ 86400) : secL (labOf y m dd s) = s := by
  unfold secL labOf labH labM labS
  dsimp only
  by_cases h : 86400 ≤ s
  · simp only [if_pos h]; omega
  · simp only [if_neg h]; omega
theorem labS_60 {s : Int} (h0 : 0 ≤ s) (h1 : s ≤ 86400) : labS s = 60 ↔ s = 86400 := by
  unfold labS
  split <;> omega
/-- each second's label is that second's. -/
theorem tai_back {l : List RLeap} (hg : LeapGood l) {t d y m dd : Int} (k1 : beginL l d ≤ t) (k2 : t < beginL l (d + 1)) (hd : dateB y m dd = true) (hn : numD y m dd = d) :
    taiC l (labOf y m dd (t - beginL l d)) = 0 ∧ taiV l (labOf y m dd (t - beginL l d)) = t := by
  obtain ⟨s0, s1, _⟩ := sec_bd hg k1 k2
  have hs := labOf_sec (y := y) (m := m) (dd := dd) s0 s1
  have hdl : dayL (labOf y m dd (t - beginL l d)) = d := hn
  have hL : longL l d = beginL l (d + 1) - beginL l d := rfl
  have h60 := labS_60 s0 s1
  have hc : taiC l (labOf y m dd (t - beginL l d)) = 0 := by
    unfold taiC
    rw [if_pos (labOf_ok hd s0 s1), hdl, hs, if_neg]
    rintro (h | ⟨h, h2⟩)
    · omega
    · have := h60.1 h; omega
  refine ⟨hc, ?_⟩
  unfold taiV
  rw [if_pos hc, hdl, hs]; omega
/-- a later second's label stands behind. -/
theorem lab_lex {l : List RLeap} (hg : LeapGood l) {n m d e y mo dd y' mo' dd' : Int} (hnm : n < m) (a1 : beginL l d ≤ n) (a2 : n < beginL l (d + 1)) (b1 : beginL l e ≤ m) (b2 : m < beginL l (e + 1))
    (hd : dateB y mo dd = true) (hn : numD y mo dd = d) (hd' : dateB y' mo' dd' = true) (hn' : numD y' mo' dd' = e) : lexL (labOf y mo dd (n - beginL l d)) (labOf y' mo' dd' (m - beginL l e)) := by
  obtain ⟨s0, s1, _⟩ := sec_bd hg a1 a2
  obtain ⟨t0, t1, _⟩ := sec_bd hg b1 b2
  have hde : d ≤ e := by
    rcases Int.lt_or_le e d with hlt | hle
    · have := beginL_mono hg (show e + 1 ≤ d by omega); omega
    · exact hle
  rcases Int.lt_or_le d e with hlt | hle
  · have := date_lex hd hd' (by omega)
    unfold lexL labOf
    dsimp only
    omega
  · obtain rfl : d = e := by omega
    obtain ⟨rfl, rfl, rfl⟩ := numD_inj hd hd' (hn.trans hn'.symm)
    have hs : n - beginL l d < m - beginL l d := by omega
    unfold lexL labOf labH labM labS
    dsimp only
    generalize n - beginL l d = s at *
    generalize m - beginL l d = t at *
    by_cases h1 : 86400 ≤ t
    · rw [if_pos h1, if_pos h1, if_pos h1, if_neg (by omega), if_neg (by omega), if_neg (by omega)]; omega
    · rw [if_neg h1, if_neg h1, if_neg h1, if_neg (by omega), if_neg (by omega), if_neg (by omega)]; omega
end Go.Proofs.YtcigoleplhdlaaaDoor
