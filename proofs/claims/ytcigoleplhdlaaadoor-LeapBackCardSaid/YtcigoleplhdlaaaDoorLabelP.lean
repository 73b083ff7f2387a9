/- Labels of seconds, in plain Lean: no program stands here. -/
import Derived.Test.YtcigoleplhdlaaaDoorLeapP
import Derived.Test.YtcigoleplhdlaaaDoorDateP
namespace Go.Proofs.YtcigoleplhdlaaaDoor
open Go.RowKit
set_option linter.unusedVariables false
set_option linter.unusedSimpArgs false
def labB (x : RLabel) : Bool := dateB x.year x.month x.day && (decide (0 ≤ x.h) && (decide (x.h ≤ 23) && (decide (0 ≤ x.m) && (decide (x.m ≤ 59) && (decide (0 ≤ x.s) && decide (x.s ≤ 60))))))
theorem labB_iff {x : RLabel} : labB x = true ↔ dateB x.year x.month x.day = true ∧ 0 ≤ x.h ∧ x.h ≤ 23 ∧ 0 ≤ x.m ∧ x.m ≤ 59 ∧ 0 ≤ x.s ∧ x.s ≤ 60 := by
  simp only [labB, Bool.and_eq_true, decide_eq_true_eq]
theorem labB_no {x : RLabel} (h : dateB x.year x.month x.day = false ∨ x.h < 0 ∨ 23 < x.h ∨ x.m < 0 ∨ 59 < x.m ∨ x.s < 0 ∨ 60 < x.s) : labB x = false := by
  cases hb : labB x with
  | false => rfl
  | true =>
    have := labB_iff.1 hb
    rcases h with h | h
    · rw [this.1] at h; cases h
    · omega
/-- the text of a label. -/
def labT (x : RLabel) : List UInt8 := dateT x.year x.month x.day ++ (84 :: (pad2 x.h ++ (58 :: (pad2 x.m ++ (58 :: pad2 x.s)))))
theorem labT_len (x : RLabel) : (labT x).length = 19 := rfl
def secL (x : RLabel) : Int := x.h * 3600 + x.m * 60 + x.s
def longL (l : List RLeap) (d : Int) : Int := beginL l (d + 1) - beginL l d
def dayL (x : RLabel) : Int := numD x.year x.month x.day
/-- the fault of a label, with leaps that are right; the second. -/
def taiC (l : List RLeap) (x : RLabel) : Int := if labB x = true then (if longL l (dayL x) ≤ secL x ∨ (x.s = 60 ∧ secL x < 86400) then 5 else 0) else 1
def taiV (l : List RLeap) (x : RLabel) : Int := if taiC l x = 0 then beginL l (dayL x) + secL x else 0
/-- a text as a label. -/
def labOfB (l : List UInt8) : Bool := decide (l.length = 19) && (decide (l.getD 4 0 = 45) && (decide (l.getD 7 0 = 45) && (decide (l.getD 10 0 = 84) && (decide (l.getD 13 0 = 58) && (decide (l.getD 16 0 = 58) &&
  (twoB (l.take 4) && (twoB ((l.drop 5).take 2) && (twoB ((l.drop 8).take 2) && (twoB ((l.drop 11).take 2) && (twoB ((l.drop 14).take 2) && twoB ((l.drop 17).take 2)))))))))))
def parL (l : List UInt8) : RLabel := ⟨twoV (l.take 4), twoV ((l.drop 5).take 2), twoV ((l.drop 8).take 2), twoV ((l.drop 11).take 2), twoV ((l.drop 14).take 2), twoV ((l.drop 17).take 2)⟩
def labC (l : List UInt8) : Int := if labOfB l = true then okC (labB (parL l)) else 2
theorem list19 {α : Type} {l : List α} (h : l.length = 19) : ∃ a b c d e f g i j k m n o p q r s t u, l = [a, b, c, d, e, f, g, i, j, k, m, n, o, p, q, r, s, t, u] := by
  match l, h with
  | [a, b, c, d, e, f, g, i, j, k, m, n, o, p, q, r, s, t, u], _ => exact ⟨a, b, c, d, e, f, g, i, j, k, m, n, o, p, q, r, s, t, u, rfl⟩
theorem labT_back {l : List UInt8} (h : labOfB l = true) : labT (parL l) = l := by
  simp only [labOfB, Bool.and_eq_true, decide_eq_true_eq] at h
  obtain ⟨h1, h2, h3, h4, h5, h6, a1, a2, a3, a4, a5, a6⟩ := h
  unfold labT dateT parL
  dsimp only
  rw [pad4_two a1 (by rw [List.length_take]; omega), pad2_two a2 (by rw [List.length_take, List.length_drop]; omega), pad2_two a3 (by rw [List.length_take, List.length_drop]; omega), pad2_two a4 (by rw [List.length_take, List.length_drop]; omega), pad2_two a5 (by rw [List.length_take, List.length_drop]; omega), pad2_two a6 (by rw [List.length_take, List.length_drop]; omega)]
  obtain ⟨a, b, c, d, e, f, g, i, j, k, m, n, o, p, q, r, s, t, u, rfl⟩ := list19 h1
  simp at h2 h3 h4 h5 h6
  subst h2 h3 h4 h5 h6
  rfl
theorem labT_read {x : RLabel} (h : labB x = true) : labOfB (labT x) = true ∧ parL (labT x) = x := by
  obtain ⟨hd, h1, h2, h3, h4, h5, h6⟩ := labB_iff.1 h
  obtain ⟨g1, g2, g3, g4, g5, g6⟩ := dateB_bd hd
  obtain ⟨y, m, d, hh, mi, s⟩ := x
  dsimp only at *
  obtain ⟨a, a'⟩ := two_pad4 (n := y) (by omega) (by omega)
  obtain ⟨b, b'⟩ := two_pad2 (n := m) (by omega) (by omega)
  obtain ⟨c, c'⟩ := two_pad2 (n := d) (by omega) (by omega)
  obtain ⟨e, e'⟩ := two_pad2 (n := hh) (by omega) (by omega)
  obtain ⟨f, f'⟩ := two_pad2 (n := mi) (by omega) (by omega)
  obtain ⟨i, i'⟩ := two_pad2 (n := s) (by omega) (by omega)
  unfold labOfB parL
  rw [show (labT ⟨y, m, d, hh, mi, s⟩).take 4 = pad4 y from rfl, show ((labT ⟨y, m, d, hh, mi, s⟩).drop 5).take 2 = pad2 m from rfl, show ((labT ⟨y, m, d, hh, mi, s⟩).drop 8).take 2 = pad2 d from rfl,
    show ((labT ⟨y, m, d, hh, mi, s⟩).drop 11).take 2 = pad2 hh from rfl, show ((labT ⟨y, m, d, hh, mi, s⟩).drop 14).take 2 = pad2 mi from rfl, show ((labT ⟨y, m, d, hh, mi, s⟩).drop 17).take 2 = pad2 s from rfl,
    a, a', b, b', c, c', e, e', f, f', i, i']
  exact ⟨rfl, rfl⟩
theorem labC_0 {l : List UInt8} (h : labC l = 0) : labOfB l = true ∧ labB (parL l) = true := by
  unfold labC at h
  split at h
  · rename_i g
    refine ⟨g, ?_⟩
    cases hb : labB (parL l) with
    | true => rfl
    | false => rw [hb] at h; simp [okC] at h
  · omega
theorem labC_T {x : RLabel} (h : labB x = true) : labC (labT x) = 0 := by
  obtain ⟨a, b⟩ := labT_read h
  unfold labC
  rw [a, if_pos rfl, b, h]; rfl
end Go.Proofs.YtcigoleplhdlaaaDoor
