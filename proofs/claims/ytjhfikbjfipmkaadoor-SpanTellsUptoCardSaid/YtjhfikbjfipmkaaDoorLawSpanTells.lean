/- Proved: the tied card of noonlaw1.SpanTells in its second form: it answers true for every input of bulk at most 1048576 and leaves its arguments as they were. The card's own conditions: the listed variables hold what the program's text lays there. -/
import Derived.Test.YtjhfikbjfipmkaaDoorDoor
import Derived.Test.YtjhfikbjfipmkaaDoorSpanU
import Derived.Test.YtjhfikbjfipmkaaDoorBlk
import Derived.Test.YtjhfikbjfipmkaaDoorSpanS
import Derived.Test.YtjhfikbjfipmkaaDoorRSpanT
import Derived.Test.YtjhfikbjfipmkaaDoorRMeet
import Derived.Test.YtjhfikbjfipmkaaDoorUpto
import Derived.Deep.DeepCutAuto
namespace Go.Proofs.YtjhfikbjfipmkaaDoor.lSpanTells
open Go.ChangeShapes Go.WideShapes Go.ChangeAt Go.RowKit
open Go.ChangeMaps (open_string)
set_option linter.unusedVariables false
set_option linter.unusedSimpArgs false
theorem neg_in {n : Int} (h0 : -1000000000000 ≤ n) (h1 : n ≤ 1000000000000) : wrap64 (-n) = -n := IntWalk.wrap64_in (-n) (by omega)
/-- one span, and a number: what all of the program's functions tell of them, by letters -/
theorem sp_one (a b n : Int) : ∃ (p hs : Bool) (e1 T1 T2 : Int) (S : ByteArray), rightB a b = p ∧ e1 = okC p ∧
    (p = false → T1 = 0 ∧ T2 = 0 ∧ S = ⟨#[]⟩) ∧ (p = false → hs = false) ∧ (p = true → hs = (decide (a ≤ n) && decide (n ≤ b))) ∧
    (p = true → T1 = -b ∧ T2 = -a ∧ wrap64 (-b) = -b ∧ wrap64 (-a) = -a ∧ ∀ w, Calls Tryd.prog 14 #[.agg #[.int .i64 a, .int .i64 b]] w fun e w' => e = .returned (.string S) ∧ Below w.heap.size w w') ∧
    (∀ w, Calls Tryd.prog 12 #[.agg #[.int .i64 a, .int .i64 b]] w fun e w' => e = .returned (.bool p) ∧ Below w.heap.size w w') ∧
    (∀ w, Calls Tryd.prog 8 #[.agg #[.int .i64 a, .int .i64 b]] w fun e w' => e = .returned (errV e1) ∧ Below w.heap.size w w') ∧
    (∀ w, Calls Tryd.prog 11 #[.agg #[.int .i64 a, .int .i64 b]] w fun e w' => e = .returned (.tuple #[.agg #[.int .i64 T1, .int .i64 T2], errV e1]) ∧ Below w.heap.size w w') ∧
    (∀ w, SpanW w → Calls Tryd.prog 7 #[.agg #[.int .i64 a, .int .i64 b]] w fun e w' => e = .returned (.tuple #[.string S, errV e1]) ∧ Below w.heap.size w w') ∧
    (∀ w, Calls Tryd.prog 9 #[.agg #[.int .i64 a, .int .i64 b], .int .i64 n] w fun e w' => e = .returned (.tuple #[.bool hs, errV e1]) ∧ Below w.heap.size w w') := by
  have c1 := fun w => r1_Span a b w
  have c2 := fun w => span_Check a b w
  have c3 := fun w => span_Turn a b w
  have c4 := fun w h => span_Print a b w h
  have c5 := fun w => span_Has a b n w
  by_cases hp : rightB a b = true
  · have e3 : turnS a b = ⟨-b, -a, 0⟩ := by unfold turnS; rw [if_pos hp]
    have e4 : printS a b = printL a b := by unfold printS; rw [if_pos hp]
    have e5 : hasB a b n = (decide (a ≤ n) && decide (n ≤ b)) := by unfold hasB; rw [hp]; rfl
    have c6 := fun w => r1_SpanText a b w hp
    rw [hp] at c1 c2 c4 c5
    rw [e3] at c3
    rw [e4] at c4
    rw [e5] at c5
    obtain ⟨g1, g2, g3⟩ := rightB_iff.1 hp
    exact ⟨true, _, 0, -b, -a, _, hp, rfl, (fun h => by cases h), (fun h => by cases h), (fun _ => rfl), (fun _ => ⟨rfl, rfl, neg_in (by omega) (by omega), neg_in (by omega) (by omega), c6⟩), c1, c2, c3, c4, c5⟩
  · have hp : rightB a b = false := by simpa using hp
    have e3 : turnS a b = ⟨0, 0, 1⟩ := by unfold turnS; rw [if_neg (by simp [hp])]
    have e4 : printS a b = [] := by unfold printS; rw [if_neg (by simp [hp])]
    have e5 : hasB a b n = false := by unfold hasB; rw [hp]; rfl
    rw [hp] at c1 c2 c4 c5
    rw [e3] at c3
    rw [e4] at c4
    rw [e5] at c5
    exact ⟨false, false, 1, 0, 0, _, hp, rfl, (fun _ => ⟨rfl, rfl, rfl⟩), (fun _ => rfl), (fun h => by cases h), (fun h => by cases h), c1, c2, c3, c4, c5⟩
theorem sp_wid (a b n : Int) (p : Bool) (hp : rightB a b = p) (e1 : Int) (he : e1 = okC p) : ∃ (z : Bool) (g1 f1 W1 W2 : Int),
    z = (decide (e1 = 0) && (decide (n < 0) || decide (1000000000000 < n))) ∧ g1 = (if z = true then 1 else e1) ∧ (g1 = 0 ∨ g1 = 1) ∧
    (∀ w, Calls Tryd.prog 15 #[.agg #[.int .i64 a, .int .i64 b], .int .i64 n] w fun e w' => e = .returned (.tuple #[.agg #[.int .i64 W1, .int .i64 W2], errV f1]) ∧ Below w.heap.size w w') ∧
    ((g1 ≠ 0 ∧ W1 = 0 ∧ W2 = 0 ∧ f1 = 1) ∨ (g1 = 0 ∧ IntKind.i64.wrap (a - n) = a - n ∧ IntKind.i64.wrap (b + n) = b + n ∧ ∃ (A1 A2 : Int), a - n = A1 ∧ b + n = A2 ∧ ∃ ok : Bool, (∀ w, Calls Tryd.prog 12 #[.agg #[.int .i64 A1, .int .i64 A2]] w fun e w' => e = .returned (.bool ok) ∧ Below w.heap.size w w') ∧
      (ok = false → f1 = 1 ∧ W1 = 0 ∧ W2 = 0) ∧ (ok = true → f1 = 0 ∧ W1 = A1 ∧ W2 = A2))) := by
  have c := fun w => span_Widen a b n w
  subst he
  cases p with
  | false =>
    have e : widen a b n = ⟨0, 0, 1⟩ := by unfold widen; rw [if_neg (by simp [hp])]
    rw [e] at c
    exact ⟨_, _, _, _, _, rfl, rfl, .inr (by simp [okC]), c, .inl ⟨(by simp [okC]), rfl, rfl, rfl⟩⟩
  | true =>
    obtain ⟨g1, g2, g3⟩ := rightB_iff.1 hp
    by_cases h : n < 0 ∨ 1000000000000 < n
    · have e : widen a b n = ⟨0, 0, 1⟩ := by unfold widen; rw [if_neg (by omega)]
      rw [e] at c
      have hz : (decide (okC true = 0) && (decide (n < 0) || decide (1000000000000 < n))) = true := by simp [okC, h]
      exact ⟨true, 1, _, _, _, hz.symm, rfl, .inr rfl, c, .inl ⟨(by omega), rfl, rfl, rfl⟩⟩
    · have e : widen a b n = whole (a - n) (b + n) := by unfold widen; rw [if_pos ⟨hp, by omega, by omega⟩]
      rw [e] at c
      have hz : (decide (okC true = 0) && (decide (n < 0) || decide (1000000000000 < n))) = false := by simp [okC]; omega
      have c2 := fun w => r1_Span (a - n) (b + n) w
      by_cases hr : rightB (a - n) (b + n) = true
      · have e : whole (a - n) (b + n) = ⟨a - n, b + n, 0⟩ := by unfold whole; rw [if_pos hr]
        rw [e] at c
        rw [hr] at c2
        exact ⟨false, 0, _, _, _, hz.symm, rfl, .inl rfl, c, .inr ⟨rfl, IntWalk.i64_in _ (by omega), IntWalk.i64_in _ (by omega), _, _, rfl, rfl, true, c2, (fun h => by cases h), fun _ => ⟨rfl, rfl, rfl⟩⟩⟩
      · have hr : rightB (a - n) (b + n) = false := by simpa using hr
        have e : whole (a - n) (b + n) = ⟨0, 0, 1⟩ := by unfold whole; rw [if_neg (by simp [hr])]
        rw [e] at c
        rw [hr] at c2
        exact ⟨false, 0, _, _, _, hz.symm, rfl, .inl rfl, c, .inr ⟨rfl, IntWalk.i64_in _ (by omega), IntWalk.i64_in _ (by omega), _, _, rfl, rfl, false, c2, (fun _ => ⟨rfl, rfl, rfl⟩), fun h => by cases h⟩⟩
theorem sp_two (a b c d : Int) (p : Bool) (hp : rightB a b = p) : ∃ (q : Bool) (e2 : Int) (bf : Bool) (H1 H2 M1 M2 f2 S1 S2 e3 : Int),
    e2 = okC (p && q) ∧
    (∀ w, Calls Tryd.prog 12 #[.agg #[.int .i64 c, .int .i64 d]] w fun e w' => e = .returned (.bool q) ∧ Below w.heap.size w w') ∧
    (∀ w, Calls Tryd.prog 16 #[.agg #[.int .i64 a, .int .i64 b], .agg #[.int .i64 c, .int .i64 d]] w fun e w' => e = .returned (.tuple #[.bool bf, errV e2]) ∧ Below w.heap.size w w') ∧
    ((e2 = 0 ∧ bf = decide (b < c)) ∨ (e2 = 1 ∧ bf = false)) ∧
    (∀ w, Calls Tryd.prog 19 #[.agg #[.int .i64 a, .int .i64 b], .agg #[.int .i64 c, .int .i64 d]] w fun e w' => e = .returned (.tuple #[.agg #[.int .i64 H1, .int .i64 H2], errV e2]) ∧ Below w.heap.size w w') ∧
    ((e2 = 0 ∧ (∀ w, Calls Tryd.prog 17 #[.int .i64 a, .int .i64 c] w fun e w' => e = .returned (.int .i64 H1) ∧ w = w') ∧ (∀ w, Calls Tryd.prog 18 #[.int .i64 b, .int .i64 d] w fun e w' => e = .returned (.int .i64 H2) ∧ w = w')) ∨ (e2 = 1 ∧ H1 = 0 ∧ H2 = 0)) ∧
    (∀ w, Calls Tryd.prog 5 #[.agg #[.int .i64 a, .int .i64 b], .agg #[.int .i64 c, .int .i64 d]] w fun e w' => e = .returned (.tuple #[.agg #[.int .i64 M1, .int .i64 M2], errV f2]) ∧ Below w.heap.size w w') ∧
    ((e2 = 1 ∧ M1 = 0 ∧ M2 = 0 ∧ f2 = 1) ∨ (e2 = 0 ∧ ∃ (m1 m2 : Int) (com : Bool), (∀ w, Calls Tryd.prog 20 #[.agg #[.int .i64 a, .int .i64 b], .agg #[.int .i64 c, .int .i64 d]] w fun e w' => e = .returned (.tuple #[.agg #[.int .i64 m1, .int .i64 m2], .bool com]) ∧ Below w.heap.size w w') ∧
      (com = false → f2 = 5 ∧ M1 = 0 ∧ M2 = 0) ∧ (com = true → f2 = 0 ∧ M1 = m1 ∧ M2 = m2))) ∧
    (∀ w, Calls Tryd.prog 10 #[.agg #[.int .i64 a, .int .i64 b], .agg #[.int .i64 c, .int .i64 d]] w fun e w' => e = .returned (.tuple #[.agg #[.int .i64 S1, .int .i64 S2], errV e3]) ∧ Below w.heap.size w w') ∧
    ((e2 = 1 ∧ S1 = 0 ∧ S2 = 0 ∧ e3 = 1) ∨ (e2 = 0 ∧ IntKind.i64.wrap (a + c) = a + c ∧ IntKind.i64.wrap (b + d) = b + d ∧ ∃ (D1 D2 : Int), a + c = D1 ∧ b + d = D2 ∧ ∃ ok : Bool, (∀ w, Calls Tryd.prog 12 #[.agg #[.int .i64 D1, .int .i64 D2]] w fun e w' => e = .returned (.bool ok) ∧ Below w.heap.size w w') ∧
      (ok = false → e3 = 1 ∧ S1 = 0 ∧ S2 = 0) ∧ (ok = true → e3 = 0 ∧ S1 = D1 ∧ S2 = D2))) := by
  have k1 := fun w => r1_Span c d w
  have k2 := fun w => span_Before a b c d w
  have k3 := fun w => span_Hull a b c d w
  have k4 := fun w => span_Meet a b c d w
  have k5 := fun w => span_Add a b c d w
  by_cases hq : rightB a b = true ∧ rightB c d = true
  · obtain ⟨hp2, hq⟩ := hq
    have hh : p = true := hp.symm.trans hp2
    subst hh
    obtain ⟨g1, g2, g3⟩ := rightB_iff.1 hp
    obtain ⟨g4, g5, g6⟩ := rightB_iff.1 hq
    have e2 : beforeB a b c d = decide (b < c) := by unfold beforeB; rw [hp, hq]; rfl
    have e3 : hull a b c d = ⟨min a c, max b d, 0⟩ := by unfold hull; rw [if_pos ⟨hp, hq⟩]
    have e5 : addS a b c d = whole (a + c) (b + d) := by unfold addS; rw [if_pos ⟨hp, hq⟩]
    rw [hq] at k1
    rw [hp, hq, e2] at k2
    rw [e3] at k3
    rw [e5] at k5
    have k6 := fun w => r1_Least a c w
    have k7 := fun w => r1_Greatest b d w
    have k8 := fun w => r1_Meet a b c d w
    have k9 := fun w => r1_Span (a + c) (b + d) w
    have w1 : IntKind.i64.wrap (a + c) = a + c := IntWalk.i64_in _ (by omega)
    have w2 : IntKind.i64.wrap (b + d) = b + d := IntWalk.i64_in _ (by omega)
    have hm : ∃ M1 M2 f2 : Int, (∀ w, Calls Tryd.prog 5 #[.agg #[.int .i64 a, .int .i64 b], .agg #[.int .i64 c, .int .i64 d]] w fun e w' => e = .returned (.tuple #[.agg #[.int .i64 M1, .int .i64 M2], errV f2]) ∧ Below w.heap.size w w') ∧
        ∃ (m1 m2 : Int) (com : Bool), (∀ w, Calls Tryd.prog 20 #[.agg #[.int .i64 a, .int .i64 b], .agg #[.int .i64 c, .int .i64 d]] w fun e w' => e = .returned (.tuple #[.agg #[.int .i64 m1, .int .i64 m2], .bool com]) ∧ Below w.heap.size w w') ∧
        (com = false → f2 = 5 ∧ M1 = 0 ∧ M2 = 0) ∧ (com = true → f2 = 0 ∧ M1 = m1 ∧ M2 = m2) := by
      by_cases hc : commonB a b c d = true
      · have e : meet a b c d = ⟨max a c, min b d, 0⟩ := by unfold meet; rw [if_pos ⟨hp, hq⟩, if_pos hc]
        rw [e] at k4
        rw [hc] at k8
        exact ⟨_, _, _, k4, _, _, _, k8, (fun h => by cases h), fun _ => ⟨rfl, rfl, rfl⟩⟩
      · have e : meet a b c d = ⟨0, 0, 5⟩ := by unfold meet; rw [if_pos ⟨hp, hq⟩, if_neg hc]
        have hc : commonB a b c d = false := by simpa using hc
        rw [e] at k4
        rw [hc] at k8
        exact ⟨_, _, _, k4, _, _, _, k8, (fun _ => ⟨rfl, rfl, rfl⟩), fun h => by cases h⟩
    obtain ⟨M1, M2, f2, k4, hm⟩ := hm
    by_cases hr : rightB (a + c) (b + d) = true
    · have e : whole (a + c) (b + d) = ⟨a + c, b + d, 0⟩ := by unfold whole; rw [if_pos hr]
      rw [e] at k5
      rw [hr] at k9
      exact ⟨true, 0, _, _, _, M1, M2, f2, _, _, _, rfl, k1, k2, .inl ⟨rfl, rfl⟩, k3, .inl ⟨rfl, k6, k7⟩, k4, .inr ⟨rfl, hm⟩, k5, .inr ⟨rfl, w1, w2, _, _, rfl, rfl, _, k9, (fun h => by cases h), fun _ => ⟨rfl, rfl, rfl⟩⟩⟩
    · have hr : rightB (a + c) (b + d) = false := by simpa using hr
      have e : whole (a + c) (b + d) = ⟨0, 0, 1⟩ := by unfold whole; rw [if_neg (by simp [hr])]
      rw [e] at k5
      rw [hr] at k9
      exact ⟨true, 0, _, _, _, M1, M2, f2, _, _, _, rfl, k1, k2, .inl ⟨rfl, rfl⟩, k3, .inl ⟨rfl, k6, k7⟩, k4, .inr ⟨rfl, hm⟩, k5, .inr ⟨rfl, w1, w2, _, _, rfl, rfl, _, k9, (fun _ => ⟨rfl, rfl, rfl⟩), fun h => by cases h⟩⟩
  · have ho : okC (p && rightB c d) = 1 := by
      rw [← hp]
      cases ha : rightB a b <;> cases hb : rightB c d <;> simp_all [okC]
    have e2 : beforeB a b c d = false := by
      unfold beforeB
      cases ha : rightB a b <;> cases hb : rightB c d <;> simp_all
    have e3 : hull a b c d = ⟨0, 0, 1⟩ := by unfold hull; rw [if_neg hq]
    have e4 : meet a b c d = ⟨0, 0, 1⟩ := by unfold meet; rw [if_neg hq]
    have e5 : addS a b c d = ⟨0, 0, 1⟩ := by unfold addS; rw [if_neg hq]
    rw [hp, ho, e2] at k2
    rw [e3] at k3
    rw [e4] at k4
    rw [e5] at k5
    exact ⟨rightB c d, 1, _, _, _, _, _, _, _, _, _, ho.symm, k1, k2, .inr ⟨rfl, rfl⟩, k3, .inr ⟨rfl, rfl, rfl⟩, k4, .inl ⟨rfl, rfl, rfl, rfl⟩, k5, .inl ⟨rfl, rfl, rfl, rfl⟩⟩
theorem sp_read (t : ByteArray) (hz : t.size ≤ 1048576) : ∃ (P1 P2 e4 : Int),
    (∀ w, Calls Tryd.prog 21 #[.string t] w fun e w' => e = .returned (.tuple #[.agg #[.int .i64 P1, .int .i64 P2], .int .i64 e4]) ∧ Below w.heap.size w w') ∧
    (∀ w, SpanW w → Calls Tryd.prog 6 #[.string t] w fun e w' => e = .returned (.tuple #[.agg #[.int .i64 P1, .int .i64 P2], errV e4]) ∧ Below w.heap.size w w') := by
  have hp := fun w h => span_Parse t.data.toList w h (by rw [str_len2]; exact hz)
  rw [str_of] at hp
  exact ⟨_, _, _, fun w => r1_ReadSpan t w hz, hp⟩
set_option maxRecDepth 100000 in
set_option maxHeartbeats 16000000 in
theorem walk (a0 : RSpan) (a1 : RSpan) (a2 : Int) (a3 : ByteArray) (w : World) (h0 : a0.ok) (h1 : a1.ok) (h2 : -9223372036854775808 ≤ a2 ∧ a2 ≤ 9223372036854775807) (h3 : a3.size ≤ maxLen) (HS : SpanW w) (hg : HandleAt w) (hz : a3.size ≤ 1048576) :
    Calls Tryd.prog 4 #[.agg #[.int .i64 a0.lo, .int .i64 a0.hi], .agg #[.int .i64 a1.lo, .int .i64 a1.hi], .int .i64 a2, .string a3] w fun e w' => e = .returned (.bool true) ∧ Below w.heap.size w w' := by
  obtain ⟨a, b⟩ := a0
  obtain ⟨c, d⟩ := a1
  dsimp only
  have HW := Lib.hid HS
  have CE := Lib.hid (fun (c : Int) v hb => err_same c w v hg hb)
  obtain ⟨p, hs, e1, T1, T2, S, hp, HE1, HF1, HH0, HH1, HT1, CSa, CK, CTu, CPr, CHa⟩ := sp_one a b a2
  obtain ⟨z, g1, f1, W1, W2, HZz, HG1, HG1v, CWi, HWd⟩ := sp_wid a b a2 p hp e1 HE1
  obtain ⟨q, e2, bf, H1, H2, M1, M2, f2, S1, S2, e3, HE2, CSb, CBe, HE2v, CHu, HHu, CMe, HMe, CAd, HAd⟩ := sp_two a b c d p hp
  obtain ⟨P1, P2, e4, CRe, CPa⟩ := sp_read a3 hz
  have HE1v : e1 = 0 ∨ e1 = 1 := by rw [HE1]; cases p <;> simp [okC]
  replace HE1 := Lib.hid HE1
  replace HF1 := Lib.hid HF1
  replace HH0 := Lib.hid HH0
  replace HH1 := Lib.hid HH1
  replace HT1 := Lib.hid HT1
  replace CSa := Lib.hid CSa
  replace CK := Lib.hid CK
  replace CTu := Lib.hid CTu
  replace CPr := Lib.hid CPr
  replace CHa := Lib.hid CHa
  replace HZz := Lib.hid HZz
  replace HG1 := Lib.hid HG1
  replace HG1v := Lib.hid HG1v
  replace CWi := Lib.hid CWi
  replace HWd := Lib.hid HWd
  replace HE2 := Lib.hid HE2
  replace CSb := Lib.hid CSb
  replace CBe := Lib.hid CBe
  replace HE2v := Lib.hid HE2v
  replace CHu := Lib.hid CHu
  replace HHu := Lib.hid HHu
  replace CMe := Lib.hid CMe
  replace HMe := Lib.hid HMe
  replace CAd := Lib.hid CAd
  replace HAd := Lib.hid HAd
  replace CRe := Lib.hid CRe
  replace CPa := Lib.hid CPa
  replace HE1v := Lib.hid HE1v
  have HG := Lib.hid hg
  clear HS hg hz hp h0 h1 h2 h3
  go_enter Tryd.func4, Tryd.ntmps4
  go_wp2_with fail
  refine (CSa.out _).mono ?_
  rintro e w1 ⟨rfl, hb1⟩
  have hz1 := hb1.size
  (try simp at hz1)
  have ba1 : Blk w1 (w.heap.size) 23 #[.int .i64 a, .int .i64 b] := (by refine BlkG.start ?_; (repeat (first | ((with_reducible apply BlkG.done); (with_reducible assumption); exact rfl) | (with_reducible exact BlkG.newAt (by first | (with_reducible rfl) | omega | (simp; done) | (simp; omega)) rfl) | (with_reducible refine BlkG.drew ?_) | (with_reducible refine BlkG.drewN ?_) | (with_reducible refine BlkG.set ?_) | (with_reducible refine BlkG.far (by first | omega | (simp; done) | (simp; omega)) ?_) | (with_reducible refine BlkG.alloc ?_) | (with_reducible refine BlkG.bel (by with_reducible assumption) (by first | omega | (simp; done) | (simp; omega)) ?_))))
  have ca1_0 : w1.cell? ⟨w.heap.size, 0, none⟩ = some (.int .i64 a) := ba1.cell 0
  have fa1_0 : w1.frozen? ⟨w.heap.size, 0, none⟩ = false := ba1.fz 0
  have ca1_1 : w1.cell? ⟨w.heap.size, 1, none⟩ = some (.int .i64 b) := ba1.cell 1
  have fa1_1 : w1.frozen? ⟨w.heap.size, 1, none⟩ = false := ba1.fz 1
  have la1 : w.heap.size < w1.heap.size := ba1.lt
  have bb1 : Blk w1 (w.heap.size + 1) 23 #[.int .i64 c, .int .i64 d] := (by refine BlkG.start ?_; (repeat (first | ((with_reducible apply BlkG.done); (with_reducible assumption); exact rfl) | (with_reducible exact BlkG.newAt (by first | (with_reducible rfl) | omega | (simp; done) | (simp; omega)) rfl) | (with_reducible refine BlkG.drew ?_) | (with_reducible refine BlkG.drewN ?_) | (with_reducible refine BlkG.set ?_) | (with_reducible refine BlkG.far (by first | omega | (simp; done) | (simp; omega)) ?_) | (with_reducible refine BlkG.alloc ?_) | (with_reducible refine BlkG.bel (by with_reducible assumption) (by first | omega | (simp; done) | (simp; omega)) ?_))))
  have cb1_0 : w1.cell? ⟨w.heap.size + 1, 0, none⟩ = some (.int .i64 c) := bb1.cell 0
  have fb1_0 : w1.frozen? ⟨w.heap.size + 1, 0, none⟩ = false := bb1.fz 0
  have cb1_1 : w1.cell? ⟨w.heap.size + 1, 1, none⟩ = some (.int .i64 d) := bb1.cell 1
  have fb1_1 : w1.frozen? ⟨w.heap.size + 1, 1, none⟩ = false := bb1.fz 1
  have lb1 : w.heap.size + 1 < w1.heap.size := bb1.lt
  have HB1 : Below w.heap.size w w1 := (by repeat (first | with_reducible exact Below.refl _ _ | (with_reducible refine Below.alloc ?_ (by first | omega | (simp; done) | (simp; omega)) _) | (with_reducible refine Below.setCell ?_ (by first | omega | (simp; done) | (simp; omega)) _) | (with_reducible refine Below.drew ?_) | (with_reducible refine below_drewN ?_ _) | (with_reducible assumption) | (with_reducible refine bel_step (by with_reducible assumption) ?_ (by first | omega | (simp; done) | (simp; omega)))))
  have HZ1 := HB1.size
  clear hb1 hz1
  go_wp2_with fail
  refine (CSb.out _).mono ?_
  rintro e w2 ⟨rfl, hb2⟩
  have hz2 := hb2.size
  (try simp at hz2)
  have ba2 : Blk w2 (w.heap.size) 23 #[.int .i64 a, .int .i64 b] := (by refine BlkG.start ?_; (repeat (first | ((with_reducible apply BlkG.done); (with_reducible assumption); exact rfl) | (with_reducible exact BlkG.newAt (by first | (with_reducible rfl) | omega | (simp; done) | (simp; omega)) rfl) | (with_reducible refine BlkG.drew ?_) | (with_reducible refine BlkG.drewN ?_) | (with_reducible refine BlkG.set ?_) | (with_reducible refine BlkG.far (by first | omega | (simp; done) | (simp; omega)) ?_) | (with_reducible refine BlkG.alloc ?_) | (with_reducible refine BlkG.bel (by with_reducible assumption) (by first | omega | (simp; done) | (simp; omega)) ?_))))
  have ca2_0 : w2.cell? ⟨w.heap.size, 0, none⟩ = some (.int .i64 a) := ba2.cell 0
  have fa2_0 : w2.frozen? ⟨w.heap.size, 0, none⟩ = false := ba2.fz 0
  have ca2_1 : w2.cell? ⟨w.heap.size, 1, none⟩ = some (.int .i64 b) := ba2.cell 1
  have fa2_1 : w2.frozen? ⟨w.heap.size, 1, none⟩ = false := ba2.fz 1
  have la2 : w.heap.size < w2.heap.size := ba2.lt
  have bb2 : Blk w2 (w.heap.size + 1) 23 #[.int .i64 c, .int .i64 d] := (by refine BlkG.start ?_; (repeat (first | ((with_reducible apply BlkG.done); (with_reducible assumption); exact rfl) | (with_reducible exact BlkG.newAt (by first | (with_reducible rfl) | omega | (simp; done) | (simp; omega)) rfl) | (with_reducible refine BlkG.drew ?_) | (with_reducible refine BlkG.drewN ?_) | (with_reducible refine BlkG.set ?_) | (with_reducible refine BlkG.far (by first | omega | (simp; done) | (simp; omega)) ?_) | (with_reducible refine BlkG.alloc ?_) | (with_reducible refine BlkG.bel (by with_reducible assumption) (by first | omega | (simp; done) | (simp; omega)) ?_))))
  have cb2_0 : w2.cell? ⟨w.heap.size + 1, 0, none⟩ = some (.int .i64 c) := bb2.cell 0
  have fb2_0 : w2.frozen? ⟨w.heap.size + 1, 0, none⟩ = false := bb2.fz 0
  have cb2_1 : w2.cell? ⟨w.heap.size + 1, 1, none⟩ = some (.int .i64 d) := bb2.cell 1
  have fb2_1 : w2.frozen? ⟨w.heap.size + 1, 1, none⟩ = false := bb2.fz 1
  have lb2 : w.heap.size + 1 < w2.heap.size := bb2.lt
  have HB2 : Below w.heap.size w w2 := (by repeat (first | with_reducible exact Below.refl _ _ | (with_reducible refine Below.alloc ?_ (by first | omega | (simp; done) | (simp; omega)) _) | (with_reducible refine Below.setCell ?_ (by first | omega | (simp; done) | (simp; omega)) _) | (with_reducible refine Below.drew ?_) | (with_reducible refine below_drewN ?_ _) | (with_reducible assumption) | (with_reducible refine bel_step (by with_reducible assumption) ?_ (by first | omega | (simp; done) | (simp; omega)))))
  have HZ2 := HB2.size
  clear hb2 hz2 HB1 HZ1 ba1 la1 ca1_0 fa1_0 ca1_1 fa1_1 bb1 lb1 cb1_0 fb1_0 cb1_1 fb1_1 
  go_upto_if 43 with fail
  go_cut [11] (fun s11 wx => s11 = .int .i64 e1 ∧ w2 = wx)
  case first =>
    as_aux_lemma =>
    cases p
    · have e := Lib.hid (show e1 = 1 by rw [HE1.out]; rfl)
      go_wp2_with fail
      go_meet
      case rel => exact ⟨by rw [e.out], rfl⟩
    · have e := Lib.hid (show e1 = 0 by rw [HE1.out]; rfl)
      go_wp2_with fail
      go_meet
      case rel => exact ⟨by rw [e.out], rfl⟩
  case rest =>
  obtain ⟨rfl, hwq⟩ := hcut
  subst hwq
  go_wp2_with fail
  refine (CK.out _).mono ?_
  rintro e w3 ⟨rfl, hb3⟩
  have hz3 := hb3.size
  (try simp at hz3)
  have ba3 : Blk w3 (w.heap.size) 23 #[.int .i64 a, .int .i64 b] := (by refine BlkG.start ?_; (repeat (first | ((with_reducible apply BlkG.done); (with_reducible assumption); exact rfl) | (with_reducible exact BlkG.newAt (by first | (with_reducible rfl) | omega | (simp; done) | (simp; omega)) rfl) | (with_reducible refine BlkG.drew ?_) | (with_reducible refine BlkG.drewN ?_) | (with_reducible refine BlkG.set ?_) | (with_reducible refine BlkG.far (by first | omega | (simp; done) | (simp; omega)) ?_) | (with_reducible refine BlkG.alloc ?_) | (with_reducible refine BlkG.bel (by with_reducible assumption) (by first | omega | (simp; done) | (simp; omega)) ?_))))
  have ca3_0 : w3.cell? ⟨w.heap.size, 0, none⟩ = some (.int .i64 a) := ba3.cell 0
  have fa3_0 : w3.frozen? ⟨w.heap.size, 0, none⟩ = false := ba3.fz 0
  have ca3_1 : w3.cell? ⟨w.heap.size, 1, none⟩ = some (.int .i64 b) := ba3.cell 1
  have fa3_1 : w3.frozen? ⟨w.heap.size, 1, none⟩ = false := ba3.fz 1
  have la3 : w.heap.size < w3.heap.size := ba3.lt
  have bb3 : Blk w3 (w.heap.size + 1) 23 #[.int .i64 c, .int .i64 d] := (by refine BlkG.start ?_; (repeat (first | ((with_reducible apply BlkG.done); (with_reducible assumption); exact rfl) | (with_reducible exact BlkG.newAt (by first | (with_reducible rfl) | omega | (simp; done) | (simp; omega)) rfl) | (with_reducible refine BlkG.drew ?_) | (with_reducible refine BlkG.drewN ?_) | (with_reducible refine BlkG.set ?_) | (with_reducible refine BlkG.far (by first | omega | (simp; done) | (simp; omega)) ?_) | (with_reducible refine BlkG.alloc ?_) | (with_reducible refine BlkG.bel (by with_reducible assumption) (by first | omega | (simp; done) | (simp; omega)) ?_))))
  have cb3_0 : w3.cell? ⟨w.heap.size + 1, 0, none⟩ = some (.int .i64 c) := bb3.cell 0
  have fb3_0 : w3.frozen? ⟨w.heap.size + 1, 0, none⟩ = false := bb3.fz 0
  have cb3_1 : w3.cell? ⟨w.heap.size + 1, 1, none⟩ = some (.int .i64 d) := bb3.cell 1
  have fb3_1 : w3.frozen? ⟨w.heap.size + 1, 1, none⟩ = false := bb3.fz 1
  have lb3 : w.heap.size + 1 < w3.heap.size := bb3.lt
  have HB3 : Below w.heap.size w w3 := (by repeat (first | with_reducible exact Below.refl _ _ | (with_reducible refine Below.alloc ?_ (by first | omega | (simp; done) | (simp; omega)) _) | (with_reducible refine Below.setCell ?_ (by first | omega | (simp; done) | (simp; omega)) _) | (with_reducible refine Below.drew ?_) | (with_reducible refine below_drewN ?_ _) | (with_reducible assumption) | (with_reducible refine bel_step (by with_reducible assumption) ?_ (by first | omega | (simp; done) | (simp; omega)))))
  have HZ3 := HB3.size
  clear hb3 hz3 HB2 HZ2 ba2 la2 ca2_0 fa2_0 ca2_1 fa2_1 bb2 lb2 cb2_0 fb2_0 cb2_1 fb2_1 
  go_wp2_with fail
  refine (CE.out e1 _ (by repeat (first | with_reducible exact Below.refl _ _ | (with_reducible refine Below.alloc ?_ (by first | omega | (simp; done) | (simp; omega)) _) | (with_reducible refine Below.setCell ?_ (by first | omega | (simp; done) | (simp; omega)) _) | (with_reducible refine Below.drew ?_) | (with_reducible refine below_drewN ?_ _) | (with_reducible assumption) | (with_reducible refine bel_step (by with_reducible assumption) ?_ (by first | omega | (simp; done) | (simp; omega)))))).mono ?_
  rintro e w4 ⟨rfl, hb4⟩
  have hz4 := hb4.size
  (try simp at hz4)
  have ba4 : Blk w4 (w.heap.size) 23 #[.int .i64 a, .int .i64 b] := (by refine BlkG.start ?_; (repeat (first | ((with_reducible apply BlkG.done); (with_reducible assumption); exact rfl) | (with_reducible exact BlkG.newAt (by first | (with_reducible rfl) | omega | (simp; done) | (simp; omega)) rfl) | (with_reducible refine BlkG.drew ?_) | (with_reducible refine BlkG.drewN ?_) | (with_reducible refine BlkG.set ?_) | (with_reducible refine BlkG.far (by first | omega | (simp; done) | (simp; omega)) ?_) | (with_reducible refine BlkG.alloc ?_) | (with_reducible refine BlkG.bel (by with_reducible assumption) (by first | omega | (simp; done) | (simp; omega)) ?_))))
  have ca4_0 : w4.cell? ⟨w.heap.size, 0, none⟩ = some (.int .i64 a) := ba4.cell 0
  have fa4_0 : w4.frozen? ⟨w.heap.size, 0, none⟩ = false := ba4.fz 0
  have ca4_1 : w4.cell? ⟨w.heap.size, 1, none⟩ = some (.int .i64 b) := ba4.cell 1
  have fa4_1 : w4.frozen? ⟨w.heap.size, 1, none⟩ = false := ba4.fz 1
  have la4 : w.heap.size < w4.heap.size := ba4.lt
  have bb4 : Blk w4 (w.heap.size + 1) 23 #[.int .i64 c, .int .i64 d] := (by refine BlkG.start ?_; (repeat (first | ((with_reducible apply BlkG.done); (with_reducible assumption); exact rfl) | (with_reducible exact BlkG.newAt (by first | (with_reducible rfl) | omega | (simp; done) | (simp; omega)) rfl) | (with_reducible refine BlkG.drew ?_) | (with_reducible refine BlkG.drewN ?_) | (with_reducible refine BlkG.set ?_) | (with_reducible refine BlkG.far (by first | omega | (simp; done) | (simp; omega)) ?_) | (with_reducible refine BlkG.alloc ?_) | (with_reducible refine BlkG.bel (by with_reducible assumption) (by first | omega | (simp; done) | (simp; omega)) ?_))))
  have cb4_0 : w4.cell? ⟨w.heap.size + 1, 0, none⟩ = some (.int .i64 c) := bb4.cell 0
  have fb4_0 : w4.frozen? ⟨w.heap.size + 1, 0, none⟩ = false := bb4.fz 0
  have cb4_1 : w4.cell? ⟨w.heap.size + 1, 1, none⟩ = some (.int .i64 d) := bb4.cell 1
  have fb4_1 : w4.frozen? ⟨w.heap.size + 1, 1, none⟩ = false := bb4.fz 1
  have lb4 : w.heap.size + 1 < w4.heap.size := bb4.lt
  have HB4 : Below w.heap.size w w4 := (by repeat (first | with_reducible exact Below.refl _ _ | (with_reducible refine Below.alloc ?_ (by first | omega | (simp; done) | (simp; omega)) _) | (with_reducible refine Below.setCell ?_ (by first | omega | (simp; done) | (simp; omega)) _) | (with_reducible refine Below.drew ?_) | (with_reducible refine below_drewN ?_ _) | (with_reducible assumption) | (with_reducible refine bel_step (by with_reducible assumption) ?_ (by first | omega | (simp; done) | (simp; omega)))))
  have HZ4 := HB4.size
  clear hb4 hz4 HB3 HZ3 ba3 la3 ca3_0 fa3_0 ca3_1 fa3_1 bb3 lb3 cb3_0 fb3_0 cb3_1 fb3_1 
  have ogt : w.heap.size + 1 < w4.heap.size := by omega
  go_upto_if 48 with fail
  go_cut [13] (fun s13 wx => s13 = .string S ∧ Blk wx (w.heap.size) 23 #[.int .i64 a, .int .i64 b] ∧ Blk wx (w.heap.size + 1) 23 #[.int .i64 c, .int .i64 d] ∧ Blk wx (w4.heap.size) 23 #[.int .i64 T1, .int .i64 T2] ∧ Blk wx (w4.heap.size + 1) 23 #[.int .i64 0, .int .i64 0] ∧ Below w.heap.size w wx)
  case first =>
    as_aux_lemma =>
    cases p
    · obtain ⟨rfl, rfl, rfl⟩ := HF1.out rfl
      go_wp2_with fail
      go_meet
      case rel => exact ⟨rfl, (by refine BlkG.start ?_; (repeat (first | ((with_reducible apply BlkG.done); (with_reducible assumption); exact rfl) | (with_reducible exact BlkG.newAt (by first | (with_reducible rfl) | omega | (simp; done) | (simp; omega)) rfl) | (with_reducible refine BlkG.drew ?_) | (with_reducible refine BlkG.drewN ?_) | (with_reducible refine BlkG.set ?_) | (with_reducible refine BlkG.far (by first | omega | (simp; done) | (simp; omega)) ?_) | (with_reducible refine BlkG.alloc ?_) | (with_reducible refine BlkG.bel (by with_reducible assumption) (by first | omega | (simp; done) | (simp; omega)) ?_)))), (by refine BlkG.start ?_; (repeat (first | ((with_reducible apply BlkG.done); (with_reducible assumption); exact rfl) | (with_reducible exact BlkG.newAt (by first | (with_reducible rfl) | omega | (simp; done) | (simp; omega)) rfl) | (with_reducible refine BlkG.drew ?_) | (with_reducible refine BlkG.drewN ?_) | (with_reducible refine BlkG.set ?_) | (with_reducible refine BlkG.far (by first | omega | (simp; done) | (simp; omega)) ?_) | (with_reducible refine BlkG.alloc ?_) | (with_reducible refine BlkG.bel (by with_reducible assumption) (by first | omega | (simp; done) | (simp; omega)) ?_)))), (by refine BlkG.start ?_; (repeat (first | ((with_reducible apply BlkG.done); (with_reducible assumption); exact rfl) | (with_reducible exact BlkG.newAt (by first | (with_reducible rfl) | omega | (simp; done) | (simp; omega)) rfl) | (with_reducible refine BlkG.drew ?_) | (with_reducible refine BlkG.drewN ?_) | (with_reducible refine BlkG.set ?_) | (with_reducible refine BlkG.far (by first | omega | (simp; done) | (simp; omega)) ?_) | (with_reducible refine BlkG.alloc ?_) | (with_reducible refine BlkG.bel (by with_reducible assumption) (by first | omega | (simp; done) | (simp; omega)) ?_)))), (by refine BlkG.start ?_; (repeat (first | ((with_reducible apply BlkG.done); (with_reducible assumption); exact rfl) | (with_reducible exact BlkG.newAt (by first | (with_reducible rfl) | omega | (simp; done) | (simp; omega)) rfl) | (with_reducible refine BlkG.drew ?_) | (with_reducible refine BlkG.drewN ?_) | (with_reducible refine BlkG.set ?_) | (with_reducible refine BlkG.far (by first | omega | (simp; done) | (simp; omega)) ?_) | (with_reducible refine BlkG.alloc ?_) | (with_reducible refine BlkG.bel (by with_reducible assumption) (by first | omega | (simp; done) | (simp; omega)) ?_)))), (by repeat (first | with_reducible exact Below.refl _ _ | (with_reducible refine Below.alloc ?_ (by first | omega | (simp; done) | (simp; omega)) _) | (with_reducible refine Below.setCell ?_ (by first | omega | (simp; done) | (simp; omega)) _) | (with_reducible refine Below.drew ?_) | (with_reducible refine below_drewN ?_ _) | (with_reducible assumption) | (with_reducible refine bel_step (by with_reducible assumption) ?_ (by first | omega | (simp; done) | (simp; omega)))))⟩
    · obtain ⟨rfl, rfl, n1, n2, CT⟩ := HT1.out rfl
      replace CT := Lib.hid CT
      go_wp2_with fail
      refine (CT.out _).mono ?_
      rintro e w5 ⟨rfl, hb5⟩
      have ba5 : Blk w5 (w.heap.size) 23 #[.int .i64 a, .int .i64 b] := (by refine BlkG.start ?_; (repeat (first | ((with_reducible apply BlkG.done); (with_reducible assumption); exact rfl) | (with_reducible exact BlkG.newAt (by first | (with_reducible rfl) | omega | (simp; done) | (simp; omega)) rfl) | (with_reducible refine BlkG.drew ?_) | (with_reducible refine BlkG.drewN ?_) | (with_reducible refine BlkG.set ?_) | (with_reducible refine BlkG.far (by first | omega | (simp; done) | (simp; omega)) ?_) | (with_reducible refine BlkG.alloc ?_) | (with_reducible refine BlkG.bel (by with_reducible assumption) (by first | omega | (simp; done) | (simp; omega)) ?_))))
      have ca5_0 : w5.cell? ⟨w.heap.size, 0, none⟩ = some (.int .i64 a) := ba5.cell 0
      have fa5_0 : w5.frozen? ⟨w.heap.size, 0, none⟩ = false := ba5.fz 0
      have ca5_1 : w5.cell? ⟨w.heap.size, 1, none⟩ = some (.int .i64 b) := ba5.cell 1
      have fa5_1 : w5.frozen? ⟨w.heap.size, 1, none⟩ = false := ba5.fz 1
      have la5 : w.heap.size < w5.heap.size := ba5.lt
      have bb5 : Blk w5 (w.heap.size + 1) 23 #[.int .i64 c, .int .i64 d] := (by refine BlkG.start ?_; (repeat (first | ((with_reducible apply BlkG.done); (with_reducible assumption); exact rfl) | (with_reducible exact BlkG.newAt (by first | (with_reducible rfl) | omega | (simp; done) | (simp; omega)) rfl) | (with_reducible refine BlkG.drew ?_) | (with_reducible refine BlkG.drewN ?_) | (with_reducible refine BlkG.set ?_) | (with_reducible refine BlkG.far (by first | omega | (simp; done) | (simp; omega)) ?_) | (with_reducible refine BlkG.alloc ?_) | (with_reducible refine BlkG.bel (by with_reducible assumption) (by first | omega | (simp; done) | (simp; omega)) ?_))))
      have cb5_0 : w5.cell? ⟨w.heap.size + 1, 0, none⟩ = some (.int .i64 c) := bb5.cell 0
      have fb5_0 : w5.frozen? ⟨w.heap.size + 1, 0, none⟩ = false := bb5.fz 0
      have cb5_1 : w5.cell? ⟨w.heap.size + 1, 1, none⟩ = some (.int .i64 d) := bb5.cell 1
      have fb5_1 : w5.frozen? ⟨w.heap.size + 1, 1, none⟩ = false := bb5.fz 1
      have lb5 : w.heap.size + 1 < w5.heap.size := bb5.lt
      have bt5 : Blk w5 (w4.heap.size) 23 #[.int .i64 0, .int .i64 0] := (by refine BlkG.start ?_; (repeat (first | ((with_reducible apply BlkG.done); (with_reducible assumption); exact rfl) | (with_reducible exact BlkG.newAt (by first | (with_reducible rfl) | omega | (simp; done) | (simp; omega)) rfl) | (with_reducible refine BlkG.drew ?_) | (with_reducible refine BlkG.drewN ?_) | (with_reducible refine BlkG.set ?_) | (with_reducible refine BlkG.far (by first | omega | (simp; done) | (simp; omega)) ?_) | (with_reducible refine BlkG.alloc ?_) | (with_reducible refine BlkG.bel (by with_reducible assumption) (by first | omega | (simp; done) | (simp; omega)) ?_))))
      have ct5_0 : w5.cell? ⟨w4.heap.size, 0, none⟩ = some (.int .i64 0) := bt5.cell 0
      have ft5_0 : w5.frozen? ⟨w4.heap.size, 0, none⟩ = false := bt5.fz 0
      have ct5_1 : w5.cell? ⟨w4.heap.size, 1, none⟩ = some (.int .i64 0) := bt5.cell 1
      have ft5_1 : w5.frozen? ⟨w4.heap.size, 1, none⟩ = false := bt5.fz 1
      have lt5 : w4.heap.size < w5.heap.size := bt5.lt
      have bv5 : Blk w5 (w4.heap.size + 1) 23 #[.int .i64 0, .int .i64 0] := (by refine BlkG.start ?_; (repeat (first | ((with_reducible apply BlkG.done); (with_reducible assumption); exact rfl) | (with_reducible exact BlkG.newAt (by first | (with_reducible rfl) | omega | (simp; done) | (simp; omega)) rfl) | (with_reducible refine BlkG.drew ?_) | (with_reducible refine BlkG.drewN ?_) | (with_reducible refine BlkG.set ?_) | (with_reducible refine BlkG.far (by first | omega | (simp; done) | (simp; omega)) ?_) | (with_reducible refine BlkG.alloc ?_) | (with_reducible refine BlkG.bel (by with_reducible assumption) (by first | omega | (simp; done) | (simp; omega)) ?_))))
      have cv5_0 : w5.cell? ⟨w4.heap.size + 1, 0, none⟩ = some (.int .i64 0) := bv5.cell 0
      have fv5_0 : w5.frozen? ⟨w4.heap.size + 1, 0, none⟩ = false := bv5.fz 0
      have cv5_1 : w5.cell? ⟨w4.heap.size + 1, 1, none⟩ = some (.int .i64 0) := bv5.cell 1
      have fv5_1 : w5.frozen? ⟨w4.heap.size + 1, 1, none⟩ = false := bv5.fz 1
      have lv5 : w4.heap.size + 1 < w5.heap.size := bv5.lt
      have HB5 : Below w.heap.size w w5 := (by repeat (first | with_reducible exact Below.refl _ _ | (with_reducible refine Below.alloc ?_ (by first | omega | (simp; done) | (simp; omega)) _) | (with_reducible refine Below.setCell ?_ (by first | omega | (simp; done) | (simp; omega)) _) | (with_reducible refine Below.drew ?_) | (with_reducible refine below_drewN ?_ _) | (with_reducible assumption) | (with_reducible refine bel_step (by with_reducible assumption) ?_ (by first | omega | (simp; done) | (simp; omega)))))
      clear hb5
      go_wp2_with fail
      go_meet
      case rel => exact ⟨rfl, (by refine BlkG.start ?_; (repeat (first | ((with_reducible apply BlkG.done); (with_reducible assumption); exact rfl) | (with_reducible exact BlkG.newAt (by first | (with_reducible rfl) | omega | (simp; done) | (simp; omega)) rfl) | (with_reducible refine BlkG.drew ?_) | (with_reducible refine BlkG.drewN ?_) | (with_reducible refine BlkG.set ?_) | (with_reducible refine BlkG.far (by first | omega | (simp; done) | (simp; omega)) ?_) | (with_reducible refine BlkG.alloc ?_) | (with_reducible refine BlkG.bel (by with_reducible assumption) (by first | omega | (simp; done) | (simp; omega)) ?_)))), (by refine BlkG.start ?_; (repeat (first | ((with_reducible apply BlkG.done); (with_reducible assumption); exact rfl) | (with_reducible exact BlkG.newAt (by first | (with_reducible rfl) | omega | (simp; done) | (simp; omega)) rfl) | (with_reducible refine BlkG.drew ?_) | (with_reducible refine BlkG.drewN ?_) | (with_reducible refine BlkG.set ?_) | (with_reducible refine BlkG.far (by first | omega | (simp; done) | (simp; omega)) ?_) | (with_reducible refine BlkG.alloc ?_) | (with_reducible refine BlkG.bel (by with_reducible assumption) (by first | omega | (simp; done) | (simp; omega)) ?_)))), (by refine BlkG.start ?_; (repeat (first | ((with_reducible apply BlkG.done); (with_reducible assumption); exact rfl) | (with_reducible exact BlkG.newAt (by first | (with_reducible rfl) | omega | (simp; done) | (simp; omega)) rfl) | (with_reducible refine BlkG.drew ?_) | (with_reducible refine BlkG.drewN ?_) | (with_reducible refine BlkG.set ?_) | (with_reducible refine BlkG.far (by first | omega | (simp; done) | (simp; omega)) ?_) | (with_reducible refine BlkG.alloc ?_) | (with_reducible refine BlkG.bel (by with_reducible assumption) (by first | omega | (simp; done) | (simp; omega)) ?_)))), (by refine BlkG.start ?_; (repeat (first | ((with_reducible apply BlkG.done); (with_reducible assumption); exact rfl) | (with_reducible exact BlkG.newAt (by first | (with_reducible rfl) | omega | (simp; done) | (simp; omega)) rfl) | (with_reducible refine BlkG.drew ?_) | (with_reducible refine BlkG.drewN ?_) | (with_reducible refine BlkG.set ?_) | (with_reducible refine BlkG.far (by first | omega | (simp; done) | (simp; omega)) ?_) | (with_reducible refine BlkG.alloc ?_) | (with_reducible refine BlkG.bel (by with_reducible assumption) (by first | omega | (simp; done) | (simp; omega)) ?_)))), (by repeat (first | with_reducible exact Below.refl _ _ | (with_reducible refine Below.alloc ?_ (by first | omega | (simp; done) | (simp; omega)) _) | (with_reducible refine Below.setCell ?_ (by first | omega | (simp; done) | (simp; omega)) _) | (with_reducible refine Below.drew ?_) | (with_reducible refine below_drewN ?_ _) | (with_reducible assumption) | (with_reducible refine bel_step (by with_reducible assumption) ?_ (by first | omega | (simp; done) | (simp; omega)))))⟩
  case rest =>
  as_aux_lemma =>
  obtain ⟨rfl, hka, hkb, hkt, hkv, hB⟩ := hcut
  obtain ⟨w5, hw5⟩ : ∃ x : World, x = wc := ⟨_, rfl⟩
  subst hw5
  have ba5 : Blk w5 (w.heap.size) 23 #[.int .i64 a, .int .i64 b] := hka
  have ca5_0 : w5.cell? ⟨w.heap.size, 0, none⟩ = some (.int .i64 a) := ba5.cell 0
  have fa5_0 : w5.frozen? ⟨w.heap.size, 0, none⟩ = false := ba5.fz 0
  have ca5_1 : w5.cell? ⟨w.heap.size, 1, none⟩ = some (.int .i64 b) := ba5.cell 1
  have fa5_1 : w5.frozen? ⟨w.heap.size, 1, none⟩ = false := ba5.fz 1
  have la5 : w.heap.size < w5.heap.size := ba5.lt
  have bb5 : Blk w5 (w.heap.size + 1) 23 #[.int .i64 c, .int .i64 d] := hkb
  have cb5_0 : w5.cell? ⟨w.heap.size + 1, 0, none⟩ = some (.int .i64 c) := bb5.cell 0
  have fb5_0 : w5.frozen? ⟨w.heap.size + 1, 0, none⟩ = false := bb5.fz 0
  have cb5_1 : w5.cell? ⟨w.heap.size + 1, 1, none⟩ = some (.int .i64 d) := bb5.cell 1
  have fb5_1 : w5.frozen? ⟨w.heap.size + 1, 1, none⟩ = false := bb5.fz 1
  have lb5 : w.heap.size + 1 < w5.heap.size := bb5.lt
  have bt5 : Blk w5 (w4.heap.size) 23 #[.int .i64 T1, .int .i64 T2] := hkt
  have ct5_0 : w5.cell? ⟨w4.heap.size, 0, none⟩ = some (.int .i64 T1) := bt5.cell 0
  have ft5_0 : w5.frozen? ⟨w4.heap.size, 0, none⟩ = false := bt5.fz 0
  have ct5_1 : w5.cell? ⟨w4.heap.size, 1, none⟩ = some (.int .i64 T2) := bt5.cell 1
  have ft5_1 : w5.frozen? ⟨w4.heap.size, 1, none⟩ = false := bt5.fz 1
  have lt5 : w4.heap.size < w5.heap.size := bt5.lt
  have bv5 : Blk w5 (w4.heap.size + 1) 23 #[.int .i64 0, .int .i64 0] := hkv
  have cv5_0 : w5.cell? ⟨w4.heap.size + 1, 0, none⟩ = some (.int .i64 0) := bv5.cell 0
  have fv5_0 : w5.frozen? ⟨w4.heap.size + 1, 0, none⟩ = false := bv5.fz 0
  have cv5_1 : w5.cell? ⟨w4.heap.size + 1, 1, none⟩ = some (.int .i64 0) := bv5.cell 1
  have fv5_1 : w5.frozen? ⟨w4.heap.size + 1, 1, none⟩ = false := bv5.fz 1
  have lv5 : w4.heap.size + 1 < w5.heap.size := bv5.lt
  have HB5 : Below w.heap.size w w5 := hB
  have HZ5 := HB5.size
  clear hB hka hkb hkt hkv
  clear HB4 HZ4
  clear ba4 la4 ca4_0 ca4_1 fa4_0 fa4_1
  clear bb4 lb4 cb4_0 cb4_1 fb4_0 fb4_1
  obtain ⟨gt, egt⟩ : ∃ g, w4.heap.size = g := ⟨_, rfl⟩
  rw [egt] at ogt bt5 ct5_0 ct5_1 ft5_0 ft5_1 lt5 bv5 cv5_0 cv5_1 fv5_0 fv5_1 lv5 ⊢
  clear egt
  go_wp2_with fail
  refine (CTu.out _).mono ?_
  rintro e w6 ⟨rfl, hb6⟩
  have hz6 := hb6.size
  (try simp at hz6)
  have ba6 : Blk w6 (w.heap.size) 23 #[.int .i64 a, .int .i64 b] := (by refine BlkG.start ?_; (repeat (first | ((with_reducible apply BlkG.done); (with_reducible assumption); exact rfl) | (with_reducible exact BlkG.newAt (by first | (with_reducible rfl) | omega | (simp; done) | (simp; omega)) rfl) | (with_reducible refine BlkG.drew ?_) | (with_reducible refine BlkG.drewN ?_) | (with_reducible refine BlkG.set ?_) | (with_reducible refine BlkG.far (by first | omega | (simp; done) | (simp; omega)) ?_) | (with_reducible refine BlkG.alloc ?_) | (with_reducible refine BlkG.bel (by with_reducible assumption) (by first | omega | (simp; done) | (simp; omega)) ?_))))
  have ca6_0 : w6.cell? ⟨w.heap.size, 0, none⟩ = some (.int .i64 a) := ba6.cell 0
  have fa6_0 : w6.frozen? ⟨w.heap.size, 0, none⟩ = false := ba6.fz 0
  have ca6_1 : w6.cell? ⟨w.heap.size, 1, none⟩ = some (.int .i64 b) := ba6.cell 1
  have fa6_1 : w6.frozen? ⟨w.heap.size, 1, none⟩ = false := ba6.fz 1
  have la6 : w.heap.size < w6.heap.size := ba6.lt
  have bb6 : Blk w6 (w.heap.size + 1) 23 #[.int .i64 c, .int .i64 d] := (by refine BlkG.start ?_; (repeat (first | ((with_reducible apply BlkG.done); (with_reducible assumption); exact rfl) | (with_reducible exact BlkG.newAt (by first | (with_reducible rfl) | omega | (simp; done) | (simp; omega)) rfl) | (with_reducible refine BlkG.drew ?_) | (with_reducible refine BlkG.drewN ?_) | (with_reducible refine BlkG.set ?_) | (with_reducible refine BlkG.far (by first | omega | (simp; done) | (simp; omega)) ?_) | (with_reducible refine BlkG.alloc ?_) | (with_reducible refine BlkG.bel (by with_reducible assumption) (by first | omega | (simp; done) | (simp; omega)) ?_))))
  have cb6_0 : w6.cell? ⟨w.heap.size + 1, 0, none⟩ = some (.int .i64 c) := bb6.cell 0
  have fb6_0 : w6.frozen? ⟨w.heap.size + 1, 0, none⟩ = false := bb6.fz 0
  have cb6_1 : w6.cell? ⟨w.heap.size + 1, 1, none⟩ = some (.int .i64 d) := bb6.cell 1
  have fb6_1 : w6.frozen? ⟨w.heap.size + 1, 1, none⟩ = false := bb6.fz 1
  have lb6 : w.heap.size + 1 < w6.heap.size := bb6.lt
  have bt6 : Blk w6 (gt) 23 #[.int .i64 T1, .int .i64 T2] := (by refine BlkG.start ?_; (repeat (first | ((with_reducible apply BlkG.done); (with_reducible assumption); exact rfl) | (with_reducible exact BlkG.newAt (by first | (with_reducible rfl) | omega | (simp; done) | (simp; omega)) rfl) | (with_reducible refine BlkG.drew ?_) | (with_reducible refine BlkG.drewN ?_) | (with_reducible refine BlkG.set ?_) | (with_reducible refine BlkG.far (by first | omega | (simp; done) | (simp; omega)) ?_) | (with_reducible refine BlkG.alloc ?_) | (with_reducible refine BlkG.bel (by with_reducible assumption) (by first | omega | (simp; done) | (simp; omega)) ?_))))
  have ct6_0 : w6.cell? ⟨gt, 0, none⟩ = some (.int .i64 T1) := bt6.cell 0
  have ft6_0 : w6.frozen? ⟨gt, 0, none⟩ = false := bt6.fz 0
  have ct6_1 : w6.cell? ⟨gt, 1, none⟩ = some (.int .i64 T2) := bt6.cell 1
  have ft6_1 : w6.frozen? ⟨gt, 1, none⟩ = false := bt6.fz 1
  have lt6 : gt < w6.heap.size := bt6.lt
  have bv6 : Blk w6 (gt + 1) 23 #[.int .i64 0, .int .i64 0] := (by refine BlkG.start ?_; (repeat (first | ((with_reducible apply BlkG.done); (with_reducible assumption); exact rfl) | (with_reducible exact BlkG.newAt (by first | (with_reducible rfl) | omega | (simp; done) | (simp; omega)) rfl) | (with_reducible refine BlkG.drew ?_) | (with_reducible refine BlkG.drewN ?_) | (with_reducible refine BlkG.set ?_) | (with_reducible refine BlkG.far (by first | omega | (simp; done) | (simp; omega)) ?_) | (with_reducible refine BlkG.alloc ?_) | (with_reducible refine BlkG.bel (by with_reducible assumption) (by first | omega | (simp; done) | (simp; omega)) ?_))))
  have cv6_0 : w6.cell? ⟨gt + 1, 0, none⟩ = some (.int .i64 0) := bv6.cell 0
  have fv6_0 : w6.frozen? ⟨gt + 1, 0, none⟩ = false := bv6.fz 0
  have cv6_1 : w6.cell? ⟨gt + 1, 1, none⟩ = some (.int .i64 0) := bv6.cell 1
  have fv6_1 : w6.frozen? ⟨gt + 1, 1, none⟩ = false := bv6.fz 1
  have lv6 : gt + 1 < w6.heap.size := bv6.lt
  have HB6 : Below w.heap.size w w6 := (by repeat (first | with_reducible exact Below.refl _ _ | (with_reducible refine Below.alloc ?_ (by first | omega | (simp; done) | (simp; omega)) _) | (with_reducible refine Below.setCell ?_ (by first | omega | (simp; done) | (simp; omega)) _) | (with_reducible refine Below.drew ?_) | (with_reducible refine below_drewN ?_ _) | (with_reducible assumption) | (with_reducible refine bel_step (by with_reducible assumption) ?_ (by first | omega | (simp; done) | (simp; omega)))))
  have HZ6 := HB6.size
  clear hb6 hz6 HB5 HZ5 ba5 la5 ca5_0 fa5_0 ca5_1 fa5_1 bb5 lb5 cb5_0 fb5_0 cb5_1 fb5_1 bt5 lt5 ct5_0 ft5_0 ct5_1 ft5_1 bv5 lv5 cv5_0 fv5_0 cv5_1 fv5_1 
  go_wp2_with fail
  refine (CE.out e1 _ (by repeat (first | with_reducible exact Below.refl _ _ | (with_reducible refine Below.alloc ?_ (by first | omega | (simp; done) | (simp; omega)) _) | (with_reducible refine Below.setCell ?_ (by first | omega | (simp; done) | (simp; omega)) _) | (with_reducible refine Below.drew ?_) | (with_reducible refine below_drewN ?_ _) | (with_reducible assumption) | (with_reducible refine bel_step (by with_reducible assumption) ?_ (by first | omega | (simp; done) | (simp; omega)))))).mono ?_
  rintro e w7 ⟨rfl, hb7⟩
  have hz7 := hb7.size
  (try simp at hz7)
  have agx : w.heap.size ≤ w6.heap.size := by first | omega | (simp; done) | (simp; omega)
  have oxa : w.heap.size < w6.heap.size := by (try simp); omega
  have oxb : w.heap.size + 1 < w6.heap.size := by (try simp); omega
  have oxt : gt < w6.heap.size := by (try simp); omega
  have oxv : gt + 1 < w6.heap.size := by (try simp); omega
  have ba7 : Blk w7 (w.heap.size) 23 #[.int .i64 a, .int .i64 b] := (by refine BlkG.start ?_; (repeat (first | ((with_reducible apply BlkG.done); (with_reducible assumption); exact rfl) | (with_reducible exact BlkG.newAt (by first | (with_reducible rfl) | omega | (simp; done) | (simp; omega)) rfl) | (with_reducible refine BlkG.drew ?_) | (with_reducible refine BlkG.drewN ?_) | (with_reducible refine BlkG.set ?_) | (with_reducible refine BlkG.far (by first | omega | (simp; done) | (simp; omega)) ?_) | (with_reducible refine BlkG.alloc ?_) | (with_reducible refine BlkG.bel (by with_reducible assumption) (by first | omega | (simp; done) | (simp; omega)) ?_))))
  have ca7_0 : w7.cell? ⟨w.heap.size, 0, none⟩ = some (.int .i64 a) := ba7.cell 0
  have fa7_0 : w7.frozen? ⟨w.heap.size, 0, none⟩ = false := ba7.fz 0
  have ca7_1 : w7.cell? ⟨w.heap.size, 1, none⟩ = some (.int .i64 b) := ba7.cell 1
  have fa7_1 : w7.frozen? ⟨w.heap.size, 1, none⟩ = false := ba7.fz 1
  have la7 : w.heap.size < w7.heap.size := ba7.lt
  have bb7 : Blk w7 (w.heap.size + 1) 23 #[.int .i64 c, .int .i64 d] := (by refine BlkG.start ?_; (repeat (first | ((with_reducible apply BlkG.done); (with_reducible assumption); exact rfl) | (with_reducible exact BlkG.newAt (by first | (with_reducible rfl) | omega | (simp; done) | (simp; omega)) rfl) | (with_reducible refine BlkG.drew ?_) | (with_reducible refine BlkG.drewN ?_) | (with_reducible refine BlkG.set ?_) | (with_reducible refine BlkG.far (by first | omega | (simp; done) | (simp; omega)) ?_) | (with_reducible refine BlkG.alloc ?_) | (with_reducible refine BlkG.bel (by with_reducible assumption) (by first | omega | (simp; done) | (simp; omega)) ?_))))
  have cb7_0 : w7.cell? ⟨w.heap.size + 1, 0, none⟩ = some (.int .i64 c) := bb7.cell 0
  have fb7_0 : w7.frozen? ⟨w.heap.size + 1, 0, none⟩ = false := bb7.fz 0
  have cb7_1 : w7.cell? ⟨w.heap.size + 1, 1, none⟩ = some (.int .i64 d) := bb7.cell 1
  have fb7_1 : w7.frozen? ⟨w.heap.size + 1, 1, none⟩ = false := bb7.fz 1
  have lb7 : w.heap.size + 1 < w7.heap.size := bb7.lt
  have bt7 : Blk w7 (gt) 23 #[.int .i64 T1, .int .i64 T2] := (by refine BlkG.start ?_; (repeat (first | ((with_reducible apply BlkG.done); (with_reducible assumption); exact rfl) | (with_reducible exact BlkG.newAt (by first | (with_reducible rfl) | omega | (simp; done) | (simp; omega)) rfl) | (with_reducible refine BlkG.drew ?_) | (with_reducible refine BlkG.drewN ?_) | (with_reducible refine BlkG.set ?_) | (with_reducible refine BlkG.far (by first | omega | (simp; done) | (simp; omega)) ?_) | (with_reducible refine BlkG.alloc ?_) | (with_reducible refine BlkG.bel (by with_reducible assumption) (by first | omega | (simp; done) | (simp; omega)) ?_))))
  have ct7_0 : w7.cell? ⟨gt, 0, none⟩ = some (.int .i64 T1) := bt7.cell 0
  have ft7_0 : w7.frozen? ⟨gt, 0, none⟩ = false := bt7.fz 0
  have ct7_1 : w7.cell? ⟨gt, 1, none⟩ = some (.int .i64 T2) := bt7.cell 1
  have ft7_1 : w7.frozen? ⟨gt, 1, none⟩ = false := bt7.fz 1
  have lt7 : gt < w7.heap.size := bt7.lt
  have bv7 : Blk w7 (gt + 1) 23 #[.int .i64 0, .int .i64 0] := (by refine BlkG.start ?_; (repeat (first | ((with_reducible apply BlkG.done); (with_reducible assumption); exact rfl) | (with_reducible exact BlkG.newAt (by first | (with_reducible rfl) | omega | (simp; done) | (simp; omega)) rfl) | (with_reducible refine BlkG.drew ?_) | (with_reducible refine BlkG.drewN ?_) | (with_reducible refine BlkG.set ?_) | (with_reducible refine BlkG.far (by first | omega | (simp; done) | (simp; omega)) ?_) | (with_reducible refine BlkG.alloc ?_) | (with_reducible refine BlkG.bel (by with_reducible assumption) (by first | omega | (simp; done) | (simp; omega)) ?_))))
  have cv7_0 : w7.cell? ⟨gt + 1, 0, none⟩ = some (.int .i64 0) := bv7.cell 0
  have fv7_0 : w7.frozen? ⟨gt + 1, 0, none⟩ = false := bv7.fz 0
  have cv7_1 : w7.cell? ⟨gt + 1, 1, none⟩ = some (.int .i64 0) := bv7.cell 1
  have fv7_1 : w7.frozen? ⟨gt + 1, 1, none⟩ = false := bv7.fz 1
  have lv7 : gt + 1 < w7.heap.size := bv7.lt
  have bx7 : Blk w7 (w6.heap.size) 23 #[.int .i64 T1, .int .i64 T2] := (by refine BlkG.start ?_; (repeat (first | ((with_reducible apply BlkG.done); (with_reducible assumption); exact rfl) | (with_reducible exact BlkG.newAt (by first | (with_reducible rfl) | omega | (simp; done) | (simp; omega)) rfl) | (with_reducible refine BlkG.drew ?_) | (with_reducible refine BlkG.drewN ?_) | (with_reducible refine BlkG.set ?_) | (with_reducible refine BlkG.far (by first | omega | (simp; done) | (simp; omega)) ?_) | (with_reducible refine BlkG.alloc ?_) | (with_reducible refine BlkG.bel (by with_reducible assumption) (by first | omega | (simp; done) | (simp; omega)) ?_))))
  have cx7_0 : w7.cell? ⟨w6.heap.size, 0, none⟩ = some (.int .i64 T1) := bx7.cell 0
  have fx7_0 : w7.frozen? ⟨w6.heap.size, 0, none⟩ = false := bx7.fz 0
  have cx7_1 : w7.cell? ⟨w6.heap.size, 1, none⟩ = some (.int .i64 T2) := bx7.cell 1
  have fx7_1 : w7.frozen? ⟨w6.heap.size, 1, none⟩ = false := bx7.fz 1
  have lx7 : w6.heap.size < w7.heap.size := bx7.lt
  have HB7 : Below w.heap.size w w7 := (by repeat (first | with_reducible exact Below.refl _ _ | (with_reducible refine Below.alloc ?_ (by first | omega | (simp; done) | (simp; omega)) _) | (with_reducible refine Below.setCell ?_ (by first | omega | (simp; done) | (simp; omega)) _) | (with_reducible refine Below.drew ?_) | (with_reducible refine below_drewN ?_ _) | (with_reducible assumption) | (with_reducible refine bel_step (by with_reducible assumption) ?_ (by first | omega | (simp; done) | (simp; omega)))))
  have HZ7 := HB7.size
  clear hb7 hz7 HB6 HZ6 ba6 la6 ca6_0 fa6_0 ca6_1 fa6_1 bb6 lb6 cb6_0 fb6_0 cb6_1 fb6_1 bt6 lt6 ct6_0 ft6_0 ct6_1 ft6_1 bv6 lv6 cv6_0 fv6_0 cv6_1 fv6_1 
  go_wp2_with fail
  refine (CPr.out _ (SpanW.below HW.out (by repeat (first | with_reducible exact Below.refl _ _ | (with_reducible refine Below.alloc ?_ (by first | omega | (simp; done) | (simp; omega)) _) | (with_reducible refine Below.setCell ?_ (by first | omega | (simp; done) | (simp; omega)) _) | (with_reducible refine Below.drew ?_) | (with_reducible refine below_drewN ?_ _) | (with_reducible assumption) | (with_reducible refine bel_step (by with_reducible assumption) ?_ (by first | omega | (simp; done) | (simp; omega))))))).mono ?_
  rintro e w8 ⟨rfl, hb8⟩
  have hz8 := hb8.size
  (try simp at hz8)
  have ba8 : Blk w8 (w.heap.size) 23 #[.int .i64 a, .int .i64 b] := (by refine BlkG.start ?_; (repeat (first | ((with_reducible apply BlkG.done); (with_reducible assumption); exact rfl) | (with_reducible exact BlkG.newAt (by first | (with_reducible rfl) | omega | (simp; done) | (simp; omega)) rfl) | (with_reducible refine BlkG.drew ?_) | (with_reducible refine BlkG.drewN ?_) | (with_reducible refine BlkG.set ?_) | (with_reducible refine BlkG.far (by first | omega | (simp; done) | (simp; omega)) ?_) | (with_reducible refine BlkG.alloc ?_) | (with_reducible refine BlkG.bel (by with_reducible assumption) (by first | omega | (simp; done) | (simp; omega)) ?_))))
  have ca8_0 : w8.cell? ⟨w.heap.size, 0, none⟩ = some (.int .i64 a) := ba8.cell 0
  have fa8_0 : w8.frozen? ⟨w.heap.size, 0, none⟩ = false := ba8.fz 0
  have ca8_1 : w8.cell? ⟨w.heap.size, 1, none⟩ = some (.int .i64 b) := ba8.cell 1
  have fa8_1 : w8.frozen? ⟨w.heap.size, 1, none⟩ = false := ba8.fz 1
  have la8 : w.heap.size < w8.heap.size := ba8.lt
  have bb8 : Blk w8 (w.heap.size + 1) 23 #[.int .i64 c, .int .i64 d] := (by refine BlkG.start ?_; (repeat (first | ((with_reducible apply BlkG.done); (with_reducible assumption); exact rfl) | (with_reducible exact BlkG.newAt (by first | (with_reducible rfl) | omega | (simp; done) | (simp; omega)) rfl) | (with_reducible refine BlkG.drew ?_) | (with_reducible refine BlkG.drewN ?_) | (with_reducible refine BlkG.set ?_) | (with_reducible refine BlkG.far (by first | omega | (simp; done) | (simp; omega)) ?_) | (with_reducible refine BlkG.alloc ?_) | (with_reducible refine BlkG.bel (by with_reducible assumption) (by first | omega | (simp; done) | (simp; omega)) ?_))))
  have cb8_0 : w8.cell? ⟨w.heap.size + 1, 0, none⟩ = some (.int .i64 c) := bb8.cell 0
  have fb8_0 : w8.frozen? ⟨w.heap.size + 1, 0, none⟩ = false := bb8.fz 0
  have cb8_1 : w8.cell? ⟨w.heap.size + 1, 1, none⟩ = some (.int .i64 d) := bb8.cell 1
  have fb8_1 : w8.frozen? ⟨w.heap.size + 1, 1, none⟩ = false := bb8.fz 1
  have lb8 : w.heap.size + 1 < w8.heap.size := bb8.lt
  have bv8 : Blk w8 (gt + 1) 23 #[.int .i64 0, .int .i64 0] := (by refine BlkG.start ?_; (repeat (first | ((with_reducible apply BlkG.done); (with_reducible assumption); exact rfl) | (with_reducible exact BlkG.newAt (by first | (with_reducible rfl) | omega | (simp; done) | (simp; omega)) rfl) | (with_reducible refine BlkG.drew ?_) | (with_reducible refine BlkG.drewN ?_) | (with_reducible refine BlkG.set ?_) | (with_reducible refine BlkG.far (by first | omega | (simp; done) | (simp; omega)) ?_) | (with_reducible refine BlkG.alloc ?_) | (with_reducible refine BlkG.bel (by with_reducible assumption) (by first | omega | (simp; done) | (simp; omega)) ?_))))
  have cv8_0 : w8.cell? ⟨gt + 1, 0, none⟩ = some (.int .i64 0) := bv8.cell 0
  have fv8_0 : w8.frozen? ⟨gt + 1, 0, none⟩ = false := bv8.fz 0
  have cv8_1 : w8.cell? ⟨gt + 1, 1, none⟩ = some (.int .i64 0) := bv8.cell 1
  have fv8_1 : w8.frozen? ⟨gt + 1, 1, none⟩ = false := bv8.fz 1
  have lv8 : gt + 1 < w8.heap.size := bv8.lt
  have bx8 : Blk w8 (w6.heap.size) 23 #[.int .i64 T1, .int .i64 T2] := (by refine BlkG.start ?_; (repeat (first | ((with_reducible apply BlkG.done); (with_reducible assumption); exact rfl) | (with_reducible exact BlkG.newAt (by first | (with_reducible rfl) | omega | (simp; done) | (simp; omega)) rfl) | (with_reducible refine BlkG.drew ?_) | (with_reducible refine BlkG.drewN ?_) | (with_reducible refine BlkG.set ?_) | (with_reducible refine BlkG.far (by first | omega | (simp; done) | (simp; omega)) ?_) | (with_reducible refine BlkG.alloc ?_) | (with_reducible refine BlkG.bel (by with_reducible assumption) (by first | omega | (simp; done) | (simp; omega)) ?_))))
  have cx8_0 : w8.cell? ⟨w6.heap.size, 0, none⟩ = some (.int .i64 T1) := bx8.cell 0
  have fx8_0 : w8.frozen? ⟨w6.heap.size, 0, none⟩ = false := bx8.fz 0
  have cx8_1 : w8.cell? ⟨w6.heap.size, 1, none⟩ = some (.int .i64 T2) := bx8.cell 1
  have fx8_1 : w8.frozen? ⟨w6.heap.size, 1, none⟩ = false := bx8.fz 1
  have lx8 : w6.heap.size < w8.heap.size := bx8.lt
  have HB8 : Below w.heap.size w w8 := (by repeat (first | with_reducible exact Below.refl _ _ | (with_reducible refine Below.alloc ?_ (by first | omega | (simp; done) | (simp; omega)) _) | (with_reducible refine Below.setCell ?_ (by first | omega | (simp; done) | (simp; omega)) _) | (with_reducible refine Below.drew ?_) | (with_reducible refine below_drewN ?_ _) | (with_reducible assumption) | (with_reducible refine bel_step (by with_reducible assumption) ?_ (by first | omega | (simp; done) | (simp; omega)))))
  have HZ8 := HB8.size
  clear hb8 hz8 HB7 HZ7 ba7 la7 ca7_0 fa7_0 ca7_1 fa7_1 bb7 lb7 cb7_0 fb7_0 cb7_1 fb7_1 bv7 lv7 cv7_0 fv7_0 cv7_1 fv7_1 bx7 lx7 cx7_0 fx7_0 cx7_1 fx7_1 
  clear bt7 lt7 ct7_0 ct7_1 ft7_0 ft7_1
  go_wp2_with fail
  refine (CE.out e1 _ (by repeat (first | with_reducible exact Below.refl _ _ | (with_reducible refine Below.alloc ?_ (by first | omega | (simp; done) | (simp; omega)) _) | (with_reducible refine Below.setCell ?_ (by first | omega | (simp; done) | (simp; omega)) _) | (with_reducible refine Below.drew ?_) | (with_reducible refine below_drewN ?_ _) | (with_reducible assumption) | (with_reducible refine bel_step (by with_reducible assumption) ?_ (by first | omega | (simp; done) | (simp; omega)))))).mono ?_
  rintro e w9 ⟨rfl, hb9⟩
  have hz9 := hb9.size
  (try simp at hz9)
  have ba9 : Blk w9 (w.heap.size) 23 #[.int .i64 a, .int .i64 b] := (by refine BlkG.start ?_; (repeat (first | ((with_reducible apply BlkG.done); (with_reducible assumption); exact rfl) | (with_reducible exact BlkG.newAt (by first | (with_reducible rfl) | omega | (simp; done) | (simp; omega)) rfl) | (with_reducible refine BlkG.drew ?_) | (with_reducible refine BlkG.drewN ?_) | (with_reducible refine BlkG.set ?_) | (with_reducible refine BlkG.far (by first | omega | (simp; done) | (simp; omega)) ?_) | (with_reducible refine BlkG.alloc ?_) | (with_reducible refine BlkG.bel (by with_reducible assumption) (by first | omega | (simp; done) | (simp; omega)) ?_))))
  have ca9_0 : w9.cell? ⟨w.heap.size, 0, none⟩ = some (.int .i64 a) := ba9.cell 0
  have fa9_0 : w9.frozen? ⟨w.heap.size, 0, none⟩ = false := ba9.fz 0
  have ca9_1 : w9.cell? ⟨w.heap.size, 1, none⟩ = some (.int .i64 b) := ba9.cell 1
  have fa9_1 : w9.frozen? ⟨w.heap.size, 1, none⟩ = false := ba9.fz 1
  have la9 : w.heap.size < w9.heap.size := ba9.lt
  have bb9 : Blk w9 (w.heap.size + 1) 23 #[.int .i64 c, .int .i64 d] := (by refine BlkG.start ?_; (repeat (first | ((with_reducible apply BlkG.done); (with_reducible assumption); exact rfl) | (with_reducible exact BlkG.newAt (by first | (with_reducible rfl) | omega | (simp; done) | (simp; omega)) rfl) | (with_reducible refine BlkG.drew ?_) | (with_reducible refine BlkG.drewN ?_) | (with_reducible refine BlkG.set ?_) | (with_reducible refine BlkG.far (by first | omega | (simp; done) | (simp; omega)) ?_) | (with_reducible refine BlkG.alloc ?_) | (with_reducible refine BlkG.bel (by with_reducible assumption) (by first | omega | (simp; done) | (simp; omega)) ?_))))
  have cb9_0 : w9.cell? ⟨w.heap.size + 1, 0, none⟩ = some (.int .i64 c) := bb9.cell 0
  have fb9_0 : w9.frozen? ⟨w.heap.size + 1, 0, none⟩ = false := bb9.fz 0
  have cb9_1 : w9.cell? ⟨w.heap.size + 1, 1, none⟩ = some (.int .i64 d) := bb9.cell 1
  have fb9_1 : w9.frozen? ⟨w.heap.size + 1, 1, none⟩ = false := bb9.fz 1
  have lb9 : w.heap.size + 1 < w9.heap.size := bb9.lt
  have bv9 : Blk w9 (gt + 1) 23 #[.int .i64 0, .int .i64 0] := (by refine BlkG.start ?_; (repeat (first | ((with_reducible apply BlkG.done); (with_reducible assumption); exact rfl) | (with_reducible exact BlkG.newAt (by first | (with_reducible rfl) | omega | (simp; done) | (simp; omega)) rfl) | (with_reducible refine BlkG.drew ?_) | (with_reducible refine BlkG.drewN ?_) | (with_reducible refine BlkG.set ?_) | (with_reducible refine BlkG.far (by first | omega | (simp; done) | (simp; omega)) ?_) | (with_reducible refine BlkG.alloc ?_) | (with_reducible refine BlkG.bel (by with_reducible assumption) (by first | omega | (simp; done) | (simp; omega)) ?_))))
  have cv9_0 : w9.cell? ⟨gt + 1, 0, none⟩ = some (.int .i64 0) := bv9.cell 0
  have fv9_0 : w9.frozen? ⟨gt + 1, 0, none⟩ = false := bv9.fz 0
  have cv9_1 : w9.cell? ⟨gt + 1, 1, none⟩ = some (.int .i64 0) := bv9.cell 1
  have fv9_1 : w9.frozen? ⟨gt + 1, 1, none⟩ = false := bv9.fz 1
  have lv9 : gt + 1 < w9.heap.size := bv9.lt
  have bx9 : Blk w9 (w6.heap.size) 23 #[.int .i64 T1, .int .i64 T2] := (by refine BlkG.start ?_; (repeat (first | ((with_reducible apply BlkG.done); (with_reducible assumption); exact rfl) | (with_reducible exact BlkG.newAt (by first | (with_reducible rfl) | omega | (simp; done) | (simp; omega)) rfl) | (with_reducible refine BlkG.drew ?_) | (with_reducible refine BlkG.drewN ?_) | (with_reducible refine BlkG.set ?_) | (with_reducible refine BlkG.far (by first | omega | (simp; done) | (simp; omega)) ?_) | (with_reducible refine BlkG.alloc ?_) | (with_reducible refine BlkG.bel (by with_reducible assumption) (by first | omega | (simp; done) | (simp; omega)) ?_))))
  have cx9_0 : w9.cell? ⟨w6.heap.size, 0, none⟩ = some (.int .i64 T1) := bx9.cell 0
  have fx9_0 : w9.frozen? ⟨w6.heap.size, 0, none⟩ = false := bx9.fz 0
  have cx9_1 : w9.cell? ⟨w6.heap.size, 1, none⟩ = some (.int .i64 T2) := bx9.cell 1
  have fx9_1 : w9.frozen? ⟨w6.heap.size, 1, none⟩ = false := bx9.fz 1
  have lx9 : w6.heap.size < w9.heap.size := bx9.lt
  have HB9 : Below w.heap.size w w9 := (by repeat (first | with_reducible exact Below.refl _ _ | (with_reducible refine Below.alloc ?_ (by first | omega | (simp; done) | (simp; omega)) _) | (with_reducible refine Below.setCell ?_ (by first | omega | (simp; done) | (simp; omega)) _) | (with_reducible refine Below.drew ?_) | (with_reducible refine below_drewN ?_ _) | (with_reducible assumption) | (with_reducible refine bel_step (by with_reducible assumption) ?_ (by first | omega | (simp; done) | (simp; omega)))))
  have HZ9 := HB9.size
  clear hb9 hz9 HB8 HZ8 ba8 la8 ca8_0 fa8_0 ca8_1 fa8_1 bb8 lb8 cb8_0 fb8_0 cb8_1 fb8_1 bv8 lv8 cv8_0 fv8_0 cv8_1 fv8_1 bx8 lx8 cx8_0 fx8_0 cx8_1 fx8_1 
  go_wp2_with fail
  refine (CHa.out _).mono ?_
  rintro e w10 ⟨rfl, hb10⟩
  have hz10 := hb10.size
  (try simp at hz10)
  have ba10 : Blk w10 (w.heap.size) 23 #[.int .i64 a, .int .i64 b] := (by refine BlkG.start ?_; (repeat (first | ((with_reducible apply BlkG.done); (with_reducible assumption); exact rfl) | (with_reducible exact BlkG.newAt (by first | (with_reducible rfl) | omega | (simp; done) | (simp; omega)) rfl) | (with_reducible refine BlkG.drew ?_) | (with_reducible refine BlkG.drewN ?_) | (with_reducible refine BlkG.set ?_) | (with_reducible refine BlkG.far (by first | omega | (simp; done) | (simp; omega)) ?_) | (with_reducible refine BlkG.alloc ?_) | (with_reducible refine BlkG.bel (by with_reducible assumption) (by first | omega | (simp; done) | (simp; omega)) ?_))))
  have ca10_0 : w10.cell? ⟨w.heap.size, 0, none⟩ = some (.int .i64 a) := ba10.cell 0
  have fa10_0 : w10.frozen? ⟨w.heap.size, 0, none⟩ = false := ba10.fz 0
  have ca10_1 : w10.cell? ⟨w.heap.size, 1, none⟩ = some (.int .i64 b) := ba10.cell 1
  have fa10_1 : w10.frozen? ⟨w.heap.size, 1, none⟩ = false := ba10.fz 1
  have la10 : w.heap.size < w10.heap.size := ba10.lt
  have bb10 : Blk w10 (w.heap.size + 1) 23 #[.int .i64 c, .int .i64 d] := (by refine BlkG.start ?_; (repeat (first | ((with_reducible apply BlkG.done); (with_reducible assumption); exact rfl) | (with_reducible exact BlkG.newAt (by first | (with_reducible rfl) | omega | (simp; done) | (simp; omega)) rfl) | (with_reducible refine BlkG.drew ?_) | (with_reducible refine BlkG.drewN ?_) | (with_reducible refine BlkG.set ?_) | (with_reducible refine BlkG.far (by first | omega | (simp; done) | (simp; omega)) ?_) | (with_reducible refine BlkG.alloc ?_) | (with_reducible refine BlkG.bel (by with_reducible assumption) (by first | omega | (simp; done) | (simp; omega)) ?_))))
  have cb10_0 : w10.cell? ⟨w.heap.size + 1, 0, none⟩ = some (.int .i64 c) := bb10.cell 0
  have fb10_0 : w10.frozen? ⟨w.heap.size + 1, 0, none⟩ = false := bb10.fz 0
  have cb10_1 : w10.cell? ⟨w.heap.size + 1, 1, none⟩ = some (.int .i64 d) := bb10.cell 1
  have fb10_1 : w10.frozen? ⟨w.heap.size + 1, 1, none⟩ = false := bb10.fz 1
  have lb10 : w.heap.size + 1 < w10.heap.size := bb10.lt
  have bv10 : Blk w10 (gt + 1) 23 #[.int .i64 0, .int .i64 0] := (by refine BlkG.start ?_; (repeat (first | ((with_reducible apply BlkG.done); (with_reducible assumption); exact rfl) | (with_reducible exact BlkG.newAt (by first | (with_reducible rfl) | omega | (simp; done) | (simp; omega)) rfl) | (with_reducible refine BlkG.drew ?_) | (with_reducible refine BlkG.drewN ?_) | (with_reducible refine BlkG.set ?_) | (with_reducible refine BlkG.far (by first | omega | (simp; done) | (simp; omega)) ?_) | (with_reducible refine BlkG.alloc ?_) | (with_reducible refine BlkG.bel (by with_reducible assumption) (by first | omega | (simp; done) | (simp; omega)) ?_))))
  have cv10_0 : w10.cell? ⟨gt + 1, 0, none⟩ = some (.int .i64 0) := bv10.cell 0
  have fv10_0 : w10.frozen? ⟨gt + 1, 0, none⟩ = false := bv10.fz 0
  have cv10_1 : w10.cell? ⟨gt + 1, 1, none⟩ = some (.int .i64 0) := bv10.cell 1
  have fv10_1 : w10.frozen? ⟨gt + 1, 1, none⟩ = false := bv10.fz 1
  have lv10 : gt + 1 < w10.heap.size := bv10.lt
  have bx10 : Blk w10 (w6.heap.size) 23 #[.int .i64 T1, .int .i64 T2] := (by refine BlkG.start ?_; (repeat (first | ((with_reducible apply BlkG.done); (with_reducible assumption); exact rfl) | (with_reducible exact BlkG.newAt (by first | (with_reducible rfl) | omega | (simp; done) | (simp; omega)) rfl) | (with_reducible refine BlkG.drew ?_) | (with_reducible refine BlkG.drewN ?_) | (with_reducible refine BlkG.set ?_) | (with_reducible refine BlkG.far (by first | omega | (simp; done) | (simp; omega)) ?_) | (with_reducible refine BlkG.alloc ?_) | (with_reducible refine BlkG.bel (by with_reducible assumption) (by first | omega | (simp; done) | (simp; omega)) ?_))))
  have cx10_0 : w10.cell? ⟨w6.heap.size, 0, none⟩ = some (.int .i64 T1) := bx10.cell 0
  have fx10_0 : w10.frozen? ⟨w6.heap.size, 0, none⟩ = false := bx10.fz 0
  have cx10_1 : w10.cell? ⟨w6.heap.size, 1, none⟩ = some (.int .i64 T2) := bx10.cell 1
  have fx10_1 : w10.frozen? ⟨w6.heap.size, 1, none⟩ = false := bx10.fz 1
  have lx10 : w6.heap.size < w10.heap.size := bx10.lt
  have HB10 : Below w.heap.size w w10 := (by repeat (first | with_reducible exact Below.refl _ _ | (with_reducible refine Below.alloc ?_ (by first | omega | (simp; done) | (simp; omega)) _) | (with_reducible refine Below.setCell ?_ (by first | omega | (simp; done) | (simp; omega)) _) | (with_reducible refine Below.drew ?_) | (with_reducible refine below_drewN ?_ _) | (with_reducible assumption) | (with_reducible refine bel_step (by with_reducible assumption) ?_ (by first | omega | (simp; done) | (simp; omega)))))
  have HZ10 := HB10.size
  clear hb10 hz10 HB9 HZ9 ba9 la9 ca9_0 fa9_0 ca9_1 fa9_1 bb9 lb9 cb9_0 fb9_0 cb9_1 fb9_1 bv9 lv9 cv9_0 fv9_0 cv9_1 fv9_1 bx9 lx9 cx9_0 fx9_0 cx9_1 fx9_1 
  go_upto_region 17 with fail
  go_cut [22] (fun s22 wx => s22 = .bool true ∧ Blk wx (w.heap.size) 23 #[.int .i64 a, .int .i64 b] ∧ Blk wx (w.heap.size + 1) 23 #[.int .i64 c, .int .i64 d] ∧ Blk wx (gt + 1) 23 #[.int .i64 0, .int .i64 0] ∧ Blk wx (w6.heap.size) 23 #[.int .i64 T1, .int .i64 T2] ∧ Below w.heap.size w wx)
  case first =>
    as_aux_lemma =>
    cases p
    · have e := HH0.out rfl
      subst e
      go_wp2_with fail
      refine (CE.out e1 _ (by repeat (first | with_reducible exact Below.refl _ _ | (with_reducible refine Below.alloc ?_ (by first | omega | (simp; done) | (simp; omega)) _) | (with_reducible refine Below.setCell ?_ (by first | omega | (simp; done) | (simp; omega)) _) | (with_reducible refine Below.drew ?_) | (with_reducible refine below_drewN ?_ _) | (with_reducible assumption) | (with_reducible refine bel_step (by with_reducible assumption) ?_ (by first | omega | (simp; done) | (simp; omega)))))).mono ?_
      rintro e w11 ⟨rfl, hb11⟩
      have ba11 : Blk w11 (w.heap.size) 23 #[.int .i64 a, .int .i64 b] := (by refine BlkG.start ?_; (repeat (first | ((with_reducible apply BlkG.done); (with_reducible assumption); exact rfl) | (with_reducible exact BlkG.newAt (by first | (with_reducible rfl) | omega | (simp; done) | (simp; omega)) rfl) | (with_reducible refine BlkG.drew ?_) | (with_reducible refine BlkG.drewN ?_) | (with_reducible refine BlkG.set ?_) | (with_reducible refine BlkG.far (by first | omega | (simp; done) | (simp; omega)) ?_) | (with_reducible refine BlkG.alloc ?_) | (with_reducible refine BlkG.bel (by with_reducible assumption) (by first | omega | (simp; done) | (simp; omega)) ?_))))
      have ca11_0 : w11.cell? ⟨w.heap.size, 0, none⟩ = some (.int .i64 a) := ba11.cell 0
      have fa11_0 : w11.frozen? ⟨w.heap.size, 0, none⟩ = false := ba11.fz 0
      have ca11_1 : w11.cell? ⟨w.heap.size, 1, none⟩ = some (.int .i64 b) := ba11.cell 1
      have fa11_1 : w11.frozen? ⟨w.heap.size, 1, none⟩ = false := ba11.fz 1
      have la11 : w.heap.size < w11.heap.size := ba11.lt
      have bb11 : Blk w11 (w.heap.size + 1) 23 #[.int .i64 c, .int .i64 d] := (by refine BlkG.start ?_; (repeat (first | ((with_reducible apply BlkG.done); (with_reducible assumption); exact rfl) | (with_reducible exact BlkG.newAt (by first | (with_reducible rfl) | omega | (simp; done) | (simp; omega)) rfl) | (with_reducible refine BlkG.drew ?_) | (with_reducible refine BlkG.drewN ?_) | (with_reducible refine BlkG.set ?_) | (with_reducible refine BlkG.far (by first | omega | (simp; done) | (simp; omega)) ?_) | (with_reducible refine BlkG.alloc ?_) | (with_reducible refine BlkG.bel (by with_reducible assumption) (by first | omega | (simp; done) | (simp; omega)) ?_))))
      have cb11_0 : w11.cell? ⟨w.heap.size + 1, 0, none⟩ = some (.int .i64 c) := bb11.cell 0
      have fb11_0 : w11.frozen? ⟨w.heap.size + 1, 0, none⟩ = false := bb11.fz 0
      have cb11_1 : w11.cell? ⟨w.heap.size + 1, 1, none⟩ = some (.int .i64 d) := bb11.cell 1
      have fb11_1 : w11.frozen? ⟨w.heap.size + 1, 1, none⟩ = false := bb11.fz 1
      have lb11 : w.heap.size + 1 < w11.heap.size := bb11.lt
      have bv11 : Blk w11 (gt + 1) 23 #[.int .i64 0, .int .i64 0] := (by refine BlkG.start ?_; (repeat (first | ((with_reducible apply BlkG.done); (with_reducible assumption); exact rfl) | (with_reducible exact BlkG.newAt (by first | (with_reducible rfl) | omega | (simp; done) | (simp; omega)) rfl) | (with_reducible refine BlkG.drew ?_) | (with_reducible refine BlkG.drewN ?_) | (with_reducible refine BlkG.set ?_) | (with_reducible refine BlkG.far (by first | omega | (simp; done) | (simp; omega)) ?_) | (with_reducible refine BlkG.alloc ?_) | (with_reducible refine BlkG.bel (by with_reducible assumption) (by first | omega | (simp; done) | (simp; omega)) ?_))))
      have cv11_0 : w11.cell? ⟨gt + 1, 0, none⟩ = some (.int .i64 0) := bv11.cell 0
      have fv11_0 : w11.frozen? ⟨gt + 1, 0, none⟩ = false := bv11.fz 0
      have cv11_1 : w11.cell? ⟨gt + 1, 1, none⟩ = some (.int .i64 0) := bv11.cell 1
      have fv11_1 : w11.frozen? ⟨gt + 1, 1, none⟩ = false := bv11.fz 1
      have lv11 : gt + 1 < w11.heap.size := bv11.lt
      have bx11 : Blk w11 (w6.heap.size) 23 #[.int .i64 T1, .int .i64 T2] := (by refine BlkG.start ?_; (repeat (first | ((with_reducible apply BlkG.done); (with_reducible assumption); exact rfl) | (with_reducible exact BlkG.newAt (by first | (with_reducible rfl) | omega | (simp; done) | (simp; omega)) rfl) | (with_reducible refine BlkG.drew ?_) | (with_reducible refine BlkG.drewN ?_) | (with_reducible refine BlkG.set ?_) | (with_reducible refine BlkG.far (by first | omega | (simp; done) | (simp; omega)) ?_) | (with_reducible refine BlkG.alloc ?_) | (with_reducible refine BlkG.bel (by with_reducible assumption) (by first | omega | (simp; done) | (simp; omega)) ?_))))
      have cx11_0 : w11.cell? ⟨w6.heap.size, 0, none⟩ = some (.int .i64 T1) := bx11.cell 0
      have fx11_0 : w11.frozen? ⟨w6.heap.size, 0, none⟩ = false := bx11.fz 0
      have cx11_1 : w11.cell? ⟨w6.heap.size, 1, none⟩ = some (.int .i64 T2) := bx11.cell 1
      have fx11_1 : w11.frozen? ⟨w6.heap.size, 1, none⟩ = false := bx11.fz 1
      have lx11 : w6.heap.size < w11.heap.size := bx11.lt
      go_wp2_with fail
      go_meet
      case rel => exact ⟨rfl, ba11, bb11, bv11, bx11, (by repeat (first | with_reducible exact Below.refl _ _ | (with_reducible refine Below.alloc ?_ (by first | omega | (simp; done) | (simp; omega)) _) | (with_reducible refine Below.setCell ?_ (by first | omega | (simp; done) | (simp; omega)) _) | (with_reducible refine Below.drew ?_) | (with_reducible refine below_drewN ?_ _) | (with_reducible assumption) | (with_reducible refine bel_step (by with_reducible assumption) ?_ (by first | omega | (simp; done) | (simp; omega)))))⟩
    · have e := HH1.out rfl
      by_cases k1 : a ≤ a2 <;> by_cases k2 : a2 ≤ b
      all_goals
        have e2 := Lib.hid (show hs = (decide (a ≤ a2) && decide (a2 ≤ b)) from e)
        clear e
        go_wp2_with fail
        refine (CE.out e1 _ (by repeat (first | with_reducible exact Below.refl _ _ | (with_reducible refine Below.alloc ?_ (by first | omega | (simp; done) | (simp; omega)) _) | (with_reducible refine Below.setCell ?_ (by first | omega | (simp; done) | (simp; omega)) _) | (with_reducible refine Below.drew ?_) | (with_reducible refine below_drewN ?_ _) | (with_reducible assumption) | (with_reducible refine bel_step (by with_reducible assumption) ?_ (by first | omega | (simp; done) | (simp; omega)))))).mono ?_
        rintro e w11 ⟨rfl, hb11⟩
        have ba11 : Blk w11 (w.heap.size) 23 #[.int .i64 a, .int .i64 b] := (by refine BlkG.start ?_; (repeat (first | ((with_reducible apply BlkG.done); (with_reducible assumption); exact rfl) | (with_reducible exact BlkG.newAt (by first | (with_reducible rfl) | omega | (simp; done) | (simp; omega)) rfl) | (with_reducible refine BlkG.drew ?_) | (with_reducible refine BlkG.drewN ?_) | (with_reducible refine BlkG.set ?_) | (with_reducible refine BlkG.far (by first | omega | (simp; done) | (simp; omega)) ?_) | (with_reducible refine BlkG.alloc ?_) | (with_reducible refine BlkG.bel (by with_reducible assumption) (by first | omega | (simp; done) | (simp; omega)) ?_))))
        have ca11_0 : w11.cell? ⟨w.heap.size, 0, none⟩ = some (.int .i64 a) := ba11.cell 0
        have fa11_0 : w11.frozen? ⟨w.heap.size, 0, none⟩ = false := ba11.fz 0
        have ca11_1 : w11.cell? ⟨w.heap.size, 1, none⟩ = some (.int .i64 b) := ba11.cell 1
        have fa11_1 : w11.frozen? ⟨w.heap.size, 1, none⟩ = false := ba11.fz 1
        have la11 : w.heap.size < w11.heap.size := ba11.lt
        have bb11 : Blk w11 (w.heap.size + 1) 23 #[.int .i64 c, .int .i64 d] := (by refine BlkG.start ?_; (repeat (first | ((with_reducible apply BlkG.done); (with_reducible assumption); exact rfl) | (with_reducible exact BlkG.newAt (by first | (with_reducible rfl) | omega | (simp; done) | (simp; omega)) rfl) | (with_reducible refine BlkG.drew ?_) | (with_reducible refine BlkG.drewN ?_) | (with_reducible refine BlkG.set ?_) | (with_reducible refine BlkG.far (by first | omega | (simp; done) | (simp; omega)) ?_) | (with_reducible refine BlkG.alloc ?_) | (with_reducible refine BlkG.bel (by with_reducible assumption) (by first | omega | (simp; done) | (simp; omega)) ?_))))
        have cb11_0 : w11.cell? ⟨w.heap.size + 1, 0, none⟩ = some (.int .i64 c) := bb11.cell 0
        have fb11_0 : w11.frozen? ⟨w.heap.size + 1, 0, none⟩ = false := bb11.fz 0
        have cb11_1 : w11.cell? ⟨w.heap.size + 1, 1, none⟩ = some (.int .i64 d) := bb11.cell 1
        have fb11_1 : w11.frozen? ⟨w.heap.size + 1, 1, none⟩ = false := bb11.fz 1
        have lb11 : w.heap.size + 1 < w11.heap.size := bb11.lt
        have bv11 : Blk w11 (gt + 1) 23 #[.int .i64 0, .int .i64 0] := (by refine BlkG.start ?_; (repeat (first | ((with_reducible apply BlkG.done); (with_reducible assumption); exact rfl) | (with_reducible exact BlkG.newAt (by first | (with_reducible rfl) | omega | (simp; done) | (simp; omega)) rfl) | (with_reducible refine BlkG.drew ?_) | (with_reducible refine BlkG.drewN ?_) | (with_reducible refine BlkG.set ?_) | (with_reducible refine BlkG.far (by first | omega | (simp; done) | (simp; omega)) ?_) | (with_reducible refine BlkG.alloc ?_) | (with_reducible refine BlkG.bel (by with_reducible assumption) (by first | omega | (simp; done) | (simp; omega)) ?_))))
        have cv11_0 : w11.cell? ⟨gt + 1, 0, none⟩ = some (.int .i64 0) := bv11.cell 0
        have fv11_0 : w11.frozen? ⟨gt + 1, 0, none⟩ = false := bv11.fz 0
        have cv11_1 : w11.cell? ⟨gt + 1, 1, none⟩ = some (.int .i64 0) := bv11.cell 1
        have fv11_1 : w11.frozen? ⟨gt + 1, 1, none⟩ = false := bv11.fz 1
        have lv11 : gt + 1 < w11.heap.size := bv11.lt
        have bx11 : Blk w11 (w6.heap.size) 23 #[.int .i64 T1, .int .i64 T2] := (by refine BlkG.start ?_; (repeat (first | ((with_reducible apply BlkG.done); (with_reducible assumption); exact rfl) | (with_reducible exact BlkG.newAt (by first | (with_reducible rfl) | omega | (simp; done) | (simp; omega)) rfl) | (with_reducible refine BlkG.drew ?_) | (with_reducible refine BlkG.drewN ?_) | (with_reducible refine BlkG.set ?_) | (with_reducible refine BlkG.far (by first | omega | (simp; done) | (simp; omega)) ?_) | (with_reducible refine BlkG.alloc ?_) | (with_reducible refine BlkG.bel (by with_reducible assumption) (by first | omega | (simp; done) | (simp; omega)) ?_))))
        have cx11_0 : w11.cell? ⟨w6.heap.size, 0, none⟩ = some (.int .i64 T1) := bx11.cell 0
        have fx11_0 : w11.frozen? ⟨w6.heap.size, 0, none⟩ = false := bx11.fz 0
        have cx11_1 : w11.cell? ⟨w6.heap.size, 1, none⟩ = some (.int .i64 T2) := bx11.cell 1
        have fx11_1 : w11.frozen? ⟨w6.heap.size, 1, none⟩ = false := bx11.fz 1
        have lx11 : w6.heap.size < w11.heap.size := bx11.lt
        go_wp2_with fail
        go_meet
        case rel => exact ⟨by rw [e2.out]; simp [k1, k2], ba11, bb11, bv11, bx11, (by repeat (first | with_reducible exact Below.refl _ _ | (with_reducible refine Below.alloc ?_ (by first | omega | (simp; done) | (simp; omega)) _) | (with_reducible refine Below.setCell ?_ (by first | omega | (simp; done) | (simp; omega)) _) | (with_reducible refine Below.drew ?_) | (with_reducible refine below_drewN ?_ _) | (with_reducible assumption) | (with_reducible refine bel_step (by with_reducible assumption) ?_ (by first | omega | (simp; done) | (simp; omega)))))⟩
  case rest =>
  as_aux_lemma =>
  obtain ⟨rfl, hka, hkb, hkv, hkx, hB⟩ := hcut
  obtain ⟨w11, hw11⟩ : ∃ x : World, x = wc := ⟨_, rfl⟩
  subst hw11
  have ba11 : Blk w11 (w.heap.size) 23 #[.int .i64 a, .int .i64 b] := hka
  have ca11_0 : w11.cell? ⟨w.heap.size, 0, none⟩ = some (.int .i64 a) := ba11.cell 0
  have fa11_0 : w11.frozen? ⟨w.heap.size, 0, none⟩ = false := ba11.fz 0
  have ca11_1 : w11.cell? ⟨w.heap.size, 1, none⟩ = some (.int .i64 b) := ba11.cell 1
  have fa11_1 : w11.frozen? ⟨w.heap.size, 1, none⟩ = false := ba11.fz 1
  have la11 : w.heap.size < w11.heap.size := ba11.lt
  have bb11 : Blk w11 (w.heap.size + 1) 23 #[.int .i64 c, .int .i64 d] := hkb
  have cb11_0 : w11.cell? ⟨w.heap.size + 1, 0, none⟩ = some (.int .i64 c) := bb11.cell 0
  have fb11_0 : w11.frozen? ⟨w.heap.size + 1, 0, none⟩ = false := bb11.fz 0
  have cb11_1 : w11.cell? ⟨w.heap.size + 1, 1, none⟩ = some (.int .i64 d) := bb11.cell 1
  have fb11_1 : w11.frozen? ⟨w.heap.size + 1, 1, none⟩ = false := bb11.fz 1
  have lb11 : w.heap.size + 1 < w11.heap.size := bb11.lt
  have bv11 : Blk w11 (gt + 1) 23 #[.int .i64 0, .int .i64 0] := hkv
  have cv11_0 : w11.cell? ⟨gt + 1, 0, none⟩ = some (.int .i64 0) := bv11.cell 0
  have fv11_0 : w11.frozen? ⟨gt + 1, 0, none⟩ = false := bv11.fz 0
  have cv11_1 : w11.cell? ⟨gt + 1, 1, none⟩ = some (.int .i64 0) := bv11.cell 1
  have fv11_1 : w11.frozen? ⟨gt + 1, 1, none⟩ = false := bv11.fz 1
  have lv11 : gt + 1 < w11.heap.size := bv11.lt
  have bx11 : Blk w11 (w6.heap.size) 23 #[.int .i64 T1, .int .i64 T2] := hkx
  have cx11_0 : w11.cell? ⟨w6.heap.size, 0, none⟩ = some (.int .i64 T1) := bx11.cell 0
  have fx11_0 : w11.frozen? ⟨w6.heap.size, 0, none⟩ = false := bx11.fz 0
  have cx11_1 : w11.cell? ⟨w6.heap.size, 1, none⟩ = some (.int .i64 T2) := bx11.cell 1
  have fx11_1 : w11.frozen? ⟨w6.heap.size, 1, none⟩ = false := bx11.fz 1
  have lx11 : w6.heap.size < w11.heap.size := bx11.lt
  have HB11 : Below w.heap.size w w11 := hB
  have HZ11 := HB11.size
  clear hB hka hkb hkv hkx
  clear HB10 HZ10
  clear ba10 la10 ca10_0 ca10_1 fa10_0 fa10_1
  clear bb10 lb10 cb10_0 cb10_1 fb10_0 fb10_1
  clear bv10 lv10 cv10_0 cv10_1 fv10_0 fv10_1
  clear bx10 lx10 cx10_0 cx10_1 fx10_0 fx10_1
  go_upto_region 19 with fail
  go_cut [120] (fun s wx => s = .bool z ∧ w11 = wx)
  case first =>
    as_aux_lemma =>
    rcases HE1v.out with rfl | rfl
    · by_cases k1 : a2 < 0
      · have e := Lib.hid (show z = true by rw [HZz.out]; simp [k1])
        go_wp2_with fail
        go_meet
        case rel => exact ⟨by rw [e.out], rfl⟩
      · by_cases k2 : 1000000000000 < a2
        · have e := Lib.hid (show z = true by rw [HZz.out]; simp [k1, k2])
          go_wp2_with fail
          go_meet
          case rel => exact ⟨by rw [e.out], rfl⟩
        · have e := Lib.hid (show z = false by rw [HZz.out]; simp [k1, k2])
          go_wp2_with fail
          go_meet
          case rel => exact ⟨by rw [e.out], rfl⟩
    · have e := Lib.hid (show z = false by rw [HZz.out]; rfl)
      go_wp2_with fail
      go_meet
      case rel => exact ⟨by rw [e.out], rfl⟩
  case rest =>
  obtain ⟨rfl, hwq⟩ := hcut
  subst hwq
  go_upto_if 120 with fail
  go_cut [23] (fun s wx => s = .int .i64 g1 ∧ w11 = wx)
  case first =>
    as_aux_lemma =>
    cases z
    · have e := Lib.hid (show g1 = e1 by rw [HG1.out]; rfl)
      go_wp2_with fail
      go_meet
      case rel => exact ⟨by rw [e.out], rfl⟩
    · have e := Lib.hid (show g1 = 1 by rw [HG1.out]; rfl)
      go_wp2_with fail
      go_meet
      case rel => exact ⟨by rw [e.out], rfl⟩
  case rest =>
  as_aux_lemma =>
  obtain ⟨rfl, hwq⟩ := hcut
  subst hwq
  go_upto_if 122 with fail
  go_cut [23, 24] (fun s _ wx => s = .int .i64 f1 ∧ Blk wx (w.heap.size) 23 #[.int .i64 a, .int .i64 b] ∧ Blk wx (w.heap.size + 1) 23 #[.int .i64 c, .int .i64 d] ∧ Blk wx (gt + 1) 23 #[.int .i64 W1, .int .i64 W2] ∧ Blk wx (w6.heap.size) 23 #[.int .i64 T1, .int .i64 T2] ∧ Below w.heap.size w wx)
  case first =>
    as_aux_lemma =>
    rcases HWd.out with ⟨e0, rfl, rfl, rfl⟩ | ⟨rfl, wa, wb, _, _, rfl, rfl, ok, CSw, hok0, hok1⟩
    · have k1 : ¬ g1 = 0 := by omega
      clear e0
      have k2 := Lib.hid (show g1 = 1 by rcases HG1v.out with h | h <;> omega)
      go_wp2_with fail
      go_meet
      case rel => exact ⟨by rw [k2.out], (by refine BlkG.start ?_; (repeat (first | ((with_reducible apply BlkG.done); (with_reducible assumption); exact rfl) | (with_reducible exact BlkG.newAt (by first | (with_reducible rfl) | omega | (simp; done) | (simp; omega)) rfl) | (with_reducible refine BlkG.drew ?_) | (with_reducible refine BlkG.drewN ?_) | (with_reducible refine BlkG.set ?_) | (with_reducible refine BlkG.far (by first | omega | (simp; done) | (simp; omega)) ?_) | (with_reducible refine BlkG.alloc ?_) | (with_reducible refine BlkG.bel (by with_reducible assumption) (by first | omega | (simp; done) | (simp; omega)) ?_)))), (by refine BlkG.start ?_; (repeat (first | ((with_reducible apply BlkG.done); (with_reducible assumption); exact rfl) | (with_reducible exact BlkG.newAt (by first | (with_reducible rfl) | omega | (simp; done) | (simp; omega)) rfl) | (with_reducible refine BlkG.drew ?_) | (with_reducible refine BlkG.drewN ?_) | (with_reducible refine BlkG.set ?_) | (with_reducible refine BlkG.far (by first | omega | (simp; done) | (simp; omega)) ?_) | (with_reducible refine BlkG.alloc ?_) | (with_reducible refine BlkG.bel (by with_reducible assumption) (by first | omega | (simp; done) | (simp; omega)) ?_)))), (by refine BlkG.start ?_; (repeat (first | ((with_reducible apply BlkG.done); (with_reducible assumption); exact rfl) | (with_reducible exact BlkG.newAt (by first | (with_reducible rfl) | omega | (simp; done) | (simp; omega)) rfl) | (with_reducible refine BlkG.drew ?_) | (with_reducible refine BlkG.drewN ?_) | (with_reducible refine BlkG.set ?_) | (with_reducible refine BlkG.far (by first | omega | (simp; done) | (simp; omega)) ?_) | (with_reducible refine BlkG.alloc ?_) | (with_reducible refine BlkG.bel (by with_reducible assumption) (by first | omega | (simp; done) | (simp; omega)) ?_)))), (by refine BlkG.start ?_; (repeat (first | ((with_reducible apply BlkG.done); (with_reducible assumption); exact rfl) | (with_reducible exact BlkG.newAt (by first | (with_reducible rfl) | omega | (simp; done) | (simp; omega)) rfl) | (with_reducible refine BlkG.drew ?_) | (with_reducible refine BlkG.drewN ?_) | (with_reducible refine BlkG.set ?_) | (with_reducible refine BlkG.far (by first | omega | (simp; done) | (simp; omega)) ?_) | (with_reducible refine BlkG.alloc ?_) | (with_reducible refine BlkG.bel (by with_reducible assumption) (by first | omega | (simp; done) | (simp; omega)) ?_)))), (by repeat (first | with_reducible exact Below.refl _ _ | (with_reducible refine Below.alloc ?_ (by first | omega | (simp; done) | (simp; omega)) _) | (with_reducible refine Below.setCell ?_ (by first | omega | (simp; done) | (simp; omega)) _) | (with_reducible refine Below.drew ?_) | (with_reducible refine below_drewN ?_ _) | (with_reducible assumption) | (with_reducible refine bel_step (by with_reducible assumption) ?_ (by first | omega | (simp; done) | (simp; omega)))))⟩
    · replace CSw := Lib.hid CSw
      replace hok0 := Lib.hid hok0
      replace hok1 := Lib.hid hok1
      go_wp2_with fail
      refine (CSw.out _).mono ?_
      rintro e w12 ⟨rfl, hb12⟩
      have ba12 : Blk w12 (w.heap.size) 23 #[.int .i64 a, .int .i64 b] := (by refine BlkG.start ?_; (repeat (first | ((with_reducible apply BlkG.done); (with_reducible assumption); exact rfl) | (with_reducible exact BlkG.newAt (by first | (with_reducible rfl) | omega | (simp; done) | (simp; omega)) rfl) | (with_reducible refine BlkG.drew ?_) | (with_reducible refine BlkG.drewN ?_) | (with_reducible refine BlkG.set ?_) | (with_reducible refine BlkG.far (by first | omega | (simp; done) | (simp; omega)) ?_) | (with_reducible refine BlkG.alloc ?_) | (with_reducible refine BlkG.bel (by with_reducible assumption) (by first | omega | (simp; done) | (simp; omega)) ?_))))
      have ca12_0 : w12.cell? ⟨w.heap.size, 0, none⟩ = some (.int .i64 a) := ba12.cell 0
      have fa12_0 : w12.frozen? ⟨w.heap.size, 0, none⟩ = false := ba12.fz 0
      have ca12_1 : w12.cell? ⟨w.heap.size, 1, none⟩ = some (.int .i64 b) := ba12.cell 1
      have fa12_1 : w12.frozen? ⟨w.heap.size, 1, none⟩ = false := ba12.fz 1
      have la12 : w.heap.size < w12.heap.size := ba12.lt
      have bb12 : Blk w12 (w.heap.size + 1) 23 #[.int .i64 c, .int .i64 d] := (by refine BlkG.start ?_; (repeat (first | ((with_reducible apply BlkG.done); (with_reducible assumption); exact rfl) | (with_reducible exact BlkG.newAt (by first | (with_reducible rfl) | omega | (simp; done) | (simp; omega)) rfl) | (with_reducible refine BlkG.drew ?_) | (with_reducible refine BlkG.drewN ?_) | (with_reducible refine BlkG.set ?_) | (with_reducible refine BlkG.far (by first | omega | (simp; done) | (simp; omega)) ?_) | (with_reducible refine BlkG.alloc ?_) | (with_reducible refine BlkG.bel (by with_reducible assumption) (by first | omega | (simp; done) | (simp; omega)) ?_))))
      have cb12_0 : w12.cell? ⟨w.heap.size + 1, 0, none⟩ = some (.int .i64 c) := bb12.cell 0
      have fb12_0 : w12.frozen? ⟨w.heap.size + 1, 0, none⟩ = false := bb12.fz 0
      have cb12_1 : w12.cell? ⟨w.heap.size + 1, 1, none⟩ = some (.int .i64 d) := bb12.cell 1
      have fb12_1 : w12.frozen? ⟨w.heap.size + 1, 1, none⟩ = false := bb12.fz 1
      have lb12 : w.heap.size + 1 < w12.heap.size := bb12.lt
      have bv12 : Blk w12 (gt + 1) 23 #[.int .i64 (a - a2), .int .i64 (b + a2)] := (by refine BlkG.start ?_; (repeat (first | ((with_reducible apply BlkG.done); (with_reducible assumption); exact rfl) | (with_reducible exact BlkG.newAt (by first | (with_reducible rfl) | omega | (simp; done) | (simp; omega)) rfl) | (with_reducible refine BlkG.drew ?_) | (with_reducible refine BlkG.drewN ?_) | (with_reducible refine BlkG.set ?_) | (with_reducible refine BlkG.far (by first | omega | (simp; done) | (simp; omega)) ?_) | (with_reducible refine BlkG.alloc ?_) | (with_reducible refine BlkG.bel (by with_reducible assumption) (by first | omega | (simp; done) | (simp; omega)) ?_))))
      have cv12_0 : w12.cell? ⟨gt + 1, 0, none⟩ = some (.int .i64 (a - a2)) := bv12.cell 0
      have fv12_0 : w12.frozen? ⟨gt + 1, 0, none⟩ = false := bv12.fz 0
      have cv12_1 : w12.cell? ⟨gt + 1, 1, none⟩ = some (.int .i64 (b + a2)) := bv12.cell 1
      have fv12_1 : w12.frozen? ⟨gt + 1, 1, none⟩ = false := bv12.fz 1
      have lv12 : gt + 1 < w12.heap.size := bv12.lt
      have bx12 : Blk w12 (w6.heap.size) 23 #[.int .i64 T1, .int .i64 T2] := (by refine BlkG.start ?_; (repeat (first | ((with_reducible apply BlkG.done); (with_reducible assumption); exact rfl) | (with_reducible exact BlkG.newAt (by first | (with_reducible rfl) | omega | (simp; done) | (simp; omega)) rfl) | (with_reducible refine BlkG.drew ?_) | (with_reducible refine BlkG.drewN ?_) | (with_reducible refine BlkG.set ?_) | (with_reducible refine BlkG.far (by first | omega | (simp; done) | (simp; omega)) ?_) | (with_reducible refine BlkG.alloc ?_) | (with_reducible refine BlkG.bel (by with_reducible assumption) (by first | omega | (simp; done) | (simp; omega)) ?_))))
      have cx12_0 : w12.cell? ⟨w6.heap.size, 0, none⟩ = some (.int .i64 T1) := bx12.cell 0
      have fx12_0 : w12.frozen? ⟨w6.heap.size, 0, none⟩ = false := bx12.fz 0
      have cx12_1 : w12.cell? ⟨w6.heap.size, 1, none⟩ = some (.int .i64 T2) := bx12.cell 1
      have fx12_1 : w12.frozen? ⟨w6.heap.size, 1, none⟩ = false := bx12.fz 1
      have lx12 : w6.heap.size < w12.heap.size := bx12.lt
      cases ok
      · obtain ⟨rfl, rfl, rfl⟩ := hok0.out rfl
        go_wp2_with fail
        go_meet
        case rel => exact ⟨rfl, (by refine BlkG.start ?_; (repeat (first | ((with_reducible apply BlkG.done); (with_reducible assumption); exact rfl) | (with_reducible exact BlkG.newAt (by first | (with_reducible rfl) | omega | (simp; done) | (simp; omega)) rfl) | (with_reducible refine BlkG.drew ?_) | (with_reducible refine BlkG.drewN ?_) | (with_reducible refine BlkG.set ?_) | (with_reducible refine BlkG.far (by first | omega | (simp; done) | (simp; omega)) ?_) | (with_reducible refine BlkG.alloc ?_) | (with_reducible refine BlkG.bel (by with_reducible assumption) (by first | omega | (simp; done) | (simp; omega)) ?_)))), (by refine BlkG.start ?_; (repeat (first | ((with_reducible apply BlkG.done); (with_reducible assumption); exact rfl) | (with_reducible exact BlkG.newAt (by first | (with_reducible rfl) | omega | (simp; done) | (simp; omega)) rfl) | (with_reducible refine BlkG.drew ?_) | (with_reducible refine BlkG.drewN ?_) | (with_reducible refine BlkG.set ?_) | (with_reducible refine BlkG.far (by first | omega | (simp; done) | (simp; omega)) ?_) | (with_reducible refine BlkG.alloc ?_) | (with_reducible refine BlkG.bel (by with_reducible assumption) (by first | omega | (simp; done) | (simp; omega)) ?_)))), (by refine BlkG.start ?_; (repeat (first | ((with_reducible apply BlkG.done); (with_reducible assumption); exact rfl) | (with_reducible exact BlkG.newAt (by first | (with_reducible rfl) | omega | (simp; done) | (simp; omega)) rfl) | (with_reducible refine BlkG.drew ?_) | (with_reducible refine BlkG.drewN ?_) | (with_reducible refine BlkG.set ?_) | (with_reducible refine BlkG.far (by first | omega | (simp; done) | (simp; omega)) ?_) | (with_reducible refine BlkG.alloc ?_) | (with_reducible refine BlkG.bel (by with_reducible assumption) (by first | omega | (simp; done) | (simp; omega)) ?_)))), (by refine BlkG.start ?_; (repeat (first | ((with_reducible apply BlkG.done); (with_reducible assumption); exact rfl) | (with_reducible exact BlkG.newAt (by first | (with_reducible rfl) | omega | (simp; done) | (simp; omega)) rfl) | (with_reducible refine BlkG.drew ?_) | (with_reducible refine BlkG.drewN ?_) | (with_reducible refine BlkG.set ?_) | (with_reducible refine BlkG.far (by first | omega | (simp; done) | (simp; omega)) ?_) | (with_reducible refine BlkG.alloc ?_) | (with_reducible refine BlkG.bel (by with_reducible assumption) (by first | omega | (simp; done) | (simp; omega)) ?_)))), (by repeat (first | with_reducible exact Below.refl _ _ | (with_reducible refine Below.alloc ?_ (by first | omega | (simp; done) | (simp; omega)) _) | (with_reducible refine Below.setCell ?_ (by first | omega | (simp; done) | (simp; omega)) _) | (with_reducible refine Below.drew ?_) | (with_reducible refine below_drewN ?_ _) | (with_reducible assumption) | (with_reducible refine bel_step (by with_reducible assumption) ?_ (by first | omega | (simp; done) | (simp; omega)))))⟩
      · obtain ⟨rfl, rfl, rfl⟩ := hok1.out rfl
        go_wp2_with fail
        go_meet
        case rel => exact ⟨rfl, (by refine BlkG.start ?_; (repeat (first | ((with_reducible apply BlkG.done); (with_reducible assumption); exact rfl) | (with_reducible exact BlkG.newAt (by first | (with_reducible rfl) | omega | (simp; done) | (simp; omega)) rfl) | (with_reducible refine BlkG.drew ?_) | (with_reducible refine BlkG.drewN ?_) | (with_reducible refine BlkG.set ?_) | (with_reducible refine BlkG.far (by first | omega | (simp; done) | (simp; omega)) ?_) | (with_reducible refine BlkG.alloc ?_) | (with_reducible refine BlkG.bel (by with_reducible assumption) (by first | omega | (simp; done) | (simp; omega)) ?_)))), (by refine BlkG.start ?_; (repeat (first | ((with_reducible apply BlkG.done); (with_reducible assumption); exact rfl) | (with_reducible exact BlkG.newAt (by first | (with_reducible rfl) | omega | (simp; done) | (simp; omega)) rfl) | (with_reducible refine BlkG.drew ?_) | (with_reducible refine BlkG.drewN ?_) | (with_reducible refine BlkG.set ?_) | (with_reducible refine BlkG.far (by first | omega | (simp; done) | (simp; omega)) ?_) | (with_reducible refine BlkG.alloc ?_) | (with_reducible refine BlkG.bel (by with_reducible assumption) (by first | omega | (simp; done) | (simp; omega)) ?_)))), (by refine BlkG.start ?_; (repeat (first | ((with_reducible apply BlkG.done); (with_reducible assumption); exact rfl) | (with_reducible exact BlkG.newAt (by first | (with_reducible rfl) | omega | (simp; done) | (simp; omega)) rfl) | (with_reducible refine BlkG.drew ?_) | (with_reducible refine BlkG.drewN ?_) | (with_reducible refine BlkG.set ?_) | (with_reducible refine BlkG.far (by first | omega | (simp; done) | (simp; omega)) ?_) | (with_reducible refine BlkG.alloc ?_) | (with_reducible refine BlkG.bel (by with_reducible assumption) (by first | omega | (simp; done) | (simp; omega)) ?_)))), (by refine BlkG.start ?_; (repeat (first | ((with_reducible apply BlkG.done); (with_reducible assumption); exact rfl) | (with_reducible exact BlkG.newAt (by first | (with_reducible rfl) | omega | (simp; done) | (simp; omega)) rfl) | (with_reducible refine BlkG.drew ?_) | (with_reducible refine BlkG.drewN ?_) | (with_reducible refine BlkG.set ?_) | (with_reducible refine BlkG.far (by first | omega | (simp; done) | (simp; omega)) ?_) | (with_reducible refine BlkG.alloc ?_) | (with_reducible refine BlkG.bel (by with_reducible assumption) (by first | omega | (simp; done) | (simp; omega)) ?_)))), (by repeat (first | with_reducible exact Below.refl _ _ | (with_reducible refine Below.alloc ?_ (by first | omega | (simp; done) | (simp; omega)) _) | (with_reducible refine Below.setCell ?_ (by first | omega | (simp; done) | (simp; omega)) _) | (with_reducible refine Below.drew ?_) | (with_reducible refine below_drewN ?_ _) | (with_reducible assumption) | (with_reducible refine bel_step (by with_reducible assumption) ?_ (by first | omega | (simp; done) | (simp; omega)))))⟩
  case rest =>
  obtain ⟨rfl, hka, hkb, hkv, hkx, hB⟩ := hcut
  obtain ⟨w12, hw12⟩ : ∃ x : World, x = wc := ⟨_, rfl⟩
  subst hw12
  have ba12 : Blk w12 (w.heap.size) 23 #[.int .i64 a, .int .i64 b] := hka
  have ca12_0 : w12.cell? ⟨w.heap.size, 0, none⟩ = some (.int .i64 a) := ba12.cell 0
  have fa12_0 : w12.frozen? ⟨w.heap.size, 0, none⟩ = false := ba12.fz 0
  have ca12_1 : w12.cell? ⟨w.heap.size, 1, none⟩ = some (.int .i64 b) := ba12.cell 1
  have fa12_1 : w12.frozen? ⟨w.heap.size, 1, none⟩ = false := ba12.fz 1
  have la12 : w.heap.size < w12.heap.size := ba12.lt
  have bb12 : Blk w12 (w.heap.size + 1) 23 #[.int .i64 c, .int .i64 d] := hkb
  have cb12_0 : w12.cell? ⟨w.heap.size + 1, 0, none⟩ = some (.int .i64 c) := bb12.cell 0
  have fb12_0 : w12.frozen? ⟨w.heap.size + 1, 0, none⟩ = false := bb12.fz 0
  have cb12_1 : w12.cell? ⟨w.heap.size + 1, 1, none⟩ = some (.int .i64 d) := bb12.cell 1
  have fb12_1 : w12.frozen? ⟨w.heap.size + 1, 1, none⟩ = false := bb12.fz 1
  have lb12 : w.heap.size + 1 < w12.heap.size := bb12.lt
  have bv12 : Blk w12 (gt + 1) 23 #[.int .i64 W1, .int .i64 W2] := hkv
  have cv12_0 : w12.cell? ⟨gt + 1, 0, none⟩ = some (.int .i64 W1) := bv12.cell 0
  have fv12_0 : w12.frozen? ⟨gt + 1, 0, none⟩ = false := bv12.fz 0
  have cv12_1 : w12.cell? ⟨gt + 1, 1, none⟩ = some (.int .i64 W2) := bv12.cell 1
  have fv12_1 : w12.frozen? ⟨gt + 1, 1, none⟩ = false := bv12.fz 1
  have lv12 : gt + 1 < w12.heap.size := bv12.lt
  have bx12 : Blk w12 (w6.heap.size) 23 #[.int .i64 T1, .int .i64 T2] := hkx
  have cx12_0 : w12.cell? ⟨w6.heap.size, 0, none⟩ = some (.int .i64 T1) := bx12.cell 0
  have fx12_0 : w12.frozen? ⟨w6.heap.size, 0, none⟩ = false := bx12.fz 0
  have cx12_1 : w12.cell? ⟨w6.heap.size, 1, none⟩ = some (.int .i64 T2) := bx12.cell 1
  have fx12_1 : w12.frozen? ⟨w6.heap.size, 1, none⟩ = false := bx12.fz 1
  have lx12 : w6.heap.size < w12.heap.size := bx12.lt
  have HB12 : Below w.heap.size w w12 := hB
  have HZ12 := HB12.size
  clear hB hka hkb hkv hkx
  clear HB11 HZ11
  clear ba11 la11 ca11_0 ca11_1 fa11_0 fa11_1
  clear bb11 lb11 cb11_0 cb11_1 fb11_0 fb11_1
  clear bv11 lv11 cv11_0 cv11_1 fv11_0 fv11_1
  clear bx11 lx11 cx11_0 cx11_1 fx11_0 fx11_1
  go_wp2_with fail
  refine (CWi.out _).mono ?_
  rintro e w13 ⟨rfl, hb13⟩
  have hz13 := hb13.size
  (try simp at hz13)
  have ba13 : Blk w13 (w.heap.size) 23 #[.int .i64 a, .int .i64 b] := (by refine BlkG.start ?_; (repeat (first | ((with_reducible apply BlkG.done); (with_reducible assumption); exact rfl) | (with_reducible exact BlkG.newAt (by first | (with_reducible rfl) | omega | (simp; done) | (simp; omega)) rfl) | (with_reducible refine BlkG.drew ?_) | (with_reducible refine BlkG.drewN ?_) | (with_reducible refine BlkG.set ?_) | (with_reducible refine BlkG.far (by first | omega | (simp; done) | (simp; omega)) ?_) | (with_reducible refine BlkG.alloc ?_) | (with_reducible refine BlkG.bel (by with_reducible assumption) (by first | omega | (simp; done) | (simp; omega)) ?_))))
  have ca13_0 : w13.cell? ⟨w.heap.size, 0, none⟩ = some (.int .i64 a) := ba13.cell 0
  have fa13_0 : w13.frozen? ⟨w.heap.size, 0, none⟩ = false := ba13.fz 0
  have ca13_1 : w13.cell? ⟨w.heap.size, 1, none⟩ = some (.int .i64 b) := ba13.cell 1
  have fa13_1 : w13.frozen? ⟨w.heap.size, 1, none⟩ = false := ba13.fz 1
  have la13 : w.heap.size < w13.heap.size := ba13.lt
  have bb13 : Blk w13 (w.heap.size + 1) 23 #[.int .i64 c, .int .i64 d] := (by refine BlkG.start ?_; (repeat (first | ((with_reducible apply BlkG.done); (with_reducible assumption); exact rfl) | (with_reducible exact BlkG.newAt (by first | (with_reducible rfl) | omega | (simp; done) | (simp; omega)) rfl) | (with_reducible refine BlkG.drew ?_) | (with_reducible refine BlkG.drewN ?_) | (with_reducible refine BlkG.set ?_) | (with_reducible refine BlkG.far (by first | omega | (simp; done) | (simp; omega)) ?_) | (with_reducible refine BlkG.alloc ?_) | (with_reducible refine BlkG.bel (by with_reducible assumption) (by first | omega | (simp; done) | (simp; omega)) ?_))))
  have cb13_0 : w13.cell? ⟨w.heap.size + 1, 0, none⟩ = some (.int .i64 c) := bb13.cell 0
  have fb13_0 : w13.frozen? ⟨w.heap.size + 1, 0, none⟩ = false := bb13.fz 0
  have cb13_1 : w13.cell? ⟨w.heap.size + 1, 1, none⟩ = some (.int .i64 d) := bb13.cell 1
  have fb13_1 : w13.frozen? ⟨w.heap.size + 1, 1, none⟩ = false := bb13.fz 1
  have lb13 : w.heap.size + 1 < w13.heap.size := bb13.lt
  have bv13 : Blk w13 (gt + 1) 23 #[.int .i64 W1, .int .i64 W2] := (by refine BlkG.start ?_; (repeat (first | ((with_reducible apply BlkG.done); (with_reducible assumption); exact rfl) | (with_reducible exact BlkG.newAt (by first | (with_reducible rfl) | omega | (simp; done) | (simp; omega)) rfl) | (with_reducible refine BlkG.drew ?_) | (with_reducible refine BlkG.drewN ?_) | (with_reducible refine BlkG.set ?_) | (with_reducible refine BlkG.far (by first | omega | (simp; done) | (simp; omega)) ?_) | (with_reducible refine BlkG.alloc ?_) | (with_reducible refine BlkG.bel (by with_reducible assumption) (by first | omega | (simp; done) | (simp; omega)) ?_))))
  have cv13_0 : w13.cell? ⟨gt + 1, 0, none⟩ = some (.int .i64 W1) := bv13.cell 0
  have fv13_0 : w13.frozen? ⟨gt + 1, 0, none⟩ = false := bv13.fz 0
  have cv13_1 : w13.cell? ⟨gt + 1, 1, none⟩ = some (.int .i64 W2) := bv13.cell 1
  have fv13_1 : w13.frozen? ⟨gt + 1, 1, none⟩ = false := bv13.fz 1
  have lv13 : gt + 1 < w13.heap.size := bv13.lt
  have bx13 : Blk w13 (w6.heap.size) 23 #[.int .i64 T1, .int .i64 T2] := (by refine BlkG.start ?_; (repeat (first | ((with_reducible apply BlkG.done); (with_reducible assumption); exact rfl) | (with_reducible exact BlkG.newAt (by first | (with_reducible rfl) | omega | (simp; done) | (simp; omega)) rfl) | (with_reducible refine BlkG.drew ?_) | (with_reducible refine BlkG.drewN ?_) | (with_reducible refine BlkG.set ?_) | (with_reducible refine BlkG.far (by first | omega | (simp; done) | (simp; omega)) ?_) | (with_reducible refine BlkG.alloc ?_) | (with_reducible refine BlkG.bel (by with_reducible assumption) (by first | omega | (simp; done) | (simp; omega)) ?_))))
  have cx13_0 : w13.cell? ⟨w6.heap.size, 0, none⟩ = some (.int .i64 T1) := bx13.cell 0
  have fx13_0 : w13.frozen? ⟨w6.heap.size, 0, none⟩ = false := bx13.fz 0
  have cx13_1 : w13.cell? ⟨w6.heap.size, 1, none⟩ = some (.int .i64 T2) := bx13.cell 1
  have fx13_1 : w13.frozen? ⟨w6.heap.size, 1, none⟩ = false := bx13.fz 1
  have lx13 : w6.heap.size < w13.heap.size := bx13.lt
  have HB13 : Below w.heap.size w w13 := (by repeat (first | with_reducible exact Below.refl _ _ | (with_reducible refine Below.alloc ?_ (by first | omega | (simp; done) | (simp; omega)) _) | (with_reducible refine Below.setCell ?_ (by first | omega | (simp; done) | (simp; omega)) _) | (with_reducible refine Below.drew ?_) | (with_reducible refine below_drewN ?_ _) | (with_reducible assumption) | (with_reducible refine bel_step (by with_reducible assumption) ?_ (by first | omega | (simp; done) | (simp; omega)))))
  have HZ13 := HB13.size
  clear hb13 hz13 HB12 HZ12 ba12 la12 ca12_0 fa12_0 ca12_1 fa12_1 bb12 lb12 cb12_0 fb12_0 cb12_1 fb12_1 bv12 lv12 cv12_0 fv12_0 cv12_1 fv12_1 bx12 lx12 cx12_0 fx12_0 cx12_1 fx12_1 
  go_wp2_with fail
  refine (CE.out f1 _ (by repeat (first | with_reducible exact Below.refl _ _ | (with_reducible refine Below.alloc ?_ (by first | omega | (simp; done) | (simp; omega)) _) | (with_reducible refine Below.setCell ?_ (by first | omega | (simp; done) | (simp; omega)) _) | (with_reducible refine Below.drew ?_) | (with_reducible refine below_drewN ?_ _) | (with_reducible assumption) | (with_reducible refine bel_step (by with_reducible assumption) ?_ (by first | omega | (simp; done) | (simp; omega)))))).mono ?_
  rintro e w14 ⟨rfl, hb14⟩
  have hz14 := hb14.size
  (try simp at hz14)
  have ba14 : Blk w14 (w.heap.size) 23 #[.int .i64 a, .int .i64 b] := (by refine BlkG.start ?_; (repeat (first | ((with_reducible apply BlkG.done); (with_reducible assumption); exact rfl) | (with_reducible exact BlkG.newAt (by first | (with_reducible rfl) | omega | (simp; done) | (simp; omega)) rfl) | (with_reducible refine BlkG.drew ?_) | (with_reducible refine BlkG.drewN ?_) | (with_reducible refine BlkG.set ?_) | (with_reducible refine BlkG.far (by first | omega | (simp; done) | (simp; omega)) ?_) | (with_reducible refine BlkG.alloc ?_) | (with_reducible refine BlkG.bel (by with_reducible assumption) (by first | omega | (simp; done) | (simp; omega)) ?_))))
  have ca14_0 : w14.cell? ⟨w.heap.size, 0, none⟩ = some (.int .i64 a) := ba14.cell 0
  have fa14_0 : w14.frozen? ⟨w.heap.size, 0, none⟩ = false := ba14.fz 0
  have ca14_1 : w14.cell? ⟨w.heap.size, 1, none⟩ = some (.int .i64 b) := ba14.cell 1
  have fa14_1 : w14.frozen? ⟨w.heap.size, 1, none⟩ = false := ba14.fz 1
  have la14 : w.heap.size < w14.heap.size := ba14.lt
  have bb14 : Blk w14 (w.heap.size + 1) 23 #[.int .i64 c, .int .i64 d] := (by refine BlkG.start ?_; (repeat (first | ((with_reducible apply BlkG.done); (with_reducible assumption); exact rfl) | (with_reducible exact BlkG.newAt (by first | (with_reducible rfl) | omega | (simp; done) | (simp; omega)) rfl) | (with_reducible refine BlkG.drew ?_) | (with_reducible refine BlkG.drewN ?_) | (with_reducible refine BlkG.set ?_) | (with_reducible refine BlkG.far (by first | omega | (simp; done) | (simp; omega)) ?_) | (with_reducible refine BlkG.alloc ?_) | (with_reducible refine BlkG.bel (by with_reducible assumption) (by first | omega | (simp; done) | (simp; omega)) ?_))))
  have cb14_0 : w14.cell? ⟨w.heap.size + 1, 0, none⟩ = some (.int .i64 c) := bb14.cell 0
  have fb14_0 : w14.frozen? ⟨w.heap.size + 1, 0, none⟩ = false := bb14.fz 0
  have cb14_1 : w14.cell? ⟨w.heap.size + 1, 1, none⟩ = some (.int .i64 d) := bb14.cell 1
  have fb14_1 : w14.frozen? ⟨w.heap.size + 1, 1, none⟩ = false := bb14.fz 1
  have lb14 : w.heap.size + 1 < w14.heap.size := bb14.lt
  have bv14 : Blk w14 (gt + 1) 23 #[.int .i64 W1, .int .i64 W2] := (by refine BlkG.start ?_; (repeat (first | ((with_reducible apply BlkG.done); (with_reducible assumption); exact rfl) | (with_reducible exact BlkG.newAt (by first | (with_reducible rfl) | omega | (simp; done) | (simp; omega)) rfl) | (with_reducible refine BlkG.drew ?_) | (with_reducible refine BlkG.drewN ?_) | (with_reducible refine BlkG.set ?_) | (with_reducible refine BlkG.far (by first | omega | (simp; done) | (simp; omega)) ?_) | (with_reducible refine BlkG.alloc ?_) | (with_reducible refine BlkG.bel (by with_reducible assumption) (by first | omega | (simp; done) | (simp; omega)) ?_))))
  have cv14_0 : w14.cell? ⟨gt + 1, 0, none⟩ = some (.int .i64 W1) := bv14.cell 0
  have fv14_0 : w14.frozen? ⟨gt + 1, 0, none⟩ = false := bv14.fz 0
  have cv14_1 : w14.cell? ⟨gt + 1, 1, none⟩ = some (.int .i64 W2) := bv14.cell 1
  have fv14_1 : w14.frozen? ⟨gt + 1, 1, none⟩ = false := bv14.fz 1
  have lv14 : gt + 1 < w14.heap.size := bv14.lt
  have bx14 : Blk w14 (w6.heap.size) 23 #[.int .i64 W1, .int .i64 W2] := (by refine BlkG.start ?_; (repeat (first | ((with_reducible apply BlkG.done); (with_reducible assumption); exact rfl) | (with_reducible exact BlkG.newAt (by first | (with_reducible rfl) | omega | (simp; done) | (simp; omega)) rfl) | (with_reducible refine BlkG.drew ?_) | (with_reducible refine BlkG.drewN ?_) | (with_reducible refine BlkG.set ?_) | (with_reducible refine BlkG.far (by first | omega | (simp; done) | (simp; omega)) ?_) | (with_reducible refine BlkG.alloc ?_) | (with_reducible refine BlkG.bel (by with_reducible assumption) (by first | omega | (simp; done) | (simp; omega)) ?_))))
  have cx14_0 : w14.cell? ⟨w6.heap.size, 0, none⟩ = some (.int .i64 W1) := bx14.cell 0
  have fx14_0 : w14.frozen? ⟨w6.heap.size, 0, none⟩ = false := bx14.fz 0
  have cx14_1 : w14.cell? ⟨w6.heap.size, 1, none⟩ = some (.int .i64 W2) := bx14.cell 1
  have fx14_1 : w14.frozen? ⟨w6.heap.size, 1, none⟩ = false := bx14.fz 1
  have lx14 : w6.heap.size < w14.heap.size := bx14.lt
  have HB14 : Below w.heap.size w w14 := (by repeat (first | with_reducible exact Below.refl _ _ | (with_reducible refine Below.alloc ?_ (by first | omega | (simp; done) | (simp; omega)) _) | (with_reducible refine Below.setCell ?_ (by first | omega | (simp; done) | (simp; omega)) _) | (with_reducible refine Below.drew ?_) | (with_reducible refine below_drewN ?_ _) | (with_reducible assumption) | (with_reducible refine bel_step (by with_reducible assumption) ?_ (by first | omega | (simp; done) | (simp; omega)))))
  have HZ14 := HB14.size
  clear hb14 hz14 HB13 HZ13 ba13 la13 ca13_0 fa13_0 ca13_1 fa13_1 bb13 lb13 cb13_0 fb13_0 cb13_1 fb13_1 bv13 lv13 cv13_0 fv13_0 cv13_1 fv13_1 bx13 lx13 cx13_0 fx13_0 cx13_1 fx13_1 
  go_upto_if 152 with fail
  go_cut [11] (fun s11 wx => s11 = .int .i64 e2 ∧ w14 = wx)
  case first =>
    as_aux_lemma =>
    cases q
    · have e := Lib.hid (show e2 = 1 by rw [HE2.out, Bool.and_false]; rfl)
      go_wp2_with fail
      go_meet
      case rel => exact ⟨by rw [e.out], rfl⟩
    · have e := Lib.hid (show e2 = e1 by rw [HE2.out, HE1.out, Bool.and_true])
      go_wp2_with fail
      go_meet
      case rel => exact ⟨by rw [e.out], rfl⟩
  case rest =>
  obtain ⟨rfl, hwq⟩ := hcut
  subst hwq
  refine use_k (by assumption) ?_
  exact latter HW.out HG.out CBe.out HE2v.out CHu.out HHu.out CMe.out HMe.out CAd.out HAd.out CRe.out CPa.out ogt agx oxa oxb ba14 bb14 bx14 HB14 rfl

set_option maxRecDepth 100000 in
theorem reads (os : Os) {H : Type} (enc : TypeId × Value → H) : DataW.whole enc Tryd.prog ((laidWorldUH os).forCall (fun _ _ => 0) ⟨#[], #[.agg #[.int .i64 0, .int .i64 0], .agg #[.int .i64 0, .int .i64 0], .int .i64 0, .string ⟨#[]⟩], []⟩).memory Tryd.f4.params.toList Rows.spanTellsSpec.vars false (#[.agg #[.int .i64 0, .int .i64 0], .agg #[.int .i64 0, .int .i64 0], .int .i64 0, .string ⟨#[]⟩] : Array Value).toList 8 = some ([.agg [.lit (.int .i64 0), .lit (.int .i64 0)], .agg [.lit (.int .i64 0), .lit (.int .i64 0)], .lit (.int .i64 0), .lit (.string [])], [], []) :=
  by kernel_rfl
set_option maxRecDepth 100000 in
theorem lifted (os : Os) (started : os.Started) (H : Type) (enc : TypeId × Value → H) (F : Stop.Interp) :
    ReturnsInHanded {} Tryd.checked os 4 .any ((Rows.OpenSpec.upto Rows.spanTellsSpec).preRow enc Tryd.prog Tryd.f4 Rows.spanTellsUptoRow.domain false laidDataUH) (((Rows.OpenSpec.upto Rows.spanTellsSpec).at F).post enc Tryd.prog Tryd.f4 false true false false) := by
  refine returnsInHanded_of_row (C := Tryd.checked) (s := Rows.OpenSpec.upto Rows.spanTellsSpec) own started (by kernel_rfl) Tryd.func4
    (witness_row_at (enc := enc) (C := Tryd.checked) false (laidWorldUH os) #[.agg #[.int .i64 0, .int .i64 0], .agg #[.int .i64 0, .int .i64 0], .int .i64 0, .string ⟨#[]⟩] rfl (by kernel_rfl) (by kernel_rfl) (by kernel_rfl)
      (OpenSpec.preRow_of_cond 8 (reads os enc) (by rfl) (fun k hk => by cases hk; kernel_rfl) (by kernel_rfl) (laidWorldUH_met os _))) ?_
  intro W base args ds gs before hval0 hW hcnd hcond hreach hL hshape _
  have hval : ∀ (j : Nat) t v, Tryd.f4.params[j]? = some t → args[j]? = some v → Value.okWide Tryd.prog W .any base t v := hval0
  have hW' := hW
  obtain ⟨p, q, hA0, hV, rfl, hfz, hnd⟩ := hW
  have hA : DataW.TrodAll enc Tryd.prog W 0 (fun _ => true) true Tryd.f4.params.toList args.toList ds p := hA0
  rw [Tryd.params4] at hA hval
  obtain ⟨v0, vs0, d0, ds0, p0, q0, hargs, rfl, rfl, g0, r0⟩ := trodAll_cons hA
  obtain ⟨v1, vs1, d1, ds1, p1, q1, rfl, rfl, rfl, g1, r1⟩ := trodAll_cons r0
  obtain ⟨v2, vs2, d2, ds2, p2, q2, rfl, rfl, rfl, g2, r2⟩ := trodAll_cons r1
  obtain ⟨v3, vs3, d3, ds3, p3, q3, rfl, rfl, rfl, g3, r3⟩ := trodAll_cons r2
  obtain ⟨rfl, rfl, rfl⟩ := trodAll_nil r3
  obtain rfl : args = #[v0, v1, v2, v3] := by cases args; simp_all
  have hV2 : DataW.TrodVars enc Tryd.prog W (fun _ => true) [] gs q := hV
  obtain ⟨rfl, rfl⟩ : gs = [] ∧ q = [] := by
    cases gs with
    | nil => exact ⟨rfl, hV2⟩
    | cons g r => exact absurd hV2 (by intro h; cases h)
  have k0 := g0
  have lt0 : ∀ x ∈ p0, x.block < W.heap.size := by obtain ⟨m, hm⟩ := k0; exact DataW.trod_lt m _ _ _ hm
  have rd0 : Tryd.prog.readableRec 23 = true := by kernel_rfl
  have ls0 : 23 < Tryd.prog.types.size := of_decide_eq_true (by kernel_rfl)
  obtain ⟨a0, rfl, h0⟩ := open_RSpan (hval 0 23 v0 rfl rfl) g0
  have k1 := g1
  have lt1 : ∀ x ∈ p1, x.block < W.heap.size := by obtain ⟨m, hm⟩ := k1; exact DataW.trod_lt m _ _ _ hm
  have rd1 : Tryd.prog.readableRec 23 = true := by kernel_rfl
  have ls1 : 23 < Tryd.prog.types.size := of_decide_eq_true (by kernel_rfl)
  obtain ⟨a1, rfl, h1⟩ := open_RSpan (hval 1 23 v1 rfl rfl) g1
  obtain ⟨a2, rfl, rfl, rfl, u2⟩ := open_int Tryd.underlying3 (hval 2 3 v2 rfl rfl) g2
  have h2 := bounds_i64 u2
  have k3 := g3
  have lt3 : ∀ x ∈ p3, x.block < W.heap.size := by obtain ⟨m, hm⟩ := k3; exact DataW.trod_lt m _ _ _ hm
  have rd3 : Tryd.prog.readableRec 9 = true := by kernel_rfl
  have ls3 : 9 < Tryd.prog.types.size := of_decide_eq_true (by kernel_rfl)
  obtain ⟨a3, rfl, e3, _, h3⟩ := open_string Tryd.underlying9 (hval 3 9 v3 rfl rfl) g3
  have hbd : Rows.uptoBulkAll ([d0, d1, _, d3] ++ []) ≤ 1048576 := of_decide_eq_true (hcond _ rfl)
  have hz3 : a3.size ≤ 1048576 := by
    rw [e3] at hbd
    simp only [List.cons_append, List.nil_append, Rows.uptoBulkAll, Rows.uptoBulk] at hbd
    have hll : a3.data.toList.length = a3.size := Array.length_toList
    omega
  clear hA0 hval0
  have key : Calls Tryd.prog 4 #[.agg #[.int .i64 a0.lo, .int .i64 a0.hi], .agg #[.int .i64 a1.lo, .int .i64 a1.hi], .int .i64 a2, .string a3] W fun e W' => ∃ v, e = .returned v ∧ Rows.spanTellsSpec.post enc Tryd.prog Tryd.f4 false true false false W #[.agg #[.int .i64 a0.lo, .int .i64 a0.hi], .agg #[.int .i64 a1.lo, .int .i64 a1.hi], .int .i64 a2, .string a3] v W' := by
    refine (walk a0 a1 a2 a3 W h0 h1 h2 h3 (spanW_of_laidUH hL hshape) (handle_of_laidUH hL) hz3).mono fun e W' ⟨he, bel⟩ => ?_
    subst he
    exact ⟨_, rfl, _, _, _, [], _, [], hW', trodAll_mk1 (shut_bool Tryd.underlying4 _), (trodAll_cons_mk (Below.trod laidOut rd0 ls0 k0 bel lt0) (trodAll_cons_mk (Below.trod laidOut rd1 ls1 k1 bel lt1) (trodAll_cons_mk (shut_int Tryd.underlying3 u2) (trodAll_cons_mk (Below.trod laidOut rd3 ls3 k3 bel lt3) trodAll_mk0)))), rfl, bel.frame _, fun h => by cases h⟩
  exact key

theorem over : Rows.spanTellsUptoRow.holds Tryd.pinned (Rows.OpenSpec.upto Rows.spanTellsSpec) :=
  OpenClaim.holds_of_cond 4 Tryd.f4 rfl rfl rfl rfl rfl rfl rfl ⟨rfl, rfl, rfl, rfl, rfl⟩ rfl rfl rfl rfl rfl (by kernel_rfl) Tryd.func4 (by kernel_rfl)
    (of_decide_eq_true (by kernel_rfl)) (by unfold Func.isWrapper; rw [if_neg (of_decide_eq_false (by kernel_rfl))]; exact ⟨rfl, rfl⟩)
    (fun os started H enc _ F => by rw [OpenClaim.pre_eq_preRow]; exact lifted os started H enc F)

theorem card : Rows.SpanTellsUptoCardSaid :=
  Claim7.holds_tied_plain_at .later [] [.data, .data, .data, .handle, .sentinel, .sentinel] true (true, Rows.spanTellsUptoCard.stood.harness.2) true
    over (fun _ h => by cases h) (by kernel_rfl) (fun _ h => by cases h) spanTellsUpto_row_tie rfl ⟨rfl, rfl⟩ (by kernel_rfl) rfl
    (fun f fn hf hfn => by
      obtain rfl : f = 4 := Option.some.inj ((show Tryd.prog.funcNamed "noonmark/noonlaw1.SpanTells" = some 4 by kernel_rfl).symm.trans hf) |>.symm
      obtain rfl : fn = Tryd.f4 := (Option.some.inj (Tryd.func4.symm.trans hfn)).symm
      exact ⟨by kernel_rfl, fun j t ht => by
        rw [Tryd.params4] at ht
        exact noStandIn (ps := #[23, 23, 3, 9]) (by kernel_rfl) ht⟩)
    (by kernel_rfl)

#print axioms card
end Go.Proofs.YtjhfikbjfipmkaaDoor.lSpanTells
