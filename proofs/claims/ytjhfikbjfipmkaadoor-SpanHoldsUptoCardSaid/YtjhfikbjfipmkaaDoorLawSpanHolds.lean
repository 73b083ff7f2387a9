/- Proved: the tied card of noonlaw1.SpanHolds in its second form: it answers true for every input of bulk at most 1048576 and leaves its arguments as they were. The card's own conditions: the listed variables hold what the program's text lays there. -/
import Derived.Test.YtjhfikbjfipmkaaDoorSpanS
import Derived.Test.YtjhfikbjfipmkaaDoorUpto
import Derived.Test.YtjhfikbjfipmkaaDoorBlk
import Derived.Deep.DeepCutAuto
namespace Go.Proofs.YtjhfikbjfipmkaaDoor.lSpanHolds
open Go.ChangeShapes Go.WideShapes Go.ChangeAt Go.RowKit
open Go.ChangeMaps (open_string)
set_option linter.unusedVariables false
set_option linter.unusedSimpArgs false
theorem fact_meet (w : World) : Calls Tryd.prog 5 #[.agg #[.int .i64 1, .int .i64 5], .agg #[.int .i64 3, .int .i64 9]] w fun e w' => e = .returned (.tuple #[.agg #[.int .i64 3, .int .i64 5], .nilIface]) ∧ Below w.heap.size w w' := by
  have h := span_Meet 1 5 3 9 w
  have e : meet 1 5 3 9 = ⟨3, 5, 0⟩ := by kernel_rfl
  rw [e] at h
  exact h
theorem parse_law (t : ByteArray) (hs : t.size ≤ 1048576) : ∃ (q : Bool) (x y : Int) (E : Value), (∀ w, SpanW w → Calls Tryd.prog 6 #[.string t] w fun e w' => e = .returned (.tuple #[.agg #[.int .i64 x, .int .i64 y], E]) ∧ Below w.heap.size w w') ∧
    (∀ w, (binOp .eql 25 E .nilIface).run Tryd.prog w = .ok (.bool q) w) ∧ (∀ w, (eqGuard .eql 25 (.tmp 58) (.const .nilIface) E .nilIface).run Tryd.prog w = .ok () w) ∧
    (q = true → ∀ w, SpanW w → Calls Tryd.prog 7 #[.agg #[.int .i64 x, .int .i64 y]] w fun e w' => e = .returned (.tuple #[.string t, .nilIface]) ∧ Below w.heap.size w w') := by
  have hp := fun w h => span_Parse t.data.toList w h (by rw [str_len2]; exact hs)
  rw [str_of] at hp
  by_cases hc : (parseS t.data.toList).c = 0
  · obtain ⟨h1, h2⟩ := parse_back _ hc
    rw [hc, errV_0] at hp
    refine ⟨true, _, _, _, hp, fun w => by kernel_rfl, fun w => by kernel_rfl, fun _ w h => ?_⟩
    have h3 := span_Print (parseS t.data.toList).lo (parseS t.data.toList).hi w h
    rw [h1] at h3
    unfold printS at h3
    rw [if_pos h1, h2, str_of] at h3
    exact h3
  · rw [errV_ne hc] at hp
    exact ⟨false, _, _, _, hp, fun w => by kernel_rfl, fun w => by kernel_rfl, fun h => by cases h⟩
theorem has_ok (a b n : Int) (p : Bool) (h : rightB a b = true) (hp : hasB a b n = p) (w : World) : Calls Tryd.prog 9 #[.agg #[.int .i64 a, .int .i64 b], .int .i64 n] w fun e w' => e = .returned (.tuple #[.bool p, .nilIface]) ∧ Below w.heap.size w w' := by
  have h1 := span_Has a b n w
  rw [h, hp] at h1
  exact h1
theorem meet_law (a b c d n : Int) (p q : Bool) (h1 : rightB a b = true) (h2 : rightB c d = true) (hp : hasB a b n = p) (hq : hasB c d n = q) : ∃ (com : Bool) (x y : Int) (E : Value) (pq : Bool),
    (∀ w, Calls Tryd.prog 5 #[.agg #[.int .i64 a, .int .i64 b], .agg #[.int .i64 c, .int .i64 d]] w fun e w' => e = .returned (.tuple #[.agg #[.int .i64 x, .int .i64 y], E]) ∧ Below w.heap.size w w') ∧
    (∀ w, (binOp .eql 25 E .nilIface).run Tryd.prog w = .ok (.bool com) w) ∧ (∀ w, (eqGuard .eql 25 (.tmp 130) (.const .nilIface) E .nilIface).run Tryd.prog w = .ok () w) ∧ (p && q) = pq ∧
    (com = true → ∀ w, Calls Tryd.prog 9 #[.agg #[.int .i64 x, .int .i64 y], .int .i64 n] w fun e w' => e = .returned (.tuple #[.bool pq, .nilIface]) ∧ Below w.heap.size w w') ∧ (com = false → pq = false) := by
  have hm := fun w => span_Meet a b c d w
  obtain ⟨g1, g2, g3⟩ := rightB_iff.1 h1
  obtain ⟨g4, g5, g6⟩ := rightB_iff.1 h2
  have hpq : (p && q) = (decide (a ≤ n) && decide (n ≤ b) && (decide (c ≤ n) && decide (n ≤ d))) := by
    rw [← hp, ← hq]
    unfold hasB
    rw [h1, h2]
    simp
  by_cases hc : commonB a b c d = true
  · have e : meet a b c d = ⟨max a c, min b d, 0⟩ := by unfold meet; rw [if_pos ⟨h1, h2⟩, if_pos hc]
    rw [e] at hm
    have hc2 : max a c ≤ min b d := by unfold commonB at hc; simpa using hc
    have hr : rightB (max a c) (min b d) = true := rightB_iff.2 ⟨hc2, by omega, by omega⟩
    have e2 : hasB (max a c) (min b d) n = (p && q) := by
      rw [hpq]
      unfold hasB
      rw [hr]
      by_cases k1 : a ≤ n <;> by_cases k2 : n ≤ b <;> by_cases k3 : c ≤ n <;> by_cases k4 : n ≤ d <;> simp [k1, k2, k3, k4] <;> omega
    exact ⟨true, _, _, _, _, hm, fun w => by kernel_rfl, fun w => by kernel_rfl, rfl, fun _ w => has_ok _ _ _ _ hr e2 w, fun h => by cases h⟩
  · have e : meet a b c d = ⟨0, 0, 5⟩ := by unfold meet; rw [if_pos ⟨h1, h2⟩, if_neg hc]
    rw [e] at hm
    have hc2 : ¬ max a c ≤ min b d := by unfold commonB at hc; simpa using hc
    have e2 : (p && q) = false := by
      rw [hpq]
      by_cases k1 : a ≤ n <;> by_cases k2 : n ≤ b <;> by_cases k3 : c ≤ n <;> by_cases k4 : n ≤ d <;> simp [k1, k2, k3, k4] <;> omega
    exact ⟨false, _, _, _, _, hm, fun w => by kernel_rfl, fun w => by kernel_rfl, rfl, fun h => (by cases h), fun _ => e2⟩
theorem add_law (a b c d n m : Int) (h1 : rightB a b = true) (h2 : rightB c d = true) : ∃ (ok : Bool) (x y : Int) (E : Value),
    (∀ w, Calls Tryd.prog 10 #[.agg #[.int .i64 a, .int .i64 b], .agg #[.int .i64 c, .int .i64 d]] w fun e w' => e = .returned (.tuple #[.agg #[.int .i64 x, .int .i64 y], E]) ∧ Below w.heap.size w w') ∧
    (ok = true → E = .nilIface) ∧ (ok = false → E = .iface 47 (.int .i64 1)) ∧
    (ok = true → hasB a b n = true → hasB c d m = true → IntKind.i64.wrap (n + m) = n + m ∧ ∀ w, Calls Tryd.prog 9 #[.agg #[.int .i64 x, .int .i64 y], .int .i64 (n + m)] w fun e w' => e = .returned (.tuple #[.bool true, .nilIface]) ∧ Below w.heap.size w w') := by
  have hm := fun w => span_Add a b c d w
  have e : addS a b c d = whole (a + c) (b + d) := by unfold addS; rw [if_pos ⟨h1, h2⟩]
  rw [e] at hm
  unfold whole at hm
  by_cases hr : rightB (a + c) (b + d) = true
  · rw [if_pos hr] at hm
    refine ⟨true, _, _, _, hm, fun _ => rfl, fun h => (by cases h), fun _ k1 k2 => ?_⟩
    obtain ⟨g1, g2, g3⟩ := rightB_iff.1 h1
    obtain ⟨g4, g5, g6⟩ := rightB_iff.1 h2
    have k1 : a ≤ n ∧ n ≤ b := by unfold hasB at k1; simp [h1] at k1; omega
    have k2 : c ≤ m ∧ m ≤ d := by unfold hasB at k2; simp [h2] at k2; omega
    exact ⟨IntWalk.i64_in _ (by omega), fun w => has_ok _ _ _ _ hr (by unfold hasB; rw [hr]; simp; omega) w⟩
  · rw [if_neg hr] at hm
    exact ⟨false, _, _, _, hm, fun h => (by cases h), fun _ => rfl, fun h => (by cases h)⟩
theorem wrap_in {n : Int} (h0 : -9223372036854775808 ≤ n) (h1 : n ≤ 9223372036854775807) : wrap64 n = n := IntWalk.wrap64_in n ⟨h0, h1⟩
theorem turn_law (a b n : Int) (h1 : rightB a b = true) : ∃ (N : Int) (k : Bool), (∀ w, Calls Tryd.prog 11 #[.agg #[.int .i64 a, .int .i64 b]] w fun e w' => e = .returned (.tuple #[.agg #[.int .i64 (-b), .int .i64 (-a)], .nilIface]) ∧ Below w.heap.size w w') ∧
    wrap64 (-n) = N ∧ wrap64 (-a) = -a ∧ (∀ w, Calls Tryd.prog 9 #[.agg #[.int .i64 (-b), .int .i64 (-a)], .int .i64 N] w fun e w' => e = .returned (.tuple #[.bool k, .nilIface]) ∧ Below w.heap.size w w') ∧ (hasB a b n = true → k = true) := by
  have hm := fun w => span_Turn a b w
  have e : turnS a b = ⟨-b, -a, 0⟩ := by unfold turnS; rw [if_pos h1]
  rw [e] at hm
  obtain ⟨g1, g2, g3⟩ := rightB_iff.1 h1
  have hr : rightB (-b) (-a) = true := rightB_iff.2 ⟨by omega, by omega, by omega⟩
  refine ⟨_, _, hm, rfl, wrap_in (by omega) (by omega), fun w => has_ok _ _ _ _ hr rfl w, fun k1 => ?_⟩
  have k1 : a ≤ n ∧ n ≤ b := by unfold hasB at k1; simp [h1] at k1; omega
  rw [wrap_in (by omega) (by omega)]
  unfold hasB
  rw [hr]
  simp
  omega
theorem print_ok (a b : Int) (h1 : rightB a b = true) : ∃ s : ByteArray, (∀ w, SpanW w → Calls Tryd.prog 7 #[.agg #[.int .i64 a, .int .i64 b]] w fun e w' => e = .returned (.tuple #[.string s, .nilIface]) ∧ Below w.heap.size w w') ∧
    (∀ w, SpanW w → Calls Tryd.prog 6 #[.string s] w fun e w' => e = .returned (.tuple #[.agg #[.int .i64 a, .int .i64 b], .nilIface]) ∧ Below w.heap.size w w') := by
  have h3 := fun w h => span_Print a b w h
  rw [h1] at h3
  unfold printS at h3
  rw [if_pos h1] at h3
  refine ⟨_, h3, fun w h => ?_⟩
  have h4 := span_Parse (printL a b) w h (by
    obtain ⟨g1, g2, g3⟩ := rightB_iff.1 h1
    have l1 := itoa_len a (by omega) (by omega)
    have l2 := itoa_len b (by omega) (by omega)
    unfold printL dots
    simp only [List.length_append, List.length_cons, List.length_nil]
    split at l1 <;> split at l2 <;> omega)
  rw [parse_print a b h1] at h4
  exact h4
theorem print_no (a b : Int) (h1 : rightB a b = false) (w : World) (h : SpanW w) : ∃ s : ByteArray, Calls Tryd.prog 7 #[.agg #[.int .i64 a, .int .i64 b]] w fun e w' => e = .returned (.tuple #[.string s, .iface 47 (.int .i64 1)]) ∧ Below w.heap.size w w' := by
  have h3 := span_Print a b w h
  rw [h1] at h3
  exact ⟨_, h3⟩
theorem check_ok (a b : Int) (h : rightB a b = true) (w : World) : Calls Tryd.prog 8 #[.agg #[.int .i64 a, .int .i64 b]] w fun e w' => e = .returned .nilIface ∧ Below w.heap.size w w' := by
  have h1 := span_Check a b w
  rw [h] at h1
  exact h1
theorem check_no (a b : Int) (h : rightB a b = false) (w : World) : Calls Tryd.prog 8 #[.agg #[.int .i64 a, .int .i64 b]] w fun e w' => e = .returned (.iface 47 (.int .i64 1)) ∧ Below w.heap.size w w' := by
  have h1 := span_Check a b w
  rw [h] at h1
  exact h1
theorem has_of {a b n : Int} (h1 : rightB a b = true) (h : hasB a b n = true) : a ≤ n ∧ n ≤ b := by unfold hasB at h; simp [h1] at h; omega
set_option maxRecDepth 100000 in
set_option maxHeartbeats 8000000 in
theorem walk (a0 : RSpan) (a1 : RSpan) (a2 : Int) (a3 : Int) (a4 : ByteArray) (w : World) (h0 : a0.ok) (h1 : a1.ok) (h2 : -9223372036854775808 ≤ a2 ∧ a2 ≤ 9223372036854775807) (h3 : -9223372036854775808 ≤ a3 ∧ a3 ≤ 9223372036854775807) (h4 : a4.size ≤ maxLen) (HS : SpanW w) (hz : a4.size ≤ 1048576) :
    Calls Tryd.prog 3 #[.agg #[.int .i64 a0.lo, .int .i64 a0.hi], .agg #[.int .i64 a1.lo, .int .i64 a1.hi], .int .i64 a2, .int .i64 a3, .string a4] w fun e w' => e = .returned (.bool true) ∧ Below w.heap.size w w' := by
  obtain ⟨a, b⟩ := a0
  obtain ⟨c, d⟩ := a1
  dsimp only
  obtain ⟨q, x, y, E, CP, hq, hq2, hp⟩ := parse_law a4 hz
  have HW := Lib.hid HS
  have HP := Lib.hid hp
  have CP := Lib.hid CP
  have CM := Lib.hid fact_meet
  clear HS hz hp h0 h1 h4
  go_enter Tryd.func3, Tryd.ntmps3
  go_upto_if 59 with (first | (go_at_call 5; refine (CM.out _).mono ?_; rintro e w1 ⟨rfl, hb1⟩; obtain ⟨hc1, hf1⟩ := bcell hb1; have hz1 := hb1.size; (try simp at hz1); (try have q1_0_0_0 : w.heap.size < w1.heap.size := by omega); (try have q1_0_0_2 : w.heap.size < w1.heap.size + 1 + 1 := by omega); (try have q1_0_0_3 : w.heap.size < w1.heap.size + 1 + 1 + 1 := by omega); (try have q1_0_1_0 : w.heap.size + 1 < w1.heap.size := by omega); (try have q1_0_1_2 : w.heap.size + 1 < w1.heap.size + 1 + 1 := by omega); (try have q1_0_1_3 : w.heap.size + 1 < w1.heap.size + 1 + 1 + 1 := by omega); (try have q1_0_2_0 : w.heap.size + 1 + 1 < w1.heap.size := by omega); (try have q1_0_2_2 : w.heap.size + 1 + 1 < w1.heap.size + 1 + 1 := by omega); (try have q1_0_2_3 : w.heap.size + 1 + 1 < w1.heap.size + 1 + 1 + 1 := by omega); (try have q1_0_3_0 : w.heap.size + 1 + 1 + 1 < w1.heap.size := by omega); (try have q1_0_3_2 : w.heap.size + 1 + 1 + 1 < w1.heap.size + 1 + 1 := by omega); (try have q1_0_3_3 : w.heap.size + 1 + 1 + 1 < w1.heap.size + 1 + 1 + 1 := by omega)) | (go_at_call 6; refine (CP.out _ (SpanW.below HW.out (by repeat (first | with_reducible exact Below.refl _ _ | (with_reducible refine Below.alloc ?_ (by first | omega | (simp; done) | (simp; omega)) _) | (with_reducible refine Below.setCell ?_ (by first | omega | (simp; done) | (simp; omega)) _) | (with_reducible refine Below.drew ?_) | (with_reducible refine below_drewN ?_ _) | (with_reducible assumption) | (with_reducible refine bel_step (by with_reducible assumption) ?_ (by first | omega | (simp; done) | (simp; omega))))))).mono ?_; rintro e w2 ⟨rfl, hb2⟩; obtain ⟨hc2, hf2⟩ := bcell hb2; have hz2 := hb2.size; (try simp at hz2); (try have q2_0_0_0 : w.heap.size < w2.heap.size := by omega); (try have q2_0_0_2 : w.heap.size < w2.heap.size + 1 + 1 := by omega); (try have q2_0_0_3 : w.heap.size < w2.heap.size + 1 + 1 + 1 := by omega); (try have q2_0_1_0 : w.heap.size + 1 < w2.heap.size := by omega); (try have q2_0_1_2 : w.heap.size + 1 < w2.heap.size + 1 + 1 := by omega); (try have q2_0_1_3 : w.heap.size + 1 < w2.heap.size + 1 + 1 + 1 := by omega); (try have q2_0_2_0 : w.heap.size + 1 + 1 < w2.heap.size := by omega); (try have q2_0_2_2 : w.heap.size + 1 + 1 < w2.heap.size + 1 + 1 := by omega); (try have q2_0_2_3 : w.heap.size + 1 + 1 < w2.heap.size + 1 + 1 + 1 := by omega); (try have q2_0_3_0 : w.heap.size + 1 + 1 + 1 < w2.heap.size := by omega); (try have q2_0_3_2 : w.heap.size + 1 + 1 + 1 < w2.heap.size + 1 + 1 := by omega); (try have q2_0_3_3 : w.heap.size + 1 + 1 + 1 < w2.heap.size + 1 + 1 + 1 := by omega); (try have q2_1_0_0 : w1.heap.size < w2.heap.size := by omega); (try have q2_1_0_2 : w1.heap.size < w2.heap.size + 1 + 1 := by omega); (try have q2_1_1_0 : w1.heap.size + 1 < w2.heap.size := by omega); (try have q2_1_1_2 : w1.heap.size + 1 < w2.heap.size + 1 + 1 := by omega)))
  have KA := Lib.hid (show Blk w2 w.heap.size 23 #[.int .i64 a, .int .i64 b] from (by refine BlkG.start ?_; (repeat (first | ((with_reducible apply BlkG.done); (with_reducible assumption); exact rfl) | (with_reducible exact BlkG.newAt (by first | (with_reducible rfl) | omega | (simp; done) | (simp; omega)) rfl) | (with_reducible refine BlkG.drew ?_) | (with_reducible refine BlkG.drewN ?_) | (with_reducible refine BlkG.set ?_) | (with_reducible refine BlkG.far (by first | omega | (simp; done) | (simp; omega)) ?_) | (with_reducible refine BlkG.alloc ?_) | (with_reducible refine BlkG.bel (by with_reducible assumption) (by first | omega | (simp; done) | (simp; omega)) ?_)))))
  have KB := Lib.hid (show Blk w2 (w.heap.size + 1) 23 #[.int .i64 c, .int .i64 d] from (by refine BlkG.start ?_; (repeat (first | ((with_reducible apply BlkG.done); (with_reducible assumption); exact rfl) | (with_reducible exact BlkG.newAt (by first | (with_reducible rfl) | omega | (simp; done) | (simp; omega)) rfl) | (with_reducible refine BlkG.drew ?_) | (with_reducible refine BlkG.drewN ?_) | (with_reducible refine BlkG.set ?_) | (with_reducible refine BlkG.far (by first | omega | (simp; done) | (simp; omega)) ?_) | (with_reducible refine BlkG.alloc ?_) | (with_reducible refine BlkG.bel (by with_reducible assumption) (by first | omega | (simp; done) | (simp; omega)) ?_)))))
  have hB2 : Below w.heap.size w w2 := (by repeat (first | with_reducible exact Below.refl _ _ | (with_reducible refine Below.alloc ?_ (by first | omega | (simp; done) | (simp; omega)) _) | (with_reducible refine Below.setCell ?_ (by first | omega | (simp; done) | (simp; omega)) _) | (with_reducible refine Below.drew ?_) | (with_reducible refine below_drewN ?_ _) | (with_reducible assumption) | (with_reducible refine bel_step (by with_reducible assumption) ?_ (by first | omega | (simp; done) | (simp; omega)))))
  have hz2' : w.heap.size + 2 ≤ w2.heap.size := by omega
  have HB2 := Lib.hid hB2
  have HZ2 := Lib.hid hz2'
  clear hc1 hf1 hb1 hz1 hc2 hf2 hb2 hz2 hB2 hq hq2 hz2'
  go_cut [15, 16] (fun _ _ wx => Blk wx w2.heap.size 23 #[.int .i64 x, .int .i64 y] ∧ Below w2.heap.size w2 wx)
  case first =>
    cases q
    · go_wp2_with fail
      go_meet
      case rel => exact ⟨Blk.new _ _ _, (by repeat (first | with_reducible exact Below.refl _ _ | (with_reducible refine Below.alloc ?_ (by first | omega | (simp; done) | (simp; omega)) _) | (with_reducible refine Below.setCell ?_ (by first | omega | (simp; done) | (simp; omega)) _) | (with_reducible refine Below.drew ?_) | (with_reducible refine below_drewN ?_ _) | (with_reducible assumption) | (with_reducible refine bel_step (by with_reducible assumption) ?_ (by first | omega | (simp; done) | (simp; omega)))))⟩
    · have C2 := Lib.hid (HP.out rfl)
      go_wp2_with fail
      (try (go_at_call 7; refine (C2.out _ (SpanW.below HW.out (by have := HB2.out; have := HZ2.out; exact (by repeat (first | with_reducible exact Below.refl _ _ | (with_reducible refine Below.alloc ?_ (by first | omega | (simp; done) | (simp; omega)) _) | (with_reducible refine Below.setCell ?_ (by first | omega | (simp; done) | (simp; omega)) _) | (with_reducible refine Below.drew ?_) | (with_reducible refine below_drewN ?_ _) | (with_reducible assumption) | (with_reducible refine bel_step (by with_reducible assumption) ?_ (by first | omega | (simp; done) | (simp; omega)))))))).mono ?_; rintro e w3 ⟨rfl, hb3⟩; obtain ⟨hc3, hf3⟩ := bcell hb3; have hz3 := hb3.size; (try simp at hz3); (try have q3_0_0_0 : w.heap.size < w3.heap.size := by omega); (try have q3_0_0_2 : w.heap.size < w3.heap.size + 1 + 1 := by omega); (try have q3_0_0_3 : w.heap.size < w3.heap.size + 1 + 1 + 1 := by omega); (try have q3_0_1_0 : w.heap.size + 1 < w3.heap.size := by omega); (try have q3_0_1_2 : w.heap.size + 1 < w3.heap.size + 1 + 1 := by omega); (try have q3_0_1_3 : w.heap.size + 1 < w3.heap.size + 1 + 1 + 1 := by omega); (try have q3_0_2_0 : w.heap.size + 1 + 1 < w3.heap.size := by omega); (try have q3_0_2_2 : w.heap.size + 1 + 1 < w3.heap.size + 1 + 1 := by omega); (try have q3_0_2_3 : w.heap.size + 1 + 1 < w3.heap.size + 1 + 1 + 1 := by omega); (try have q3_0_3_0 : w.heap.size + 1 + 1 + 1 < w3.heap.size := by omega); (try have q3_0_3_2 : w.heap.size + 1 + 1 + 1 < w3.heap.size + 1 + 1 := by omega); (try have q3_0_3_3 : w.heap.size + 1 + 1 + 1 < w3.heap.size + 1 + 1 + 1 := by omega); (try have q3_1_0_0 : w1.heap.size < w3.heap.size := by omega); (try have q3_1_0_2 : w1.heap.size < w3.heap.size + 1 + 1 := by omega); (try have q3_1_1_0 : w1.heap.size + 1 < w3.heap.size := by omega); (try have q3_1_1_2 : w1.heap.size + 1 < w3.heap.size + 1 + 1 := by omega); (try have q3_2_0_0 : w2.heap.size < w3.heap.size := by omega); (try have q3_2_0_2 : w2.heap.size < w3.heap.size + 1 + 1 := by omega); (try have q3_2_1_0 : w2.heap.size + 1 < w3.heap.size := by omega); (try have q3_2_1_2 : w2.heap.size + 1 < w3.heap.size + 1 + 1 := by omega); (try go_wp2_with fail)))
      go_meet
      case rel => exact ⟨(Blk.new w2 _ _).below hb3 (by simp), (by repeat (first | with_reducible exact Below.refl _ _ | (with_reducible refine Below.alloc ?_ (by first | omega | (simp; done) | (simp; omega)) _) | (with_reducible refine Below.setCell ?_ (by first | omega | (simp; done) | (simp; omega)) _) | (with_reducible refine Below.drew ?_) | (with_reducible refine below_drewN ?_ _) | (with_reducible assumption) | (with_reducible refine bel_step (by with_reducible assumption) ?_ (by first | omega | (simp; done) | (simp; omega)))))⟩
  case rest =>
    obtain ⟨hK, hB⟩ := hcut
    have KA3 := Lib.hid (KA.out.below hB KA.out.lt)
    have KB3 := Lib.hid (KB.out.below hB KB.out.lt)
    have HB3 : Below w.heap.size w wc := HB2.out.trans (hB.mono HB2.out.size)
    have HZ3 := HB3.size
    obtain ⟨gx, egx⟩ : ∃ g, w2.heap.size = g := ⟨_, rfl⟩
    have ogx : w.heap.size + 1 < gx := by have := HZ2.out; omega
    have o0 : w.heap.size ≠ gx := by omega
    rw [egx] at hK ⊢
    have KX3 := Lib.hid hK
    clear hK hB KA KB HB2 HZ2 egx HP CP CM
    have ba3 : Blk wc (w.heap.size) 23 #[.int .i64 a, .int .i64 b] := KA3.out
    have ca3_0 : wc.cell? ⟨w.heap.size, 0, none⟩ = some (.int .i64 a) := ba3.cell 0
    have fa3_0 : wc.frozen? ⟨w.heap.size, 0, none⟩ = false := ba3.fz 0
    have ca3_1 : wc.cell? ⟨w.heap.size, 1, none⟩ = some (.int .i64 b) := ba3.cell 1
    have fa3_1 : wc.frozen? ⟨w.heap.size, 1, none⟩ = false := ba3.fz 1
    have la3 : w.heap.size < wc.heap.size := ba3.lt
    have bb3 : Blk wc (w.heap.size + 1) 23 #[.int .i64 c, .int .i64 d] := KB3.out
    have cb3_0 : wc.cell? ⟨w.heap.size + 1, 0, none⟩ = some (.int .i64 c) := bb3.cell 0
    have fb3_0 : wc.frozen? ⟨w.heap.size + 1, 0, none⟩ = false := bb3.fz 0
    have cb3_1 : wc.cell? ⟨w.heap.size + 1, 1, none⟩ = some (.int .i64 d) := bb3.cell 1
    have fb3_1 : wc.frozen? ⟨w.heap.size + 1, 1, none⟩ = false := bb3.fz 1
    have lb3 : w.heap.size + 1 < wc.heap.size := bb3.lt
    have bx3 : Blk wc (gx) 23 #[.int .i64 x, .int .i64 y] := KX3.out
    have cx3_0 : wc.cell? ⟨gx, 0, none⟩ = some (.int .i64 x) := bx3.cell 0
    have fx3_0 : wc.frozen? ⟨gx, 0, none⟩ = false := bx3.fz 0
    have cx3_1 : wc.cell? ⟨gx, 1, none⟩ = some (.int .i64 y) := bx3.cell 1
    have fx3_1 : wc.frozen? ⟨gx, 1, none⟩ = false := bx3.fz 1
    have lx3 : gx < wc.heap.size := bx3.lt
    clear KA3 KB3 KX3
    by_cases h1 : rightB a b = true
    · as_aux_lemma =>
      obtain ⟨s, CPr, CPa⟩ := print_ok a b h1
      have CPr := Lib.hid CPr
      have CPa := Lib.hid CPa
      go_wp2_with fail
      refine (CPr.out _ (SpanW.below HW.out (by repeat (first | with_reducible exact Below.refl _ _ | (with_reducible refine Below.alloc ?_ (by first | omega | (simp; done) | (simp; omega)) _) | (with_reducible refine Below.setCell ?_ (by first | omega | (simp; done) | (simp; omega)) _) | (with_reducible refine Below.drew ?_) | (with_reducible refine below_drewN ?_ _) | (with_reducible assumption) | (with_reducible refine bel_step (by with_reducible assumption) ?_ (by first | omega | (simp; done) | (simp; omega))))))).mono ?_
      rintro e w4 ⟨rfl, hb4⟩
      have hz4 := hb4.size
      (try simp at hz4)
      have ba4 : Blk w4 (w.heap.size) 23 #[.int .i64 a, .int .i64 b] := (by refine BlkG.start ?_; (repeat (first | ((with_reducible apply BlkG.done); (with_reducible assumption); exact rfl) | (with_reducible exact BlkG.newAt (by first | (with_reducible rfl) | omega | (simp; done) | (simp; omega)) rfl) | (with_reducible refine BlkG.drew ?_) | (with_reducible refine BlkG.drewN ?_) | (with_reducible refine BlkG.set ?_) | (with_reducible refine BlkG.far (by first | omega | (simp; done) | (simp; omega)) ?_) | (with_reducible refine BlkG.alloc ?_) | (with_reducible refine BlkG.bel (by with_reducible assumption) (by first | omega | (simp; done) | (simp; omega)) ?_))))
      have ca4_0 : w4.cell? ⟨w.heap.size, 0, none⟩ = some (.int .i64 a) := ba4.cell 0
      have fa4_0 : w4.frozen? ⟨w.heap.size, 0, none⟩ = false := ba4.fz 0
      have ca4_1 : w4.cell? ⟨w.heap.size, 1, none⟩ = some (.int .i64 b) := ba4.cell 1
      have fa4_1 : w4.frozen? ⟨w.heap.size, 1, none⟩ = false := ba4.fz 1
      have la4 : w.heap.size < w4.heap.size := ba4.lt
      have bb4 : Blk w4 (w.heap.size + 1) 23 #[.int .i64 c, .int .i64 d] := (by refine BlkG.start ?_; (repeat (first | ((with_reducible apply BlkG.done); (with_reducible assumption); exact rfl) | (with_reducible exact BlkG.newAt (by first | (with_reducible rfl) | omega | (simp; done) | (simp; omega)) rfl) | (with_reducible refine BlkG.drew ?_) | (with_reducible refine BlkG.drewN ?_) | (with_reducible refine BlkG.set ?_) | (with_reducible refine BlkG.far (by first | omega | (simp; done) | (simp; omega)) ?_) | (with_reducible refine BlkG.alloc ?_) | (with_reducible refine BlkG.bel (by with_reducible assumption) (by first | omega | (simp; done) | (simp; omega)) ?_))))
      have cb4_0 : w4.cell? ⟨w.heap.size + 1, 0, none⟩ = some (.int .i64 c) := bb4.cell 0
      have fb4_0 : w4.frozen? ⟨w.heap.size + 1, 0, none⟩ = false := bb4.fz 0
      have cb4_1 : w4.cell? ⟨w.heap.size + 1, 1, none⟩ = some (.int .i64 d) := bb4.cell 1
      have fb4_1 : w4.frozen? ⟨w.heap.size + 1, 1, none⟩ = false := bb4.fz 1
      have lb4 : w.heap.size + 1 < w4.heap.size := bb4.lt
      have bx4 : Blk w4 (gx) 23 #[.int .i64 x, .int .i64 y] := (by refine BlkG.start ?_; (repeat (first | ((with_reducible apply BlkG.done); (with_reducible assumption); exact rfl) | (with_reducible exact BlkG.newAt (by first | (with_reducible rfl) | omega | (simp; done) | (simp; omega)) rfl) | (with_reducible refine BlkG.drew ?_) | (with_reducible refine BlkG.drewN ?_) | (with_reducible refine BlkG.set ?_) | (with_reducible refine BlkG.far (by first | omega | (simp; done) | (simp; omega)) ?_) | (with_reducible refine BlkG.alloc ?_) | (with_reducible refine BlkG.bel (by with_reducible assumption) (by first | omega | (simp; done) | (simp; omega)) ?_))))
      have cx4_0 : w4.cell? ⟨gx, 0, none⟩ = some (.int .i64 x) := bx4.cell 0
      have fx4_0 : w4.frozen? ⟨gx, 0, none⟩ = false := bx4.fz 0
      have cx4_1 : w4.cell? ⟨gx, 1, none⟩ = some (.int .i64 y) := bx4.cell 1
      have fx4_1 : w4.frozen? ⟨gx, 1, none⟩ = false := bx4.fz 1
      have lx4 : gx < w4.heap.size := bx4.lt
      have HB4 : Below w.heap.size w w4 := (by repeat (first | with_reducible exact Below.refl _ _ | (with_reducible refine Below.alloc ?_ (by first | omega | (simp; done) | (simp; omega)) _) | (with_reducible refine Below.setCell ?_ (by first | omega | (simp; done) | (simp; omega)) _) | (with_reducible refine Below.drew ?_) | (with_reducible refine below_drewN ?_ _) | (with_reducible assumption) | (with_reducible refine bel_step (by with_reducible assumption) ?_ (by first | omega | (simp; done) | (simp; omega)))))
      have HZ4 := HB4.size
      clear hb4 hz4 HB3 HZ3 ba3 la3 ca3_0 fa3_0 ca3_1 fa3_1 bb3 lb3 cb3_0 fb3_0 cb3_1 fb3_1 bx3 lx3 cx3_0 fx3_0 cx3_1 fx3_1 
      by_cases h2 : rightB c d = true
      · as_aux_lemma =>
        have CC := Lib.hid (check_ok c d h2)
        go_wp2_with fail
        refine (CC.out _).mono ?_
        rintro e w5 ⟨rfl, hb5⟩
        have hz5 := hb5.size
        (try simp at hz5)
        have ba5 : Blk w5 (w.heap.size) 23 #[.int .i64 a, .int .i64 b] := (by refine BlkG.start ?_; (repeat (first | ((with_reducible apply BlkG.done); (with_reducible assumption); exact rfl) | (with_reducible exact BlkG.newAt (by first | (with_reducible rfl) | omega | (simp; done) | (simp; omega)) rfl) | (with_reducible refine BlkG.drew ?_) | (with_reducible refine BlkG.drewN ?_) | (with_reducible refine BlkG.set ?_) | (with_reducible refine BlkG.far (by first | omega | (simp; done) | (simp; omega)) ?_) | (with_reducible refine BlkG.alloc ?_) | (with_reducible refine BlkG.bel (by with_reducible assumption) (by first | omega | (simp; done) | (simp; omega)) ?_))))
        have ca5_0 : w5.cell? ⟨w.heap.size, 0, none⟩ = some (.int .i64 a) := ba5.cell 0
        have fa5_0 : w5.frozen? ⟨w.heap.size, 0, none⟩ = false := ba5.fz 0
        have ca5_1 : w5.cell? ⟨w.heap.size, 1, none⟩ = some (.int .i64 b) := ba5.cell 1
        have fa5_1 : w5.frozen? ⟨w.heap.size, 1, none⟩ = false := ba5.fz 1
        have la5 : w.heap.size < w5.heap.size := ba5.lt
        have bb5 : Blk w5 (w.heap.size + 1) 23 #[.int .i64 c, .int .i64 d] := (by refine BlkG.start ?_; (repeat (first | ((with_reducible apply BlkG.done); (with_reducible assumption); exact rfl) | (with_reducible exact BlkG.newAt (by first | (with_reducible rfl) | omega | (simp; done) | (simp; omega)) rfl) | (with_reducible refine BlkG.drew ?_) | (with_reducible refine BlkG.drewN ?_) | (with_reducible refine BlkG.set ?_) | (with_reducible refine BlkG.far (by first | omega | (simp; done) | (simp; omega)) ?_) | (with_reducible refine BlkG.alloc ?_) | (with_reducible refine BlkG.bel (by with_reducible assumption) (by first | omega | (simp; done) | (simp; omega)) ?_))))
        have cb5_0 : w5.cell? ⟨w.heap.size + 1, 0, none⟩ = some (.int .i64 c) := bb5.cell 0
        have fb5_0 : w5.frozen? ⟨w.heap.size + 1, 0, none⟩ = false := bb5.fz 0
        have cb5_1 : w5.cell? ⟨w.heap.size + 1, 1, none⟩ = some (.int .i64 d) := bb5.cell 1
        have fb5_1 : w5.frozen? ⟨w.heap.size + 1, 1, none⟩ = false := bb5.fz 1
        have lb5 : w.heap.size + 1 < w5.heap.size := bb5.lt
        have bx5 : Blk w5 (gx) 23 #[.int .i64 x, .int .i64 y] := (by refine BlkG.start ?_; (repeat (first | ((with_reducible apply BlkG.done); (with_reducible assumption); exact rfl) | (with_reducible exact BlkG.newAt (by first | (with_reducible rfl) | omega | (simp; done) | (simp; omega)) rfl) | (with_reducible refine BlkG.drew ?_) | (with_reducible refine BlkG.drewN ?_) | (with_reducible refine BlkG.set ?_) | (with_reducible refine BlkG.far (by first | omega | (simp; done) | (simp; omega)) ?_) | (with_reducible refine BlkG.alloc ?_) | (with_reducible refine BlkG.bel (by with_reducible assumption) (by first | omega | (simp; done) | (simp; omega)) ?_))))
        have cx5_0 : w5.cell? ⟨gx, 0, none⟩ = some (.int .i64 x) := bx5.cell 0
        have fx5_0 : w5.frozen? ⟨gx, 0, none⟩ = false := bx5.fz 0
        have cx5_1 : w5.cell? ⟨gx, 1, none⟩ = some (.int .i64 y) := bx5.cell 1
        have fx5_1 : w5.frozen? ⟨gx, 1, none⟩ = false := bx5.fz 1
        have lx5 : gx < w5.heap.size := bx5.lt
        have HB5 : Below w.heap.size w w5 := (by repeat (first | with_reducible exact Below.refl _ _ | (with_reducible refine Below.alloc ?_ (by first | omega | (simp; done) | (simp; omega)) _) | (with_reducible refine Below.setCell ?_ (by first | omega | (simp; done) | (simp; omega)) _) | (with_reducible refine Below.drew ?_) | (with_reducible refine below_drewN ?_ _) | (with_reducible assumption) | (with_reducible refine bel_step (by with_reducible assumption) ?_ (by first | omega | (simp; done) | (simp; omega)))))
        have HZ5 := HB5.size
        clear hb5 hz5 HB4 HZ4 ba4 la4 ca4_0 fa4_0 ca4_1 fa4_1 bb4 lb4 cb4_0 fb4_0 cb4_1 fb4_1 bx4 lx4 cx4_0 fx4_0 cx4_1 fx4_1 
        go_wp2_with fail
        refine (CPa.out _ (SpanW.below HW.out (by repeat (first | with_reducible exact Below.refl _ _ | (with_reducible refine Below.alloc ?_ (by first | omega | (simp; done) | (simp; omega)) _) | (with_reducible refine Below.setCell ?_ (by first | omega | (simp; done) | (simp; omega)) _) | (with_reducible refine Below.drew ?_) | (with_reducible refine below_drewN ?_ _) | (with_reducible assumption) | (with_reducible refine bel_step (by with_reducible assumption) ?_ (by first | omega | (simp; done) | (simp; omega))))))).mono ?_
        rintro e w6 ⟨rfl, hb6⟩
        have hz6 := hb6.size
        (try simp at hz6)
        have ba6 : Blk w6 (w.heap.size) 23 #[.int .i64 a, .int .i64 b] := (by refine BlkG.start ?_; (repeat (first | ((with_reducible apply BlkG.done); (with_reducible assumption); exact rfl) | (with_reducible exact BlkG.newAt (by first | (with_reducible rfl) | omega | (simp; done) | (simp; omega)) rfl) | (with_reducible refine BlkG.drew ?_) | (with_reducible refine BlkG.drewN ?_) | (with_reducible refine BlkG.set ?_) | (with_reducible refine BlkG.far (by first | omega | (simp; done) | (simp; omega)) ?_) | (with_reducible refine BlkG.alloc ?_) | (with_reducible refine BlkG.bel (by with_reducible assumption) (by first | omega | (simp; done) | (simp; omega)) ?_))))
        have ca6_0 : w6.cell? ⟨w.heap.size, 0, none⟩ = some (.int .i64 a) := ba6.cell 0
        have fa6_0 : w6.frozen? ⟨w.heap.size, 0, none⟩ = false := ba6.fz 0
        have ca6_1 : w6.cell? ⟨w.heap.size, 1, none⟩ = some (.int .i64 b) := ba6.cell 1
        have fa6_1 : w6.frozen? ⟨w.heap.size, 1, none⟩ = false := ba6.fz 1
        have la6 : w.heap.size < w6.heap.size := ba6.lt
        have bb6 : Blk w6 (w.heap.size + 1) 23 #[.int .i64 c, .int .i64 d] := (by refine BlkG.start ?_; (repeat (first | ((with_reducible apply BlkG.done); (with_reducible assumption); exact rfl) | (with_reducible exact BlkG.newAt (by first | (with_reducible rfl) | omega | (simp; done) | (simp; omega)) rfl) | (with_reducible refine BlkG.drew ?_) | (with_reducible refine BlkG.drewN ?_) | (with_reducible refine BlkG.set ?_) | (with_reducible refine BlkG.far (by first | omega | (simp; done) | (simp; omega)) ?_) | (with_reducible refine BlkG.alloc ?_) | (with_reducible refine BlkG.bel (by with_reducible assumption) (by first | omega | (simp; done) | (simp; omega)) ?_))))
        have cb6_0 : w6.cell? ⟨w.heap.size + 1, 0, none⟩ = some (.int .i64 c) := bb6.cell 0
        have fb6_0 : w6.frozen? ⟨w.heap.size + 1, 0, none⟩ = false := bb6.fz 0
        have cb6_1 : w6.cell? ⟨w.heap.size + 1, 1, none⟩ = some (.int .i64 d) := bb6.cell 1
        have fb6_1 : w6.frozen? ⟨w.heap.size + 1, 1, none⟩ = false := bb6.fz 1
        have lb6 : w.heap.size + 1 < w6.heap.size := bb6.lt
        have bx6 : Blk w6 (gx) 23 #[.int .i64 x, .int .i64 y] := (by refine BlkG.start ?_; (repeat (first | ((with_reducible apply BlkG.done); (with_reducible assumption); exact rfl) | (with_reducible exact BlkG.newAt (by first | (with_reducible rfl) | omega | (simp; done) | (simp; omega)) rfl) | (with_reducible refine BlkG.drew ?_) | (with_reducible refine BlkG.drewN ?_) | (with_reducible refine BlkG.set ?_) | (with_reducible refine BlkG.far (by first | omega | (simp; done) | (simp; omega)) ?_) | (with_reducible refine BlkG.alloc ?_) | (with_reducible refine BlkG.bel (by with_reducible assumption) (by first | omega | (simp; done) | (simp; omega)) ?_))))
        have cx6_0 : w6.cell? ⟨gx, 0, none⟩ = some (.int .i64 x) := bx6.cell 0
        have fx6_0 : w6.frozen? ⟨gx, 0, none⟩ = false := bx6.fz 0
        have cx6_1 : w6.cell? ⟨gx, 1, none⟩ = some (.int .i64 y) := bx6.cell 1
        have fx6_1 : w6.frozen? ⟨gx, 1, none⟩ = false := bx6.fz 1
        have lx6 : gx < w6.heap.size := bx6.lt
        have HB6 : Below w.heap.size w w6 := (by repeat (first | with_reducible exact Below.refl _ _ | (with_reducible refine Below.alloc ?_ (by first | omega | (simp; done) | (simp; omega)) _) | (with_reducible refine Below.setCell ?_ (by first | omega | (simp; done) | (simp; omega)) _) | (with_reducible refine Below.drew ?_) | (with_reducible refine below_drewN ?_ _) | (with_reducible assumption) | (with_reducible refine bel_step (by with_reducible assumption) ?_ (by first | omega | (simp; done) | (simp; omega)))))
        have HZ6 := HB6.size
        clear hb6 hz6 HB5 HZ5 ba5 la5 ca5_0 fa5_0 ca5_1 fa5_1 bb5 lb5 cb5_0 fb5_0 cb5_1 fb5_1 bx5 lx5 cx5_0 fx5_0 cx5_1 fx5_1 
        obtain ⟨p, ep⟩ : ∃ p, hasB a b a2 = p := ⟨_, rfl⟩
        obtain ⟨q, eq⟩ : ∃ p, hasB c d a2 = p := ⟨_, rfl⟩
        obtain ⟨r, er⟩ : ∃ p, hasB c d a3 = p := ⟨_, rfl⟩
        have CH1 := Lib.hid (has_ok a b a2 p h1 ep)
        have CH2 := Lib.hid (has_ok c d a2 q h2 eq)
        have CH3 := Lib.hid (has_ok c d a3 r h2 er)
        obtain ⟨com, m1, m2, M, pq, CMt, hM, hM2, epq, hc1, hc0⟩ := meet_law a b c d a2 p q h1 h2 ep eq
        obtain ⟨ok, s1, s2, S, CAd, hS1, hS0, hS⟩ := add_law a b c d a2 a3 h1 h2
        obtain ⟨N, k, CTu, eN, eA, CH5, hk⟩ := turn_law a b a2 h1
        rw [ep] at hS hk
        rw [er] at hS
        have CMt := Lib.hid CMt
        have hc1 := Lib.hid hc1
        have hc0 := Lib.hid hc0
        have CAd := Lib.hid CAd
        have hS1 := Lib.hid hS1
        have hS0 := Lib.hid hS0
        have hS := Lib.hid hS
        have CTu := Lib.hid CTu
        have CH5 := Lib.hid CH5
        have hk := Lib.hid hk
        have epq := Lib.hid epq
        have eN2 := Lib.hid eN
        have eA2 := Lib.hid eA
        clear eN eA ep eq er h1 h2
        go_wp2_with fail
        refine (CH1.out _).mono ?_
        rintro e w7 ⟨rfl, hb7⟩
        have hz7 := hb7.size
        (try simp at hz7)
        have ba7 : Blk w7 (w.heap.size) 23 #[.int .i64 a, .int .i64 b] := (by refine BlkG.start ?_; (repeat (first | ((with_reducible apply BlkG.done); (with_reducible assumption); exact rfl) | (with_reducible exact BlkG.newAt (by first | (with_reducible rfl) | omega | (simp; done) | (simp; omega)) rfl) | (with_reducible refine BlkG.drew ?_) | (with_reducible refine BlkG.drewN ?_) | (with_reducible refine BlkG.set ?_) | (with_reducible refine BlkG.far (by first | omega | (simp; done) | (simp; omega)) ?_) | (with_reducible refine BlkG.alloc ?_) | (with_reducible refine BlkG.bel (by with_reducible assumption) (by first | omega | (simp; done) | (simp; omega)) ?_))))
        have ca7_0 : w7.cell? ⟨w.heap.size, 0, none⟩ = some (.int .i64 a) := ba7.cell 0
        have fa7_0 : w7.frozen? ⟨w.heap.size, 0, none⟩ = false := ba7.fz 0
        have ca7_1 : w7.cell? ⟨w.heap.size, 1, none⟩ = some (.int .i64 b) := ba7.cell 1
        have fa7_1 : w7.frozen? ⟨w.heap.size, 1, none⟩ = false := ba7.fz 1
        have la7 : w.heap.size < w7.heap.size := ba7.lt
        have bb7 : Blk w7 (w.heap.size + 1) 23 #[.int .i64 c, .int .i64 d] := (by refine BlkG.start ?_; (repeat (first | ((with_reducible apply BlkG.done); (with_reducible assumption); exact rfl) | (with_reducible exact BlkG.newAt (by first | (with_reducible rfl) | omega | (simp; done) | (simp; omega)) rfl) | (with_reducible refine BlkG.drew ?_) | (with_reducible refine BlkG.drewN ?_) | (with_reducible refine BlkG.set ?_) | (with_reducible refine BlkG.far (by first | omega | (simp; done) | (simp; omega)) ?_) | (with_reducible refine BlkG.alloc ?_) | (with_reducible refine BlkG.bel (by with_reducible assumption) (by first | omega | (simp; done) | (simp; omega)) ?_))))
        have cb7_0 : w7.cell? ⟨w.heap.size + 1, 0, none⟩ = some (.int .i64 c) := bb7.cell 0
        have fb7_0 : w7.frozen? ⟨w.heap.size + 1, 0, none⟩ = false := bb7.fz 0
        have cb7_1 : w7.cell? ⟨w.heap.size + 1, 1, none⟩ = some (.int .i64 d) := bb7.cell 1
        have fb7_1 : w7.frozen? ⟨w.heap.size + 1, 1, none⟩ = false := bb7.fz 1
        have lb7 : w.heap.size + 1 < w7.heap.size := bb7.lt
        have bx7 : Blk w7 (gx) 23 #[.int .i64 a, .int .i64 b] := (by refine BlkG.start ?_; (repeat (first | ((with_reducible apply BlkG.done); (with_reducible assumption); exact rfl) | (with_reducible exact BlkG.newAt (by first | (with_reducible rfl) | omega | (simp; done) | (simp; omega)) rfl) | (with_reducible refine BlkG.drew ?_) | (with_reducible refine BlkG.drewN ?_) | (with_reducible refine BlkG.set ?_) | (with_reducible refine BlkG.far (by first | omega | (simp; done) | (simp; omega)) ?_) | (with_reducible refine BlkG.alloc ?_) | (with_reducible refine BlkG.bel (by with_reducible assumption) (by first | omega | (simp; done) | (simp; omega)) ?_))))
        have cx7_0 : w7.cell? ⟨gx, 0, none⟩ = some (.int .i64 a) := bx7.cell 0
        have fx7_0 : w7.frozen? ⟨gx, 0, none⟩ = false := bx7.fz 0
        have cx7_1 : w7.cell? ⟨gx, 1, none⟩ = some (.int .i64 b) := bx7.cell 1
        have fx7_1 : w7.frozen? ⟨gx, 1, none⟩ = false := bx7.fz 1
        have lx7 : gx < w7.heap.size := bx7.lt
        have HB7 : Below w.heap.size w w7 := (by repeat (first | with_reducible exact Below.refl _ _ | (with_reducible refine Below.alloc ?_ (by first | omega | (simp; done) | (simp; omega)) _) | (with_reducible refine Below.setCell ?_ (by first | omega | (simp; done) | (simp; omega)) _) | (with_reducible refine Below.drew ?_) | (with_reducible refine below_drewN ?_ _) | (with_reducible assumption) | (with_reducible refine bel_step (by with_reducible assumption) ?_ (by first | omega | (simp; done) | (simp; omega)))))
        have HZ7 := HB7.size
        clear hb7 hz7 HB6 HZ6 ba6 la6 ca6_0 fa6_0 ca6_1 fa6_1 bb6 lb6 cb6_0 fb6_0 cb6_1 fb6_1 bx6 lx6 cx6_0 fx6_0 cx6_1 fx6_1 
        clear bx7 cx7_0 cx7_1 fx7_0 fx7_1 lx7
        go_wp2_with fail
        refine (CH2.out _).mono ?_
        rintro e w8 ⟨rfl, hb8⟩
        have hz8 := hb8.size
        (try simp at hz8)
        have ba8 : Blk w8 (w.heap.size) 23 #[.int .i64 a, .int .i64 b] := (by refine BlkG.start ?_; (repeat (first | ((with_reducible apply BlkG.done); (with_reducible assumption); exact rfl) | (with_reducible exact BlkG.newAt (by first | (with_reducible rfl) | omega | (simp; done) | (simp; omega)) rfl) | (with_reducible refine BlkG.drew ?_) | (with_reducible refine BlkG.drewN ?_) | (with_reducible refine BlkG.set ?_) | (with_reducible refine BlkG.far (by first | omega | (simp; done) | (simp; omega)) ?_) | (with_reducible refine BlkG.alloc ?_) | (with_reducible refine BlkG.bel (by with_reducible assumption) (by first | omega | (simp; done) | (simp; omega)) ?_))))
        have ca8_0 : w8.cell? ⟨w.heap.size, 0, none⟩ = some (.int .i64 a) := ba8.cell 0
        have fa8_0 : w8.frozen? ⟨w.heap.size, 0, none⟩ = false := ba8.fz 0
        have ca8_1 : w8.cell? ⟨w.heap.size, 1, none⟩ = some (.int .i64 b) := ba8.cell 1
        have fa8_1 : w8.frozen? ⟨w.heap.size, 1, none⟩ = false := ba8.fz 1
        have la8 : w.heap.size < w8.heap.size := ba8.lt
        have bb8 : Blk w8 (w.heap.size + 1) 23 #[.int .i64 c, .int .i64 d] := (by refine BlkG.start ?_; (repeat (first | ((with_reducible apply BlkG.done); (with_reducible assumption); exact rfl) | (with_reducible exact BlkG.newAt (by first | (with_reducible rfl) | omega | (simp; done) | (simp; omega)) rfl) | (with_reducible refine BlkG.drew ?_) | (with_reducible refine BlkG.drewN ?_) | (with_reducible refine BlkG.set ?_) | (with_reducible refine BlkG.far (by first | omega | (simp; done) | (simp; omega)) ?_) | (with_reducible refine BlkG.alloc ?_) | (with_reducible refine BlkG.bel (by with_reducible assumption) (by first | omega | (simp; done) | (simp; omega)) ?_))))
        have cb8_0 : w8.cell? ⟨w.heap.size + 1, 0, none⟩ = some (.int .i64 c) := bb8.cell 0
        have fb8_0 : w8.frozen? ⟨w.heap.size + 1, 0, none⟩ = false := bb8.fz 0
        have cb8_1 : w8.cell? ⟨w.heap.size + 1, 1, none⟩ = some (.int .i64 d) := bb8.cell 1
        have fb8_1 : w8.frozen? ⟨w.heap.size + 1, 1, none⟩ = false := bb8.fz 1
        have lb8 : w.heap.size + 1 < w8.heap.size := bb8.lt
        have HB8 : Below w.heap.size w w8 := (by repeat (first | with_reducible exact Below.refl _ _ | (with_reducible refine Below.alloc ?_ (by first | omega | (simp; done) | (simp; omega)) _) | (with_reducible refine Below.setCell ?_ (by first | omega | (simp; done) | (simp; omega)) _) | (with_reducible refine Below.drew ?_) | (with_reducible refine below_drewN ?_ _) | (with_reducible assumption) | (with_reducible refine bel_step (by with_reducible assumption) ?_ (by first | omega | (simp; done) | (simp; omega)))))
        have HZ8 := HB8.size
        clear hb8 hz8 HB7 HZ7 ba7 la7 ca7_0 fa7_0 ca7_1 fa7_1 bb7 lb7 cb7_0 fb7_0 cb7_1 fb7_1 
        go_wp2_with fail
        refine (CH3.out _).mono ?_
        rintro e w9 ⟨rfl, hb9⟩
        have hz9 := hb9.size
        (try simp at hz9)
        have ba9 : Blk w9 (w.heap.size) 23 #[.int .i64 a, .int .i64 b] := (by refine BlkG.start ?_; (repeat (first | ((with_reducible apply BlkG.done); (with_reducible assumption); exact rfl) | (with_reducible exact BlkG.newAt (by first | (with_reducible rfl) | omega | (simp; done) | (simp; omega)) rfl) | (with_reducible refine BlkG.drew ?_) | (with_reducible refine BlkG.drewN ?_) | (with_reducible refine BlkG.set ?_) | (with_reducible refine BlkG.far (by first | omega | (simp; done) | (simp; omega)) ?_) | (with_reducible refine BlkG.alloc ?_) | (with_reducible refine BlkG.bel (by with_reducible assumption) (by first | omega | (simp; done) | (simp; omega)) ?_))))
        have ca9_0 : w9.cell? ⟨w.heap.size, 0, none⟩ = some (.int .i64 a) := ba9.cell 0
        have fa9_0 : w9.frozen? ⟨w.heap.size, 0, none⟩ = false := ba9.fz 0
        have ca9_1 : w9.cell? ⟨w.heap.size, 1, none⟩ = some (.int .i64 b) := ba9.cell 1
        have fa9_1 : w9.frozen? ⟨w.heap.size, 1, none⟩ = false := ba9.fz 1
        have la9 : w.heap.size < w9.heap.size := ba9.lt
        have bb9 : Blk w9 (w.heap.size + 1) 23 #[.int .i64 c, .int .i64 d] := (by refine BlkG.start ?_; (repeat (first | ((with_reducible apply BlkG.done); (with_reducible assumption); exact rfl) | (with_reducible exact BlkG.newAt (by first | (with_reducible rfl) | omega | (simp; done) | (simp; omega)) rfl) | (with_reducible refine BlkG.drew ?_) | (with_reducible refine BlkG.drewN ?_) | (with_reducible refine BlkG.set ?_) | (with_reducible refine BlkG.far (by first | omega | (simp; done) | (simp; omega)) ?_) | (with_reducible refine BlkG.alloc ?_) | (with_reducible refine BlkG.bel (by with_reducible assumption) (by first | omega | (simp; done) | (simp; omega)) ?_))))
        have cb9_0 : w9.cell? ⟨w.heap.size + 1, 0, none⟩ = some (.int .i64 c) := bb9.cell 0
        have fb9_0 : w9.frozen? ⟨w.heap.size + 1, 0, none⟩ = false := bb9.fz 0
        have cb9_1 : w9.cell? ⟨w.heap.size + 1, 1, none⟩ = some (.int .i64 d) := bb9.cell 1
        have fb9_1 : w9.frozen? ⟨w.heap.size + 1, 1, none⟩ = false := bb9.fz 1
        have lb9 : w.heap.size + 1 < w9.heap.size := bb9.lt
        have HB9 : Below w.heap.size w w9 := (by repeat (first | with_reducible exact Below.refl _ _ | (with_reducible refine Below.alloc ?_ (by first | omega | (simp; done) | (simp; omega)) _) | (with_reducible refine Below.setCell ?_ (by first | omega | (simp; done) | (simp; omega)) _) | (with_reducible refine Below.drew ?_) | (with_reducible refine below_drewN ?_ _) | (with_reducible assumption) | (with_reducible refine bel_step (by with_reducible assumption) ?_ (by first | omega | (simp; done) | (simp; omega)))))
        have HZ9 := HB9.size
        clear hb9 hz9 HB8 HZ8 ba8 la8 ca8_0 fa8_0 ca8_1 fa8_1 bb8 lb8 cb8_0 fb8_0 cb8_1 fb8_1 
        go_wp2_with fail
        refine (CMt.out _).mono ?_
        rintro e w10 ⟨rfl, hb10⟩
        have hz10 := hb10.size
        (try simp at hz10)
        have ba10 : Blk w10 (w.heap.size) 23 #[.int .i64 a, .int .i64 b] := (by refine BlkG.start ?_; (repeat (first | ((with_reducible apply BlkG.done); (with_reducible assumption); exact rfl) | (with_reducible exact BlkG.newAt (by first | (with_reducible rfl) | omega | (simp; done) | (simp; omega)) rfl) | (with_reducible refine BlkG.drew ?_) | (with_reducible refine BlkG.drewN ?_) | (with_reducible refine BlkG.set ?_) | (with_reducible refine BlkG.far (by first | omega | (simp; done) | (simp; omega)) ?_) | (with_reducible refine BlkG.alloc ?_) | (with_reducible refine BlkG.bel (by with_reducible assumption) (by first | omega | (simp; done) | (simp; omega)) ?_))))
        have ca10_0 : w10.cell? ⟨w.heap.size, 0, none⟩ = some (.int .i64 a) := ba10.cell 0
        have fa10_0 : w10.frozen? ⟨w.heap.size, 0, none⟩ = false := ba10.fz 0
        have ca10_1 : w10.cell? ⟨w.heap.size, 1, none⟩ = some (.int .i64 b) := ba10.cell 1
        have fa10_1 : w10.frozen? ⟨w.heap.size, 1, none⟩ = false := ba10.fz 1
        have la10 : w.heap.size < w10.heap.size := ba10.lt
        have bb10 : Blk w10 (w.heap.size + 1) 23 #[.int .i64 c, .int .i64 d] := (by refine BlkG.start ?_; (repeat (first | ((with_reducible apply BlkG.done); (with_reducible assumption); exact rfl) | (with_reducible exact BlkG.newAt (by first | (with_reducible rfl) | omega | (simp; done) | (simp; omega)) rfl) | (with_reducible refine BlkG.drew ?_) | (with_reducible refine BlkG.drewN ?_) | (with_reducible refine BlkG.set ?_) | (with_reducible refine BlkG.far (by first | omega | (simp; done) | (simp; omega)) ?_) | (with_reducible refine BlkG.alloc ?_) | (with_reducible refine BlkG.bel (by with_reducible assumption) (by first | omega | (simp; done) | (simp; omega)) ?_))))
        have cb10_0 : w10.cell? ⟨w.heap.size + 1, 0, none⟩ = some (.int .i64 c) := bb10.cell 0
        have fb10_0 : w10.frozen? ⟨w.heap.size + 1, 0, none⟩ = false := bb10.fz 0
        have cb10_1 : w10.cell? ⟨w.heap.size + 1, 1, none⟩ = some (.int .i64 d) := bb10.cell 1
        have fb10_1 : w10.frozen? ⟨w.heap.size + 1, 1, none⟩ = false := bb10.fz 1
        have lb10 : w.heap.size + 1 < w10.heap.size := bb10.lt
        have HB10 : Below w.heap.size w w10 := (by repeat (first | with_reducible exact Below.refl _ _ | (with_reducible refine Below.alloc ?_ (by first | omega | (simp; done) | (simp; omega)) _) | (with_reducible refine Below.setCell ?_ (by first | omega | (simp; done) | (simp; omega)) _) | (with_reducible refine Below.drew ?_) | (with_reducible refine below_drewN ?_ _) | (with_reducible assumption) | (with_reducible refine bel_step (by with_reducible assumption) ?_ (by first | omega | (simp; done) | (simp; omega)))))
        have HZ10 := HB10.size
        clear hb10 hz10 HB9 HZ9 ba9 la9 ca9_0 fa9_0 ca9_1 fa9_1 bb9 lb9 cb9_0 fb9_0 cb9_1 fb9_1 
        clear CPr CPa CC CH1 CH2 CH3 CMt
        go_upto_if 131 with fail
        go_cut [26, 27, 28] (fun s26 _ _ wx => s26 = .bool pq ∧ Below w10.heap.size w10 wx)
        case first =>
          clear hM hM2
          cases com
          · have e := hc0.out rfl
            have e := Lib.hid e
            go_wp2_with fail
            go_meet
            case rel => exact ⟨by rw [e.out], (by repeat (first | with_reducible exact Below.refl _ _ | (with_reducible refine Below.alloc ?_ (by first | omega | (simp; done) | (simp; omega)) _) | (with_reducible refine Below.setCell ?_ (by first | omega | (simp; done) | (simp; omega)) _) | (with_reducible refine Below.drew ?_) | (with_reducible refine below_drewN ?_ _) | (with_reducible assumption) | (with_reducible refine bel_step (by with_reducible assumption) ?_ (by first | omega | (simp; done) | (simp; omega)))))⟩
          · have CH4 := Lib.hid (hc1.out rfl)
            go_wp2_with fail
            refine (CH4.out _).mono ?_
            rintro e w11 ⟨rfl, hb11⟩
            go_wp2_with fail
            go_meet
            case rel => exact ⟨rfl, (by repeat (first | with_reducible exact Below.refl _ _ | (with_reducible refine Below.alloc ?_ (by first | omega | (simp; done) | (simp; omega)) _) | (with_reducible refine Below.setCell ?_ (by first | omega | (simp; done) | (simp; omega)) _) | (with_reducible refine Below.drew ?_) | (with_reducible refine below_drewN ?_ _) | (with_reducible assumption) | (with_reducible refine bel_step (by with_reducible assumption) ?_ (by first | omega | (simp; done) | (simp; omega)))))⟩
        case rest =>
          obtain ⟨rfl, hB⟩ := hcut
          have HB11 : Below w.heap.size w wc := HB10.trans (hB.mono HB10.size)
          have HZ11 := HB11.size
          have ba11 : Blk wc (w.heap.size) 23 #[.int .i64 a, .int .i64 b] := ba10.below hB la10
          have ca11_0 : wc.cell? ⟨w.heap.size, 0, none⟩ = some (.int .i64 a) := ba11.cell 0
          have fa11_0 : wc.frozen? ⟨w.heap.size, 0, none⟩ = false := ba11.fz 0
          have ca11_1 : wc.cell? ⟨w.heap.size, 1, none⟩ = some (.int .i64 b) := ba11.cell 1
          have fa11_1 : wc.frozen? ⟨w.heap.size, 1, none⟩ = false := ba11.fz 1
          have la11 : w.heap.size < wc.heap.size := ba11.lt
          have bb11 : Blk wc (w.heap.size + 1) 23 #[.int .i64 c, .int .i64 d] := bb10.below hB lb10
          have cb11_0 : wc.cell? ⟨w.heap.size + 1, 0, none⟩ = some (.int .i64 c) := bb11.cell 0
          have fb11_0 : wc.frozen? ⟨w.heap.size + 1, 0, none⟩ = false := bb11.fz 0
          have cb11_1 : wc.cell? ⟨w.heap.size + 1, 1, none⟩ = some (.int .i64 d) := bb11.cell 1
          have fb11_1 : wc.frozen? ⟨w.heap.size + 1, 1, none⟩ = false := bb11.fz 1
          have lb11 : w.heap.size + 1 < wc.heap.size := bb11.lt
          clear hB HB10 HZ10 ba10 bb10 ca10_0 ca10_1 cb10_0 cb10_1 fa10_0 fa10_1 fb10_0 fb10_1 la10 lb10 hM hM2 hc1 hc0
          cases p
          · have e := epq.out
            simp only [Bool.false_and] at e
            subst e
            clear epq hS hk
            cases ok
            · obtain rfl := hS0.out rfl
              clear hS0 hS1
              · as_aux_lemma =>
                go_wp2_with fail
                refine (CAd.out _).mono ?_
                rintro e w12 ⟨rfl, hb12⟩
                have hz12 := hb12.size
                (try simp at hz12)
                have ba12 : Blk w12 (w.heap.size) 23 #[.int .i64 a, .int .i64 b] := (by refine BlkG.start ?_; (repeat (first | ((with_reducible apply BlkG.done); (with_reducible assumption); exact rfl) | (with_reducible exact BlkG.newAt (by first | (with_reducible rfl) | omega | (simp; done) | (simp; omega)) rfl) | (with_reducible refine BlkG.drew ?_) | (with_reducible refine BlkG.drewN ?_) | (with_reducible refine BlkG.set ?_) | (with_reducible refine BlkG.far (by first | omega | (simp; done) | (simp; omega)) ?_) | (with_reducible refine BlkG.alloc ?_) | (with_reducible refine BlkG.bel (by with_reducible assumption) (by first | omega | (simp; done) | (simp; omega)) ?_))))
                have ca12_0 : w12.cell? ⟨w.heap.size, 0, none⟩ = some (.int .i64 a) := ba12.cell 0
                have fa12_0 : w12.frozen? ⟨w.heap.size, 0, none⟩ = false := ba12.fz 0
                have ca12_1 : w12.cell? ⟨w.heap.size, 1, none⟩ = some (.int .i64 b) := ba12.cell 1
                have fa12_1 : w12.frozen? ⟨w.heap.size, 1, none⟩ = false := ba12.fz 1
                have la12 : w.heap.size < w12.heap.size := ba12.lt
                have bb12 : Blk w12 (w.heap.size + 1) 23 #[.int .i64 c, .int .i64 d] := (by refine BlkG.start ?_; (repeat (first | ((with_reducible apply BlkG.done); (with_reducible assumption); exact rfl) | (with_reducible exact BlkG.newAt (by first | (with_reducible rfl) | omega | (simp; done) | (simp; omega)) rfl) | (with_reducible refine BlkG.drew ?_) | (with_reducible refine BlkG.drewN ?_) | (with_reducible refine BlkG.set ?_) | (with_reducible refine BlkG.far (by first | omega | (simp; done) | (simp; omega)) ?_) | (with_reducible refine BlkG.alloc ?_) | (with_reducible refine BlkG.bel (by with_reducible assumption) (by first | omega | (simp; done) | (simp; omega)) ?_))))
                have cb12_0 : w12.cell? ⟨w.heap.size + 1, 0, none⟩ = some (.int .i64 c) := bb12.cell 0
                have fb12_0 : w12.frozen? ⟨w.heap.size + 1, 0, none⟩ = false := bb12.fz 0
                have cb12_1 : w12.cell? ⟨w.heap.size + 1, 1, none⟩ = some (.int .i64 d) := bb12.cell 1
                have fb12_1 : w12.frozen? ⟨w.heap.size + 1, 1, none⟩ = false := bb12.fz 1
                have lb12 : w.heap.size + 1 < w12.heap.size := bb12.lt
                have HB12 : Below w.heap.size w w12 := (by repeat (first | with_reducible exact Below.refl _ _ | (with_reducible refine Below.alloc ?_ (by first | omega | (simp; done) | (simp; omega)) _) | (with_reducible refine Below.setCell ?_ (by first | omega | (simp; done) | (simp; omega)) _) | (with_reducible refine Below.drew ?_) | (with_reducible refine below_drewN ?_ _) | (with_reducible assumption) | (with_reducible refine bel_step (by with_reducible assumption) ?_ (by first | omega | (simp; done) | (simp; omega)))))
                have HZ12 := HB12.size
                clear hb12 hz12 HB11 HZ11 ba11 la11 ca11_0 fa11_0 ca11_1 fa11_1 bb11 lb11 cb11_0 fb11_0 cb11_1 fb11_1 
                go_wp2_with fail
                refine (CTu.out _).mono ?_
                rintro e w14 ⟨rfl, hb14⟩
                have hz14 := hb14.size
                (try simp at hz14)
                have ba14 : Blk w14 (w.heap.size) 23 #[.int .i64 a, .int .i64 b] := (by refine BlkG.start ?_; (repeat (first | ((with_reducible apply BlkG.done); (with_reducible assumption); exact rfl) | (with_reducible exact BlkG.newAt (by first | (with_reducible rfl) | omega | (simp; done) | (simp; omega)) rfl) | (with_reducible refine BlkG.drew ?_) | (with_reducible refine BlkG.drewN ?_) | (with_reducible refine BlkG.set ?_) | (with_reducible refine BlkG.far (by first | omega | (simp; done) | (simp; omega)) ?_) | (with_reducible refine BlkG.alloc ?_) | (with_reducible refine BlkG.bel (by with_reducible assumption) (by first | omega | (simp; done) | (simp; omega)) ?_))))
                have ca14_0 : w14.cell? ⟨w.heap.size, 0, none⟩ = some (.int .i64 a) := ba14.cell 0
                have fa14_0 : w14.frozen? ⟨w.heap.size, 0, none⟩ = false := ba14.fz 0
                have ca14_1 : w14.cell? ⟨w.heap.size, 1, none⟩ = some (.int .i64 b) := ba14.cell 1
                have fa14_1 : w14.frozen? ⟨w.heap.size, 1, none⟩ = false := ba14.fz 1
                have la14 : w.heap.size < w14.heap.size := ba14.lt
                have bb14 : Blk w14 (w.heap.size + 1) 23 #[.int .i64 c, .int .i64 d] := (by refine BlkG.start ?_; (repeat (first | ((with_reducible apply BlkG.done); (with_reducible assumption); exact rfl) | (with_reducible exact BlkG.newAt (by first | (with_reducible rfl) | omega | (simp; done) | (simp; omega)) rfl) | (with_reducible refine BlkG.drew ?_) | (with_reducible refine BlkG.drewN ?_) | (with_reducible refine BlkG.set ?_) | (with_reducible refine BlkG.far (by first | omega | (simp; done) | (simp; omega)) ?_) | (with_reducible refine BlkG.alloc ?_) | (with_reducible refine BlkG.bel (by with_reducible assumption) (by first | omega | (simp; done) | (simp; omega)) ?_))))
                have cb14_0 : w14.cell? ⟨w.heap.size + 1, 0, none⟩ = some (.int .i64 c) := bb14.cell 0
                have fb14_0 : w14.frozen? ⟨w.heap.size + 1, 0, none⟩ = false := bb14.fz 0
                have cb14_1 : w14.cell? ⟨w.heap.size + 1, 1, none⟩ = some (.int .i64 d) := bb14.cell 1
                have fb14_1 : w14.frozen? ⟨w.heap.size + 1, 1, none⟩ = false := bb14.fz 1
                have lb14 : w.heap.size + 1 < w14.heap.size := bb14.lt
                have HB14 : Below w.heap.size w w14 := (by repeat (first | with_reducible exact Below.refl _ _ | (with_reducible refine Below.alloc ?_ (by first | omega | (simp; done) | (simp; omega)) _) | (with_reducible refine Below.setCell ?_ (by first | omega | (simp; done) | (simp; omega)) _) | (with_reducible refine Below.drew ?_) | (with_reducible refine below_drewN ?_ _) | (with_reducible assumption) | (with_reducible refine bel_step (by with_reducible assumption) ?_ (by first | omega | (simp; done) | (simp; omega)))))
                have HZ14 := HB14.size
                clear hb14 hz14 HB12 HZ12 ba12 la12 ca12_0 fa12_0 ca12_1 fa12_1 bb12 lb12 cb12_0 fb12_0 cb12_1 fb12_1 
                have CH5w := Lib.hid (show ∀ w, Calls Tryd.prog 9 #[.agg #[.int .i64 (-b), .int .i64 (-a)], .int .i64 (wrap64 (-a2))] w fun e w' => e = .returned (.tuple #[.bool k, .nilIface]) ∧ Below w.heap.size w w' by rw [eN2.out]; exact CH5.out)
                go_wp2_with fail
                refine (CH5w.out _).mono ?_
                rintro e w15 ⟨rfl, hb15⟩
                have hz15 := hb15.size
                (try simp at hz15)
                have agt : w.heap.size ≤ w14.heap.size := by first | omega | (simp; done) | (simp; omega)
                have ota : w.heap.size < w14.heap.size := by (try simp); omega
                have ba15 : Blk w15 (w.heap.size) 23 #[.int .i64 a, .int .i64 b] := (by refine BlkG.start ?_; (repeat (first | ((with_reducible apply BlkG.done); (with_reducible assumption); exact rfl) | (with_reducible exact BlkG.newAt (by first | (with_reducible rfl) | omega | (simp; done) | (simp; omega)) rfl) | (with_reducible refine BlkG.drew ?_) | (with_reducible refine BlkG.drewN ?_) | (with_reducible refine BlkG.set ?_) | (with_reducible refine BlkG.far (by first | omega | (simp; done) | (simp; omega)) ?_) | (with_reducible refine BlkG.alloc ?_) | (with_reducible refine BlkG.bel (by with_reducible assumption) (by first | omega | (simp; done) | (simp; omega)) ?_))))
                have ca15_0 : w15.cell? ⟨w.heap.size, 0, none⟩ = some (.int .i64 a) := ba15.cell 0
                have fa15_0 : w15.frozen? ⟨w.heap.size, 0, none⟩ = false := ba15.fz 0
                have ca15_1 : w15.cell? ⟨w.heap.size, 1, none⟩ = some (.int .i64 b) := ba15.cell 1
                have fa15_1 : w15.frozen? ⟨w.heap.size, 1, none⟩ = false := ba15.fz 1
                have la15 : w.heap.size < w15.heap.size := ba15.lt
                have bt15 : Blk w15 (w14.heap.size) 23 #[.int .i64 (-b), .int .i64 (-a)] := (by refine BlkG.start ?_; (repeat (first | ((with_reducible apply BlkG.done); (with_reducible assumption); exact rfl) | (with_reducible exact BlkG.newAt (by first | (with_reducible rfl) | omega | (simp; done) | (simp; omega)) rfl) | (with_reducible refine BlkG.drew ?_) | (with_reducible refine BlkG.drewN ?_) | (with_reducible refine BlkG.set ?_) | (with_reducible refine BlkG.far (by first | omega | (simp; done) | (simp; omega)) ?_) | (with_reducible refine BlkG.alloc ?_) | (with_reducible refine BlkG.bel (by with_reducible assumption) (by first | omega | (simp; done) | (simp; omega)) ?_))))
                have ct15_0 : w15.cell? ⟨w14.heap.size, 0, none⟩ = some (.int .i64 (-b)) := bt15.cell 0
                have ft15_0 : w15.frozen? ⟨w14.heap.size, 0, none⟩ = false := bt15.fz 0
                have ct15_1 : w15.cell? ⟨w14.heap.size, 1, none⟩ = some (.int .i64 (-a)) := bt15.cell 1
                have ft15_1 : w15.frozen? ⟨w14.heap.size, 1, none⟩ = false := bt15.fz 1
                have lt15 : w14.heap.size < w15.heap.size := bt15.lt
                have HB15 : Below w.heap.size w w15 := (by repeat (first | with_reducible exact Below.refl _ _ | (with_reducible refine Below.alloc ?_ (by first | omega | (simp; done) | (simp; omega)) _) | (with_reducible refine Below.setCell ?_ (by first | omega | (simp; done) | (simp; omega)) _) | (with_reducible refine Below.drew ?_) | (with_reducible refine below_drewN ?_ _) | (with_reducible assumption) | (with_reducible refine bel_step (by with_reducible assumption) ?_ (by first | omega | (simp; done) | (simp; omega)))))
                have HZ15 := HB15.size
                clear hb15 hz15 HB14 HZ14 ba14 la14 ca14_0 fa14_0 ca14_1 fa14_1 
                have eA := eA2.out
                go_wp2_with fail
                go_ret
                exact ⟨rfl, (by repeat (first | with_reducible exact Below.refl _ _ | (with_reducible refine Below.alloc ?_ (by first | omega | (simp; done) | (simp; omega)) _) | (with_reducible refine Below.setCell ?_ (by first | omega | (simp; done) | (simp; omega)) _) | (with_reducible refine Below.drew ?_) | (with_reducible refine below_drewN ?_ _) | (with_reducible assumption) | (with_reducible refine bel_step (by with_reducible assumption) ?_ (by first | omega | (simp; done) | (simp; omega)))))⟩
            · obtain rfl := hS1.out rfl
              clear hS0 hS1
              · as_aux_lemma =>
                go_wp2_with fail
                refine (CAd.out _).mono ?_
                rintro e w12 ⟨rfl, hb12⟩
                have hz12 := hb12.size
                (try simp at hz12)
                have ba12 : Blk w12 (w.heap.size) 23 #[.int .i64 a, .int .i64 b] := (by refine BlkG.start ?_; (repeat (first | ((with_reducible apply BlkG.done); (with_reducible assumption); exact rfl) | (with_reducible exact BlkG.newAt (by first | (with_reducible rfl) | omega | (simp; done) | (simp; omega)) rfl) | (with_reducible refine BlkG.drew ?_) | (with_reducible refine BlkG.drewN ?_) | (with_reducible refine BlkG.set ?_) | (with_reducible refine BlkG.far (by first | omega | (simp; done) | (simp; omega)) ?_) | (with_reducible refine BlkG.alloc ?_) | (with_reducible refine BlkG.bel (by with_reducible assumption) (by first | omega | (simp; done) | (simp; omega)) ?_))))
                have ca12_0 : w12.cell? ⟨w.heap.size, 0, none⟩ = some (.int .i64 a) := ba12.cell 0
                have fa12_0 : w12.frozen? ⟨w.heap.size, 0, none⟩ = false := ba12.fz 0
                have ca12_1 : w12.cell? ⟨w.heap.size, 1, none⟩ = some (.int .i64 b) := ba12.cell 1
                have fa12_1 : w12.frozen? ⟨w.heap.size, 1, none⟩ = false := ba12.fz 1
                have la12 : w.heap.size < w12.heap.size := ba12.lt
                have bb12 : Blk w12 (w.heap.size + 1) 23 #[.int .i64 c, .int .i64 d] := (by refine BlkG.start ?_; (repeat (first | ((with_reducible apply BlkG.done); (with_reducible assumption); exact rfl) | (with_reducible exact BlkG.newAt (by first | (with_reducible rfl) | omega | (simp; done) | (simp; omega)) rfl) | (with_reducible refine BlkG.drew ?_) | (with_reducible refine BlkG.drewN ?_) | (with_reducible refine BlkG.set ?_) | (with_reducible refine BlkG.far (by first | omega | (simp; done) | (simp; omega)) ?_) | (with_reducible refine BlkG.alloc ?_) | (with_reducible refine BlkG.bel (by with_reducible assumption) (by first | omega | (simp; done) | (simp; omega)) ?_))))
                have cb12_0 : w12.cell? ⟨w.heap.size + 1, 0, none⟩ = some (.int .i64 c) := bb12.cell 0
                have fb12_0 : w12.frozen? ⟨w.heap.size + 1, 0, none⟩ = false := bb12.fz 0
                have cb12_1 : w12.cell? ⟨w.heap.size + 1, 1, none⟩ = some (.int .i64 d) := bb12.cell 1
                have fb12_1 : w12.frozen? ⟨w.heap.size + 1, 1, none⟩ = false := bb12.fz 1
                have lb12 : w.heap.size + 1 < w12.heap.size := bb12.lt
                have HB12 : Below w.heap.size w w12 := (by repeat (first | with_reducible exact Below.refl _ _ | (with_reducible refine Below.alloc ?_ (by first | omega | (simp; done) | (simp; omega)) _) | (with_reducible refine Below.setCell ?_ (by first | omega | (simp; done) | (simp; omega)) _) | (with_reducible refine Below.drew ?_) | (with_reducible refine below_drewN ?_ _) | (with_reducible assumption) | (with_reducible refine bel_step (by with_reducible assumption) ?_ (by first | omega | (simp; done) | (simp; omega)))))
                have HZ12 := HB12.size
                clear hb12 hz12 HB11 HZ11 ba11 la11 ca11_0 fa11_0 ca11_1 fa11_1 bb11 lb11 cb11_0 fb11_0 cb11_1 fb11_1 
                go_wp2_with fail
                refine (CTu.out _).mono ?_
                rintro e w14 ⟨rfl, hb14⟩
                have hz14 := hb14.size
                (try simp at hz14)
                have ba14 : Blk w14 (w.heap.size) 23 #[.int .i64 a, .int .i64 b] := (by refine BlkG.start ?_; (repeat (first | ((with_reducible apply BlkG.done); (with_reducible assumption); exact rfl) | (with_reducible exact BlkG.newAt (by first | (with_reducible rfl) | omega | (simp; done) | (simp; omega)) rfl) | (with_reducible refine BlkG.drew ?_) | (with_reducible refine BlkG.drewN ?_) | (with_reducible refine BlkG.set ?_) | (with_reducible refine BlkG.far (by first | omega | (simp; done) | (simp; omega)) ?_) | (with_reducible refine BlkG.alloc ?_) | (with_reducible refine BlkG.bel (by with_reducible assumption) (by first | omega | (simp; done) | (simp; omega)) ?_))))
                have ca14_0 : w14.cell? ⟨w.heap.size, 0, none⟩ = some (.int .i64 a) := ba14.cell 0
                have fa14_0 : w14.frozen? ⟨w.heap.size, 0, none⟩ = false := ba14.fz 0
                have ca14_1 : w14.cell? ⟨w.heap.size, 1, none⟩ = some (.int .i64 b) := ba14.cell 1
                have fa14_1 : w14.frozen? ⟨w.heap.size, 1, none⟩ = false := ba14.fz 1
                have la14 : w.heap.size < w14.heap.size := ba14.lt
                have bb14 : Blk w14 (w.heap.size + 1) 23 #[.int .i64 c, .int .i64 d] := (by refine BlkG.start ?_; (repeat (first | ((with_reducible apply BlkG.done); (with_reducible assumption); exact rfl) | (with_reducible exact BlkG.newAt (by first | (with_reducible rfl) | omega | (simp; done) | (simp; omega)) rfl) | (with_reducible refine BlkG.drew ?_) | (with_reducible refine BlkG.drewN ?_) | (with_reducible refine BlkG.set ?_) | (with_reducible refine BlkG.far (by first | omega | (simp; done) | (simp; omega)) ?_) | (with_reducible refine BlkG.alloc ?_) | (with_reducible refine BlkG.bel (by with_reducible assumption) (by first | omega | (simp; done) | (simp; omega)) ?_))))
                have cb14_0 : w14.cell? ⟨w.heap.size + 1, 0, none⟩ = some (.int .i64 c) := bb14.cell 0
                have fb14_0 : w14.frozen? ⟨w.heap.size + 1, 0, none⟩ = false := bb14.fz 0
                have cb14_1 : w14.cell? ⟨w.heap.size + 1, 1, none⟩ = some (.int .i64 d) := bb14.cell 1
                have fb14_1 : w14.frozen? ⟨w.heap.size + 1, 1, none⟩ = false := bb14.fz 1
                have lb14 : w.heap.size + 1 < w14.heap.size := bb14.lt
                have HB14 : Below w.heap.size w w14 := (by repeat (first | with_reducible exact Below.refl _ _ | (with_reducible refine Below.alloc ?_ (by first | omega | (simp; done) | (simp; omega)) _) | (with_reducible refine Below.setCell ?_ (by first | omega | (simp; done) | (simp; omega)) _) | (with_reducible refine Below.drew ?_) | (with_reducible refine below_drewN ?_ _) | (with_reducible assumption) | (with_reducible refine bel_step (by with_reducible assumption) ?_ (by first | omega | (simp; done) | (simp; omega)))))
                have HZ14 := HB14.size
                clear hb14 hz14 HB12 HZ12 ba12 la12 ca12_0 fa12_0 ca12_1 fa12_1 bb12 lb12 cb12_0 fb12_0 cb12_1 fb12_1 
                have CH5w := Lib.hid (show ∀ w, Calls Tryd.prog 9 #[.agg #[.int .i64 (-b), .int .i64 (-a)], .int .i64 (wrap64 (-a2))] w fun e w' => e = .returned (.tuple #[.bool k, .nilIface]) ∧ Below w.heap.size w w' by rw [eN2.out]; exact CH5.out)
                go_wp2_with fail
                refine (CH5w.out _).mono ?_
                rintro e w15 ⟨rfl, hb15⟩
                have hz15 := hb15.size
                (try simp at hz15)
                have agt : w.heap.size ≤ w14.heap.size := by first | omega | (simp; done) | (simp; omega)
                have ota : w.heap.size < w14.heap.size := by (try simp); omega
                have ba15 : Blk w15 (w.heap.size) 23 #[.int .i64 a, .int .i64 b] := (by refine BlkG.start ?_; (repeat (first | ((with_reducible apply BlkG.done); (with_reducible assumption); exact rfl) | (with_reducible exact BlkG.newAt (by first | (with_reducible rfl) | omega | (simp; done) | (simp; omega)) rfl) | (with_reducible refine BlkG.drew ?_) | (with_reducible refine BlkG.drewN ?_) | (with_reducible refine BlkG.set ?_) | (with_reducible refine BlkG.far (by first | omega | (simp; done) | (simp; omega)) ?_) | (with_reducible refine BlkG.alloc ?_) | (with_reducible refine BlkG.bel (by with_reducible assumption) (by first | omega | (simp; done) | (simp; omega)) ?_))))
                have ca15_0 : w15.cell? ⟨w.heap.size, 0, none⟩ = some (.int .i64 a) := ba15.cell 0
                have fa15_0 : w15.frozen? ⟨w.heap.size, 0, none⟩ = false := ba15.fz 0
                have ca15_1 : w15.cell? ⟨w.heap.size, 1, none⟩ = some (.int .i64 b) := ba15.cell 1
                have fa15_1 : w15.frozen? ⟨w.heap.size, 1, none⟩ = false := ba15.fz 1
                have la15 : w.heap.size < w15.heap.size := ba15.lt
                have bt15 : Blk w15 (w14.heap.size) 23 #[.int .i64 (-b), .int .i64 (-a)] := (by refine BlkG.start ?_; (repeat (first | ((with_reducible apply BlkG.done); (with_reducible assumption); exact rfl) | (with_reducible exact BlkG.newAt (by first | (with_reducible rfl) | omega | (simp; done) | (simp; omega)) rfl) | (with_reducible refine BlkG.drew ?_) | (with_reducible refine BlkG.drewN ?_) | (with_reducible refine BlkG.set ?_) | (with_reducible refine BlkG.far (by first | omega | (simp; done) | (simp; omega)) ?_) | (with_reducible refine BlkG.alloc ?_) | (with_reducible refine BlkG.bel (by with_reducible assumption) (by first | omega | (simp; done) | (simp; omega)) ?_))))
                have ct15_0 : w15.cell? ⟨w14.heap.size, 0, none⟩ = some (.int .i64 (-b)) := bt15.cell 0
                have ft15_0 : w15.frozen? ⟨w14.heap.size, 0, none⟩ = false := bt15.fz 0
                have ct15_1 : w15.cell? ⟨w14.heap.size, 1, none⟩ = some (.int .i64 (-a)) := bt15.cell 1
                have ft15_1 : w15.frozen? ⟨w14.heap.size, 1, none⟩ = false := bt15.fz 1
                have lt15 : w14.heap.size < w15.heap.size := bt15.lt
                have HB15 : Below w.heap.size w w15 := (by repeat (first | with_reducible exact Below.refl _ _ | (with_reducible refine Below.alloc ?_ (by first | omega | (simp; done) | (simp; omega)) _) | (with_reducible refine Below.setCell ?_ (by first | omega | (simp; done) | (simp; omega)) _) | (with_reducible refine Below.drew ?_) | (with_reducible refine below_drewN ?_ _) | (with_reducible assumption) | (with_reducible refine bel_step (by with_reducible assumption) ?_ (by first | omega | (simp; done) | (simp; omega)))))
                have HZ15 := HB15.size
                clear hb15 hz15 HB14 HZ14 ba14 la14 ca14_0 fa14_0 ca14_1 fa14_1 
                have eA := eA2.out
                go_wp2_with fail
                go_ret
                exact ⟨rfl, (by repeat (first | with_reducible exact Below.refl _ _ | (with_reducible refine Below.alloc ?_ (by first | omega | (simp; done) | (simp; omega)) _) | (with_reducible refine Below.setCell ?_ (by first | omega | (simp; done) | (simp; omega)) _) | (with_reducible refine Below.drew ?_) | (with_reducible refine below_drewN ?_ _) | (with_reducible assumption) | (with_reducible refine bel_step (by with_reducible assumption) ?_ (by first | omega | (simp; done) | (simp; omega)))))⟩
          · have e := epq.out
            simp only [Bool.true_and] at e
            subst e
            clear epq
            obtain rfl := hk.out rfl
            clear hk
            cases q <;> cases ok
            · obtain rfl := hS0.out rfl
              clear hS0 hS1 hS
              · as_aux_lemma =>
                go_wp2_with fail
                refine (CAd.out _).mono ?_
                rintro e w12 ⟨rfl, hb12⟩
                have hz12 := hb12.size
                (try simp at hz12)
                have ba12 : Blk w12 (w.heap.size) 23 #[.int .i64 a, .int .i64 b] := (by refine BlkG.start ?_; (repeat (first | ((with_reducible apply BlkG.done); (with_reducible assumption); exact rfl) | (with_reducible exact BlkG.newAt (by first | (with_reducible rfl) | omega | (simp; done) | (simp; omega)) rfl) | (with_reducible refine BlkG.drew ?_) | (with_reducible refine BlkG.drewN ?_) | (with_reducible refine BlkG.set ?_) | (with_reducible refine BlkG.far (by first | omega | (simp; done) | (simp; omega)) ?_) | (with_reducible refine BlkG.alloc ?_) | (with_reducible refine BlkG.bel (by with_reducible assumption) (by first | omega | (simp; done) | (simp; omega)) ?_))))
                have ca12_0 : w12.cell? ⟨w.heap.size, 0, none⟩ = some (.int .i64 a) := ba12.cell 0
                have fa12_0 : w12.frozen? ⟨w.heap.size, 0, none⟩ = false := ba12.fz 0
                have ca12_1 : w12.cell? ⟨w.heap.size, 1, none⟩ = some (.int .i64 b) := ba12.cell 1
                have fa12_1 : w12.frozen? ⟨w.heap.size, 1, none⟩ = false := ba12.fz 1
                have la12 : w.heap.size < w12.heap.size := ba12.lt
                have bb12 : Blk w12 (w.heap.size + 1) 23 #[.int .i64 c, .int .i64 d] := (by refine BlkG.start ?_; (repeat (first | ((with_reducible apply BlkG.done); (with_reducible assumption); exact rfl) | (with_reducible exact BlkG.newAt (by first | (with_reducible rfl) | omega | (simp; done) | (simp; omega)) rfl) | (with_reducible refine BlkG.drew ?_) | (with_reducible refine BlkG.drewN ?_) | (with_reducible refine BlkG.set ?_) | (with_reducible refine BlkG.far (by first | omega | (simp; done) | (simp; omega)) ?_) | (with_reducible refine BlkG.alloc ?_) | (with_reducible refine BlkG.bel (by with_reducible assumption) (by first | omega | (simp; done) | (simp; omega)) ?_))))
                have cb12_0 : w12.cell? ⟨w.heap.size + 1, 0, none⟩ = some (.int .i64 c) := bb12.cell 0
                have fb12_0 : w12.frozen? ⟨w.heap.size + 1, 0, none⟩ = false := bb12.fz 0
                have cb12_1 : w12.cell? ⟨w.heap.size + 1, 1, none⟩ = some (.int .i64 d) := bb12.cell 1
                have fb12_1 : w12.frozen? ⟨w.heap.size + 1, 1, none⟩ = false := bb12.fz 1
                have lb12 : w.heap.size + 1 < w12.heap.size := bb12.lt
                have HB12 : Below w.heap.size w w12 := (by repeat (first | with_reducible exact Below.refl _ _ | (with_reducible refine Below.alloc ?_ (by first | omega | (simp; done) | (simp; omega)) _) | (with_reducible refine Below.setCell ?_ (by first | omega | (simp; done) | (simp; omega)) _) | (with_reducible refine Below.drew ?_) | (with_reducible refine below_drewN ?_ _) | (with_reducible assumption) | (with_reducible refine bel_step (by with_reducible assumption) ?_ (by first | omega | (simp; done) | (simp; omega)))))
                have HZ12 := HB12.size
                clear hb12 hz12 HB11 HZ11 ba11 la11 ca11_0 fa11_0 ca11_1 fa11_1 bb11 lb11 cb11_0 fb11_0 cb11_1 fb11_1 
                go_wp2_with fail
                refine (CTu.out _).mono ?_
                rintro e w14 ⟨rfl, hb14⟩
                have hz14 := hb14.size
                (try simp at hz14)
                have ba14 : Blk w14 (w.heap.size) 23 #[.int .i64 a, .int .i64 b] := (by refine BlkG.start ?_; (repeat (first | ((with_reducible apply BlkG.done); (with_reducible assumption); exact rfl) | (with_reducible exact BlkG.newAt (by first | (with_reducible rfl) | omega | (simp; done) | (simp; omega)) rfl) | (with_reducible refine BlkG.drew ?_) | (with_reducible refine BlkG.drewN ?_) | (with_reducible refine BlkG.set ?_) | (with_reducible refine BlkG.far (by first | omega | (simp; done) | (simp; omega)) ?_) | (with_reducible refine BlkG.alloc ?_) | (with_reducible refine BlkG.bel (by with_reducible assumption) (by first | omega | (simp; done) | (simp; omega)) ?_))))
                have ca14_0 : w14.cell? ⟨w.heap.size, 0, none⟩ = some (.int .i64 a) := ba14.cell 0
                have fa14_0 : w14.frozen? ⟨w.heap.size, 0, none⟩ = false := ba14.fz 0
                have ca14_1 : w14.cell? ⟨w.heap.size, 1, none⟩ = some (.int .i64 b) := ba14.cell 1
                have fa14_1 : w14.frozen? ⟨w.heap.size, 1, none⟩ = false := ba14.fz 1
                have la14 : w.heap.size < w14.heap.size := ba14.lt
                have bb14 : Blk w14 (w.heap.size + 1) 23 #[.int .i64 c, .int .i64 d] := (by refine BlkG.start ?_; (repeat (first | ((with_reducible apply BlkG.done); (with_reducible assumption); exact rfl) | (with_reducible exact BlkG.newAt (by first | (with_reducible rfl) | omega | (simp; done) | (simp; omega)) rfl) | (with_reducible refine BlkG.drew ?_) | (with_reducible refine BlkG.drewN ?_) | (with_reducible refine BlkG.set ?_) | (with_reducible refine BlkG.far (by first | omega | (simp; done) | (simp; omega)) ?_) | (with_reducible refine BlkG.alloc ?_) | (with_reducible refine BlkG.bel (by with_reducible assumption) (by first | omega | (simp; done) | (simp; omega)) ?_))))
                have cb14_0 : w14.cell? ⟨w.heap.size + 1, 0, none⟩ = some (.int .i64 c) := bb14.cell 0
                have fb14_0 : w14.frozen? ⟨w.heap.size + 1, 0, none⟩ = false := bb14.fz 0
                have cb14_1 : w14.cell? ⟨w.heap.size + 1, 1, none⟩ = some (.int .i64 d) := bb14.cell 1
                have fb14_1 : w14.frozen? ⟨w.heap.size + 1, 1, none⟩ = false := bb14.fz 1
                have lb14 : w.heap.size + 1 < w14.heap.size := bb14.lt
                have HB14 : Below w.heap.size w w14 := (by repeat (first | with_reducible exact Below.refl _ _ | (with_reducible refine Below.alloc ?_ (by first | omega | (simp; done) | (simp; omega)) _) | (with_reducible refine Below.setCell ?_ (by first | omega | (simp; done) | (simp; omega)) _) | (with_reducible refine Below.drew ?_) | (with_reducible refine below_drewN ?_ _) | (with_reducible assumption) | (with_reducible refine bel_step (by with_reducible assumption) ?_ (by first | omega | (simp; done) | (simp; omega)))))
                have HZ14 := HB14.size
                clear hb14 hz14 HB12 HZ12 ba12 la12 ca12_0 fa12_0 ca12_1 fa12_1 bb12 lb12 cb12_0 fb12_0 cb12_1 fb12_1 
                have CH5w := Lib.hid (show ∀ w, Calls Tryd.prog 9 #[.agg #[.int .i64 (-b), .int .i64 (-a)], .int .i64 (wrap64 (-a2))] w fun e w' => e = .returned (.tuple #[.bool true, .nilIface]) ∧ Below w.heap.size w w' by rw [eN2.out]; exact CH5.out)
                go_wp2_with fail
                refine (CH5w.out _).mono ?_
                rintro e w15 ⟨rfl, hb15⟩
                have hz15 := hb15.size
                (try simp at hz15)
                have agt : w.heap.size ≤ w14.heap.size := by first | omega | (simp; done) | (simp; omega)
                have ota : w.heap.size < w14.heap.size := by (try simp); omega
                have ba15 : Blk w15 (w.heap.size) 23 #[.int .i64 a, .int .i64 b] := (by refine BlkG.start ?_; (repeat (first | ((with_reducible apply BlkG.done); (with_reducible assumption); exact rfl) | (with_reducible exact BlkG.newAt (by first | (with_reducible rfl) | omega | (simp; done) | (simp; omega)) rfl) | (with_reducible refine BlkG.drew ?_) | (with_reducible refine BlkG.drewN ?_) | (with_reducible refine BlkG.set ?_) | (with_reducible refine BlkG.far (by first | omega | (simp; done) | (simp; omega)) ?_) | (with_reducible refine BlkG.alloc ?_) | (with_reducible refine BlkG.bel (by with_reducible assumption) (by first | omega | (simp; done) | (simp; omega)) ?_))))
                have ca15_0 : w15.cell? ⟨w.heap.size, 0, none⟩ = some (.int .i64 a) := ba15.cell 0
                have fa15_0 : w15.frozen? ⟨w.heap.size, 0, none⟩ = false := ba15.fz 0
                have ca15_1 : w15.cell? ⟨w.heap.size, 1, none⟩ = some (.int .i64 b) := ba15.cell 1
                have fa15_1 : w15.frozen? ⟨w.heap.size, 1, none⟩ = false := ba15.fz 1
                have la15 : w.heap.size < w15.heap.size := ba15.lt
                have bt15 : Blk w15 (w14.heap.size) 23 #[.int .i64 (-b), .int .i64 (-a)] := (by refine BlkG.start ?_; (repeat (first | ((with_reducible apply BlkG.done); (with_reducible assumption); exact rfl) | (with_reducible exact BlkG.newAt (by first | (with_reducible rfl) | omega | (simp; done) | (simp; omega)) rfl) | (with_reducible refine BlkG.drew ?_) | (with_reducible refine BlkG.drewN ?_) | (with_reducible refine BlkG.set ?_) | (with_reducible refine BlkG.far (by first | omega | (simp; done) | (simp; omega)) ?_) | (with_reducible refine BlkG.alloc ?_) | (with_reducible refine BlkG.bel (by with_reducible assumption) (by first | omega | (simp; done) | (simp; omega)) ?_))))
                have ct15_0 : w15.cell? ⟨w14.heap.size, 0, none⟩ = some (.int .i64 (-b)) := bt15.cell 0
                have ft15_0 : w15.frozen? ⟨w14.heap.size, 0, none⟩ = false := bt15.fz 0
                have ct15_1 : w15.cell? ⟨w14.heap.size, 1, none⟩ = some (.int .i64 (-a)) := bt15.cell 1
                have ft15_1 : w15.frozen? ⟨w14.heap.size, 1, none⟩ = false := bt15.fz 1
                have lt15 : w14.heap.size < w15.heap.size := bt15.lt
                have HB15 : Below w.heap.size w w15 := (by repeat (first | with_reducible exact Below.refl _ _ | (with_reducible refine Below.alloc ?_ (by first | omega | (simp; done) | (simp; omega)) _) | (with_reducible refine Below.setCell ?_ (by first | omega | (simp; done) | (simp; omega)) _) | (with_reducible refine Below.drew ?_) | (with_reducible refine below_drewN ?_ _) | (with_reducible assumption) | (with_reducible refine bel_step (by with_reducible assumption) ?_ (by first | omega | (simp; done) | (simp; omega)))))
                have HZ15 := HB15.size
                clear hb15 hz15 HB14 HZ14 ba14 la14 ca14_0 fa14_0 ca14_1 fa14_1 
                have eA := eA2.out
                go_wp2_with fail
                go_ret
                exact ⟨rfl, (by repeat (first | with_reducible exact Below.refl _ _ | (with_reducible refine Below.alloc ?_ (by first | omega | (simp; done) | (simp; omega)) _) | (with_reducible refine Below.setCell ?_ (by first | omega | (simp; done) | (simp; omega)) _) | (with_reducible refine Below.drew ?_) | (with_reducible refine below_drewN ?_ _) | (with_reducible assumption) | (with_reducible refine bel_step (by with_reducible assumption) ?_ (by first | omega | (simp; done) | (simp; omega)))))⟩
            · obtain rfl := hS1.out rfl
              clear hS0 hS1
              cases r
              · clear hS
                · as_aux_lemma =>
                  go_wp2_with fail
                  refine (CAd.out _).mono ?_
                  rintro e w12 ⟨rfl, hb12⟩
                  have hz12 := hb12.size
                  (try simp at hz12)
                  have ba12 : Blk w12 (w.heap.size) 23 #[.int .i64 a, .int .i64 b] := (by refine BlkG.start ?_; (repeat (first | ((with_reducible apply BlkG.done); (with_reducible assumption); exact rfl) | (with_reducible exact BlkG.newAt (by first | (with_reducible rfl) | omega | (simp; done) | (simp; omega)) rfl) | (with_reducible refine BlkG.drew ?_) | (with_reducible refine BlkG.drewN ?_) | (with_reducible refine BlkG.set ?_) | (with_reducible refine BlkG.far (by first | omega | (simp; done) | (simp; omega)) ?_) | (with_reducible refine BlkG.alloc ?_) | (with_reducible refine BlkG.bel (by with_reducible assumption) (by first | omega | (simp; done) | (simp; omega)) ?_))))
                  have ca12_0 : w12.cell? ⟨w.heap.size, 0, none⟩ = some (.int .i64 a) := ba12.cell 0
                  have fa12_0 : w12.frozen? ⟨w.heap.size, 0, none⟩ = false := ba12.fz 0
                  have ca12_1 : w12.cell? ⟨w.heap.size, 1, none⟩ = some (.int .i64 b) := ba12.cell 1
                  have fa12_1 : w12.frozen? ⟨w.heap.size, 1, none⟩ = false := ba12.fz 1
                  have la12 : w.heap.size < w12.heap.size := ba12.lt
                  have bb12 : Blk w12 (w.heap.size + 1) 23 #[.int .i64 c, .int .i64 d] := (by refine BlkG.start ?_; (repeat (first | ((with_reducible apply BlkG.done); (with_reducible assumption); exact rfl) | (with_reducible exact BlkG.newAt (by first | (with_reducible rfl) | omega | (simp; done) | (simp; omega)) rfl) | (with_reducible refine BlkG.drew ?_) | (with_reducible refine BlkG.drewN ?_) | (with_reducible refine BlkG.set ?_) | (with_reducible refine BlkG.far (by first | omega | (simp; done) | (simp; omega)) ?_) | (with_reducible refine BlkG.alloc ?_) | (with_reducible refine BlkG.bel (by with_reducible assumption) (by first | omega | (simp; done) | (simp; omega)) ?_))))
                  have cb12_0 : w12.cell? ⟨w.heap.size + 1, 0, none⟩ = some (.int .i64 c) := bb12.cell 0
                  have fb12_0 : w12.frozen? ⟨w.heap.size + 1, 0, none⟩ = false := bb12.fz 0
                  have cb12_1 : w12.cell? ⟨w.heap.size + 1, 1, none⟩ = some (.int .i64 d) := bb12.cell 1
                  have fb12_1 : w12.frozen? ⟨w.heap.size + 1, 1, none⟩ = false := bb12.fz 1
                  have lb12 : w.heap.size + 1 < w12.heap.size := bb12.lt
                  have HB12 : Below w.heap.size w w12 := (by repeat (first | with_reducible exact Below.refl _ _ | (with_reducible refine Below.alloc ?_ (by first | omega | (simp; done) | (simp; omega)) _) | (with_reducible refine Below.setCell ?_ (by first | omega | (simp; done) | (simp; omega)) _) | (with_reducible refine Below.drew ?_) | (with_reducible refine below_drewN ?_ _) | (with_reducible assumption) | (with_reducible refine bel_step (by with_reducible assumption) ?_ (by first | omega | (simp; done) | (simp; omega)))))
                  have HZ12 := HB12.size
                  clear hb12 hz12 HB11 HZ11 ba11 la11 ca11_0 fa11_0 ca11_1 fa11_1 bb11 lb11 cb11_0 fb11_0 cb11_1 fb11_1 
                  go_wp2_with fail
                  refine (CTu.out _).mono ?_
                  rintro e w14 ⟨rfl, hb14⟩
                  have hz14 := hb14.size
                  (try simp at hz14)
                  have ba14 : Blk w14 (w.heap.size) 23 #[.int .i64 a, .int .i64 b] := (by refine BlkG.start ?_; (repeat (first | ((with_reducible apply BlkG.done); (with_reducible assumption); exact rfl) | (with_reducible exact BlkG.newAt (by first | (with_reducible rfl) | omega | (simp; done) | (simp; omega)) rfl) | (with_reducible refine BlkG.drew ?_) | (with_reducible refine BlkG.drewN ?_) | (with_reducible refine BlkG.set ?_) | (with_reducible refine BlkG.far (by first | omega | (simp; done) | (simp; omega)) ?_) | (with_reducible refine BlkG.alloc ?_) | (with_reducible refine BlkG.bel (by with_reducible assumption) (by first | omega | (simp; done) | (simp; omega)) ?_))))
                  have ca14_0 : w14.cell? ⟨w.heap.size, 0, none⟩ = some (.int .i64 a) := ba14.cell 0
                  have fa14_0 : w14.frozen? ⟨w.heap.size, 0, none⟩ = false := ba14.fz 0
                  have ca14_1 : w14.cell? ⟨w.heap.size, 1, none⟩ = some (.int .i64 b) := ba14.cell 1
                  have fa14_1 : w14.frozen? ⟨w.heap.size, 1, none⟩ = false := ba14.fz 1
                  have la14 : w.heap.size < w14.heap.size := ba14.lt
                  have bb14 : Blk w14 (w.heap.size + 1) 23 #[.int .i64 c, .int .i64 d] := (by refine BlkG.start ?_; (repeat (first | ((with_reducible apply BlkG.done); (with_reducible assumption); exact rfl) | (with_reducible exact BlkG.newAt (by first | (with_reducible rfl) | omega | (simp; done) | (simp; omega)) rfl) | (with_reducible refine BlkG.drew ?_) | (with_reducible refine BlkG.drewN ?_) | (with_reducible refine BlkG.set ?_) | (with_reducible refine BlkG.far (by first | omega | (simp; done) | (simp; omega)) ?_) | (with_reducible refine BlkG.alloc ?_) | (with_reducible refine BlkG.bel (by with_reducible assumption) (by first | omega | (simp; done) | (simp; omega)) ?_))))
                  have cb14_0 : w14.cell? ⟨w.heap.size + 1, 0, none⟩ = some (.int .i64 c) := bb14.cell 0
                  have fb14_0 : w14.frozen? ⟨w.heap.size + 1, 0, none⟩ = false := bb14.fz 0
                  have cb14_1 : w14.cell? ⟨w.heap.size + 1, 1, none⟩ = some (.int .i64 d) := bb14.cell 1
                  have fb14_1 : w14.frozen? ⟨w.heap.size + 1, 1, none⟩ = false := bb14.fz 1
                  have lb14 : w.heap.size + 1 < w14.heap.size := bb14.lt
                  have HB14 : Below w.heap.size w w14 := (by repeat (first | with_reducible exact Below.refl _ _ | (with_reducible refine Below.alloc ?_ (by first | omega | (simp; done) | (simp; omega)) _) | (with_reducible refine Below.setCell ?_ (by first | omega | (simp; done) | (simp; omega)) _) | (with_reducible refine Below.drew ?_) | (with_reducible refine below_drewN ?_ _) | (with_reducible assumption) | (with_reducible refine bel_step (by with_reducible assumption) ?_ (by first | omega | (simp; done) | (simp; omega)))))
                  have HZ14 := HB14.size
                  clear hb14 hz14 HB12 HZ12 ba12 la12 ca12_0 fa12_0 ca12_1 fa12_1 bb12 lb12 cb12_0 fb12_0 cb12_1 fb12_1 
                  have CH5w := Lib.hid (show ∀ w, Calls Tryd.prog 9 #[.agg #[.int .i64 (-b), .int .i64 (-a)], .int .i64 (wrap64 (-a2))] w fun e w' => e = .returned (.tuple #[.bool true, .nilIface]) ∧ Below w.heap.size w w' by rw [eN2.out]; exact CH5.out)
                  go_wp2_with fail
                  refine (CH5w.out _).mono ?_
                  rintro e w15 ⟨rfl, hb15⟩
                  have hz15 := hb15.size
                  (try simp at hz15)
                  have agt : w.heap.size ≤ w14.heap.size := by first | omega | (simp; done) | (simp; omega)
                  have ota : w.heap.size < w14.heap.size := by (try simp); omega
                  have ba15 : Blk w15 (w.heap.size) 23 #[.int .i64 a, .int .i64 b] := (by refine BlkG.start ?_; (repeat (first | ((with_reducible apply BlkG.done); (with_reducible assumption); exact rfl) | (with_reducible exact BlkG.newAt (by first | (with_reducible rfl) | omega | (simp; done) | (simp; omega)) rfl) | (with_reducible refine BlkG.drew ?_) | (with_reducible refine BlkG.drewN ?_) | (with_reducible refine BlkG.set ?_) | (with_reducible refine BlkG.far (by first | omega | (simp; done) | (simp; omega)) ?_) | (with_reducible refine BlkG.alloc ?_) | (with_reducible refine BlkG.bel (by with_reducible assumption) (by first | omega | (simp; done) | (simp; omega)) ?_))))
                  have ca15_0 : w15.cell? ⟨w.heap.size, 0, none⟩ = some (.int .i64 a) := ba15.cell 0
                  have fa15_0 : w15.frozen? ⟨w.heap.size, 0, none⟩ = false := ba15.fz 0
                  have ca15_1 : w15.cell? ⟨w.heap.size, 1, none⟩ = some (.int .i64 b) := ba15.cell 1
                  have fa15_1 : w15.frozen? ⟨w.heap.size, 1, none⟩ = false := ba15.fz 1
                  have la15 : w.heap.size < w15.heap.size := ba15.lt
                  have bt15 : Blk w15 (w14.heap.size) 23 #[.int .i64 (-b), .int .i64 (-a)] := (by refine BlkG.start ?_; (repeat (first | ((with_reducible apply BlkG.done); (with_reducible assumption); exact rfl) | (with_reducible exact BlkG.newAt (by first | (with_reducible rfl) | omega | (simp; done) | (simp; omega)) rfl) | (with_reducible refine BlkG.drew ?_) | (with_reducible refine BlkG.drewN ?_) | (with_reducible refine BlkG.set ?_) | (with_reducible refine BlkG.far (by first | omega | (simp; done) | (simp; omega)) ?_) | (with_reducible refine BlkG.alloc ?_) | (with_reducible refine BlkG.bel (by with_reducible assumption) (by first | omega | (simp; done) | (simp; omega)) ?_))))
                  have ct15_0 : w15.cell? ⟨w14.heap.size, 0, none⟩ = some (.int .i64 (-b)) := bt15.cell 0
                  have ft15_0 : w15.frozen? ⟨w14.heap.size, 0, none⟩ = false := bt15.fz 0
                  have ct15_1 : w15.cell? ⟨w14.heap.size, 1, none⟩ = some (.int .i64 (-a)) := bt15.cell 1
                  have ft15_1 : w15.frozen? ⟨w14.heap.size, 1, none⟩ = false := bt15.fz 1
                  have lt15 : w14.heap.size < w15.heap.size := bt15.lt
                  have HB15 : Below w.heap.size w w15 := (by repeat (first | with_reducible exact Below.refl _ _ | (with_reducible refine Below.alloc ?_ (by first | omega | (simp; done) | (simp; omega)) _) | (with_reducible refine Below.setCell ?_ (by first | omega | (simp; done) | (simp; omega)) _) | (with_reducible refine Below.drew ?_) | (with_reducible refine below_drewN ?_ _) | (with_reducible assumption) | (with_reducible refine bel_step (by with_reducible assumption) ?_ (by first | omega | (simp; done) | (simp; omega)))))
                  have HZ15 := HB15.size
                  clear hb15 hz15 HB14 HZ14 ba14 la14 ca14_0 fa14_0 ca14_1 fa14_1 
                  have eA := eA2.out
                  go_wp2_with fail
                  go_ret
                  exact ⟨rfl, (by repeat (first | with_reducible exact Below.refl _ _ | (with_reducible refine Below.alloc ?_ (by first | omega | (simp; done) | (simp; omega)) _) | (with_reducible refine Below.setCell ?_ (by first | omega | (simp; done) | (simp; omega)) _) | (with_reducible refine Below.drew ?_) | (with_reducible refine below_drewN ?_ _) | (with_reducible assumption) | (with_reducible refine bel_step (by with_reducible assumption) ?_ (by first | omega | (simp; done) | (simp; omega)))))⟩
              · obtain ⟨eW, CHs⟩ := hS.out rfl rfl rfl
                clear hS
                · as_aux_lemma =>
                  go_wp2_with fail
                  refine (CAd.out _).mono ?_
                  rintro e w12 ⟨rfl, hb12⟩
                  have hz12 := hb12.size
                  (try simp at hz12)
                  have ba12 : Blk w12 (w.heap.size) 23 #[.int .i64 a, .int .i64 b] := (by refine BlkG.start ?_; (repeat (first | ((with_reducible apply BlkG.done); (with_reducible assumption); exact rfl) | (with_reducible exact BlkG.newAt (by first | (with_reducible rfl) | omega | (simp; done) | (simp; omega)) rfl) | (with_reducible refine BlkG.drew ?_) | (with_reducible refine BlkG.drewN ?_) | (with_reducible refine BlkG.set ?_) | (with_reducible refine BlkG.far (by first | omega | (simp; done) | (simp; omega)) ?_) | (with_reducible refine BlkG.alloc ?_) | (with_reducible refine BlkG.bel (by with_reducible assumption) (by first | omega | (simp; done) | (simp; omega)) ?_))))
                  have ca12_0 : w12.cell? ⟨w.heap.size, 0, none⟩ = some (.int .i64 a) := ba12.cell 0
                  have fa12_0 : w12.frozen? ⟨w.heap.size, 0, none⟩ = false := ba12.fz 0
                  have ca12_1 : w12.cell? ⟨w.heap.size, 1, none⟩ = some (.int .i64 b) := ba12.cell 1
                  have fa12_1 : w12.frozen? ⟨w.heap.size, 1, none⟩ = false := ba12.fz 1
                  have la12 : w.heap.size < w12.heap.size := ba12.lt
                  have bb12 : Blk w12 (w.heap.size + 1) 23 #[.int .i64 c, .int .i64 d] := (by refine BlkG.start ?_; (repeat (first | ((with_reducible apply BlkG.done); (with_reducible assumption); exact rfl) | (with_reducible exact BlkG.newAt (by first | (with_reducible rfl) | omega | (simp; done) | (simp; omega)) rfl) | (with_reducible refine BlkG.drew ?_) | (with_reducible refine BlkG.drewN ?_) | (with_reducible refine BlkG.set ?_) | (with_reducible refine BlkG.far (by first | omega | (simp; done) | (simp; omega)) ?_) | (with_reducible refine BlkG.alloc ?_) | (with_reducible refine BlkG.bel (by with_reducible assumption) (by first | omega | (simp; done) | (simp; omega)) ?_))))
                  have cb12_0 : w12.cell? ⟨w.heap.size + 1, 0, none⟩ = some (.int .i64 c) := bb12.cell 0
                  have fb12_0 : w12.frozen? ⟨w.heap.size + 1, 0, none⟩ = false := bb12.fz 0
                  have cb12_1 : w12.cell? ⟨w.heap.size + 1, 1, none⟩ = some (.int .i64 d) := bb12.cell 1
                  have fb12_1 : w12.frozen? ⟨w.heap.size + 1, 1, none⟩ = false := bb12.fz 1
                  have lb12 : w.heap.size + 1 < w12.heap.size := bb12.lt
                  have HB12 : Below w.heap.size w w12 := (by repeat (first | with_reducible exact Below.refl _ _ | (with_reducible refine Below.alloc ?_ (by first | omega | (simp; done) | (simp; omega)) _) | (with_reducible refine Below.setCell ?_ (by first | omega | (simp; done) | (simp; omega)) _) | (with_reducible refine Below.drew ?_) | (with_reducible refine below_drewN ?_ _) | (with_reducible assumption) | (with_reducible refine bel_step (by with_reducible assumption) ?_ (by first | omega | (simp; done) | (simp; omega)))))
                  have HZ12 := HB12.size
                  clear hb12 hz12 HB11 HZ11 ba11 la11 ca11_0 fa11_0 ca11_1 fa11_1 bb11 lb11 cb11_0 fb11_0 cb11_1 fb11_1 
                  have CHs := Lib.hid CHs
                  go_wp2_with fail
                  refine (CHs.out _).mono ?_
                  rintro e w13 ⟨rfl, hb13⟩
                  have hz13 := hb13.size
                  (try simp at hz13)
                  have ba13 : Blk w13 (w.heap.size) 23 #[.int .i64 a, .int .i64 b] := (by refine BlkG.start ?_; (repeat (first | ((with_reducible apply BlkG.done); (with_reducible assumption); exact rfl) | (with_reducible exact BlkG.newAt (by first | (with_reducible rfl) | omega | (simp; done) | (simp; omega)) rfl) | (with_reducible refine BlkG.drew ?_) | (with_reducible refine BlkG.drewN ?_) | (with_reducible refine BlkG.set ?_) | (with_reducible refine BlkG.far (by first | omega | (simp; done) | (simp; omega)) ?_) | (with_reducible refine BlkG.alloc ?_) | (with_reducible refine BlkG.bel (by with_reducible assumption) (by first | omega | (simp; done) | (simp; omega)) ?_))))
                  have ca13_0 : w13.cell? ⟨w.heap.size, 0, none⟩ = some (.int .i64 a) := ba13.cell 0
                  have fa13_0 : w13.frozen? ⟨w.heap.size, 0, none⟩ = false := ba13.fz 0
                  have ca13_1 : w13.cell? ⟨w.heap.size, 1, none⟩ = some (.int .i64 b) := ba13.cell 1
                  have fa13_1 : w13.frozen? ⟨w.heap.size, 1, none⟩ = false := ba13.fz 1
                  have la13 : w.heap.size < w13.heap.size := ba13.lt
                  have HB13 : Below w.heap.size w w13 := (by repeat (first | with_reducible exact Below.refl _ _ | (with_reducible refine Below.alloc ?_ (by first | omega | (simp; done) | (simp; omega)) _) | (with_reducible refine Below.setCell ?_ (by first | omega | (simp; done) | (simp; omega)) _) | (with_reducible refine Below.drew ?_) | (with_reducible refine below_drewN ?_ _) | (with_reducible assumption) | (with_reducible refine bel_step (by with_reducible assumption) ?_ (by first | omega | (simp; done) | (simp; omega)))))
                  have HZ13 := HB13.size
                  clear hb13 hz13 HB12 HZ12 ba12 la12 ca12_0 fa12_0 ca12_1 fa12_1 
                  go_wp2_with fail
                  refine (CTu.out _).mono ?_
                  rintro e w14 ⟨rfl, hb14⟩
                  have hz14 := hb14.size
                  (try simp at hz14)
                  have ba14 : Blk w14 (w.heap.size) 23 #[.int .i64 a, .int .i64 b] := (by refine BlkG.start ?_; (repeat (first | ((with_reducible apply BlkG.done); (with_reducible assumption); exact rfl) | (with_reducible exact BlkG.newAt (by first | (with_reducible rfl) | omega | (simp; done) | (simp; omega)) rfl) | (with_reducible refine BlkG.drew ?_) | (with_reducible refine BlkG.drewN ?_) | (with_reducible refine BlkG.set ?_) | (with_reducible refine BlkG.far (by first | omega | (simp; done) | (simp; omega)) ?_) | (with_reducible refine BlkG.alloc ?_) | (with_reducible refine BlkG.bel (by with_reducible assumption) (by first | omega | (simp; done) | (simp; omega)) ?_))))
                  have ca14_0 : w14.cell? ⟨w.heap.size, 0, none⟩ = some (.int .i64 a) := ba14.cell 0
                  have fa14_0 : w14.frozen? ⟨w.heap.size, 0, none⟩ = false := ba14.fz 0
                  have ca14_1 : w14.cell? ⟨w.heap.size, 1, none⟩ = some (.int .i64 b) := ba14.cell 1
                  have fa14_1 : w14.frozen? ⟨w.heap.size, 1, none⟩ = false := ba14.fz 1
                  have la14 : w.heap.size < w14.heap.size := ba14.lt
                  have HB14 : Below w.heap.size w w14 := (by repeat (first | with_reducible exact Below.refl _ _ | (with_reducible refine Below.alloc ?_ (by first | omega | (simp; done) | (simp; omega)) _) | (with_reducible refine Below.setCell ?_ (by first | omega | (simp; done) | (simp; omega)) _) | (with_reducible refine Below.drew ?_) | (with_reducible refine below_drewN ?_ _) | (with_reducible assumption) | (with_reducible refine bel_step (by with_reducible assumption) ?_ (by first | omega | (simp; done) | (simp; omega)))))
                  have HZ14 := HB14.size
                  clear hb14 hz14 HB13 HZ13 ba13 la13 ca13_0 fa13_0 ca13_1 fa13_1 
                  have CH5w := Lib.hid (show ∀ w, Calls Tryd.prog 9 #[.agg #[.int .i64 (-b), .int .i64 (-a)], .int .i64 (wrap64 (-a2))] w fun e w' => e = .returned (.tuple #[.bool true, .nilIface]) ∧ Below w.heap.size w w' by rw [eN2.out]; exact CH5.out)
                  go_wp2_with fail
                  refine (CH5w.out _).mono ?_
                  rintro e w15 ⟨rfl, hb15⟩
                  have hz15 := hb15.size
                  (try simp at hz15)
                  have agt : w.heap.size ≤ w14.heap.size := by first | omega | (simp; done) | (simp; omega)
                  have ota : w.heap.size < w14.heap.size := by (try simp); omega
                  have ba15 : Blk w15 (w.heap.size) 23 #[.int .i64 a, .int .i64 b] := (by refine BlkG.start ?_; (repeat (first | ((with_reducible apply BlkG.done); (with_reducible assumption); exact rfl) | (with_reducible exact BlkG.newAt (by first | (with_reducible rfl) | omega | (simp; done) | (simp; omega)) rfl) | (with_reducible refine BlkG.drew ?_) | (with_reducible refine BlkG.drewN ?_) | (with_reducible refine BlkG.set ?_) | (with_reducible refine BlkG.far (by first | omega | (simp; done) | (simp; omega)) ?_) | (with_reducible refine BlkG.alloc ?_) | (with_reducible refine BlkG.bel (by with_reducible assumption) (by first | omega | (simp; done) | (simp; omega)) ?_))))
                  have ca15_0 : w15.cell? ⟨w.heap.size, 0, none⟩ = some (.int .i64 a) := ba15.cell 0
                  have fa15_0 : w15.frozen? ⟨w.heap.size, 0, none⟩ = false := ba15.fz 0
                  have ca15_1 : w15.cell? ⟨w.heap.size, 1, none⟩ = some (.int .i64 b) := ba15.cell 1
                  have fa15_1 : w15.frozen? ⟨w.heap.size, 1, none⟩ = false := ba15.fz 1
                  have la15 : w.heap.size < w15.heap.size := ba15.lt
                  have bt15 : Blk w15 (w14.heap.size) 23 #[.int .i64 (-b), .int .i64 (-a)] := (by refine BlkG.start ?_; (repeat (first | ((with_reducible apply BlkG.done); (with_reducible assumption); exact rfl) | (with_reducible exact BlkG.newAt (by first | (with_reducible rfl) | omega | (simp; done) | (simp; omega)) rfl) | (with_reducible refine BlkG.drew ?_) | (with_reducible refine BlkG.drewN ?_) | (with_reducible refine BlkG.set ?_) | (with_reducible refine BlkG.far (by first | omega | (simp; done) | (simp; omega)) ?_) | (with_reducible refine BlkG.alloc ?_) | (with_reducible refine BlkG.bel (by with_reducible assumption) (by first | omega | (simp; done) | (simp; omega)) ?_))))
                  have ct15_0 : w15.cell? ⟨w14.heap.size, 0, none⟩ = some (.int .i64 (-b)) := bt15.cell 0
                  have ft15_0 : w15.frozen? ⟨w14.heap.size, 0, none⟩ = false := bt15.fz 0
                  have ct15_1 : w15.cell? ⟨w14.heap.size, 1, none⟩ = some (.int .i64 (-a)) := bt15.cell 1
                  have ft15_1 : w15.frozen? ⟨w14.heap.size, 1, none⟩ = false := bt15.fz 1
                  have lt15 : w14.heap.size < w15.heap.size := bt15.lt
                  have HB15 : Below w.heap.size w w15 := (by repeat (first | with_reducible exact Below.refl _ _ | (with_reducible refine Below.alloc ?_ (by first | omega | (simp; done) | (simp; omega)) _) | (with_reducible refine Below.setCell ?_ (by first | omega | (simp; done) | (simp; omega)) _) | (with_reducible refine Below.drew ?_) | (with_reducible refine below_drewN ?_ _) | (with_reducible assumption) | (with_reducible refine bel_step (by with_reducible assumption) ?_ (by first | omega | (simp; done) | (simp; omega)))))
                  have HZ15 := HB15.size
                  clear hb15 hz15 HB14 HZ14 ba14 la14 ca14_0 fa14_0 ca14_1 fa14_1 
                  have eA := eA2.out
                  go_wp2_with fail
                  go_ret
                  exact ⟨rfl, (by repeat (first | with_reducible exact Below.refl _ _ | (with_reducible refine Below.alloc ?_ (by first | omega | (simp; done) | (simp; omega)) _) | (with_reducible refine Below.setCell ?_ (by first | omega | (simp; done) | (simp; omega)) _) | (with_reducible refine Below.drew ?_) | (with_reducible refine below_drewN ?_ _) | (with_reducible assumption) | (with_reducible refine bel_step (by with_reducible assumption) ?_ (by first | omega | (simp; done) | (simp; omega)))))⟩
            · obtain rfl := hS0.out rfl
              clear hS0 hS1 hS
              · as_aux_lemma =>
                go_wp2_with fail
                refine (CAd.out _).mono ?_
                rintro e w12 ⟨rfl, hb12⟩
                have hz12 := hb12.size
                (try simp at hz12)
                have ba12 : Blk w12 (w.heap.size) 23 #[.int .i64 a, .int .i64 b] := (by refine BlkG.start ?_; (repeat (first | ((with_reducible apply BlkG.done); (with_reducible assumption); exact rfl) | (with_reducible exact BlkG.newAt (by first | (with_reducible rfl) | omega | (simp; done) | (simp; omega)) rfl) | (with_reducible refine BlkG.drew ?_) | (with_reducible refine BlkG.drewN ?_) | (with_reducible refine BlkG.set ?_) | (with_reducible refine BlkG.far (by first | omega | (simp; done) | (simp; omega)) ?_) | (with_reducible refine BlkG.alloc ?_) | (with_reducible refine BlkG.bel (by with_reducible assumption) (by first | omega | (simp; done) | (simp; omega)) ?_))))
                have ca12_0 : w12.cell? ⟨w.heap.size, 0, none⟩ = some (.int .i64 a) := ba12.cell 0
                have fa12_0 : w12.frozen? ⟨w.heap.size, 0, none⟩ = false := ba12.fz 0
                have ca12_1 : w12.cell? ⟨w.heap.size, 1, none⟩ = some (.int .i64 b) := ba12.cell 1
                have fa12_1 : w12.frozen? ⟨w.heap.size, 1, none⟩ = false := ba12.fz 1
                have la12 : w.heap.size < w12.heap.size := ba12.lt
                have bb12 : Blk w12 (w.heap.size + 1) 23 #[.int .i64 c, .int .i64 d] := (by refine BlkG.start ?_; (repeat (first | ((with_reducible apply BlkG.done); (with_reducible assumption); exact rfl) | (with_reducible exact BlkG.newAt (by first | (with_reducible rfl) | omega | (simp; done) | (simp; omega)) rfl) | (with_reducible refine BlkG.drew ?_) | (with_reducible refine BlkG.drewN ?_) | (with_reducible refine BlkG.set ?_) | (with_reducible refine BlkG.far (by first | omega | (simp; done) | (simp; omega)) ?_) | (with_reducible refine BlkG.alloc ?_) | (with_reducible refine BlkG.bel (by with_reducible assumption) (by first | omega | (simp; done) | (simp; omega)) ?_))))
                have cb12_0 : w12.cell? ⟨w.heap.size + 1, 0, none⟩ = some (.int .i64 c) := bb12.cell 0
                have fb12_0 : w12.frozen? ⟨w.heap.size + 1, 0, none⟩ = false := bb12.fz 0
                have cb12_1 : w12.cell? ⟨w.heap.size + 1, 1, none⟩ = some (.int .i64 d) := bb12.cell 1
                have fb12_1 : w12.frozen? ⟨w.heap.size + 1, 1, none⟩ = false := bb12.fz 1
                have lb12 : w.heap.size + 1 < w12.heap.size := bb12.lt
                have HB12 : Below w.heap.size w w12 := (by repeat (first | with_reducible exact Below.refl _ _ | (with_reducible refine Below.alloc ?_ (by first | omega | (simp; done) | (simp; omega)) _) | (with_reducible refine Below.setCell ?_ (by first | omega | (simp; done) | (simp; omega)) _) | (with_reducible refine Below.drew ?_) | (with_reducible refine below_drewN ?_ _) | (with_reducible assumption) | (with_reducible refine bel_step (by with_reducible assumption) ?_ (by first | omega | (simp; done) | (simp; omega)))))
                have HZ12 := HB12.size
                clear hb12 hz12 HB11 HZ11 ba11 la11 ca11_0 fa11_0 ca11_1 fa11_1 bb11 lb11 cb11_0 fb11_0 cb11_1 fb11_1 
                go_wp2_with fail
                refine (CTu.out _).mono ?_
                rintro e w14 ⟨rfl, hb14⟩
                have hz14 := hb14.size
                (try simp at hz14)
                have ba14 : Blk w14 (w.heap.size) 23 #[.int .i64 a, .int .i64 b] := (by refine BlkG.start ?_; (repeat (first | ((with_reducible apply BlkG.done); (with_reducible assumption); exact rfl) | (with_reducible exact BlkG.newAt (by first | (with_reducible rfl) | omega | (simp; done) | (simp; omega)) rfl) | (with_reducible refine BlkG.drew ?_) | (with_reducible refine BlkG.drewN ?_) | (with_reducible refine BlkG.set ?_) | (with_reducible refine BlkG.far (by first | omega | (simp; done) | (simp; omega)) ?_) | (with_reducible refine BlkG.alloc ?_) | (with_reducible refine BlkG.bel (by with_reducible assumption) (by first | omega | (simp; done) | (simp; omega)) ?_))))
                have ca14_0 : w14.cell? ⟨w.heap.size, 0, none⟩ = some (.int .i64 a) := ba14.cell 0
                have fa14_0 : w14.frozen? ⟨w.heap.size, 0, none⟩ = false := ba14.fz 0
                have ca14_1 : w14.cell? ⟨w.heap.size, 1, none⟩ = some (.int .i64 b) := ba14.cell 1
                have fa14_1 : w14.frozen? ⟨w.heap.size, 1, none⟩ = false := ba14.fz 1
                have la14 : w.heap.size < w14.heap.size := ba14.lt
                have bb14 : Blk w14 (w.heap.size + 1) 23 #[.int .i64 c, .int .i64 d] := (by refine BlkG.start ?_; (repeat (first | ((with_reducible apply BlkG.done); (with_reducible assumption); exact rfl) | (with_reducible exact BlkG.newAt (by first | (with_reducible rfl) | omega | (simp; done) | (simp; omega)) rfl) | (with_reducible refine BlkG.drew ?_) | (with_reducible refine BlkG.drewN ?_) | (with_reducible refine BlkG.set ?_) | (with_reducible refine BlkG.far (by first | omega | (simp; done) | (simp; omega)) ?_) | (with_reducible refine BlkG.alloc ?_) | (with_reducible refine BlkG.bel (by with_reducible assumption) (by first | omega | (simp; done) | (simp; omega)) ?_))))
                have cb14_0 : w14.cell? ⟨w.heap.size + 1, 0, none⟩ = some (.int .i64 c) := bb14.cell 0
                have fb14_0 : w14.frozen? ⟨w.heap.size + 1, 0, none⟩ = false := bb14.fz 0
                have cb14_1 : w14.cell? ⟨w.heap.size + 1, 1, none⟩ = some (.int .i64 d) := bb14.cell 1
                have fb14_1 : w14.frozen? ⟨w.heap.size + 1, 1, none⟩ = false := bb14.fz 1
                have lb14 : w.heap.size + 1 < w14.heap.size := bb14.lt
                have HB14 : Below w.heap.size w w14 := (by repeat (first | with_reducible exact Below.refl _ _ | (with_reducible refine Below.alloc ?_ (by first | omega | (simp; done) | (simp; omega)) _) | (with_reducible refine Below.setCell ?_ (by first | omega | (simp; done) | (simp; omega)) _) | (with_reducible refine Below.drew ?_) | (with_reducible refine below_drewN ?_ _) | (with_reducible assumption) | (with_reducible refine bel_step (by with_reducible assumption) ?_ (by first | omega | (simp; done) | (simp; omega)))))
                have HZ14 := HB14.size
                clear hb14 hz14 HB12 HZ12 ba12 la12 ca12_0 fa12_0 ca12_1 fa12_1 bb12 lb12 cb12_0 fb12_0 cb12_1 fb12_1 
                have CH5w := Lib.hid (show ∀ w, Calls Tryd.prog 9 #[.agg #[.int .i64 (-b), .int .i64 (-a)], .int .i64 (wrap64 (-a2))] w fun e w' => e = .returned (.tuple #[.bool true, .nilIface]) ∧ Below w.heap.size w w' by rw [eN2.out]; exact CH5.out)
                go_wp2_with fail
                refine (CH5w.out _).mono ?_
                rintro e w15 ⟨rfl, hb15⟩
                have hz15 := hb15.size
                (try simp at hz15)
                have agt : w.heap.size ≤ w14.heap.size := by first | omega | (simp; done) | (simp; omega)
                have ota : w.heap.size < w14.heap.size := by (try simp); omega
                have ba15 : Blk w15 (w.heap.size) 23 #[.int .i64 a, .int .i64 b] := (by refine BlkG.start ?_; (repeat (first | ((with_reducible apply BlkG.done); (with_reducible assumption); exact rfl) | (with_reducible exact BlkG.newAt (by first | (with_reducible rfl) | omega | (simp; done) | (simp; omega)) rfl) | (with_reducible refine BlkG.drew ?_) | (with_reducible refine BlkG.drewN ?_) | (with_reducible refine BlkG.set ?_) | (with_reducible refine BlkG.far (by first | omega | (simp; done) | (simp; omega)) ?_) | (with_reducible refine BlkG.alloc ?_) | (with_reducible refine BlkG.bel (by with_reducible assumption) (by first | omega | (simp; done) | (simp; omega)) ?_))))
                have ca15_0 : w15.cell? ⟨w.heap.size, 0, none⟩ = some (.int .i64 a) := ba15.cell 0
                have fa15_0 : w15.frozen? ⟨w.heap.size, 0, none⟩ = false := ba15.fz 0
                have ca15_1 : w15.cell? ⟨w.heap.size, 1, none⟩ = some (.int .i64 b) := ba15.cell 1
                have fa15_1 : w15.frozen? ⟨w.heap.size, 1, none⟩ = false := ba15.fz 1
                have la15 : w.heap.size < w15.heap.size := ba15.lt
                have bt15 : Blk w15 (w14.heap.size) 23 #[.int .i64 (-b), .int .i64 (-a)] := (by refine BlkG.start ?_; (repeat (first | ((with_reducible apply BlkG.done); (with_reducible assumption); exact rfl) | (with_reducible exact BlkG.newAt (by first | (with_reducible rfl) | omega | (simp; done) | (simp; omega)) rfl) | (with_reducible refine BlkG.drew ?_) | (with_reducible refine BlkG.drewN ?_) | (with_reducible refine BlkG.set ?_) | (with_reducible refine BlkG.far (by first | omega | (simp; done) | (simp; omega)) ?_) | (with_reducible refine BlkG.alloc ?_) | (with_reducible refine BlkG.bel (by with_reducible assumption) (by first | omega | (simp; done) | (simp; omega)) ?_))))
                have ct15_0 : w15.cell? ⟨w14.heap.size, 0, none⟩ = some (.int .i64 (-b)) := bt15.cell 0
                have ft15_0 : w15.frozen? ⟨w14.heap.size, 0, none⟩ = false := bt15.fz 0
                have ct15_1 : w15.cell? ⟨w14.heap.size, 1, none⟩ = some (.int .i64 (-a)) := bt15.cell 1
                have ft15_1 : w15.frozen? ⟨w14.heap.size, 1, none⟩ = false := bt15.fz 1
                have lt15 : w14.heap.size < w15.heap.size := bt15.lt
                have HB15 : Below w.heap.size w w15 := (by repeat (first | with_reducible exact Below.refl _ _ | (with_reducible refine Below.alloc ?_ (by first | omega | (simp; done) | (simp; omega)) _) | (with_reducible refine Below.setCell ?_ (by first | omega | (simp; done) | (simp; omega)) _) | (with_reducible refine Below.drew ?_) | (with_reducible refine below_drewN ?_ _) | (with_reducible assumption) | (with_reducible refine bel_step (by with_reducible assumption) ?_ (by first | omega | (simp; done) | (simp; omega)))))
                have HZ15 := HB15.size
                clear hb15 hz15 HB14 HZ14 ba14 la14 ca14_0 fa14_0 ca14_1 fa14_1 
                have eA := eA2.out
                go_wp2_with fail
                go_ret
                exact ⟨rfl, (by repeat (first | with_reducible exact Below.refl _ _ | (with_reducible refine Below.alloc ?_ (by first | omega | (simp; done) | (simp; omega)) _) | (with_reducible refine Below.setCell ?_ (by first | omega | (simp; done) | (simp; omega)) _) | (with_reducible refine Below.drew ?_) | (with_reducible refine below_drewN ?_ _) | (with_reducible assumption) | (with_reducible refine bel_step (by with_reducible assumption) ?_ (by first | omega | (simp; done) | (simp; omega)))))⟩
            · obtain rfl := hS1.out rfl
              clear hS0 hS1
              cases r
              · clear hS
                · as_aux_lemma =>
                  go_wp2_with fail
                  refine (CAd.out _).mono ?_
                  rintro e w12 ⟨rfl, hb12⟩
                  have hz12 := hb12.size
                  (try simp at hz12)
                  have ba12 : Blk w12 (w.heap.size) 23 #[.int .i64 a, .int .i64 b] := (by refine BlkG.start ?_; (repeat (first | ((with_reducible apply BlkG.done); (with_reducible assumption); exact rfl) | (with_reducible exact BlkG.newAt (by first | (with_reducible rfl) | omega | (simp; done) | (simp; omega)) rfl) | (with_reducible refine BlkG.drew ?_) | (with_reducible refine BlkG.drewN ?_) | (with_reducible refine BlkG.set ?_) | (with_reducible refine BlkG.far (by first | omega | (simp; done) | (simp; omega)) ?_) | (with_reducible refine BlkG.alloc ?_) | (with_reducible refine BlkG.bel (by with_reducible assumption) (by first | omega | (simp; done) | (simp; omega)) ?_))))
                  have ca12_0 : w12.cell? ⟨w.heap.size, 0, none⟩ = some (.int .i64 a) := ba12.cell 0
                  have fa12_0 : w12.frozen? ⟨w.heap.size, 0, none⟩ = false := ba12.fz 0
                  have ca12_1 : w12.cell? ⟨w.heap.size, 1, none⟩ = some (.int .i64 b) := ba12.cell 1
                  have fa12_1 : w12.frozen? ⟨w.heap.size, 1, none⟩ = false := ba12.fz 1
                  have la12 : w.heap.size < w12.heap.size := ba12.lt
                  have bb12 : Blk w12 (w.heap.size + 1) 23 #[.int .i64 c, .int .i64 d] := (by refine BlkG.start ?_; (repeat (first | ((with_reducible apply BlkG.done); (with_reducible assumption); exact rfl) | (with_reducible exact BlkG.newAt (by first | (with_reducible rfl) | omega | (simp; done) | (simp; omega)) rfl) | (with_reducible refine BlkG.drew ?_) | (with_reducible refine BlkG.drewN ?_) | (with_reducible refine BlkG.set ?_) | (with_reducible refine BlkG.far (by first | omega | (simp; done) | (simp; omega)) ?_) | (with_reducible refine BlkG.alloc ?_) | (with_reducible refine BlkG.bel (by with_reducible assumption) (by first | omega | (simp; done) | (simp; omega)) ?_))))
                  have cb12_0 : w12.cell? ⟨w.heap.size + 1, 0, none⟩ = some (.int .i64 c) := bb12.cell 0
                  have fb12_0 : w12.frozen? ⟨w.heap.size + 1, 0, none⟩ = false := bb12.fz 0
                  have cb12_1 : w12.cell? ⟨w.heap.size + 1, 1, none⟩ = some (.int .i64 d) := bb12.cell 1
                  have fb12_1 : w12.frozen? ⟨w.heap.size + 1, 1, none⟩ = false := bb12.fz 1
                  have lb12 : w.heap.size + 1 < w12.heap.size := bb12.lt
                  have HB12 : Below w.heap.size w w12 := (by repeat (first | with_reducible exact Below.refl _ _ | (with_reducible refine Below.alloc ?_ (by first | omega | (simp; done) | (simp; omega)) _) | (with_reducible refine Below.setCell ?_ (by first | omega | (simp; done) | (simp; omega)) _) | (with_reducible refine Below.drew ?_) | (with_reducible refine below_drewN ?_ _) | (with_reducible assumption) | (with_reducible refine bel_step (by with_reducible assumption) ?_ (by first | omega | (simp; done) | (simp; omega)))))
                  have HZ12 := HB12.size
                  clear hb12 hz12 HB11 HZ11 ba11 la11 ca11_0 fa11_0 ca11_1 fa11_1 bb11 lb11 cb11_0 fb11_0 cb11_1 fb11_1 
                  go_wp2_with fail
                  refine (CTu.out _).mono ?_
                  rintro e w14 ⟨rfl, hb14⟩
                  have hz14 := hb14.size
                  (try simp at hz14)
                  have ba14 : Blk w14 (w.heap.size) 23 #[.int .i64 a, .int .i64 b] := (by refine BlkG.start ?_; (repeat (first | ((with_reducible apply BlkG.done); (with_reducible assumption); exact rfl) | (with_reducible exact BlkG.newAt (by first | (with_reducible rfl) | omega | (simp; done) | (simp; omega)) rfl) | (with_reducible refine BlkG.drew ?_) | (with_reducible refine BlkG.drewN ?_) | (with_reducible refine BlkG.set ?_) | (with_reducible refine BlkG.far (by first | omega | (simp; done) | (simp; omega)) ?_) | (with_reducible refine BlkG.alloc ?_) | (with_reducible refine BlkG.bel (by with_reducible assumption) (by first | omega | (simp; done) | (simp; omega)) ?_))))
                  have ca14_0 : w14.cell? ⟨w.heap.size, 0, none⟩ = some (.int .i64 a) := ba14.cell 0
                  have fa14_0 : w14.frozen? ⟨w.heap.size, 0, none⟩ = false := ba14.fz 0
                  have ca14_1 : w14.cell? ⟨w.heap.size, 1, none⟩ = some (.int .i64 b) := ba14.cell 1
                  have fa14_1 : w14.frozen? ⟨w.heap.size, 1, none⟩ = false := ba14.fz 1
                  have la14 : w.heap.size < w14.heap.size := ba14.lt
                  have bb14 : Blk w14 (w.heap.size + 1) 23 #[.int .i64 c, .int .i64 d] := (by refine BlkG.start ?_; (repeat (first | ((with_reducible apply BlkG.done); (with_reducible assumption); exact rfl) | (with_reducible exact BlkG.newAt (by first | (with_reducible rfl) | omega | (simp; done) | (simp; omega)) rfl) | (with_reducible refine BlkG.drew ?_) | (with_reducible refine BlkG.drewN ?_) | (with_reducible refine BlkG.set ?_) | (with_reducible refine BlkG.far (by first | omega | (simp; done) | (simp; omega)) ?_) | (with_reducible refine BlkG.alloc ?_) | (with_reducible refine BlkG.bel (by with_reducible assumption) (by first | omega | (simp; done) | (simp; omega)) ?_))))
                  have cb14_0 : w14.cell? ⟨w.heap.size + 1, 0, none⟩ = some (.int .i64 c) := bb14.cell 0
                  have fb14_0 : w14.frozen? ⟨w.heap.size + 1, 0, none⟩ = false := bb14.fz 0
                  have cb14_1 : w14.cell? ⟨w.heap.size + 1, 1, none⟩ = some (.int .i64 d) := bb14.cell 1
                  have fb14_1 : w14.frozen? ⟨w.heap.size + 1, 1, none⟩ = false := bb14.fz 1
                  have lb14 : w.heap.size + 1 < w14.heap.size := bb14.lt
                  have HB14 : Below w.heap.size w w14 := (by repeat (first | with_reducible exact Below.refl _ _ | (with_reducible refine Below.alloc ?_ (by first | omega | (simp; done) | (simp; omega)) _) | (with_reducible refine Below.setCell ?_ (by first | omega | (simp; done) | (simp; omega)) _) | (with_reducible refine Below.drew ?_) | (with_reducible refine below_drewN ?_ _) | (with_reducible assumption) | (with_reducible refine bel_step (by with_reducible assumption) ?_ (by first | omega | (simp; done) | (simp; omega)))))
                  have HZ14 := HB14.size
                  clear hb14 hz14 HB12 HZ12 ba12 la12 ca12_0 fa12_0 ca12_1 fa12_1 bb12 lb12 cb12_0 fb12_0 cb12_1 fb12_1 
                  have CH5w := Lib.hid (show ∀ w, Calls Tryd.prog 9 #[.agg #[.int .i64 (-b), .int .i64 (-a)], .int .i64 (wrap64 (-a2))] w fun e w' => e = .returned (.tuple #[.bool true, .nilIface]) ∧ Below w.heap.size w w' by rw [eN2.out]; exact CH5.out)
                  go_wp2_with fail
                  refine (CH5w.out _).mono ?_
                  rintro e w15 ⟨rfl, hb15⟩
                  have hz15 := hb15.size
                  (try simp at hz15)
                  have agt : w.heap.size ≤ w14.heap.size := by first | omega | (simp; done) | (simp; omega)
                  have ota : w.heap.size < w14.heap.size := by (try simp); omega
                  have ba15 : Blk w15 (w.heap.size) 23 #[.int .i64 a, .int .i64 b] := (by refine BlkG.start ?_; (repeat (first | ((with_reducible apply BlkG.done); (with_reducible assumption); exact rfl) | (with_reducible exact BlkG.newAt (by first | (with_reducible rfl) | omega | (simp; done) | (simp; omega)) rfl) | (with_reducible refine BlkG.drew ?_) | (with_reducible refine BlkG.drewN ?_) | (with_reducible refine BlkG.set ?_) | (with_reducible refine BlkG.far (by first | omega | (simp; done) | (simp; omega)) ?_) | (with_reducible refine BlkG.alloc ?_) | (with_reducible refine BlkG.bel (by with_reducible assumption) (by first | omega | (simp; done) | (simp; omega)) ?_))))
                  have ca15_0 : w15.cell? ⟨w.heap.size, 0, none⟩ = some (.int .i64 a) := ba15.cell 0
                  have fa15_0 : w15.frozen? ⟨w.heap.size, 0, none⟩ = false := ba15.fz 0
                  have ca15_1 : w15.cell? ⟨w.heap.size, 1, none⟩ = some (.int .i64 b) := ba15.cell 1
                  have fa15_1 : w15.frozen? ⟨w.heap.size, 1, none⟩ = false := ba15.fz 1
                  have la15 : w.heap.size < w15.heap.size := ba15.lt
                  have bt15 : Blk w15 (w14.heap.size) 23 #[.int .i64 (-b), .int .i64 (-a)] := (by refine BlkG.start ?_; (repeat (first | ((with_reducible apply BlkG.done); (with_reducible assumption); exact rfl) | (with_reducible exact BlkG.newAt (by first | (with_reducible rfl) | omega | (simp; done) | (simp; omega)) rfl) | (with_reducible refine BlkG.drew ?_) | (with_reducible refine BlkG.drewN ?_) | (with_reducible refine BlkG.set ?_) | (with_reducible refine BlkG.far (by first | omega | (simp; done) | (simp; omega)) ?_) | (with_reducible refine BlkG.alloc ?_) | (with_reducible refine BlkG.bel (by with_reducible assumption) (by first | omega | (simp; done) | (simp; omega)) ?_))))
                  have ct15_0 : w15.cell? ⟨w14.heap.size, 0, none⟩ = some (.int .i64 (-b)) := bt15.cell 0
                  have ft15_0 : w15.frozen? ⟨w14.heap.size, 0, none⟩ = false := bt15.fz 0
                  have ct15_1 : w15.cell? ⟨w14.heap.size, 1, none⟩ = some (.int .i64 (-a)) := bt15.cell 1
                  have ft15_1 : w15.frozen? ⟨w14.heap.size, 1, none⟩ = false := bt15.fz 1
                  have lt15 : w14.heap.size < w15.heap.size := bt15.lt
                  have HB15 : Below w.heap.size w w15 := (by repeat (first | with_reducible exact Below.refl _ _ | (with_reducible refine Below.alloc ?_ (by first | omega | (simp; done) | (simp; omega)) _) | (with_reducible refine Below.setCell ?_ (by first | omega | (simp; done) | (simp; omega)) _) | (with_reducible refine Below.drew ?_) | (with_reducible refine below_drewN ?_ _) | (with_reducible assumption) | (with_reducible refine bel_step (by with_reducible assumption) ?_ (by first | omega | (simp; done) | (simp; omega)))))
                  have HZ15 := HB15.size
                  clear hb15 hz15 HB14 HZ14 ba14 la14 ca14_0 fa14_0 ca14_1 fa14_1 
                  have eA := eA2.out
                  go_wp2_with fail
                  go_ret
                  exact ⟨rfl, (by repeat (first | with_reducible exact Below.refl _ _ | (with_reducible refine Below.alloc ?_ (by first | omega | (simp; done) | (simp; omega)) _) | (with_reducible refine Below.setCell ?_ (by first | omega | (simp; done) | (simp; omega)) _) | (with_reducible refine Below.drew ?_) | (with_reducible refine below_drewN ?_ _) | (with_reducible assumption) | (with_reducible refine bel_step (by with_reducible assumption) ?_ (by first | omega | (simp; done) | (simp; omega)))))⟩
              · obtain ⟨eW, CHs⟩ := hS.out rfl rfl rfl
                clear hS
                · as_aux_lemma =>
                  go_wp2_with fail
                  refine (CAd.out _).mono ?_
                  rintro e w12 ⟨rfl, hb12⟩
                  have hz12 := hb12.size
                  (try simp at hz12)
                  have ba12 : Blk w12 (w.heap.size) 23 #[.int .i64 a, .int .i64 b] := (by refine BlkG.start ?_; (repeat (first | ((with_reducible apply BlkG.done); (with_reducible assumption); exact rfl) | (with_reducible exact BlkG.newAt (by first | (with_reducible rfl) | omega | (simp; done) | (simp; omega)) rfl) | (with_reducible refine BlkG.drew ?_) | (with_reducible refine BlkG.drewN ?_) | (with_reducible refine BlkG.set ?_) | (with_reducible refine BlkG.far (by first | omega | (simp; done) | (simp; omega)) ?_) | (with_reducible refine BlkG.alloc ?_) | (with_reducible refine BlkG.bel (by with_reducible assumption) (by first | omega | (simp; done) | (simp; omega)) ?_))))
                  have ca12_0 : w12.cell? ⟨w.heap.size, 0, none⟩ = some (.int .i64 a) := ba12.cell 0
                  have fa12_0 : w12.frozen? ⟨w.heap.size, 0, none⟩ = false := ba12.fz 0
                  have ca12_1 : w12.cell? ⟨w.heap.size, 1, none⟩ = some (.int .i64 b) := ba12.cell 1
                  have fa12_1 : w12.frozen? ⟨w.heap.size, 1, none⟩ = false := ba12.fz 1
                  have la12 : w.heap.size < w12.heap.size := ba12.lt
                  have bb12 : Blk w12 (w.heap.size + 1) 23 #[.int .i64 c, .int .i64 d] := (by refine BlkG.start ?_; (repeat (first | ((with_reducible apply BlkG.done); (with_reducible assumption); exact rfl) | (with_reducible exact BlkG.newAt (by first | (with_reducible rfl) | omega | (simp; done) | (simp; omega)) rfl) | (with_reducible refine BlkG.drew ?_) | (with_reducible refine BlkG.drewN ?_) | (with_reducible refine BlkG.set ?_) | (with_reducible refine BlkG.far (by first | omega | (simp; done) | (simp; omega)) ?_) | (with_reducible refine BlkG.alloc ?_) | (with_reducible refine BlkG.bel (by with_reducible assumption) (by first | omega | (simp; done) | (simp; omega)) ?_))))
                  have cb12_0 : w12.cell? ⟨w.heap.size + 1, 0, none⟩ = some (.int .i64 c) := bb12.cell 0
                  have fb12_0 : w12.frozen? ⟨w.heap.size + 1, 0, none⟩ = false := bb12.fz 0
                  have cb12_1 : w12.cell? ⟨w.heap.size + 1, 1, none⟩ = some (.int .i64 d) := bb12.cell 1
                  have fb12_1 : w12.frozen? ⟨w.heap.size + 1, 1, none⟩ = false := bb12.fz 1
                  have lb12 : w.heap.size + 1 < w12.heap.size := bb12.lt
                  have HB12 : Below w.heap.size w w12 := (by repeat (first | with_reducible exact Below.refl _ _ | (with_reducible refine Below.alloc ?_ (by first | omega | (simp; done) | (simp; omega)) _) | (with_reducible refine Below.setCell ?_ (by first | omega | (simp; done) | (simp; omega)) _) | (with_reducible refine Below.drew ?_) | (with_reducible refine below_drewN ?_ _) | (with_reducible assumption) | (with_reducible refine bel_step (by with_reducible assumption) ?_ (by first | omega | (simp; done) | (simp; omega)))))
                  have HZ12 := HB12.size
                  clear hb12 hz12 HB11 HZ11 ba11 la11 ca11_0 fa11_0 ca11_1 fa11_1 bb11 lb11 cb11_0 fb11_0 cb11_1 fb11_1 
                  have CHs := Lib.hid CHs
                  go_wp2_with fail
                  refine (CHs.out _).mono ?_
                  rintro e w13 ⟨rfl, hb13⟩
                  have hz13 := hb13.size
                  (try simp at hz13)
                  have ba13 : Blk w13 (w.heap.size) 23 #[.int .i64 a, .int .i64 b] := (by refine BlkG.start ?_; (repeat (first | ((with_reducible apply BlkG.done); (with_reducible assumption); exact rfl) | (with_reducible exact BlkG.newAt (by first | (with_reducible rfl) | omega | (simp; done) | (simp; omega)) rfl) | (with_reducible refine BlkG.drew ?_) | (with_reducible refine BlkG.drewN ?_) | (with_reducible refine BlkG.set ?_) | (with_reducible refine BlkG.far (by first | omega | (simp; done) | (simp; omega)) ?_) | (with_reducible refine BlkG.alloc ?_) | (with_reducible refine BlkG.bel (by with_reducible assumption) (by first | omega | (simp; done) | (simp; omega)) ?_))))
                  have ca13_0 : w13.cell? ⟨w.heap.size, 0, none⟩ = some (.int .i64 a) := ba13.cell 0
                  have fa13_0 : w13.frozen? ⟨w.heap.size, 0, none⟩ = false := ba13.fz 0
                  have ca13_1 : w13.cell? ⟨w.heap.size, 1, none⟩ = some (.int .i64 b) := ba13.cell 1
                  have fa13_1 : w13.frozen? ⟨w.heap.size, 1, none⟩ = false := ba13.fz 1
                  have la13 : w.heap.size < w13.heap.size := ba13.lt
                  have HB13 : Below w.heap.size w w13 := (by repeat (first | with_reducible exact Below.refl _ _ | (with_reducible refine Below.alloc ?_ (by first | omega | (simp; done) | (simp; omega)) _) | (with_reducible refine Below.setCell ?_ (by first | omega | (simp; done) | (simp; omega)) _) | (with_reducible refine Below.drew ?_) | (with_reducible refine below_drewN ?_ _) | (with_reducible assumption) | (with_reducible refine bel_step (by with_reducible assumption) ?_ (by first | omega | (simp; done) | (simp; omega)))))
                  have HZ13 := HB13.size
                  clear hb13 hz13 HB12 HZ12 ba12 la12 ca12_0 fa12_0 ca12_1 fa12_1 
                  go_wp2_with fail
                  refine (CTu.out _).mono ?_
                  rintro e w14 ⟨rfl, hb14⟩
                  have hz14 := hb14.size
                  (try simp at hz14)
                  have ba14 : Blk w14 (w.heap.size) 23 #[.int .i64 a, .int .i64 b] := (by refine BlkG.start ?_; (repeat (first | ((with_reducible apply BlkG.done); (with_reducible assumption); exact rfl) | (with_reducible exact BlkG.newAt (by first | (with_reducible rfl) | omega | (simp; done) | (simp; omega)) rfl) | (with_reducible refine BlkG.drew ?_) | (with_reducible refine BlkG.drewN ?_) | (with_reducible refine BlkG.set ?_) | (with_reducible refine BlkG.far (by first | omega | (simp; done) | (simp; omega)) ?_) | (with_reducible refine BlkG.alloc ?_) | (with_reducible refine BlkG.bel (by with_reducible assumption) (by first | omega | (simp; done) | (simp; omega)) ?_))))
                  have ca14_0 : w14.cell? ⟨w.heap.size, 0, none⟩ = some (.int .i64 a) := ba14.cell 0
                  have fa14_0 : w14.frozen? ⟨w.heap.size, 0, none⟩ = false := ba14.fz 0
                  have ca14_1 : w14.cell? ⟨w.heap.size, 1, none⟩ = some (.int .i64 b) := ba14.cell 1
                  have fa14_1 : w14.frozen? ⟨w.heap.size, 1, none⟩ = false := ba14.fz 1
                  have la14 : w.heap.size < w14.heap.size := ba14.lt
                  have HB14 : Below w.heap.size w w14 := (by repeat (first | with_reducible exact Below.refl _ _ | (with_reducible refine Below.alloc ?_ (by first | omega | (simp; done) | (simp; omega)) _) | (with_reducible refine Below.setCell ?_ (by first | omega | (simp; done) | (simp; omega)) _) | (with_reducible refine Below.drew ?_) | (with_reducible refine below_drewN ?_ _) | (with_reducible assumption) | (with_reducible refine bel_step (by with_reducible assumption) ?_ (by first | omega | (simp; done) | (simp; omega)))))
                  have HZ14 := HB14.size
                  clear hb14 hz14 HB13 HZ13 ba13 la13 ca13_0 fa13_0 ca13_1 fa13_1 
                  have CH5w := Lib.hid (show ∀ w, Calls Tryd.prog 9 #[.agg #[.int .i64 (-b), .int .i64 (-a)], .int .i64 (wrap64 (-a2))] w fun e w' => e = .returned (.tuple #[.bool true, .nilIface]) ∧ Below w.heap.size w w' by rw [eN2.out]; exact CH5.out)
                  go_wp2_with fail
                  refine (CH5w.out _).mono ?_
                  rintro e w15 ⟨rfl, hb15⟩
                  have hz15 := hb15.size
                  (try simp at hz15)
                  have agt : w.heap.size ≤ w14.heap.size := by first | omega | (simp; done) | (simp; omega)
                  have ota : w.heap.size < w14.heap.size := by (try simp); omega
                  have ba15 : Blk w15 (w.heap.size) 23 #[.int .i64 a, .int .i64 b] := (by refine BlkG.start ?_; (repeat (first | ((with_reducible apply BlkG.done); (with_reducible assumption); exact rfl) | (with_reducible exact BlkG.newAt (by first | (with_reducible rfl) | omega | (simp; done) | (simp; omega)) rfl) | (with_reducible refine BlkG.drew ?_) | (with_reducible refine BlkG.drewN ?_) | (with_reducible refine BlkG.set ?_) | (with_reducible refine BlkG.far (by first | omega | (simp; done) | (simp; omega)) ?_) | (with_reducible refine BlkG.alloc ?_) | (with_reducible refine BlkG.bel (by with_reducible assumption) (by first | omega | (simp; done) | (simp; omega)) ?_))))
                  have ca15_0 : w15.cell? ⟨w.heap.size, 0, none⟩ = some (.int .i64 a) := ba15.cell 0
                  have fa15_0 : w15.frozen? ⟨w.heap.size, 0, none⟩ = false := ba15.fz 0
                  have ca15_1 : w15.cell? ⟨w.heap.size, 1, none⟩ = some (.int .i64 b) := ba15.cell 1
                  have fa15_1 : w15.frozen? ⟨w.heap.size, 1, none⟩ = false := ba15.fz 1
                  have la15 : w.heap.size < w15.heap.size := ba15.lt
                  have bt15 : Blk w15 (w14.heap.size) 23 #[.int .i64 (-b), .int .i64 (-a)] := (by refine BlkG.start ?_; (repeat (first | ((with_reducible apply BlkG.done); (with_reducible assumption); exact rfl) | (with_reducible exact BlkG.newAt (by first | (with_reducible rfl) | omega | (simp; done) | (simp; omega)) rfl) | (with_reducible refine BlkG.drew ?_) | (with_reducible refine BlkG.drewN ?_) | (with_reducible refine BlkG.set ?_) | (with_reducible refine BlkG.far (by first | omega | (simp; done) | (simp; omega)) ?_) | (with_reducible refine BlkG.alloc ?_) | (with_reducible refine BlkG.bel (by with_reducible assumption) (by first | omega | (simp; done) | (simp; omega)) ?_))))
                  have ct15_0 : w15.cell? ⟨w14.heap.size, 0, none⟩ = some (.int .i64 (-b)) := bt15.cell 0
                  have ft15_0 : w15.frozen? ⟨w14.heap.size, 0, none⟩ = false := bt15.fz 0
                  have ct15_1 : w15.cell? ⟨w14.heap.size, 1, none⟩ = some (.int .i64 (-a)) := bt15.cell 1
                  have ft15_1 : w15.frozen? ⟨w14.heap.size, 1, none⟩ = false := bt15.fz 1
                  have lt15 : w14.heap.size < w15.heap.size := bt15.lt
                  have HB15 : Below w.heap.size w w15 := (by repeat (first | with_reducible exact Below.refl _ _ | (with_reducible refine Below.alloc ?_ (by first | omega | (simp; done) | (simp; omega)) _) | (with_reducible refine Below.setCell ?_ (by first | omega | (simp; done) | (simp; omega)) _) | (with_reducible refine Below.drew ?_) | (with_reducible refine below_drewN ?_ _) | (with_reducible assumption) | (with_reducible refine bel_step (by with_reducible assumption) ?_ (by first | omega | (simp; done) | (simp; omega)))))
                  have HZ15 := HB15.size
                  clear hb15 hz15 HB14 HZ14 ba14 la14 ca14_0 fa14_0 ca14_1 fa14_1 
                  have eA := eA2.out
                  go_wp2_with fail
                  go_ret
                  exact ⟨rfl, (by repeat (first | with_reducible exact Below.refl _ _ | (with_reducible refine Below.alloc ?_ (by first | omega | (simp; done) | (simp; omega)) _) | (with_reducible refine Below.setCell ?_ (by first | omega | (simp; done) | (simp; omega)) _) | (with_reducible refine Below.drew ?_) | (with_reducible refine below_drewN ?_ _) | (with_reducible assumption) | (with_reducible refine bel_step (by with_reducible assumption) ?_ (by first | omega | (simp; done) | (simp; omega)))))⟩
      · as_aux_lemma =>
        have h2 : rightB c d = false := by simpa using h2
        have CC := Lib.hid (check_no c d h2)
        clear h1 h2
        go_wp2_with fail
        refine (CC.out _).mono ?_
        rintro e w5 ⟨rfl, hb5⟩
        have hz5 := hb5.size
        (try simp at hz5)
        have ba5 : Blk w5 (w.heap.size) 23 #[.int .i64 a, .int .i64 b] := (by refine BlkG.start ?_; (repeat (first | ((with_reducible apply BlkG.done); (with_reducible assumption); exact rfl) | (with_reducible exact BlkG.newAt (by first | (with_reducible rfl) | omega | (simp; done) | (simp; omega)) rfl) | (with_reducible refine BlkG.drew ?_) | (with_reducible refine BlkG.drewN ?_) | (with_reducible refine BlkG.set ?_) | (with_reducible refine BlkG.far (by first | omega | (simp; done) | (simp; omega)) ?_) | (with_reducible refine BlkG.alloc ?_) | (with_reducible refine BlkG.bel (by with_reducible assumption) (by first | omega | (simp; done) | (simp; omega)) ?_))))
        have ca5_0 : w5.cell? ⟨w.heap.size, 0, none⟩ = some (.int .i64 a) := ba5.cell 0
        have fa5_0 : w5.frozen? ⟨w.heap.size, 0, none⟩ = false := ba5.fz 0
        have ca5_1 : w5.cell? ⟨w.heap.size, 1, none⟩ = some (.int .i64 b) := ba5.cell 1
        have fa5_1 : w5.frozen? ⟨w.heap.size, 1, none⟩ = false := ba5.fz 1
        have la5 : w.heap.size < w5.heap.size := ba5.lt
        have bb5 : Blk w5 (w.heap.size + 1) 23 #[.int .i64 c, .int .i64 d] := (by refine BlkG.start ?_; (repeat (first | ((with_reducible apply BlkG.done); (with_reducible assumption); exact rfl) | (with_reducible exact BlkG.newAt (by first | (with_reducible rfl) | omega | (simp; done) | (simp; omega)) rfl) | (with_reducible refine BlkG.drew ?_) | (with_reducible refine BlkG.drewN ?_) | (with_reducible refine BlkG.set ?_) | (with_reducible refine BlkG.far (by first | omega | (simp; done) | (simp; omega)) ?_) | (with_reducible refine BlkG.alloc ?_) | (with_reducible refine BlkG.bel (by with_reducible assumption) (by first | omega | (simp; done) | (simp; omega)) ?_))))
        have cb5_0 : w5.cell? ⟨w.heap.size + 1, 0, none⟩ = some (.int .i64 c) := bb5.cell 0
        have fb5_0 : w5.frozen? ⟨w.heap.size + 1, 0, none⟩ = false := bb5.fz 0
        have cb5_1 : w5.cell? ⟨w.heap.size + 1, 1, none⟩ = some (.int .i64 d) := bb5.cell 1
        have fb5_1 : w5.frozen? ⟨w.heap.size + 1, 1, none⟩ = false := bb5.fz 1
        have lb5 : w.heap.size + 1 < w5.heap.size := bb5.lt
        have bx5 : Blk w5 (gx) 23 #[.int .i64 x, .int .i64 y] := (by refine BlkG.start ?_; (repeat (first | ((with_reducible apply BlkG.done); (with_reducible assumption); exact rfl) | (with_reducible exact BlkG.newAt (by first | (with_reducible rfl) | omega | (simp; done) | (simp; omega)) rfl) | (with_reducible refine BlkG.drew ?_) | (with_reducible refine BlkG.drewN ?_) | (with_reducible refine BlkG.set ?_) | (with_reducible refine BlkG.far (by first | omega | (simp; done) | (simp; omega)) ?_) | (with_reducible refine BlkG.alloc ?_) | (with_reducible refine BlkG.bel (by with_reducible assumption) (by first | omega | (simp; done) | (simp; omega)) ?_))))
        have cx5_0 : w5.cell? ⟨gx, 0, none⟩ = some (.int .i64 x) := bx5.cell 0
        have fx5_0 : w5.frozen? ⟨gx, 0, none⟩ = false := bx5.fz 0
        have cx5_1 : w5.cell? ⟨gx, 1, none⟩ = some (.int .i64 y) := bx5.cell 1
        have fx5_1 : w5.frozen? ⟨gx, 1, none⟩ = false := bx5.fz 1
        have lx5 : gx < w5.heap.size := bx5.lt
        have HB5 : Below w.heap.size w w5 := (by repeat (first | with_reducible exact Below.refl _ _ | (with_reducible refine Below.alloc ?_ (by first | omega | (simp; done) | (simp; omega)) _) | (with_reducible refine Below.setCell ?_ (by first | omega | (simp; done) | (simp; omega)) _) | (with_reducible refine Below.drew ?_) | (with_reducible refine below_drewN ?_ _) | (with_reducible assumption) | (with_reducible refine bel_step (by with_reducible assumption) ?_ (by first | omega | (simp; done) | (simp; omega)))))
        have HZ5 := HB5.size
        clear hb5 hz5 HB4 HZ4 ba4 la4 ca4_0 fa4_0 ca4_1 fa4_1 bb4 lb4 cb4_0 fb4_0 cb4_1 fb4_1 bx4 lx4 cx4_0 fx4_0 cx4_1 fx4_1 
        go_wp2_with fail
        go_ret
        exact ⟨rfl, (by repeat (first | with_reducible exact Below.refl _ _ | (with_reducible refine Below.alloc ?_ (by first | omega | (simp; done) | (simp; omega)) _) | (with_reducible refine Below.setCell ?_ (by first | omega | (simp; done) | (simp; omega)) _) | (with_reducible refine Below.drew ?_) | (with_reducible refine below_drewN ?_ _) | (with_reducible assumption) | (with_reducible refine bel_step (by with_reducible assumption) ?_ (by first | omega | (simp; done) | (simp; omega)))))⟩
    · as_aux_lemma =>
      have h1 : rightB a b = false := by simpa using h1
      obtain ⟨s, CPr⟩ := print_no a b h1 wc (SpanW.below HW.out HB3)
      have CPr := Lib.hid CPr
      clear h1
      go_wp2_with fail
      refine (CPr.out).mono ?_
      rintro e w4 ⟨rfl, hb4⟩
      have hz4 := hb4.size
      (try simp at hz4)
      have ba4 : Blk w4 (w.heap.size) 23 #[.int .i64 a, .int .i64 b] := (by refine BlkG.start ?_; (repeat (first | ((with_reducible apply BlkG.done); (with_reducible assumption); exact rfl) | (with_reducible exact BlkG.newAt (by first | (with_reducible rfl) | omega | (simp; done) | (simp; omega)) rfl) | (with_reducible refine BlkG.drew ?_) | (with_reducible refine BlkG.drewN ?_) | (with_reducible refine BlkG.set ?_) | (with_reducible refine BlkG.far (by first | omega | (simp; done) | (simp; omega)) ?_) | (with_reducible refine BlkG.alloc ?_) | (with_reducible refine BlkG.bel (by with_reducible assumption) (by first | omega | (simp; done) | (simp; omega)) ?_))))
      have ca4_0 : w4.cell? ⟨w.heap.size, 0, none⟩ = some (.int .i64 a) := ba4.cell 0
      have fa4_0 : w4.frozen? ⟨w.heap.size, 0, none⟩ = false := ba4.fz 0
      have ca4_1 : w4.cell? ⟨w.heap.size, 1, none⟩ = some (.int .i64 b) := ba4.cell 1
      have fa4_1 : w4.frozen? ⟨w.heap.size, 1, none⟩ = false := ba4.fz 1
      have la4 : w.heap.size < w4.heap.size := ba4.lt
      have bb4 : Blk w4 (w.heap.size + 1) 23 #[.int .i64 c, .int .i64 d] := (by refine BlkG.start ?_; (repeat (first | ((with_reducible apply BlkG.done); (with_reducible assumption); exact rfl) | (with_reducible exact BlkG.newAt (by first | (with_reducible rfl) | omega | (simp; done) | (simp; omega)) rfl) | (with_reducible refine BlkG.drew ?_) | (with_reducible refine BlkG.drewN ?_) | (with_reducible refine BlkG.set ?_) | (with_reducible refine BlkG.far (by first | omega | (simp; done) | (simp; omega)) ?_) | (with_reducible refine BlkG.alloc ?_) | (with_reducible refine BlkG.bel (by with_reducible assumption) (by first | omega | (simp; done) | (simp; omega)) ?_))))
      have cb4_0 : w4.cell? ⟨w.heap.size + 1, 0, none⟩ = some (.int .i64 c) := bb4.cell 0
      have fb4_0 : w4.frozen? ⟨w.heap.size + 1, 0, none⟩ = false := bb4.fz 0
      have cb4_1 : w4.cell? ⟨w.heap.size + 1, 1, none⟩ = some (.int .i64 d) := bb4.cell 1
      have fb4_1 : w4.frozen? ⟨w.heap.size + 1, 1, none⟩ = false := bb4.fz 1
      have lb4 : w.heap.size + 1 < w4.heap.size := bb4.lt
      have bx4 : Blk w4 (gx) 23 #[.int .i64 x, .int .i64 y] := (by refine BlkG.start ?_; (repeat (first | ((with_reducible apply BlkG.done); (with_reducible assumption); exact rfl) | (with_reducible exact BlkG.newAt (by first | (with_reducible rfl) | omega | (simp; done) | (simp; omega)) rfl) | (with_reducible refine BlkG.drew ?_) | (with_reducible refine BlkG.drewN ?_) | (with_reducible refine BlkG.set ?_) | (with_reducible refine BlkG.far (by first | omega | (simp; done) | (simp; omega)) ?_) | (with_reducible refine BlkG.alloc ?_) | (with_reducible refine BlkG.bel (by with_reducible assumption) (by first | omega | (simp; done) | (simp; omega)) ?_))))
      have cx4_0 : w4.cell? ⟨gx, 0, none⟩ = some (.int .i64 x) := bx4.cell 0
      have fx4_0 : w4.frozen? ⟨gx, 0, none⟩ = false := bx4.fz 0
      have cx4_1 : w4.cell? ⟨gx, 1, none⟩ = some (.int .i64 y) := bx4.cell 1
      have fx4_1 : w4.frozen? ⟨gx, 1, none⟩ = false := bx4.fz 1
      have lx4 : gx < w4.heap.size := bx4.lt
      have HB4 : Below w.heap.size w w4 := (by repeat (first | with_reducible exact Below.refl _ _ | (with_reducible refine Below.alloc ?_ (by first | omega | (simp; done) | (simp; omega)) _) | (with_reducible refine Below.setCell ?_ (by first | omega | (simp; done) | (simp; omega)) _) | (with_reducible refine Below.drew ?_) | (with_reducible refine below_drewN ?_ _) | (with_reducible assumption) | (with_reducible refine bel_step (by with_reducible assumption) ?_ (by first | omega | (simp; done) | (simp; omega)))))
      have HZ4 := HB4.size
      clear hb4 hz4 HB3 HZ3 ba3 la3 ca3_0 fa3_0 ca3_1 fa3_1 bb3 lb3 cb3_0 fb3_0 cb3_1 fb3_1 bx3 lx3 cx3_0 fx3_0 cx3_1 fx3_1 
      go_wp2_with fail
      go_ret
      exact ⟨rfl, (by repeat (first | with_reducible exact Below.refl _ _ | (with_reducible refine Below.alloc ?_ (by first | omega | (simp; done) | (simp; omega)) _) | (with_reducible refine Below.setCell ?_ (by first | omega | (simp; done) | (simp; omega)) _) | (with_reducible refine Below.drew ?_) | (with_reducible refine below_drewN ?_ _) | (with_reducible assumption) | (with_reducible refine bel_step (by with_reducible assumption) ?_ (by first | omega | (simp; done) | (simp; omega)))))⟩

set_option maxRecDepth 100000 in
theorem reads (os : Os) {H : Type} (enc : TypeId × Value → H) : DataW.whole enc Tryd.prog ((laidWorldU os).forCall (fun _ _ => 0) ⟨#[], #[.agg #[.int .i64 0, .int .i64 0], .agg #[.int .i64 0, .int .i64 0], .int .i64 0, .int .i64 0, .string ⟨#[]⟩], []⟩).memory Tryd.f3.params.toList Rows.spanHoldsSpec.vars false (#[.agg #[.int .i64 0, .int .i64 0], .agg #[.int .i64 0, .int .i64 0], .int .i64 0, .int .i64 0, .string ⟨#[]⟩] : Array Value).toList 8 = some ([.agg [.lit (.int .i64 0), .lit (.int .i64 0)], .agg [.lit (.int .i64 0), .lit (.int .i64 0)], .lit (.int .i64 0), .lit (.int .i64 0), .lit (.string [])], [], []) :=
  by kernel_rfl
set_option maxRecDepth 100000 in
theorem lifted (os : Os) (started : os.Started) (H : Type) (enc : TypeId × Value → H) (F : Stop.Interp) :
    ReturnsInHanded {} Tryd.checked os 3 .any ((Rows.OpenSpec.upto Rows.spanHoldsSpec).preRow enc Tryd.prog Tryd.f3 Rows.spanHoldsUptoRow.domain false laidDataU) (((Rows.OpenSpec.upto Rows.spanHoldsSpec).at F).post enc Tryd.prog Tryd.f3 false true false false) := by
  refine returnsInHanded_of_row (C := Tryd.checked) (s := Rows.OpenSpec.upto Rows.spanHoldsSpec) own started (by kernel_rfl) Tryd.func3
    (witness_row_at (enc := enc) (C := Tryd.checked) false (laidWorldU os) #[.agg #[.int .i64 0, .int .i64 0], .agg #[.int .i64 0, .int .i64 0], .int .i64 0, .int .i64 0, .string ⟨#[]⟩] rfl (by kernel_rfl) (by kernel_rfl) (by kernel_rfl)
      (OpenSpec.preRow_of_cond 8 (reads os enc) (by rfl) (fun k hk => by cases hk; kernel_rfl) (by kernel_rfl) (laidWorldU_met os _))) ?_
  intro W base args ds gs before hval0 hW hcnd hcond hreach hL hshape _
  have hval : ∀ (j : Nat) t v, Tryd.f3.params[j]? = some t → args[j]? = some v → Value.okWide Tryd.prog W .any base t v := hval0
  have hW' := hW
  obtain ⟨p, q, hA0, hV, rfl, hfz, hnd⟩ := hW
  have hA : DataW.TrodAll enc Tryd.prog W 0 (fun _ => true) true Tryd.f3.params.toList args.toList ds p := hA0
  rw [Tryd.params3] at hA hval
  obtain ⟨v0, vs0, d0, ds0, p0, q0, hargs, rfl, rfl, g0, r0⟩ := trodAll_cons hA
  obtain ⟨v1, vs1, d1, ds1, p1, q1, rfl, rfl, rfl, g1, r1⟩ := trodAll_cons r0
  obtain ⟨v2, vs2, d2, ds2, p2, q2, rfl, rfl, rfl, g2, r2⟩ := trodAll_cons r1
  obtain ⟨v3, vs3, d3, ds3, p3, q3, rfl, rfl, rfl, g3, r3⟩ := trodAll_cons r2
  obtain ⟨v4, vs4, d4, ds4, p4, q4, rfl, rfl, rfl, g4, r4⟩ := trodAll_cons r3
  obtain ⟨rfl, rfl, rfl⟩ := trodAll_nil r4
  obtain rfl : args = #[v0, v1, v2, v3, v4] := by cases args; simp_all
  have hV2 : DataW.TrodVars enc Tryd.prog W (fun _ => true) [] gs q := hV
  obtain ⟨rfl, rfl⟩ : gs = [] ∧ q = [] := by
    cases gs with
    | nil => exact ⟨rfl, hV2⟩
    | cons g r => exact absurd hV2 (by intro h; cases h)
  have k0 := g0
  have lt0 : ∀ x ∈ p0, x.block < W.heap.size := by obtain ⟨m, hm⟩ := k0; exact DataW.trod_lt m _ _ _ hm
  have rd0 : Tryd.prog.readableRec 23 = true := by kernel_rfl
  have ls0 : 23 < Tryd.prog.types.size := of_decide_eq_true (by kernel_rfl)
  obtain ⟨a0, rfl, h0⟩ := open_RSpan (hval 0 23 v0 rfl rfl) g0
  have k1 := g1
  have lt1 : ∀ x ∈ p1, x.block < W.heap.size := by obtain ⟨m, hm⟩ := k1; exact DataW.trod_lt m _ _ _ hm
  have rd1 : Tryd.prog.readableRec 23 = true := by kernel_rfl
  have ls1 : 23 < Tryd.prog.types.size := of_decide_eq_true (by kernel_rfl)
  obtain ⟨a1, rfl, h1⟩ := open_RSpan (hval 1 23 v1 rfl rfl) g1
  obtain ⟨a2, rfl, rfl, rfl, u2⟩ := open_int Tryd.underlying3 (hval 2 3 v2 rfl rfl) g2
  have h2 := bounds_i64 u2
  obtain ⟨a3, rfl, rfl, rfl, u3⟩ := open_int Tryd.underlying3 (hval 3 3 v3 rfl rfl) g3
  have h3 := bounds_i64 u3
  have k4 := g4
  have lt4 : ∀ x ∈ p4, x.block < W.heap.size := by obtain ⟨m, hm⟩ := k4; exact DataW.trod_lt m _ _ _ hm
  have rd4 : Tryd.prog.readableRec 9 = true := by kernel_rfl
  have ls4 : 9 < Tryd.prog.types.size := of_decide_eq_true (by kernel_rfl)
  obtain ⟨a4, rfl, e4, _, h4⟩ := open_string Tryd.underlying9 (hval 4 9 v4 rfl rfl) g4
  have hbd : Rows.uptoBulkAll ([d0, d1, _, _, d4] ++ []) ≤ 1048576 := of_decide_eq_true (hcond _ rfl)
  have hz4 : a4.size ≤ 1048576 := by
    rw [e4] at hbd
    simp only [List.cons_append, List.nil_append, Rows.uptoBulkAll, Rows.uptoBulk] at hbd
    have hll : a4.data.toList.length = a4.size := Array.length_toList
    omega
  clear hA0 hval0
  have key : Calls Tryd.prog 3 #[.agg #[.int .i64 a0.lo, .int .i64 a0.hi], .agg #[.int .i64 a1.lo, .int .i64 a1.hi], .int .i64 a2, .int .i64 a3, .string a4] W fun e W' => ∃ v, e = .returned v ∧ Rows.spanHoldsSpec.post enc Tryd.prog Tryd.f3 false true false false W #[.agg #[.int .i64 a0.lo, .int .i64 a0.hi], .agg #[.int .i64 a1.lo, .int .i64 a1.hi], .int .i64 a2, .int .i64 a3, .string a4] v W' := by
    refine (walk a0 a1 a2 a3 a4 W h0 h1 h2 h3 h4 (spanW_of_laidU hL hshape) hz4).mono fun e W' ⟨he, bel⟩ => ?_
    subst he
    exact ⟨_, rfl, _, _, _, [], _, [], hW', trodAll_mk1 (shut_bool Tryd.underlying4 _), (trodAll_cons_mk (Below.trod laidOut rd0 ls0 k0 bel lt0) (trodAll_cons_mk (Below.trod laidOut rd1 ls1 k1 bel lt1) (trodAll_cons_mk (shut_int Tryd.underlying3 u2) (trodAll_cons_mk (shut_int Tryd.underlying3 u3) (trodAll_cons_mk (Below.trod laidOut rd4 ls4 k4 bel lt4) trodAll_mk0))))), rfl, bel.frame _, fun h => by cases h⟩
  exact key

theorem over : Rows.spanHoldsUptoRow.holds Tryd.pinned (Rows.OpenSpec.upto Rows.spanHoldsSpec) :=
  OpenClaim.holds_of_cond 3 Tryd.f3 rfl rfl rfl rfl rfl rfl rfl ⟨rfl, rfl, rfl, rfl, rfl⟩ rfl rfl rfl rfl rfl (by kernel_rfl) Tryd.func3 (by kernel_rfl)
    (of_decide_eq_true (by kernel_rfl)) (by unfold Func.isWrapper; rw [if_neg (of_decide_eq_false (by kernel_rfl))]; exact ⟨rfl, rfl⟩)
    (fun os started H enc _ F => by rw [OpenClaim.pre_eq_preRow]; exact lifted os started H enc F)

theorem card : Rows.SpanHoldsUptoCardSaid :=
  Claim7.holds_tied_plain_at .later [] [.data, .data, .data, .sentinel, .sentinel] true (true, Rows.spanHoldsUptoCard.stood.harness.2) true
    over (fun _ h => by cases h) (by kernel_rfl) (fun _ h => by cases h) spanHoldsUpto_row_tie rfl ⟨rfl, rfl⟩ (by kernel_rfl) rfl
    (fun f fn hf hfn => by
      obtain rfl : f = 3 := Option.some.inj ((show Tryd.prog.funcNamed "noonmark/noonlaw1.SpanHolds" = some 3 by kernel_rfl).symm.trans hf) |>.symm
      obtain rfl : fn = Tryd.f3 := (Option.some.inj (Tryd.func3.symm.trans hfn)).symm
      exact ⟨by kernel_rfl, fun j t ht => by
        rw [Tryd.params3] at ht
        exact noStandIn (ps := #[23, 23, 3, 3, 9]) (by kernel_rfl) ht⟩)
    (by kernel_rfl)

#print axioms card
end Go.Proofs.YtjhfikbjfipmkaaDoor.lSpanHolds
