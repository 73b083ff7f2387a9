/- Time that goes on or may not; asks that fail; acts that are none, walked. -/
import Derived.Test.YtldlandcjegikaaGreatDoorHK2
namespace Go.Proofs.YtldlandcjegikaaGreatDoor
open Go.RowKit
set_option linter.unusedVariables false
set_option linter.unusedSimpArgs false
set_option maxRecDepth 100000 in
set_option maxHeartbeats 4000000 in
theorem world_Do_gone (g B n : Nat) (ss rs : List Int) (t : Int) (uv : Value) (us : List RLetter) (a b : Int) (w : World) (h : WorldU w g B n ss rs t uv us) (h0 : 0 ≤ a) (h1 : a ≤ 1000000) (h2 : t + a ≤ 1000000000) :
  Calls Tryz.prog 93 #[.pointer (some ⟨g, 0, none⟩), .agg #[.int .i64 1, .int .i64 a, .int .i64 b]] w fun e w' => e = .returned (.tuple #[.pointer none, .nilIface]) ∧ WorldU w' g B n ss rs (t + a) uv us ∧ Kept (Mine g uv) w w' := by
 have t0 := h.t0
 have hgB := h.gB
 have hBw := h.Bw
 obtain ⟨gs, cs, gr, cr, k1, _⟩ := h.ex
 have c2 := k1.cell 2
 have kf := fun o => k1.fz o
 have kl := k1.lt
 simp at c2
 have HKey := Lib.hid (fun (W : World) (hT : Touched g w W) (hb : ∀ x y, Blk w g 134 #[x, y, .int .i64 t, uv] → Blk W g 134 #[x, y, .int .i64 (t + a), uv]) => show WorldU W g B n ss rs (t + a) uv us ∧ Kept (Mine g uv) w W from by
  have hK := (Kept.refl (Mine g uv) w).touched hT (.inl (.inl rfl))
  exact ⟨h.next hK hb (own_touched h.row hT hgB) h.l40 h.lok (by omega) (by omega), hK⟩)
 clear h k1
 have u1 := IntWalk.i64_in (t + a) (by omega)
 have d1 : decide (a < 0) = false := decide_eq_false (by omega)
 have d2 : decide (1000000 < a) = false := decide_eq_false (by omega)
 have d3 : decide (1000000000 < t + a) = false := decide_eq_false (by omega)
 go_enter Tryz.func93, Tryz.ntmps93
 go_wp2_with fail
 go_quiet (fail)
 go_wp2_with fail
 go_region
 all_goals
  go_wp2_with fail
  go_ret2
 all_goals
  refine ⟨rfl, HKey.out _ (by repeat (first | with_reducible exact Touched.refl _ _ | (with_reducible refine Touched.alloc ?_ _) | (with_reducible refine Touched.setp ?_ _ (by first | exact .inl rfl | (right; first | omega | (simp; done) | (simp; omega))) _) | (with_reducible refine Touched.drew ?_) | (with_reducible refine Touched.drewN ?_ _) | (with_reducible assumption) | (with_reducible refine Touched.then (by with_reducible assumption) ?_))) (fun x y k => ?_)⟩
  exact (((((k.alloc _).drewN _).set 2 _).drew).conv rfl)
set_option maxRecDepth 100000 in
set_option maxHeartbeats 4000000 in
theorem world_Do_stays (g B n : Nat) (ss rs : List Int) (t : Int) (uv : Value) (us : List RLetter) (a b : Int) (w : World) (h : WorldU w g B n ss rs t uv us) (ha : i64B a) (h0 : a < 0 ∨ 1000000 < a ∨ 1000000000 < t + a) :
  Calls Tryz.prog 93 #[.pointer (some ⟨g, 0, none⟩), .agg #[.int .i64 1, .int .i64 a, .int .i64 b]] w fun e w' => e = .returned (.tuple #[.pointer none, .iface 88 (.int .i64 1)]) ∧ Below w.heap.size w w' := by
 have t0 := h.t0
 have t1 := h.t1
 obtain ⟨gs, cs, gr, cr, k1, _⟩ := h.ex
 have c2 := k1.cell 2
 have kl := k1.lt
 simp at c2
 clear h k1
 have hd : decide (a < 0) = true ∨ (decide (a < 0) = false ∧ decide (1000000 < a) = true) ∨ (decide (a < 0) = false ∧ decide (1000000 < a) = false ∧ decide (1000000000 < t + a) = true ∧ IntKind.i64.wrap (t + a) = t + a) := by
  by_cases d1 : a < 0
  ·exact .inl (decide_eq_true d1)
  ·by_cases d2 : 1000000 < a
   ·exact .inr (.inl ⟨decide_eq_false d1, decide_eq_true d2⟩)
   ·exact .inr (.inr ⟨decide_eq_false d1, decide_eq_false d2, decide_eq_true (by omega), IntWalk.i64_in (t + a) (by omega)⟩)
 clear h0
 rcases hd with d1 | ⟨d1, d2⟩ | ⟨d1, d2, d3, u1⟩
 all_goals
  as_aux_lemma =>
   go_enter Tryz.func93, Tryz.ntmps93
   go_wp2_with fail
   go_quiet (fail)
   go_wp2_with fail
   go_ret2
   exact ⟨rfl, BeL⟩
set_option maxRecDepth 100000 in
set_option maxHeartbeats 4000000 in
theorem world_Do_ask_no (g B n : Nat) (ss rs : List Int) (t : Int) (uv : Value) (us : List RLetter) (a b : Int) (w : World) (h : WorldU w g B n ss rs t uv us) (h0 : hasN n a = false ∨ hasN n b = false) :
  Calls Tryz.prog 93 #[.pointer (some ⟨g, 0, none⟩), .agg #[.int .i64 2, .int .i64 a, .int .i64 b]] w fun e w' => e = .returned (.tuple #[.pointer none, .iface 88 (.int .i64 1)]) ∧ Below w.heap.size w w' := by
 have CH := Lib.hid (fun (j : Int) w' (hb : Below w.heap.size w w') => world_has g n ss rs t uv j w' (h.at.below hb))
 clear h
 have hd : hasN n a = false ∨ (hasN n a = true ∧ hasN n b = false) := by
  cases h1 : hasN n a
  ·exact .inl rfl
  ·rw [h1] at h0; rcases h0 with h | h
   ·cases h
   ·exact .inr ⟨rfl, h⟩
 clear h0
 rcases hd with d1 | ⟨d1, d2⟩
 ·have C1 := Lib.hid (fun w' hb => by have := CH.out a w' hb; rw [d1] at this; exact this)
  as_aux_lemma =>
   go_enter Tryz.func93, Tryz.ntmps93
   go_wp2_with fail
   refine (C1.out _ BeL).mono ?_
   rintro e w1 ⟨rfl, hb1⟩
   have hz1 := hb1.size
   (try simp at hz1)
   have HB1 : Below w.heap.size w w1 := BeL
   have HZ1 := HB1.size
   clear hb1 hz1
   go_wp2_with fail
   go_ret2
   exact ⟨rfl, HB1⟩
 ·have C1 := Lib.hid (fun w' hb => by have := CH.out a w' hb; rw [d1] at this; exact this)
  have C2 := Lib.hid (fun w' hb => by have := CH.out b w' hb; rw [d2] at this; exact this)
  as_aux_lemma =>
   go_enter Tryz.func93, Tryz.ntmps93
   go_wp2_with fail
   refine (C1.out _ BeL).mono ?_
   rintro e w1 ⟨rfl, hb1⟩
   have hz1 := hb1.size
   (try simp at hz1)
   have agx : w.heap.size ≤ w.heap.size := by first | omega | (simp; done) | (simp; omega)
   have bx1 : Blk w1 (w.heap.size) 71 #[.int .i64 2, .int .i64 a, .int .i64 b] := BkD
   have cx1_0 : w1.cell? ⟨w.heap.size, 0, none⟩ = some (.int .i64 2) := bx1.cell 0
   have fx1_0 : w1.frozen? ⟨w.heap.size, 0, none⟩ = false := bx1.fz 0
   have cx1_1 : w1.cell? ⟨w.heap.size, 1, none⟩ = some (.int .i64 a) := bx1.cell 1
   have fx1_1 : w1.frozen? ⟨w.heap.size, 1, none⟩ = false := bx1.fz 1
   have cx1_2 : w1.cell? ⟨w.heap.size, 2, none⟩ = some (.int .i64 b) := bx1.cell 2
   have fx1_2 : w1.frozen? ⟨w.heap.size, 2, none⟩ = false := bx1.fz 2
   have lx1 : w.heap.size < w1.heap.size := bx1.lt
   have HB1 : Below w.heap.size w w1 := BeL
   have HZ1 := HB1.size
   clear hb1 hz1
   go_wp2_with fail
   refine (C2.out _ BeL).mono ?_
   rintro e w2 ⟨rfl, hb2⟩
   have hz2 := hb2.size
   (try simp at hz2)
   have bx2 : Blk w2 (w.heap.size) 71 #[.int .i64 2, .int .i64 a, .int .i64 b] := BkD
   have cx2_0 : w2.cell? ⟨w.heap.size, 0, none⟩ = some (.int .i64 2) := bx2.cell 0
   have fx2_0 : w2.frozen? ⟨w.heap.size, 0, none⟩ = false := bx2.fz 0
   have cx2_1 : w2.cell? ⟨w.heap.size, 1, none⟩ = some (.int .i64 a) := bx2.cell 1
   have fx2_1 : w2.frozen? ⟨w.heap.size, 1, none⟩ = false := bx2.fz 1
   have cx2_2 : w2.cell? ⟨w.heap.size, 2, none⟩ = some (.int .i64 b) := bx2.cell 2
   have fx2_2 : w2.frozen? ⟨w.heap.size, 2, none⟩ = false := bx2.fz 2
   have lx2 : w.heap.size < w2.heap.size := bx2.lt
   have HB2 : Below w.heap.size w w2 := BeL
   have HZ2 := HB2.size
   clear hb2 hz2 HB1 HZ1 bx1 lx1 cx1_0 fx1_0 cx1_1 fx1_1 cx1_2 fx1_2 
   go_wp2_with fail
   go_ret2
   exact ⟨rfl, HB2⟩
set_option maxRecDepth 100000 in
set_option maxHeartbeats 4000000 in
theorem world_Do_ask_same (g B n : Nat) (ss rs : List Int) (t : Int) (uv : Value) (us : List RLetter) (a : Int) (w : World) (h : WorldU w g B n ss rs t uv us) (h0 : hasN n a = true) :
  Calls Tryz.prog 93 #[.pointer (some ⟨g, 0, none⟩), .agg #[.int .i64 2, .int .i64 a, .int .i64 a]] w fun e w' => e = .returned (.tuple #[.pointer none, .iface 88 (.int .i64 3)]) ∧ Below w.heap.size w w' := by
 have CH := Lib.hid (fun w' (hb : Below w.heap.size w w') => by have := world_has g n ss rs t uv a w' (h.at.below hb); rw [h0] at this; exact this)
 clear h h0
 go_enter Tryz.func93, Tryz.ntmps93
 go_wp2_with fail
 refine (CH.out _ BeL).mono ?_
 rintro e w1 ⟨rfl, hb1⟩
 have hz1 := hb1.size
 (try simp at hz1)
 have agx : w.heap.size ≤ w.heap.size := by first | omega | (simp; done) | (simp; omega)
 have bx1 : Blk w1 (w.heap.size) 71 #[.int .i64 2, .int .i64 a, .int .i64 a] := BkD
 have cx1_0 : w1.cell? ⟨w.heap.size, 0, none⟩ = some (.int .i64 2) := bx1.cell 0
 have fx1_0 : w1.frozen? ⟨w.heap.size, 0, none⟩ = false := bx1.fz 0
 have cx1_1 : w1.cell? ⟨w.heap.size, 1, none⟩ = some (.int .i64 a) := bx1.cell 1
 have fx1_1 : w1.frozen? ⟨w.heap.size, 1, none⟩ = false := bx1.fz 1
 have cx1_2 : w1.cell? ⟨w.heap.size, 2, none⟩ = some (.int .i64 a) := bx1.cell 2
 have fx1_2 : w1.frozen? ⟨w.heap.size, 2, none⟩ = false := bx1.fz 2
 have lx1 : w.heap.size < w1.heap.size := bx1.lt
 have HB1 : Below w.heap.size w w1 := BeL
 have HZ1 := HB1.size
 clear hb1 hz1
 go_wp2_with fail
 refine (CH.out _ BeL).mono ?_
 rintro e w2 ⟨rfl, hb2⟩
 have hz2 := hb2.size
 (try simp at hz2)
 have bx2 : Blk w2 (w.heap.size) 71 #[.int .i64 2, .int .i64 a, .int .i64 a] := BkD
 have cx2_0 : w2.cell? ⟨w.heap.size, 0, none⟩ = some (.int .i64 2) := bx2.cell 0
 have fx2_0 : w2.frozen? ⟨w.heap.size, 0, none⟩ = false := bx2.fz 0
 have cx2_1 : w2.cell? ⟨w.heap.size, 1, none⟩ = some (.int .i64 a) := bx2.cell 1
 have fx2_1 : w2.frozen? ⟨w.heap.size, 1, none⟩ = false := bx2.fz 1
 have cx2_2 : w2.cell? ⟨w.heap.size, 2, none⟩ = some (.int .i64 a) := bx2.cell 2
 have fx2_2 : w2.frozen? ⟨w.heap.size, 2, none⟩ = false := bx2.fz 2
 have lx2 : w.heap.size < w2.heap.size := bx2.lt
 have HB2 : Below w.heap.size w w2 := BeL
 have HZ2 := HB2.size
 clear hb2 hz2 HB1 HZ1 bx1 lx1 cx1_0 fx1_0 cx1_1 fx1_1 cx1_2 fx1_2 
 go_wp2_with fail
 go_ret2
 exact ⟨rfl, HB2⟩
set_option maxRecDepth 100000 in
set_option maxHeartbeats 4000000 in
theorem world_Do_other (g : Nat) (k a b : Int) (w : World) (h1 : k ≠ 1) (h2 : k ≠ 2) (h3 : k ≠ 3) (h4 : k ≠ 4) (h5 : k ≠ 5) :
  Calls Tryz.prog 93 #[.pointer (some ⟨g, 0, none⟩), .agg #[.int .i64 k, .int .i64 a, .int .i64 b]] w fun e w' => e = .returned (.tuple #[.pointer none, .iface 88 (.int .i64 1)]) ∧ Below w.heap.size w w' := by
 have b1 : (k == 1) = false := by simp; exact h1
 have b2 : (k == 2) = false := by simp; exact h2
 have b3 : (k == 3) = false := by simp; exact h3
 have b4 : (k == 4) = false := by simp; exact h4
 have b5 : (k == 5) = false := by simp; exact h5
 go_enter Tryz.func93, Tryz.ntmps93
 go_wp2_with fail
 go_ret2
 exact ⟨rfl, BeL⟩
end Go.Proofs.YtldlandcjegikaaGreatDoor
