/- VoteTells at spans that are refused, walked. -/
import Derived.Test.YtfocabghbapncaaDoorDoor
import Derived.Test.YtfocabghbapncaaDoorBlk
import Derived.Test.YtfocabghbapncaaDoorLiarsV
import Derived.Test.YtfocabghbapncaaDoorSame
import Derived.Deep.DeepCutAuto
import Derived.Deep.CutBlock
import Derived.Deep.Light
namespace Go.Proofs.YtfocabghbapncaaDoor.lVoteTells
open Go.ChangeShapes Go.WideShapes Go.ChangeAt Go.RowKit
set_option linter.unusedVariables false
set_option linter.unusedSimpArgs false
set_option maxRecDepth 100000 in
set_option maxHeartbeats 32000000 in
theorem bad (a0 : Option Addr) (n0 c0 : Nat) (z0 : List RSpan) (a1 : Int) (w : World) (h0 : IsRecs w RSpan.cells RSpan.ok 2 a0 n0 c0 z0) (hg : HandleAt w) (e0 : spansC z0 ≠ 0) :
    Calls Tryd.prog 3 #[.slice a0 n0 c0, .int .i64 a1] w fun e w' => e = .returned (.bool true) ∧ Below w.heap.size w w' := by
  obtain ⟨E, hE⟩ : ∃ E, spansC z0 = E := ⟨_, rfl⟩
  rw [hE] at e0
  have CS := Lib.hid (fun w' (hb : Below w.heap.size w w') => by have := r1_Spans a0 n0 c0 z0 w' (h0.below hb); rw [hE] at this; exact this)
  have C1 := Lib.hid (fun w' (hb : Below w.heap.size w w') => vote_Meet_bad a0 n0 c0 z0 w' (h0.below hb) E hE e0)
  have C2 := Lib.hid (fun w' (hb : Below w.heap.size w w') => vote_Most_bad a0 n0 c0 z0 w' (h0.below hb) E hE e0)
  have C3 := Lib.hid (fun w' (hb : Below w.heap.size w w') => vote_Liars_bad a0 n0 c0 z0 w' (h0.below hb) E hE e0)
  have C4 := Lib.hid (fun w' (hb : Below w.heap.size w w') => vote_Safe_bad a0 n0 c0 a1 z0 w' (h0.below hb) E hE e0)
  have CE := Lib.hid (fun w' (hb : Below w.heap.size w w') => show Calls Tryd.prog 8 #[.iface 49 (.int .i64 E), .int .i64 E] w' fun e w'' => e = .returned (.bool true) ∧ Below w'.heap.size w' w'' by have := Error_n E E e0 w' (hg.below hb); simpa using this)
  have CI := Lib.hid (fun w' => same_Ints none none 0 0 0 0 [] w' (ints_nil w') (ints_nil w'))
  have hc := h0.2.1
  have hm := h0.2.2.1
  unfold maxLen at hm
  have b1 : (E == 0) = false := by simp [e0]
  have b2 : (E != 0) = true := by simp [e0]
  clear hE e0 h0 hg
  rcases (by omega : n0 = 0 ∨ (¬ n0 = 0 ∧ (0 : Int) < n0)) with rfl | ⟨d1, d3⟩
  all_goals
    as_aux_lemma =>
      go_enter Tryd.func3, Tryd.ntmps3
      go_wp2_with fail
      refine (CS.out _ (Below.refl _ w)).mono ?_
      rintro e w1 ⟨rfl, hb1⟩
      have hz1 := hb1.size
      (try simp at hz1)
      have HB1 : Below w.heap.size w w1 := (by repeat (first | with_reducible exact Below.refl _ _ | (with_reducible refine Below.alloc ?_ (by first | omega | (simp; done) | (simp; omega)) _) | (with_reducible refine Below.setCell ?_ (by first | omega | (simp; done) | (simp; omega)) _) | (with_reducible refine Below.drew ?_) | (with_reducible refine below_drewN ?_ _) | (with_reducible assumption) | (with_reducible refine bel_step (by with_reducible assumption) ?_ (by first | omega | (simp; done) | (simp; omega)))))
      have HZ1 := HB1.size
      clear hb1 hz1
      go_wp2_with fail
      refine (C1.out _ (by repeat (first | with_reducible exact Below.refl _ _ | (with_reducible refine Below.alloc ?_ (by first | omega | (simp; done) | (simp; omega)) _) | (with_reducible refine Below.setCell ?_ (by first | omega | (simp; done) | (simp; omega)) _) | (with_reducible refine Below.drew ?_) | (with_reducible refine below_drewN ?_ _) | (with_reducible assumption) | (with_reducible refine bel_step (by with_reducible assumption) ?_ (by first | omega | (simp; done) | (simp; omega)))))).mono ?_
      rintro e w2 ⟨rfl, hb2⟩
      have hz2 := hb2.size
      (try simp at hz2)
      have agm : w.heap.size ≤ w1.heap.size := by (try simp); omega
      have bm2 : Blk w2 (w1.heap.size) 25 #[.int .i64 0, .int .i64 0] := (by refine BlkG.start ?_; (repeat (first | ((with_reducible apply BlkG.done); (with_reducible assumption); exact rfl) | (with_reducible exact BlkG.newAt (by first | (with_reducible rfl) | omega | (simp; done) | (simp; omega)) rfl) | (with_reducible refine BlkG.drew ?_) | (with_reducible refine BlkG.drewN ?_) | (with_reducible refine BlkG.set ?_) | (with_reducible refine BlkG.far (by first | omega | (simp; done) | (simp; omega)) ?_) | (with_reducible refine BlkG.alloc ?_) | (with_reducible refine BlkG.bel (by with_reducible assumption) (by first | omega | (simp; done) | (simp; omega)) ?_))))
      have cm2_0 : w2.cell? ⟨w1.heap.size, 0, none⟩ = some (.int .i64 0) := bm2.cell 0
      have fm2_0 : w2.frozen? ⟨w1.heap.size, 0, none⟩ = false := bm2.fz 0
      have cm2_1 : w2.cell? ⟨w1.heap.size, 1, none⟩ = some (.int .i64 0) := bm2.cell 1
      have fm2_1 : w2.frozen? ⟨w1.heap.size, 1, none⟩ = false := bm2.fz 1
      have lm2 : w1.heap.size < w2.heap.size := bm2.lt
      have HB2 : Below w.heap.size w w2 := (by repeat (first | with_reducible exact Below.refl _ _ | (with_reducible refine Below.alloc ?_ (by first | omega | (simp; done) | (simp; omega)) _) | (with_reducible refine Below.setCell ?_ (by first | omega | (simp; done) | (simp; omega)) _) | (with_reducible refine Below.drew ?_) | (with_reducible refine below_drewN ?_ _) | (with_reducible assumption) | (with_reducible refine bel_step (by with_reducible assumption) ?_ (by first | omega | (simp; done) | (simp; omega)))))
      have HZ2 := HB2.size
      clear hb2 hz2 HB1 HZ1 
      go_wp2_with fail
      refine (CE.out _ (by repeat (first | with_reducible exact Below.refl _ _ | (with_reducible refine Below.alloc ?_ (by first | omega | (simp; done) | (simp; omega)) _) | (with_reducible refine Below.setCell ?_ (by first | omega | (simp; done) | (simp; omega)) _) | (with_reducible refine Below.drew ?_) | (with_reducible refine below_drewN ?_ _) | (with_reducible assumption) | (with_reducible refine bel_step (by with_reducible assumption) ?_ (by first | omega | (simp; done) | (simp; omega)))))).mono ?_
      rintro e w3 ⟨rfl, hb3⟩
      have hz3 := hb3.size
      (try simp at hz3)
      have agx : w.heap.size ≤ w2.heap.size := by (try simp); omega
      have oxm : w1.heap.size < w2.heap.size := by (try simp); omega
      have bm3 : Blk w3 (w1.heap.size) 25 #[.int .i64 0, .int .i64 0] := (by refine BlkG.start ?_; (repeat (first | ((with_reducible apply BlkG.done); (with_reducible assumption); exact rfl) | (with_reducible exact BlkG.newAt (by first | (with_reducible rfl) | omega | (simp; done) | (simp; omega)) rfl) | (with_reducible refine BlkG.drew ?_) | (with_reducible refine BlkG.drewN ?_) | (with_reducible refine BlkG.set ?_) | (with_reducible refine BlkG.far (by first | omega | (simp; done) | (simp; omega)) ?_) | (with_reducible refine BlkG.alloc ?_) | (with_reducible refine BlkG.bel (by with_reducible assumption) (by first | omega | (simp; done) | (simp; omega)) ?_))))
      have cm3_0 : w3.cell? ⟨w1.heap.size, 0, none⟩ = some (.int .i64 0) := bm3.cell 0
      have fm3_0 : w3.frozen? ⟨w1.heap.size, 0, none⟩ = false := bm3.fz 0
      have cm3_1 : w3.cell? ⟨w1.heap.size, 1, none⟩ = some (.int .i64 0) := bm3.cell 1
      have fm3_1 : w3.frozen? ⟨w1.heap.size, 1, none⟩ = false := bm3.fz 1
      have lm3 : w1.heap.size < w3.heap.size := bm3.lt
      have bx3 : Blk w3 (w2.heap.size) 25 #[.int .i64 0, .int .i64 0] := (by refine BlkG.start ?_; (repeat (first | ((with_reducible apply BlkG.done); (with_reducible assumption); exact rfl) | (with_reducible exact BlkG.newAt (by first | (with_reducible rfl) | omega | (simp; done) | (simp; omega)) rfl) | (with_reducible refine BlkG.drew ?_) | (with_reducible refine BlkG.drewN ?_) | (with_reducible refine BlkG.set ?_) | (with_reducible refine BlkG.far (by first | omega | (simp; done) | (simp; omega)) ?_) | (with_reducible refine BlkG.alloc ?_) | (with_reducible refine BlkG.bel (by with_reducible assumption) (by first | omega | (simp; done) | (simp; omega)) ?_))))
      have cx3_0 : w3.cell? ⟨w2.heap.size, 0, none⟩ = some (.int .i64 0) := bx3.cell 0
      have fx3_0 : w3.frozen? ⟨w2.heap.size, 0, none⟩ = false := bx3.fz 0
      have cx3_1 : w3.cell? ⟨w2.heap.size, 1, none⟩ = some (.int .i64 0) := bx3.cell 1
      have fx3_1 : w3.frozen? ⟨w2.heap.size, 1, none⟩ = false := bx3.fz 1
      have lx3 : w2.heap.size < w3.heap.size := bx3.lt
      have HB3 : Below w.heap.size w w3 := (by repeat (first | with_reducible exact Below.refl _ _ | (with_reducible refine Below.alloc ?_ (by first | omega | (simp; done) | (simp; omega)) _) | (with_reducible refine Below.setCell ?_ (by first | omega | (simp; done) | (simp; omega)) _) | (with_reducible refine Below.drew ?_) | (with_reducible refine below_drewN ?_ _) | (with_reducible assumption) | (with_reducible refine bel_step (by with_reducible assumption) ?_ (by first | omega | (simp; done) | (simp; omega)))))
      have HZ3 := HB3.size
      clear hb3 hz3 HB2 HZ2 bm2 lm2 cm2_0 fm2_0 cm2_1 fm2_1 
      go_wp2_with fail
      refine wp_loop_rounds 1 ?_
      rw [rounds_succ]
      go_wp2_with fail
      refine (C2.out _ (by repeat (first | with_reducible exact Below.refl _ _ | (with_reducible refine Below.alloc ?_ (by first | omega | (simp; done) | (simp; omega)) _) | (with_reducible refine Below.setCell ?_ (by first | omega | (simp; done) | (simp; omega)) _) | (with_reducible refine Below.drew ?_) | (with_reducible refine below_drewN ?_ _) | (with_reducible assumption) | (with_reducible refine bel_step (by with_reducible assumption) ?_ (by first | omega | (simp; done) | (simp; omega)))))).mono ?_
      rintro e w4 ⟨rfl, hb4⟩
      have hz4 := hb4.size
      (try simp at hz4)
      have agt : w.heap.size ≤ w3.heap.size := by (try simp); omega
      have otm : w1.heap.size < w3.heap.size := by (try simp); omega
      have otx : w2.heap.size < w3.heap.size := by (try simp); omega
      have bm4 : Blk w4 (w1.heap.size) 25 #[.int .i64 0, .int .i64 0] := (by refine BlkG.start ?_; (repeat (first | ((with_reducible apply BlkG.done); (with_reducible assumption); exact rfl) | (with_reducible exact BlkG.newAt (by first | (with_reducible rfl) | omega | (simp; done) | (simp; omega)) rfl) | (with_reducible refine BlkG.drew ?_) | (with_reducible refine BlkG.drewN ?_) | (with_reducible refine BlkG.set ?_) | (with_reducible refine BlkG.far (by first | omega | (simp; done) | (simp; omega)) ?_) | (with_reducible refine BlkG.alloc ?_) | (with_reducible refine BlkG.bel (by with_reducible assumption) (by first | omega | (simp; done) | (simp; omega)) ?_))))
      have cm4_0 : w4.cell? ⟨w1.heap.size, 0, none⟩ = some (.int .i64 0) := bm4.cell 0
      have fm4_0 : w4.frozen? ⟨w1.heap.size, 0, none⟩ = false := bm4.fz 0
      have cm4_1 : w4.cell? ⟨w1.heap.size, 1, none⟩ = some (.int .i64 0) := bm4.cell 1
      have fm4_1 : w4.frozen? ⟨w1.heap.size, 1, none⟩ = false := bm4.fz 1
      have lm4 : w1.heap.size < w4.heap.size := bm4.lt
      have bx4 : Blk w4 (w2.heap.size) 25 #[.int .i64 0, .int .i64 0] := (by refine BlkG.start ?_; (repeat (first | ((with_reducible apply BlkG.done); (with_reducible assumption); exact rfl) | (with_reducible exact BlkG.newAt (by first | (with_reducible rfl) | omega | (simp; done) | (simp; omega)) rfl) | (with_reducible refine BlkG.drew ?_) | (with_reducible refine BlkG.drewN ?_) | (with_reducible refine BlkG.set ?_) | (with_reducible refine BlkG.far (by first | omega | (simp; done) | (simp; omega)) ?_) | (with_reducible refine BlkG.alloc ?_) | (with_reducible refine BlkG.bel (by with_reducible assumption) (by first | omega | (simp; done) | (simp; omega)) ?_))))
      have cx4_0 : w4.cell? ⟨w2.heap.size, 0, none⟩ = some (.int .i64 0) := bx4.cell 0
      have fx4_0 : w4.frozen? ⟨w2.heap.size, 0, none⟩ = false := bx4.fz 0
      have cx4_1 : w4.cell? ⟨w2.heap.size, 1, none⟩ = some (.int .i64 0) := bx4.cell 1
      have fx4_1 : w4.frozen? ⟨w2.heap.size, 1, none⟩ = false := bx4.fz 1
      have lx4 : w2.heap.size < w4.heap.size := bx4.lt
      have bt4 : Blk w4 (w3.heap.size) 25 #[.int .i64 0, .int .i64 0] := (by refine BlkG.start ?_; (repeat (first | ((with_reducible apply BlkG.done); (with_reducible assumption); exact rfl) | (with_reducible exact BlkG.newAt (by first | (with_reducible rfl) | omega | (simp; done) | (simp; omega)) rfl) | (with_reducible refine BlkG.drew ?_) | (with_reducible refine BlkG.drewN ?_) | (with_reducible refine BlkG.set ?_) | (with_reducible refine BlkG.far (by first | omega | (simp; done) | (simp; omega)) ?_) | (with_reducible refine BlkG.alloc ?_) | (with_reducible refine BlkG.bel (by with_reducible assumption) (by first | omega | (simp; done) | (simp; omega)) ?_))))
      have ct4_0 : w4.cell? ⟨w3.heap.size, 0, none⟩ = some (.int .i64 0) := bt4.cell 0
      have ft4_0 : w4.frozen? ⟨w3.heap.size, 0, none⟩ = false := bt4.fz 0
      have ct4_1 : w4.cell? ⟨w3.heap.size, 1, none⟩ = some (.int .i64 0) := bt4.cell 1
      have ft4_1 : w4.frozen? ⟨w3.heap.size, 1, none⟩ = false := bt4.fz 1
      have lt4 : w3.heap.size < w4.heap.size := bt4.lt
      have HB4 : Below w.heap.size w w4 := (by repeat (first | with_reducible exact Below.refl _ _ | (with_reducible refine Below.alloc ?_ (by first | omega | (simp; done) | (simp; omega)) _) | (with_reducible refine Below.setCell ?_ (by first | omega | (simp; done) | (simp; omega)) _) | (with_reducible refine Below.drew ?_) | (with_reducible refine below_drewN ?_ _) | (with_reducible assumption) | (with_reducible refine bel_step (by with_reducible assumption) ?_ (by first | omega | (simp; done) | (simp; omega)))))
      have HZ4 := HB4.size
      clear hb4 hz4 HB3 HZ3 bm3 lm3 cm3_0 fm3_0 cm3_1 fm3_1 bx3 lx3 cx3_0 fx3_0 cx3_1 fx3_1 
      go_wp2_with fail
      refine (CE.out _ (by repeat (first | with_reducible exact Below.refl _ _ | (with_reducible refine Below.alloc ?_ (by first | omega | (simp; done) | (simp; omega)) _) | (with_reducible refine Below.setCell ?_ (by first | omega | (simp; done) | (simp; omega)) _) | (with_reducible refine Below.drew ?_) | (with_reducible refine below_drewN ?_ _) | (with_reducible assumption) | (with_reducible refine bel_step (by with_reducible assumption) ?_ (by first | omega | (simp; done) | (simp; omega)))))).mono ?_
      rintro e w5 ⟨rfl, hb5⟩
      have hz5 := hb5.size
      (try simp at hz5)
      have bx5 : Blk w5 (w2.heap.size) 25 #[.int .i64 0, .int .i64 0] := (by refine BlkG.start ?_; (repeat (first | ((with_reducible apply BlkG.done); (with_reducible assumption); exact rfl) | (with_reducible exact BlkG.newAt (by first | (with_reducible rfl) | omega | (simp; done) | (simp; omega)) rfl) | (with_reducible refine BlkG.drew ?_) | (with_reducible refine BlkG.drewN ?_) | (with_reducible refine BlkG.set ?_) | (with_reducible refine BlkG.far (by first | omega | (simp; done) | (simp; omega)) ?_) | (with_reducible refine BlkG.alloc ?_) | (with_reducible refine BlkG.bel (by with_reducible assumption) (by first | omega | (simp; done) | (simp; omega)) ?_))))
      have cx5_0 : w5.cell? ⟨w2.heap.size, 0, none⟩ = some (.int .i64 0) := bx5.cell 0
      have fx5_0 : w5.frozen? ⟨w2.heap.size, 0, none⟩ = false := bx5.fz 0
      have cx5_1 : w5.cell? ⟨w2.heap.size, 1, none⟩ = some (.int .i64 0) := bx5.cell 1
      have fx5_1 : w5.frozen? ⟨w2.heap.size, 1, none⟩ = false := bx5.fz 1
      have lx5 : w2.heap.size < w5.heap.size := bx5.lt
      have bt5 : Blk w5 (w3.heap.size) 25 #[.int .i64 0, .int .i64 0] := (by refine BlkG.start ?_; (repeat (first | ((with_reducible apply BlkG.done); (with_reducible assumption); exact rfl) | (with_reducible exact BlkG.newAt (by first | (with_reducible rfl) | omega | (simp; done) | (simp; omega)) rfl) | (with_reducible refine BlkG.drew ?_) | (with_reducible refine BlkG.drewN ?_) | (with_reducible refine BlkG.set ?_) | (with_reducible refine BlkG.far (by first | omega | (simp; done) | (simp; omega)) ?_) | (with_reducible refine BlkG.alloc ?_) | (with_reducible refine BlkG.bel (by with_reducible assumption) (by first | omega | (simp; done) | (simp; omega)) ?_))))
      have ct5_0 : w5.cell? ⟨w3.heap.size, 0, none⟩ = some (.int .i64 0) := bt5.cell 0
      have ft5_0 : w5.frozen? ⟨w3.heap.size, 0, none⟩ = false := bt5.fz 0
      have ct5_1 : w5.cell? ⟨w3.heap.size, 1, none⟩ = some (.int .i64 0) := bt5.cell 1
      have ft5_1 : w5.frozen? ⟨w3.heap.size, 1, none⟩ = false := bt5.fz 1
      have lt5 : w3.heap.size < w5.heap.size := bt5.lt
      have HB5 : Below w.heap.size w w5 := (by repeat (first | with_reducible exact Below.refl _ _ | (with_reducible refine Below.alloc ?_ (by first | omega | (simp; done) | (simp; omega)) _) | (with_reducible refine Below.setCell ?_ (by first | omega | (simp; done) | (simp; omega)) _) | (with_reducible refine Below.drew ?_) | (with_reducible refine below_drewN ?_ _) | (with_reducible assumption) | (with_reducible refine bel_step (by with_reducible assumption) ?_ (by first | omega | (simp; done) | (simp; omega)))))
      have HZ5 := HB5.size
      clear hb5 hz5 HB4 HZ4 bx4 lx4 cx4_0 fx4_0 cx4_1 fx4_1 bt4 lt4 ct4_0 ft4_0 ct4_1 ft4_1 
      go_wp2_with fail
      refine (C3.out _ (by repeat (first | with_reducible exact Below.refl _ _ | (with_reducible refine Below.alloc ?_ (by first | omega | (simp; done) | (simp; omega)) _) | (with_reducible refine Below.setCell ?_ (by first | omega | (simp; done) | (simp; omega)) _) | (with_reducible refine Below.drew ?_) | (with_reducible refine below_drewN ?_ _) | (with_reducible assumption) | (with_reducible refine bel_step (by with_reducible assumption) ?_ (by first | omega | (simp; done) | (simp; omega)))))).mono ?_
      rintro e w6 ⟨rfl, hb6⟩
      have hz6 := hb6.size
      (try simp at hz6)
      have bx6 : Blk w6 (w2.heap.size) 25 #[.int .i64 0, .int .i64 0] := (by refine BlkG.start ?_; (repeat (first | ((with_reducible apply BlkG.done); (with_reducible assumption); exact rfl) | (with_reducible exact BlkG.newAt (by first | (with_reducible rfl) | omega | (simp; done) | (simp; omega)) rfl) | (with_reducible refine BlkG.drew ?_) | (with_reducible refine BlkG.drewN ?_) | (with_reducible refine BlkG.set ?_) | (with_reducible refine BlkG.far (by first | omega | (simp; done) | (simp; omega)) ?_) | (with_reducible refine BlkG.alloc ?_) | (with_reducible refine BlkG.bel (by with_reducible assumption) (by first | omega | (simp; done) | (simp; omega)) ?_))))
      have cx6_0 : w6.cell? ⟨w2.heap.size, 0, none⟩ = some (.int .i64 0) := bx6.cell 0
      have fx6_0 : w6.frozen? ⟨w2.heap.size, 0, none⟩ = false := bx6.fz 0
      have cx6_1 : w6.cell? ⟨w2.heap.size, 1, none⟩ = some (.int .i64 0) := bx6.cell 1
      have fx6_1 : w6.frozen? ⟨w2.heap.size, 1, none⟩ = false := bx6.fz 1
      have lx6 : w2.heap.size < w6.heap.size := bx6.lt
      have bt6 : Blk w6 (w3.heap.size) 25 #[.int .i64 0, .int .i64 0] := (by refine BlkG.start ?_; (repeat (first | ((with_reducible apply BlkG.done); (with_reducible assumption); exact rfl) | (with_reducible exact BlkG.newAt (by first | (with_reducible rfl) | omega | (simp; done) | (simp; omega)) rfl) | (with_reducible refine BlkG.drew ?_) | (with_reducible refine BlkG.drewN ?_) | (with_reducible refine BlkG.set ?_) | (with_reducible refine BlkG.far (by first | omega | (simp; done) | (simp; omega)) ?_) | (with_reducible refine BlkG.alloc ?_) | (with_reducible refine BlkG.bel (by with_reducible assumption) (by first | omega | (simp; done) | (simp; omega)) ?_))))
      have ct6_0 : w6.cell? ⟨w3.heap.size, 0, none⟩ = some (.int .i64 0) := bt6.cell 0
      have ft6_0 : w6.frozen? ⟨w3.heap.size, 0, none⟩ = false := bt6.fz 0
      have ct6_1 : w6.cell? ⟨w3.heap.size, 1, none⟩ = some (.int .i64 0) := bt6.cell 1
      have ft6_1 : w6.frozen? ⟨w3.heap.size, 1, none⟩ = false := bt6.fz 1
      have lt6 : w3.heap.size < w6.heap.size := bt6.lt
      have HB6 : Below w.heap.size w w6 := (by repeat (first | with_reducible exact Below.refl _ _ | (with_reducible refine Below.alloc ?_ (by first | omega | (simp; done) | (simp; omega)) _) | (with_reducible refine Below.setCell ?_ (by first | omega | (simp; done) | (simp; omega)) _) | (with_reducible refine Below.drew ?_) | (with_reducible refine below_drewN ?_ _) | (with_reducible assumption) | (with_reducible refine bel_step (by with_reducible assumption) ?_ (by first | omega | (simp; done) | (simp; omega)))))
      have HZ6 := HB6.size
      clear hb6 hz6 HB5 HZ5 bx5 lx5 cx5_0 fx5_0 cx5_1 fx5_1 bt5 lt5 ct5_0 ft5_0 ct5_1 ft5_1 
      go_wp2_with fail
      refine (CE.out _ (by repeat (first | with_reducible exact Below.refl _ _ | (with_reducible refine Below.alloc ?_ (by first | omega | (simp; done) | (simp; omega)) _) | (with_reducible refine Below.setCell ?_ (by first | omega | (simp; done) | (simp; omega)) _) | (with_reducible refine Below.drew ?_) | (with_reducible refine below_drewN ?_ _) | (with_reducible assumption) | (with_reducible refine bel_step (by with_reducible assumption) ?_ (by first | omega | (simp; done) | (simp; omega)))))).mono ?_
      rintro e w7 ⟨rfl, hb7⟩
      have hz7 := hb7.size
      (try simp at hz7)
      have bx7 : Blk w7 (w2.heap.size) 25 #[.int .i64 0, .int .i64 0] := (by refine BlkG.start ?_; (repeat (first | ((with_reducible apply BlkG.done); (with_reducible assumption); exact rfl) | (with_reducible exact BlkG.newAt (by first | (with_reducible rfl) | omega | (simp; done) | (simp; omega)) rfl) | (with_reducible refine BlkG.drew ?_) | (with_reducible refine BlkG.drewN ?_) | (with_reducible refine BlkG.set ?_) | (with_reducible refine BlkG.far (by first | omega | (simp; done) | (simp; omega)) ?_) | (with_reducible refine BlkG.alloc ?_) | (with_reducible refine BlkG.bel (by with_reducible assumption) (by first | omega | (simp; done) | (simp; omega)) ?_))))
      have cx7_0 : w7.cell? ⟨w2.heap.size, 0, none⟩ = some (.int .i64 0) := bx7.cell 0
      have fx7_0 : w7.frozen? ⟨w2.heap.size, 0, none⟩ = false := bx7.fz 0
      have cx7_1 : w7.cell? ⟨w2.heap.size, 1, none⟩ = some (.int .i64 0) := bx7.cell 1
      have fx7_1 : w7.frozen? ⟨w2.heap.size, 1, none⟩ = false := bx7.fz 1
      have lx7 : w2.heap.size < w7.heap.size := bx7.lt
      have HB7 : Below w.heap.size w w7 := (by repeat (first | with_reducible exact Below.refl _ _ | (with_reducible refine Below.alloc ?_ (by first | omega | (simp; done) | (simp; omega)) _) | (with_reducible refine Below.setCell ?_ (by first | omega | (simp; done) | (simp; omega)) _) | (with_reducible refine Below.drew ?_) | (with_reducible refine below_drewN ?_ _) | (with_reducible assumption) | (with_reducible refine bel_step (by with_reducible assumption) ?_ (by first | omega | (simp; done) | (simp; omega)))))
      have HZ7 := HB7.size
      clear hb7 hz7 HB6 HZ6 bx6 lx6 cx6_0 fx6_0 cx6_1 fx6_1 
      go_wp2_with fail
      refine (CI.out _).mono ?_
      rintro e w8 ⟨rfl, hb8⟩
      have hz8 := hb8.size
      (try simp at hz8)
      have bx8 : Blk w8 (w2.heap.size) 25 #[.int .i64 0, .int .i64 0] := (by refine BlkG.start ?_; (repeat (first | ((with_reducible apply BlkG.done); (with_reducible assumption); exact rfl) | (with_reducible exact BlkG.newAt (by first | (with_reducible rfl) | omega | (simp; done) | (simp; omega)) rfl) | (with_reducible refine BlkG.drew ?_) | (with_reducible refine BlkG.drewN ?_) | (with_reducible refine BlkG.set ?_) | (with_reducible refine BlkG.far (by first | omega | (simp; done) | (simp; omega)) ?_) | (with_reducible refine BlkG.alloc ?_) | (with_reducible refine BlkG.bel (by with_reducible assumption) (by first | omega | (simp; done) | (simp; omega)) ?_))))
      have cx8_0 : w8.cell? ⟨w2.heap.size, 0, none⟩ = some (.int .i64 0) := bx8.cell 0
      have fx8_0 : w8.frozen? ⟨w2.heap.size, 0, none⟩ = false := bx8.fz 0
      have cx8_1 : w8.cell? ⟨w2.heap.size, 1, none⟩ = some (.int .i64 0) := bx8.cell 1
      have fx8_1 : w8.frozen? ⟨w2.heap.size, 1, none⟩ = false := bx8.fz 1
      have lx8 : w2.heap.size < w8.heap.size := bx8.lt
      have HB8 : Below w.heap.size w w8 := (by repeat (first | with_reducible exact Below.refl _ _ | (with_reducible refine Below.alloc ?_ (by first | omega | (simp; done) | (simp; omega)) _) | (with_reducible refine Below.setCell ?_ (by first | omega | (simp; done) | (simp; omega)) _) | (with_reducible refine Below.drew ?_) | (with_reducible refine below_drewN ?_ _) | (with_reducible assumption) | (with_reducible refine bel_step (by with_reducible assumption) ?_ (by first | omega | (simp; done) | (simp; omega)))))
      have HZ8 := HB8.size
      clear hb8 hz8 HB7 HZ7 bx7 lx7 cx7_0 fx7_0 cx7_1 fx7_1 
      go_wp2_with fail
      refine (C4.out _ (by repeat (first | with_reducible exact Below.refl _ _ | (with_reducible refine Below.alloc ?_ (by first | omega | (simp; done) | (simp; omega)) _) | (with_reducible refine Below.setCell ?_ (by first | omega | (simp; done) | (simp; omega)) _) | (with_reducible refine Below.drew ?_) | (with_reducible refine below_drewN ?_ _) | (with_reducible assumption) | (with_reducible refine bel_step (by with_reducible assumption) ?_ (by first | omega | (simp; done) | (simp; omega)))))).mono ?_
      rintro e w9 ⟨rfl, hb9⟩
      have hz9 := hb9.size
      (try simp at hz9)
      have ags : w.heap.size ≤ w8.heap.size := by (try simp); omega
      have osx : w2.heap.size < w8.heap.size := by (try simp); omega
      have bx9 : Blk w9 (w2.heap.size) 25 #[.int .i64 0, .int .i64 0] := (by refine BlkG.start ?_; (repeat (first | ((with_reducible apply BlkG.done); (with_reducible assumption); exact rfl) | (with_reducible exact BlkG.newAt (by first | (with_reducible rfl) | omega | (simp; done) | (simp; omega)) rfl) | (with_reducible refine BlkG.drew ?_) | (with_reducible refine BlkG.drewN ?_) | (with_reducible refine BlkG.set ?_) | (with_reducible refine BlkG.far (by first | omega | (simp; done) | (simp; omega)) ?_) | (with_reducible refine BlkG.alloc ?_) | (with_reducible refine BlkG.bel (by with_reducible assumption) (by first | omega | (simp; done) | (simp; omega)) ?_))))
      have cx9_0 : w9.cell? ⟨w2.heap.size, 0, none⟩ = some (.int .i64 0) := bx9.cell 0
      have fx9_0 : w9.frozen? ⟨w2.heap.size, 0, none⟩ = false := bx9.fz 0
      have cx9_1 : w9.cell? ⟨w2.heap.size, 1, none⟩ = some (.int .i64 0) := bx9.cell 1
      have fx9_1 : w9.frozen? ⟨w2.heap.size, 1, none⟩ = false := bx9.fz 1
      have lx9 : w2.heap.size < w9.heap.size := bx9.lt
      have bs9 : Blk w9 (w8.heap.size) 25 #[.int .i64 0, .int .i64 0] := (by refine BlkG.start ?_; (repeat (first | ((with_reducible apply BlkG.done); (with_reducible assumption); exact rfl) | (with_reducible exact BlkG.newAt (by first | (with_reducible rfl) | omega | (simp; done) | (simp; omega)) rfl) | (with_reducible refine BlkG.drew ?_) | (with_reducible refine BlkG.drewN ?_) | (with_reducible refine BlkG.set ?_) | (with_reducible refine BlkG.far (by first | omega | (simp; done) | (simp; omega)) ?_) | (with_reducible refine BlkG.alloc ?_) | (with_reducible refine BlkG.bel (by with_reducible assumption) (by first | omega | (simp; done) | (simp; omega)) ?_))))
      have cs9_0 : w9.cell? ⟨w8.heap.size, 0, none⟩ = some (.int .i64 0) := bs9.cell 0
      have fs9_0 : w9.frozen? ⟨w8.heap.size, 0, none⟩ = false := bs9.fz 0
      have cs9_1 : w9.cell? ⟨w8.heap.size, 1, none⟩ = some (.int .i64 0) := bs9.cell 1
      have fs9_1 : w9.frozen? ⟨w8.heap.size, 1, none⟩ = false := bs9.fz 1
      have ls9 : w8.heap.size < w9.heap.size := bs9.lt
      have HB9 : Below w.heap.size w w9 := (by repeat (first | with_reducible exact Below.refl _ _ | (with_reducible refine Below.alloc ?_ (by first | omega | (simp; done) | (simp; omega)) _) | (with_reducible refine Below.setCell ?_ (by first | omega | (simp; done) | (simp; omega)) _) | (with_reducible refine Below.drew ?_) | (with_reducible refine below_drewN ?_ _) | (with_reducible assumption) | (with_reducible refine bel_step (by with_reducible assumption) ?_ (by first | omega | (simp; done) | (simp; omega)))))
      have HZ9 := HB9.size
      clear hb9 hz9 HB8 HZ8 bx8 lx8 cx8_0 fx8_0 cx8_1 fx8_1 
      go_wp2_with fail
      refine (CE.out _ (by repeat (first | with_reducible exact Below.refl _ _ | (with_reducible refine Below.alloc ?_ (by first | omega | (simp; done) | (simp; omega)) _) | (with_reducible refine Below.setCell ?_ (by first | omega | (simp; done) | (simp; omega)) _) | (with_reducible refine Below.drew ?_) | (with_reducible refine below_drewN ?_ _) | (with_reducible assumption) | (with_reducible refine bel_step (by with_reducible assumption) ?_ (by first | omega | (simp; done) | (simp; omega)))))).mono ?_
      rintro e w10 ⟨rfl, hb10⟩
      have hz10 := hb10.size
      (try simp at hz10)
      have bx10 : Blk w10 (w2.heap.size) 25 #[.int .i64 0, .int .i64 0] := (by refine BlkG.start ?_; (repeat (first | ((with_reducible apply BlkG.done); (with_reducible assumption); exact rfl) | (with_reducible exact BlkG.newAt (by first | (with_reducible rfl) | omega | (simp; done) | (simp; omega)) rfl) | (with_reducible refine BlkG.drew ?_) | (with_reducible refine BlkG.drewN ?_) | (with_reducible refine BlkG.set ?_) | (with_reducible refine BlkG.far (by first | omega | (simp; done) | (simp; omega)) ?_) | (with_reducible refine BlkG.alloc ?_) | (with_reducible refine BlkG.bel (by with_reducible assumption) (by first | omega | (simp; done) | (simp; omega)) ?_))))
      have cx10_0 : w10.cell? ⟨w2.heap.size, 0, none⟩ = some (.int .i64 0) := bx10.cell 0
      have fx10_0 : w10.frozen? ⟨w2.heap.size, 0, none⟩ = false := bx10.fz 0
      have cx10_1 : w10.cell? ⟨w2.heap.size, 1, none⟩ = some (.int .i64 0) := bx10.cell 1
      have fx10_1 : w10.frozen? ⟨w2.heap.size, 1, none⟩ = false := bx10.fz 1
      have lx10 : w2.heap.size < w10.heap.size := bx10.lt
      have bs10 : Blk w10 (w8.heap.size) 25 #[.int .i64 0, .int .i64 0] := (by refine BlkG.start ?_; (repeat (first | ((with_reducible apply BlkG.done); (with_reducible assumption); exact rfl) | (with_reducible exact BlkG.newAt (by first | (with_reducible rfl) | omega | (simp; done) | (simp; omega)) rfl) | (with_reducible refine BlkG.drew ?_) | (with_reducible refine BlkG.drewN ?_) | (with_reducible refine BlkG.set ?_) | (with_reducible refine BlkG.far (by first | omega | (simp; done) | (simp; omega)) ?_) | (with_reducible refine BlkG.alloc ?_) | (with_reducible refine BlkG.bel (by with_reducible assumption) (by first | omega | (simp; done) | (simp; omega)) ?_))))
      have cs10_0 : w10.cell? ⟨w8.heap.size, 0, none⟩ = some (.int .i64 0) := bs10.cell 0
      have fs10_0 : w10.frozen? ⟨w8.heap.size, 0, none⟩ = false := bs10.fz 0
      have cs10_1 : w10.cell? ⟨w8.heap.size, 1, none⟩ = some (.int .i64 0) := bs10.cell 1
      have fs10_1 : w10.frozen? ⟨w8.heap.size, 1, none⟩ = false := bs10.fz 1
      have ls10 : w8.heap.size < w10.heap.size := bs10.lt
      have HB10 : Below w.heap.size w w10 := (by repeat (first | with_reducible exact Below.refl _ _ | (with_reducible refine Below.alloc ?_ (by first | omega | (simp; done) | (simp; omega)) _) | (with_reducible refine Below.setCell ?_ (by first | omega | (simp; done) | (simp; omega)) _) | (with_reducible refine Below.drew ?_) | (with_reducible refine below_drewN ?_ _) | (with_reducible assumption) | (with_reducible refine bel_step (by with_reducible assumption) ?_ (by first | omega | (simp; done) | (simp; omega)))))
      have HZ10 := HB10.size
      clear hb10 hz10 HB9 HZ9 bx9 lx9 cx9_0 fx9_0 cx9_1 fx9_1 bs9 ls9 cs9_0 fs9_0 cs9_1 fs9_1 
      go_wp2_with fail
      go_ret
      exact ⟨rfl, HB10⟩
end Go.Proofs.YtfocabghbapncaaDoor.lVoteTells
