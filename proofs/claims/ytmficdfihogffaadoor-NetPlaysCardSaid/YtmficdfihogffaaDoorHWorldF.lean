/- Acts that fail, walked. -/
import Derived.Test.YtmficdfihogffaaDoorHK2
namespace Go.Proofs.YtmficdfihogffaaDoor
open Go.RowKit
set_option linter.unusedVariables false
set_option linter.unusedSimpArgs false
set_option maxRecDepth 100000 in
set_option maxHeartbeats 4000000 in
theorem world_Do_full (g B n : Nat) (ss rs : List Int) (t : Int) (uv : Value) (us : List RLetter) (i k : Nat) (w : World) (h : WorldU w g B n ss rs t uv us) (hi : i < n) (hk : k < n) (hne : i ≠ k) (hl : 40 ≤ us.length) :
    Calls Tryd.prog 25 #[.pointer (some ⟨g, 0, none⟩), .agg #[.int .i64 2, .int .i64 i, .int .i64 k]] w fun e w' => e = .returned (.tuple #[.pointer none, .iface 75 (.int .i64 4)]) ∧ Below w.heap.size w w' := by
  have CH := Lib.hid (fun (j : Nat) (hj : j < n) w' (hb : Below w.heap.size w w') => by have := world_has g n ss rs t uv j w' (h.at.below hb); rw [hasN_nat hj] at this; exact this)
  obtain ⟨A, c, rfl, hAc, hcm⟩ := own_slice h.row
  unfold maxLen at hcm
  have HG := Lib.hid (fun w' (hb : Below w.heap.size w w') => show w'.cell? ⟨g, 3, none⟩ = some (.slice A us.length c) from by
    obtain ⟨gs, cs, gr, cr, k1, _⟩ := (h.below hb).ex
    rw [k1.cell]; rfl)
  have hgw := Nat.lt_of_lt_of_le h.gB h.Bw
  have g1 : (40 : Int) ≤ (us.length : Int) := by omega
  have g2 : ((i : Int) == (k : Int)) = false := by simp; omega
  clear h hne
  go_enter Tryd.func25, Tryd.ntmps25
  go_wp2_with fail
  refine (CH.out i hi _ (by repeat (first | with_reducible exact Below.refl _ _ | (with_reducible refine Below.alloc ?_ (by first | omega | (simp; done) | (simp; omega)) _) | (with_reducible refine Below.setCell ?_ (by first | omega | (simp; done) | (simp; omega)) _) | (with_reducible refine Below.drew ?_) | (with_reducible refine below_drewN ?_ _) | (with_reducible assumption) | (with_reducible refine bel_step (by with_reducible assumption) ?_ (by first | omega | (simp; done) | (simp; omega)))))).mono ?_
  rintro e w1 ⟨rfl, hb1⟩
  have hz1 := hb1.size
  (try simp at hz1)
  have agx : w.heap.size ≤ w.heap.size := by first | omega | (simp; done) | (simp; omega)
  have bx1 : Blk w1 (w.heap.size) 35 #[.int .i64 2, .int .i64 i, .int .i64 k] := (by refine BlkG.start ?_; (repeat (first | ((with_reducible apply BlkG.done); (with_reducible assumption); exact rfl) | (with_reducible exact BlkG.newAt (by first | (with_reducible rfl) | omega | (simp; done) | (simp; omega)) rfl) | (with_reducible refine BlkG.drew ?_) | (with_reducible refine BlkG.drewN ?_) | (with_reducible refine BlkG.set ?_) | (with_reducible refine BlkG.far (by first | omega | (simp; done) | (simp; omega)) ?_) | (with_reducible refine BlkG.alloc ?_) | (with_reducible refine BlkG.bel (by with_reducible assumption) (by first | omega | (simp; done) | (simp; omega)) ?_))))
  have cx1_0 : w1.cell? ⟨w.heap.size, 0, none⟩ = some (.int .i64 2) := bx1.cell 0
  have fx1_0 : w1.frozen? ⟨w.heap.size, 0, none⟩ = false := bx1.fz 0
  have cx1_1 : w1.cell? ⟨w.heap.size, 1, none⟩ = some (.int .i64 i) := bx1.cell 1
  have fx1_1 : w1.frozen? ⟨w.heap.size, 1, none⟩ = false := bx1.fz 1
  have cx1_2 : w1.cell? ⟨w.heap.size, 2, none⟩ = some (.int .i64 k) := bx1.cell 2
  have fx1_2 : w1.frozen? ⟨w.heap.size, 2, none⟩ = false := bx1.fz 2
  have lx1 : w.heap.size < w1.heap.size := bx1.lt
  have HB1 : Below w.heap.size w w1 := (by repeat (first | with_reducible exact Below.refl _ _ | (with_reducible refine Below.alloc ?_ (by first | omega | (simp; done) | (simp; omega)) _) | (with_reducible refine Below.setCell ?_ (by first | omega | (simp; done) | (simp; omega)) _) | (with_reducible refine Below.drew ?_) | (with_reducible refine below_drewN ?_ _) | (with_reducible assumption) | (with_reducible refine bel_step (by with_reducible assumption) ?_ (by first | omega | (simp; done) | (simp; omega)))))
  have HZ1 := HB1.size
  clear hb1 hz1
  go_wp2_with fail
  refine (CH.out k hk _ (by repeat (first | with_reducible exact Below.refl _ _ | (with_reducible refine Below.alloc ?_ (by first | omega | (simp; done) | (simp; omega)) _) | (with_reducible refine Below.setCell ?_ (by first | omega | (simp; done) | (simp; omega)) _) | (with_reducible refine Below.drew ?_) | (with_reducible refine below_drewN ?_ _) | (with_reducible assumption) | (with_reducible refine bel_step (by with_reducible assumption) ?_ (by first | omega | (simp; done) | (simp; omega)))))).mono ?_
  rintro e w2 ⟨rfl, hb2⟩
  have hz2 := hb2.size
  (try simp at hz2)
  have bx2 : Blk w2 (w.heap.size) 35 #[.int .i64 2, .int .i64 i, .int .i64 k] := (by refine BlkG.start ?_; (repeat (first | ((with_reducible apply BlkG.done); (with_reducible assumption); exact rfl) | (with_reducible exact BlkG.newAt (by first | (with_reducible rfl) | omega | (simp; done) | (simp; omega)) rfl) | (with_reducible refine BlkG.drew ?_) | (with_reducible refine BlkG.drewN ?_) | (with_reducible refine BlkG.set ?_) | (with_reducible refine BlkG.far (by first | omega | (simp; done) | (simp; omega)) ?_) | (with_reducible refine BlkG.alloc ?_) | (with_reducible refine BlkG.bel (by with_reducible assumption) (by first | omega | (simp; done) | (simp; omega)) ?_))))
  have cx2_0 : w2.cell? ⟨w.heap.size, 0, none⟩ = some (.int .i64 2) := bx2.cell 0
  have fx2_0 : w2.frozen? ⟨w.heap.size, 0, none⟩ = false := bx2.fz 0
  have cx2_1 : w2.cell? ⟨w.heap.size, 1, none⟩ = some (.int .i64 i) := bx2.cell 1
  have fx2_1 : w2.frozen? ⟨w.heap.size, 1, none⟩ = false := bx2.fz 1
  have cx2_2 : w2.cell? ⟨w.heap.size, 2, none⟩ = some (.int .i64 k) := bx2.cell 2
  have fx2_2 : w2.frozen? ⟨w.heap.size, 2, none⟩ = false := bx2.fz 2
  have lx2 : w.heap.size < w2.heap.size := bx2.lt
  have HB2 : Below w.heap.size w w2 := (by repeat (first | with_reducible exact Below.refl _ _ | (with_reducible refine Below.alloc ?_ (by first | omega | (simp; done) | (simp; omega)) _) | (with_reducible refine Below.setCell ?_ (by first | omega | (simp; done) | (simp; omega)) _) | (with_reducible refine Below.drew ?_) | (with_reducible refine below_drewN ?_ _) | (with_reducible assumption) | (with_reducible refine bel_step (by with_reducible assumption) ?_ (by first | omega | (simp; done) | (simp; omega)))))
  have HZ2 := HB2.size
  clear hb2 hz2 HB1 HZ1 bx1 lx1 cx1_0 fx1_0 cx1_1 fx1_1 cx1_2 fx1_2 
  have y0 := HG.out w2 HB2
  clear CH
  go_wp2_with fail
  go_ret2
  exact ⟨rfl, HB2⟩
set_option maxRecDepth 100000 in
set_option maxHeartbeats 4000000 in
theorem world_Do_none (g B n : Nat) (ss rs : List Int) (t : Int) (uv : Value) (us : List RLetter) (k a b : Int) (w : World) (h : WorldU w g B n ss rs t uv us) (hk : k = 3 ∨ k = 4 ∨ k = 5) (ha : a < 0 ∨ (us.length : Int) ≤ a) :
    Calls Tryd.prog 25 #[.pointer (some ⟨g, 0, none⟩), .agg #[.int .i64 k, .int .i64 a, .int .i64 b]] w fun e w' => e = .returned (.tuple #[.pointer none, .iface 75 (.int .i64 5)]) ∧ Below w.heap.size w w' := by
  obtain ⟨A, c, rfl, hAc, hcm⟩ := own_slice h.row
  unfold maxLen at hcm
  obtain ⟨gs, cs, gr, cr, k1, _⟩ := h.ex
  have c3 := k1.cell 3
  have kl := k1.lt
  simp at c3
  clear h k1
  have key : ∀ k : Int, (k = 3 ∨ k = 4 ∨ k = 5) → a < 0 ∨ (¬ a < 0 ∧ (us.length : Int) ≤ a) := by intro k _; omega
  rcases key k hk with d1 | ⟨d1, d2⟩
  · have e1 : decide (a < 0) = true := decide_eq_true d1
    clear ha key
    rcases hk with rfl | rfl | rfl
    all_goals
      as_aux_lemma =>
        go_enter Tryd.func25, Tryd.ntmps25
        go_wp2_with fail
        go_quiet (fail)
        go_wp2_with fail
        go_ret2
        exact ⟨rfl, (by repeat (first | with_reducible exact Below.refl _ _ | (with_reducible refine Below.alloc ?_ (by first | omega | (simp; done) | (simp; omega)) _) | (with_reducible refine Below.setCell ?_ (by first | omega | (simp; done) | (simp; omega)) _) | (with_reducible refine Below.drew ?_) | (with_reducible refine below_drewN ?_ _) | (with_reducible assumption) | (with_reducible refine bel_step (by with_reducible assumption) ?_ (by first | omega | (simp; done) | (simp; omega)))))⟩
  · have e1 : decide (a < 0) = false := decide_eq_false d1
    clear ha key
    rcases hk with rfl | rfl | rfl
    all_goals
      as_aux_lemma =>
        go_enter Tryd.func25, Tryd.ntmps25
        go_wp2_with fail
        go_quiet (fail)
        go_wp2_with fail
        go_ret2
        exact ⟨rfl, (by repeat (first | with_reducible exact Below.refl _ _ | (with_reducible refine Below.alloc ?_ (by first | omega | (simp; done) | (simp; omega)) _) | (with_reducible refine Below.setCell ?_ (by first | omega | (simp; done) | (simp; omega)) _) | (with_reducible refine Below.drew ?_) | (with_reducible refine below_drewN ?_ _) | (with_reducible assumption) | (with_reducible refine bel_step (by with_reducible assumption) ?_ (by first | omega | (simp; done) | (simp; omega)))))⟩
end Go.Proofs.YtmficdfihogffaaDoor
