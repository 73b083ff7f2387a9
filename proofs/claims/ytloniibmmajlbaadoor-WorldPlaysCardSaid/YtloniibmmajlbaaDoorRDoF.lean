/- The reference's acts that fail, and its time, walked. -/
import Derived.Test.YtloniibmmajlbaaDoorRWorld
namespace Go.Proofs.YtloniibmmajlbaaDoor
open Go.RowKit
set_option linter.unusedVariables false
set_option linter.unusedSimpArgs false
/-- no letter. -/
def noL : Value := .agg #[.int .i64 0, .int .i64 0, .bool false, .int .i64 0, .int .i64 0, .int .i64 0]
theorem do_results (W : World) (tmps : Array Value) (p : Nat) (a b : Int) (q : Bool) (c d e : Int) (z : Bool) (y : Int) (hb : Blk W p 37 #[.int .i64 a, .int .i64 b, .bool q, .int .i64 c, .int .i64 d, .int .i64 e])
    (h4 : tmps[4]?.getD undef = .pointer (some ⟨p, 0, none⟩)) (h5 : tmps[5]?.getD undef = .bool z) (h6 : tmps[6]?.getD undef = .int .i64 y) :
    (results Tryd.f10 tmps).run Tryd.prog W = .ok (.tuple #[.agg #[.int .i64 a, .int .i64 b, .bool q, .int .i64 c, .int .i64 d, .int .i64 e], .bool z, .int .i64 y]) W := by
  have x0 : W.cell? ⟨p, 0, none⟩ = some (.int .i64 a) := hb.cell 0
  have x1 : W.cell? ⟨p, 1, none⟩ = some (.int .i64 b) := hb.cell 1
  have x2 : W.cell? ⟨p, 2, none⟩ = some (.bool q) := hb.cell 2
  have x3 : W.cell? ⟨p, 3, none⟩ = some (.int .i64 c) := hb.cell 3
  have x4 : W.cell? ⟨p, 4, none⟩ = some (.int .i64 d) := hb.cell 4
  have x5 : W.cell? ⟨p, 5, none⟩ = some (.int .i64 e) := hb.cell 5
  clear hb
  simp [results, Tryd.results10, go_sem, h4, h5, h6, x0, x1, x2, x3, x4, x5]
set_option maxRecDepth 100000 in
set_option maxHeartbeats 4000000 in
theorem r2_Do_other (M : Nat) (k a b : Int) (w : World) (h1 : k ≠ 1) (h2 : k ≠ 2) (h3 : k ≠ 3) (h4 : k ≠ 4) (h5 : k ≠ 5) :
    Calls Tryd.prog 10 #[.pointer (some ⟨M, 0, none⟩), .agg #[.int .i64 k, .int .i64 a, .int .i64 b]] w fun e w' => e = .returned (.tuple #[noL, .bool false, .int .i64 1]) ∧ Below w.heap.size w w' := by
  have b1 : (k == 1) = false := by simp; exact h1
  have b2 : (k == 2) = false := by simp; exact h2
  have b3 : (k == 3) = false := by simp; exact h3
  have b4 : (k == 4) = false := by simp; exact h4
  have b5 : (k == 5) = false := by simp; exact h5
  go_enter Tryd.func10, Tryd.ntmps10
  go_wp2_with fail
  (try simp only [Exit.inBlock, Exit.then])
  refine bodyPost_ret (do_results _ _ (w.heap.size + 1) 0 0 false 0 0 0 false 1 (by refine BlkG.start ?_; (repeat (first | ((with_reducible apply BlkG.done); (with_reducible assumption); exact rfl) | (with_reducible exact BlkG.newAt (by first | (with_reducible rfl) | omega | (simp; done) | (simp; omega)) rfl) | (with_reducible refine BlkG.drew ?_) | (with_reducible refine BlkG.drewN ?_) | (with_reducible refine BlkG.set ?_) | (with_reducible refine BlkG.far (by first | omega | (simp; done) | (simp; omega)) ?_) | (with_reducible refine BlkG.alloc ?_) | (with_reducible refine BlkG.bel (by with_reducible assumption) (by first | omega | (simp; done) | (simp; omega)) ?_)))) rfl rfl rfl) rfl ?_
  exact ⟨rfl, (by repeat (first | with_reducible exact Below.refl _ _ | (with_reducible refine Below.alloc ?_ (by first | omega | (simp; done) | (simp; omega)) _) | (with_reducible refine Below.setCell ?_ (by first | omega | (simp; done) | (simp; omega)) _) | (with_reducible refine Below.drew ?_) | (with_reducible refine below_drewN ?_ _) | (with_reducible assumption) | (with_reducible refine bel_step (by with_reducible assumption) ?_ (by first | omega | (simp; done) | (simp; omega)))))⟩
set_option maxRecDepth 100000 in
set_option maxHeartbeats 4000000 in
theorem r2_Do_gone (W0 : World) (M B n : Nat) (A1 A2 : Option Addr) (c1 c2 : Nat) (t : Int) (uv : Value) (us : List RLetter) (a b : Int) (w : World) (h : RWorld W0 w M B n A1 A2 c1 c2 t uv us) (h0 : 0 ≤ a) (h1 : a ≤ 1000000) (h2 : t + a ≤ 1000000000) :
    Calls Tryd.prog 10 #[.pointer (some ⟨M, 0, none⟩), .agg #[.int .i64 1, .int .i64 a, .int .i64 b]] w fun e w' => e = .returned (.tuple #[noL, .bool false, .int .i64 0]) ∧ RWorld W0 w' M B n A1 A2 c1 c2 (t + a) uv us ∧ Kept (Mine M uv) w w' := by
  have t0 := h.t0
  have hgB := h.MB
  have hBw := h.Bw
  have k2 := h.blk.cell 2
  have kf := fun o => h.blk.fz o
  have kl := h.blk.lt
  simp at k2
  have HKey := Lib.hid (fun (W : World) (hT : Touched M w W) (hb : ∀ x y, Blk w M 43 #[x, y, .int .i64 t, uv] → Blk W M 43 #[x, y, .int .i64 (t + a), uv]) => show RWorld W0 W M B n A1 A2 c1 c2 (t + a) uv us ∧ Kept (Mine M uv) w W from by
    have hK := (Kept.refl (Mine M uv) w).touched hT (.inl (.inl rfl))
    exact ⟨h.next hK (hb _ _ h.blk) (own_touched h.row hT hgB) h.l40 h.lok (by omega) (by omega), hK⟩)
  clear h
  have u1 := IntWalk.i64_in (t + a) (by omega)
  have u2 := IntWalk.i64_in (1000000000 - t) (by omega)
  have d1 : decide (a < 0) = false := decide_eq_false (by omega)
  have d2 : decide (1000000 < a) = false := decide_eq_false (by omega)
  have d3 : decide (1000000000 - t < a) = false := decide_eq_false (by omega)
  go_enter Tryd.func10, Tryd.ntmps10
  go_wp2_with fail
  go_quiet (fail)
  go_wp2_with fail
  go_region
  all_goals
    go_wp2_with fail
    (try simp only [Exit.inBlock, Exit.then])
    refine bodyPost_ret (do_results _ _ (w.heap.size + 1) 0 0 false 0 0 0 false 0 (by refine BlkG.start ?_; (repeat (first | ((with_reducible apply BlkG.done); (with_reducible assumption); exact rfl) | (with_reducible exact BlkG.newAt (by first | (with_reducible rfl) | omega | (simp; done) | (simp; omega)) rfl) | (with_reducible refine BlkG.drew ?_) | (with_reducible refine BlkG.drewN ?_) | (with_reducible refine BlkG.set ?_) | (with_reducible refine BlkG.far (by first | omega | (simp; done) | (simp; omega)) ?_) | (with_reducible refine BlkG.alloc ?_) | (with_reducible refine BlkG.bel (by with_reducible assumption) (by first | omega | (simp; done) | (simp; omega)) ?_)))) rfl rfl rfl) rfl ?_
  all_goals
    refine ⟨rfl, HKey.out _ (by repeat (first | with_reducible exact Touched.refl _ _ | (with_reducible refine Touched.alloc ?_ _) | (with_reducible refine Touched.setp ?_ _ (by first | exact .inl rfl | (right; first | omega | (simp; done) | (simp; omega))) _) | (with_reducible refine Touched.drew ?_) | (with_reducible refine Touched.drewN ?_ _) | (with_reducible assumption) | (with_reducible refine Touched.then (by with_reducible assumption) ?_))) (fun x y k => ?_)⟩
    exact (by refine BlkG.start ?_; (repeat (first | ((with_reducible apply BlkG.done); (with_reducible assumption); exact rfl) | (with_reducible exact BlkG.newAt (by first | (with_reducible rfl) | omega | (simp; done) | (simp; omega)) rfl) | (with_reducible refine BlkG.drew ?_) | (with_reducible refine BlkG.drewN ?_) | (with_reducible refine BlkG.set ?_) | (with_reducible refine BlkG.far (by first | omega | (simp; done) | (simp; omega)) ?_) | (with_reducible refine BlkG.alloc ?_) | (with_reducible refine BlkG.bel (by with_reducible assumption) (by first | omega | (simp; done) | (simp; omega)) ?_))))
end Go.Proofs.YtloniibmmajlbaaDoor
