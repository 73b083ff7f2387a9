/- The reference's acts that fail behind a guard, walked. -/
import Derived.Test.YtloniibmmajlbaaDoorRDoF
namespace Go.Proofs.YtloniibmmajlbaaDoor
open Go.RowKit
set_option linter.unusedVariables false
set_option linter.unusedSimpArgs false
set_option maxRecDepth 100000 in
set_option maxHeartbeats 4000000 in
theorem r2_Do_stays (W0 : World) (M B n : Nat) (A1 A2 : Option Addr) (c1 c2 : Nat) (t : Int) (uv : Value) (us : List RLetter) (a b : Int) (w : World) (h : RWorld W0 w M B n A1 A2 c1 c2 t uv us) (ha : i64B a) (h0 : a < 0 ∨ 1000000 < a ∨ 1000000000 < t + a) :
    Calls Tryd.prog 10 #[.pointer (some ⟨M, 0, none⟩), .agg #[.int .i64 1, .int .i64 a, .int .i64 b]] w fun e w' => e = .returned (.tuple #[noL, .bool false, .int .i64 1]) ∧ Below w.heap.size w w' := by
  have t0 := h.t0
  have t1 := h.t1
  have k2 := h.blk.cell 2
  have kl := h.blk.lt
  simp at k2
  clear h
  have hd : decide (a < 0) = true ∨ (decide (a < 0) = false ∧ decide (1000000 < a) = true) ∨ (decide (a < 0) = false ∧ decide (1000000 < a) = false ∧ decide (1000000000 - t < a) = true ∧ IntKind.i64.wrap (1000000000 - t) = 1000000000 - t) := by
    by_cases d1 : a < 0
    · exact .inl (decide_eq_true d1)
    · by_cases d2 : 1000000 < a
      · exact .inr (.inl ⟨decide_eq_false d1, decide_eq_true d2⟩)
      · exact .inr (.inr ⟨decide_eq_false d1, decide_eq_false d2, decide_eq_true (by omega), IntWalk.i64_in (1000000000 - t) (by omega)⟩)
  clear h0
  rcases hd with d1 | ⟨d1, d2⟩ | ⟨d1, d2, d3, u1⟩
  all_goals
    have hle : w.heap.size ≤ w.heap.size + 1 := by omega
    go_enter Tryd.func10, Tryd.ntmps10
    go_wp2_with fail
    go_quiet (fail)
    go_wp2_with fail
    (try simp only [Exit.inBlock, Exit.then])
    refine bodyPost_ret (do_results _ _ (w.heap.size + 1) 0 0 false 0 0 0 false 1 (by refine BlkG.start ?_; (repeat (first | ((with_reducible apply BlkG.done); (with_reducible assumption); exact rfl) | (with_reducible exact BlkG.newAt (by first | (with_reducible rfl) | omega | (simp; done) | (simp; omega)) rfl) | (with_reducible refine BlkG.drew ?_) | (with_reducible refine BlkG.drewN ?_) | (with_reducible refine BlkG.set ?_) | (with_reducible refine BlkG.far (by first | omega | (simp; done) | (simp; omega)) ?_) | (with_reducible refine BlkG.alloc ?_) | (with_reducible refine BlkG.bel (by with_reducible assumption) (by first | omega | (simp; done) | (simp; omega)) ?_)))) rfl rfl rfl) rfl ?_
    exact ⟨rfl, (((((((below_drewN (((Below.refl _ w).alloc (Nat.le_refl _) _).alloc (by simp) _) _).setCell hle _).setCell hle _).setCell hle _).setCell hle _).setCell hle _).setCell hle _)⟩
end Go.Proofs.YtloniibmmajlbaaDoor
