/- order.ahead, order.Surely, noonref2.Events, walked. -/
import Derived.Test.YthclepohilekaaaOrdC
namespace Go.Proofs.Ythclepohilekaaa
open Go.RowKit
set_option linter.unusedVariables false
set_option linter.unusedSimpArgs false
set_option maxRecDepth 100000 in
set_option maxHeartbeats 2000000 in
theorem order_ahead (i1 l1 h1 i2 l2 h2 : Int) (w : World) :
    Calls Try.prog 7 #[.agg #[.int .i64 i1, .int .i64 l1, .int .i64 h1], .agg #[.int .i64 i2, .int .i64 l2, .int .i64 h2]] w fun e w' => e = .returned (.bool (decide (h1 < l2))) ∧ Below w.heap.size w w' := by
  go_enter Try.func7, Try.ntmps7
  go_wp2_with fail
  go_ret
  exact ⟨rfl, (by repeat (first | with_reducible exact Below.refl _ _ | (with_reducible refine Below.alloc ?_ (by first | omega | (simp; done) | (simp; omega)) _) | (with_reducible refine Below.setCell ?_ (by first | omega | (simp; done) | (simp; omega)) _) | (with_reducible refine Below.drew ?_) | (with_reducible refine below_drewN ?_ _) | (with_reducible assumption) | (with_reducible refine bel_step (by with_reducible assumption) ?_ (by first | omega | (simp; done) | (simp; omega)))))⟩
