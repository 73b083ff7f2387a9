/- Letters that the reference has not, walked. -/
import Derived.Test.YtloniibmmajlbaaDoorRDoF
namespace Go.Proofs.YtloniibmmajlbaaDoor
open Go.RowKit
set_option linter.unusedVariables false
set_option linter.unusedSimpArgs false
set_option maxRecDepth 100000 in
set_option maxHeartbeats 4000000 in
theorem r2_Do_none (W0 : World) (M B n : Nat) (A1 A2 : Option Addr) (c1 c2 : Nat) (t : Int) (uv : Value) (us : List RLetter) (k a b : Int) (w : World) (h : RWorld W0 w M B n A1 A2 c1 c2 t uv us) (hk : k = 3 ∨ k = 4 ∨ k = 5) (ha : a < 0 ∨ (us.length : Int) ≤ a) :
    Calls Tryd.prog 10 #[.pointer (some ⟨M, 0, none⟩), .agg #[.int .i64 k, .int .i64 a, .int .i64 b]] w fun e w' => e = .returned (.tuple #[noL, .bool false, .int .i64 5]) ∧ Below w.heap.size w w' := by
  obtain ⟨A, c, rfl, hAc, hcm⟩ := own_slice h.row
  unfold maxLen at hcm
  have c3 := h.blk.cell 3
  have kl := h.blk.lt
  simp at c3
  clear h
  have key : a < 0 ∨ (¬ a < 0 ∧ (us.length : Int) ≤ a) := by omega
  rcases key with d1 | ⟨d1, d2⟩
  · have e1 : decide (a < 0) = true := decide_eq_true d1
    clear ha
    rcases hk with rfl | rfl | rfl
    all_goals
      have hle : w.heap.size ≤ w.heap.size + 1 := by omega
      go_enter Tryd.func10, Tryd.ntmps10
      go_wp2_with fail
      go_quiet (fail)
      go_wp2_with fail
      (try simp only [Exit.inBlock, Exit.then])
      refine bodyPost_ret (do_results _ _ (w.heap.size + 1) 0 0 false 0 0 0 false 5 (by refine BlkG.start ?_; (repeat (first | ((with_reducible apply BlkG.done); (with_reducible assumption); exact rfl) | (with_reducible exact BlkG.newAt (by first | (with_reducible rfl) | omega | (simp; done) | (simp; omega)) rfl) | (with_reducible refine BlkG.drew ?_) | (with_reducible refine BlkG.drewN ?_) | (with_reducible refine BlkG.set ?_) | (with_reducible refine BlkG.far (by first | omega | (simp; done) | (simp; omega)) ?_) | (with_reducible refine BlkG.alloc ?_) | (with_reducible refine BlkG.bel (by with_reducible assumption) (by first | omega | (simp; done) | (simp; omega)) ?_)))) rfl rfl rfl) rfl ?_
      exact ⟨rfl, (((((((below_drewN (((Below.refl _ w).alloc (Nat.le_refl _) _).alloc (by simp) _) _).setCell hle _).setCell hle _).setCell hle _).setCell hle _).setCell hle _).setCell hle _)⟩
  · have e1 : decide (a < 0) = false := decide_eq_false d1
    clear ha
    rcases hk with rfl | rfl | rfl
    all_goals
      have hle : w.heap.size ≤ w.heap.size + 1 := by omega
      go_enter Tryd.func10, Tryd.ntmps10
      go_wp2_with fail
      go_quiet (fail)
      go_wp2_with fail
      (try simp only [Exit.inBlock, Exit.then])
      refine bodyPost_ret (do_results _ _ (w.heap.size + 1) 0 0 false 0 0 0 false 5 (by refine BlkG.start ?_; (repeat (first | ((with_reducible apply BlkG.done); (with_reducible assumption); exact rfl) | (with_reducible exact BlkG.newAt (by first | (with_reducible rfl) | omega | (simp; done) | (simp; omega)) rfl) | (with_reducible refine BlkG.drew ?_) | (with_reducible refine BlkG.drewN ?_) | (with_reducible refine BlkG.set ?_) | (with_reducible refine BlkG.far (by first | omega | (simp; done) | (simp; omega)) ?_) | (with_reducible refine BlkG.alloc ?_) | (with_reducible refine BlkG.bel (by with_reducible assumption) (by first | omega | (simp; done) | (simp; omega)) ?_)))) rfl rfl rfl) rfl ?_
      exact ⟨rfl, (((((((below_drewN (((Below.refl _ w).alloc (Nat.le_refl _) _).alloc (by simp) _) _).setCell hle _).setCell hle _).setCell hle _).setCell hle _).setCell hle _).setCell hle _)⟩
end Go.Proofs.YtloniibmmajlbaaDoor
