/- OrderHolds at orders that are refused, walked. -/
import Derived.Test.YthclepohilekaaaDoorDoor
import Derived.Test.YthclepohilekaaaDoorSized
import Derived.Test.YthclepohilekaaaDoorOrdI
import Derived.Test.YthclepohilekaaaDoorOrdJ
import Derived.Test.YthclepohilekaaaDoorOrderW
import Derived.Deep.DeepCutAuto
import Derived.Deep.CutBlock
import Derived.Deep.Light
namespace Go.Proofs.YthclepohilekaaaDoor.lOrderHolds
open Go.ChangeShapes Go.WideShapes Go.ChangeAt Go.RowKit
set_option linter.unusedVariables false
set_option linter.unusedSimpArgs false
theorem lit_ev (w : World) (T : TypeId) (W : World) (hB : Below (w.heap.size + 1) (w.alloc (.cells #[.int .i64 1, .int .i64 5, .int .i64 9, .int .i64 2, .int .i64 1, .int .i64 3] T)) W) : IsRecs W REvent.cells REvent.ok 3 (some ⟨w.heap.size, 0, none⟩) 2 2 twoE := by
  have hb := (Blk.new w T #[.int .i64 1, .int .i64 5, .int .i64 9, .int .i64 2, .int .i64 1, .int .i64 3]).below hB (by omega)
  refine ⟨rfl, by omega, by unfold maxLen; omega, ?_, fun _ => ⟨w.heap.size, 0, rfl, hb.lt, ?_⟩⟩
  · intro z hz
    simp only [twoE, List.mem_cons, List.not_mem_nil, or_false] at hz
    rcases hz with rfl | rfl <;> (unfold REvent.ok i64B; simp only []; omega)
  · intro i z hz j u hu
    rw [hb.cell]
    match i, hz with
    | 0, hz => simp [twoE] at hz; subst hz; match j, hu with
      | 0, hu => simpa [REvent.cells] using hu
      | 1, hu => simpa [REvent.cells] using hu
      | 2, hu => simpa [REvent.cells] using hu
      | j + 3, hu => simp [REvent.cells] at hu
    | 1, hz => simp [twoE] at hz; subst hz; match j, hu with
      | 0, hu => simpa [REvent.cells] using hu
      | 1, hu => simpa [REvent.cells] using hu
      | 2, hu => simpa [REvent.cells] using hu
      | j + 3, hu => simp [REvent.cells] at hu
    | i + 2, hz => simp [twoE] at hz
theorem lit_two (w : World) (T : TypeId) (a b : Int) (ha : i64B a) (hb' : i64B b) : IsInts (w.alloc (.cells #[.int .i64 a, .int .i64 b] T)) (some ⟨w.heap.size, 0, none⟩) 2 2 [a, b] := by
  have hb := Blk.new w T #[.int .i64 a, .int .i64 b]
  refine ⟨rfl, by omega, by unfold maxLen; omega, ?_, fun _ => ⟨w.heap.size, 0, rfl, hb.lt, ?_⟩⟩
  · intro z hz
    simp only [List.mem_cons, List.not_mem_nil, or_false] at hz
    rcases hz with rfl | rfl <;> assumption
  · intro i z hz j u hu
    rw [hb.cell]
    match i, hz with
    | 0, hz => simp at hz; subst hz; match j, hu with
      | 0, hu => simpa [intCells] using hu
      | j + 1, hu => simp [intCells] at hu
    | 1, hz => simp at hz; subst hz; match j, hu with
      | 0, hu => simpa [intCells] using hu
      | j + 1, hu => simp [intCells] at hu
    | i + 2, hz => simp at hz
theorem two_e1 : EachP 2 [1, 0] := ⟨rfl, by simp, by simp⟩
theorem two_h1 : eachB 2 [1, 0] = true := eachB_iff.2 two_e1
theorem two_r1 : readyC twoE [1, 0] = 0 := by
  have h : ∀ n, n = 2 → eachB n [1, 0] = true := fun n hn => by rw [hn]; exact two_h1
  unfold readyC
  rw [h twoE.length rfl]
  simp [two_evC]
theorem two_e2 : EachP 2 [0, 1] := ⟨rfl, by simp, by simp⟩
theorem two_h2 : eachB 2 [0, 1] = true := eachB_iff.2 two_e2
theorem two_r2 : readyC twoE [0, 1] = 0 := by
  have h : ∀ n, n = 2 → eachB n [0, 1] = true := fun n hn => by rw [hn]; exact two_h2
  unfold readyC
  rw [h twoE.length rfl]
  simp [two_evC]
set_option maxRecDepth 100000 in
set_option maxHeartbeats 32000000 in
theorem bad (a0 : Option Addr) (n0 c0 : Nat) (z0 : List REvent) (a1 : Option Addr) (n1 c1 : Nat) (z1 : List Int) (w : World) (h0 : IsRecs w REvent.cells REvent.ok 3 a0 n0 c0 z0) (h1 : IsInts w a1 n1 c1 z1) (hg : HandleAt w) (hr1 : n1 * 8 ≤ 140737488351232) (e0 : readyC z0 z1 ≠ 0) :
    Calls Tryd.prog 3 #[.slice a0 n0 c0, .slice a1 n1 c1] w fun e w' => e = .returned (.bool true) ∧ Below w.heap.size w w' := by
  obtain ⟨W1, hW1⟩ : ∃ W1, (w.alloc (.cells #[.int .i64 1, .int .i64 5, .int .i64 9, .int .i64 2, .int .i64 1, .int .i64 3] 27)).alloc (.cells #[.int .i64 1, .int .i64 0] 3) = W1 := ⟨_, rfl⟩
  have hA : Below (w.heap.size + 1) (w.alloc (.cells #[.int .i64 1, .int .i64 5, .int .i64 9, .int .i64 2, .int .i64 1, .int .i64 3] 27)) W1 := by rw [← hW1]; exact (Below.refl _ _).alloc (by simp) _
  have hw1 : Below w.heap.size w W1 := by rw [← hW1]; exact ((Below.refl _ w).alloc (Nat.le_refl _) _).alloc (by simp) _
  have hs1 : W1.heap.size = w.heap.size + 2 := by rw [← hW1]; simp
  have CC1 := order_Could_ok (some ⟨w.heap.size, 0, none⟩) 2 2 twoE (some ⟨w.heap.size + 1, 0, none⟩) 2 2 [1, 0] W1 (lit_ev w _ W1 hA) (by rw [← hW1]; have := lit_two (w.alloc (.cells #[.int .i64 1, .int .i64 5, .int .i64 9, .int .i64 2, .int .i64 1, .int .i64 3] 27)) 3 1 0 (by unfold i64B; omega) (by unfold i64B; omega); simpa using this) (by omega) two_r1
  rw [two_could1] at CC1
  have CC2 := Lib.hid (fun (w2 : World) (hb : Below W1.heap.size W1 w2) => by
    have h := order_Could_ok (some ⟨w.heap.size, 0, none⟩) 2 2 twoE (some ⟨w2.heap.size, 0, none⟩) 2 2 [0, 1] (w2.alloc (.cells #[.int .i64 0, .int .i64 1] 3)) (lit_ev w _ _ ((hA.trans (hb.mono (by omega))).alloc (by have := hb.size; omega) _)) (lit_two w2 _ 0 1 (by unfold i64B; omega) (by unfold i64B; omega)) (by omega) two_r2
    rw [two_could2] at h
    exact h)
  rw [← hW1] at CC1 hs1
  have CC1 := Lib.hid CC1
  have HW1 := Lib.hid hw1
  have CE5 := Lib.hid (fun w' (hb : Below w.heap.size w w') => show Calls Tryd.prog 9 #[.iface 54 (.int .i64 5), .int .i64 5] w' fun e w'' => e = .returned (.bool true) ∧ Below w'.heap.size w' w'' by have := Error_n 5 5 (by decide) w' (hg.below hb); simpa using this)
  have hn1 := h0.2.1
  have hn2 := h0.2.2.1
  have hm1 := h1.2.1
  have hm2 := h1.2.2.1
  unfold maxLen at hn2 hm2
  have HW1e := Lib.hid hW1
  obtain ⟨E, hE⟩ : ∃ E, readyC z0 z1 = E := ⟨_, rfl⟩
  rw [hE] at e0
  have CC := Lib.hid (fun w' (hb : Below w.heap.size w w') => order_Could_bad a0 n0 c0 z0 a1 n1 c1 z1 w' (h0.below hb) (IsRecs.below h1 hb) hr1 E hE e0)
  clear h0 h1 hg hr1 hE e0 hA hW1 hw1 CE5 hs1
  go_enter Tryd.func3, Tryd.ntmps3
  go_wp2_with fail
  refine CC1.out.mono ?_
  rintro e w2 ⟨rfl, hb2⟩
  rw [HW1e.out] at hb2
  have CC2 := Lib.hid (CC2.out w2 hb2)
  have HB2 : Below w.heap.size w w2 := HW1.out.trans (hb2.mono HW1.out.size)
  have HZ2 := HB2.size
  clear hb2
  go_wp2_with fail
  refine CC2.out.mono ?_
  rintro e w3 ⟨rfl, hb3⟩
  have HB3 : Below w.heap.size w w3 := (by repeat (first | with_reducible exact Below.refl _ _ | (with_reducible refine Below.alloc ?_ (by first | omega | (simp; done) | (simp; omega)) _) | (with_reducible refine Below.setCell ?_ (by first | omega | (simp; done) | (simp; omega)) _) | (with_reducible refine Below.drew ?_) | (with_reducible refine below_drewN ?_ _) | (with_reducible assumption) | (with_reducible refine bel_step (by with_reducible assumption) ?_ (by first | omega | (simp; done) | (simp; omega)))))
  clear hb3 HB2
  go_wp2_with fail
  refine (CC.out _ HB3).mono ?_
  rintro e w4 ⟨rfl, hb4⟩
  have HZ3 := HB3.size
  have HB4 : Below w.heap.size w w4 := (by repeat (first | with_reducible exact Below.refl _ _ | (with_reducible refine Below.alloc ?_ (by first | omega | (simp; done) | (simp; omega)) _) | (with_reducible refine Below.setCell ?_ (by first | omega | (simp; done) | (simp; omega)) _) | (with_reducible refine Below.drew ?_) | (with_reducible refine below_drewN ?_ _) | (with_reducible assumption) | (with_reducible refine bel_step (by with_reducible assumption) ?_ (by first | omega | (simp; done) | (simp; omega)))))
  clear hb4 HB3
  go_wp2_with fail
  go_ret
  exact ⟨rfl, HB4⟩

end Go.Proofs.YthclepohilekaaaDoor.lOrderHolds
