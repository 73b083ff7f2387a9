/- noonsame's lists of structs, of two that are the same, walked. -/
import Derived.Test.YtdjkhagdckhijaaDoorArr
import Derived.Deep.Light
namespace Go.Proofs.YtdjkhagdckhijaaDoor
open Go.RowKit
set_option linter.unusedVariables false
set_option linter.unusedSimpArgs false
set_option maxRecDepth 100000 in
set_option maxHeartbeats 4000000 in
theorem same_Points (A B : Option Addr) (n c m d : Nat) (zs : List RPoint) (w : World) (h1 : IsRecs w RPoint.cells RPoint.ok 2 A n c zs) (h2 : IsRecs w RPoint.cells RPoint.ok 2 B m d zs) :
    Calls Tryd.prog 14 #[.slice A n c, .slice B m d] w fun e w' => e = .returned (.bool true) ∧ Below w.heap.size w w' := by
  obtain ⟨l1, l2, l3, l4, l5⟩ := h1
  obtain ⟨m1, m2, m3, m4, m5⟩ := h2
  obtain rfl : n = m := by omega
  unfold maxLen at l3 m3
  have L1 := Lib.hid l1
  have L5 := Lib.hid l5
  have M5 := Lib.hid m5
  clear l1 l4 l5 m1 m4 m5
  go_enter Tryd.func14, Tryd.ntmps14
  go_wp2_with fail
  go_loopw [5] (fun iv wr => ∃ i : Nat, iv = .int .i64 i ∧ i ≤ n ∧ ∃ q, wr = w.drewN q) (fun iv _ => n - (intOf iv).toNat)
  case atStart => exact ⟨0, rfl, by omega, 0, rfl⟩
  case round =>
    obtain ⟨i, rfl, hi, q, rfl⟩ := hrel
    by_cases d1 : i < n
    · obtain ⟨b, off, rfl, hb, hc⟩ := L5.out (by omega)
      obtain ⟨b', off', rfl, hb', hc'⟩ := M5.out (by omega)
      obtain ⟨z, hz⟩ : ∃ z, zs[i]? = some z := ⟨_, List.getElem?_eq_getElem (by rw [L1.out]; omega)⟩
      have x0 : w.cell? ⟨b, off + i * 2, none⟩ = some (.int .i64 z.x) := hc i z hz 0 _ rfl
      have x1 : w.cell? ⟨b, off + i * 2 + 1, none⟩ = some (.int .i64 z.y) := hc i z hz 1 _ rfl
      have y0 : w.cell? ⟨b', off' + i * 2, none⟩ = some (.int .i64 z.x) := hc' i z hz 0 _ rfl
      have y1 : w.cell? ⟨b', off' + i * 2 + 1, none⟩ = some (.int .i64 z.y) := hc' i z hz 1 _ rfl
      have k0 : (0 : Int) ≤ (i : Int) := by omega
      have k1 : (i : Int) < (n : Int) := by omega
      clear hc hc' hz
      go_wp2_with fail
      go_quiet (fail)
      go_wp2_with fail
      go_roundw
      case rel => exact ⟨i + 1, by go_num, by omega, _, rfl⟩
      case measure => simp [intOf]; omega
    · go_wp2_with fail
      go_ret
      exact ⟨rfl, below_drewN (Below.refl _ _) _⟩
end Go.Proofs.YtdjkhagdckhijaaDoor
