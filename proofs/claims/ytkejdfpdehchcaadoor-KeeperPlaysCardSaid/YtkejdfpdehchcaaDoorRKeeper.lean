/- The reference's keeper, walked: as package keeper's. -/
import Derived.Test.YtkejdfpdehchcaaDoorKeeper
namespace Go.Proofs.YtkejdfpdehchcaaDoor
open Go.RowKit
set_option linter.unusedVariables false
set_option linter.unusedSimpArgs false
/-- the reference's keeper's block. -/
def RKeepAt (w : World) (g : Nat) (ah la ke wr : Int) : Prop := w.heap[g]? = some (.cells #[.int .i64 ah, .int .i64 la, .int .i64 ke, .int .i64 wr] 31 (0, 0))
theorem RKeepAt.lt {w : World} {g : Nat} {ah la ke wr : Int} (h : RKeepAt w g ah la ke wr) : g < w.heap.size := by
  rcases Nat.lt_or_ge g w.heap.size with hlt | hge
  · exact hlt
  · unfold RKeepAt at h; rw [Array.getElem?_eq_none hge] at h; cases h
theorem RKeepAt.c0 {w : World} {g : Nat} {ah la ke wr : Int} (h : RKeepAt w g ah la ke wr) : w.cell? ⟨g, 0, none⟩ = some (.int .i64 ah) := by rw [cell_of_row w g 0 _ _ _ h]; rfl
theorem RKeepAt.c1 {w : World} {g : Nat} {ah la ke wr : Int} (h : RKeepAt w g ah la ke wr) : w.cell? ⟨g, 1, none⟩ = some (.int .i64 la) := by rw [cell_of_row w g 1 _ _ _ h]; rfl
theorem RKeepAt.c2 {w : World} {g : Nat} {ah la ke wr : Int} (h : RKeepAt w g ah la ke wr) : w.cell? ⟨g, 2, none⟩ = some (.int .i64 ke) := by rw [cell_of_row w g 2 _ _ _ h]; rfl
theorem RKeepAt.c3 {w : World} {g : Nat} {ah la ke wr : Int} (h : RKeepAt w g ah la ke wr) : w.cell? ⟨g, 3, none⟩ = some (.int .i64 wr) := by rw [cell_of_row w g 3 _ _ _ h]; rfl
theorem RKeepAt.fz {w : World} {g : Nat} {ah la ke wr : Int} (h : RKeepAt w g ah la ke wr) (o : Nat) : w.frozen? ⟨g, o, none⟩ = false := by
  unfold RKeepAt at h
  simp [World.frozen?, h]
theorem RKeepAt.below {w w' : World} {B g : Nat} {ah la ke wr : Int} (h : RKeepAt w g ah la ke wr) (hb : Below B w w') (hg : g < B) : RKeepAt w' g ah la ke wr := (hb.block g hg).trans h
theorem RKeepAt.new (w : World) (ah la ke wr : Int) : RKeepAt (w.alloc (.cells #[.int .i64 ah, .int .i64 la, .int .i64 ke, .int .i64 wr] 31)) w.heap.size ah la ke wr := by
  unfold RKeepAt
  rw [heap_alloc_new]
theorem RKeepAt.drewN {w : World} {g : Nat} {ah la ke wr : Int} (h : RKeepAt w g ah la ke wr) (n : Nat) : RKeepAt (w.drewN n) g ah la ke wr := h
theorem RKeepAt.s1 {w : World} {g : Nat} {ah la ke wr : Int} (h : RKeepAt w g ah la ke wr) (n : Int) : RKeepAt (w.setCell ⟨g, 1, none⟩ (.int .i64 n)) g ah n ke wr := by
  unfold RKeepAt at h ⊢
  simp [World.setCell, Array.getElem?_modify, h]
theorem RKeepAt.s2 {w : World} {g : Nat} {ah la ke wr : Int} (h : RKeepAt w g ah la ke wr) (n : Int) : RKeepAt (w.setCell ⟨g, 2, none⟩ (.int .i64 n)) g ah la n wr := by
  unfold RKeepAt at h ⊢
  simp [World.setCell, Array.getElem?_modify, h]
theorem RKeepAt.s3 {w : World} {g : Nat} {ah la ke wr : Int} (h : RKeepAt w g ah la ke wr) (n : Int) : RKeepAt (w.setCell ⟨g, 3, none⟩ (.int .i64 n)) g ah la ke n := by
  unfold RKeepAt at h ⊢
  simp [World.setCell, Array.getElem?_modify, h]
theorem rkeeper_Read_ok (g : Nat) (ah la ke wr here : Int) (w : World) (hk : RKeepAt w g ah la ke wr) (h1 : -1 ≤ la) (h2 : la ≤ 1000001000000) (h3 : 0 ≤ wr) (h4 : wr ≤ 1000000) (h5 : 1 ≤ ah) (h6 : ah ≤ 1000000) (h7 : 0 ≤ here) (h8 : tellN la here ≤ 1000000000000) :
    Calls Tryd.prog 18 #[.pointer (some ⟨g, 0, none⟩), .int .i64 here] w fun e w' => e = .returned (.tuple #[.int .i64 (tellN la here), .int .i64 0]) ∧ RKeepAt w' g ah (tellN la here) (keptN la ke ah here) (wroteN la ke wr here) ∧ Touched g w w' := by
  have k0 := hk.c0
  have k1 := hk.c1
  have k2 := hk.c2
  have k3 := hk.c3
  have kf := hk.fz
  have hlt := hk.lt
  have H := Lib.hid hk
  clear hk
  by_cases c1 : la + 1 < here
  · have e1 : tellN la here = here := by unfold tellN; omega
    rw [e1] at h8
    by_cases c2 : ke ≤ here
    · have e2 : keptN la ke ah here = here + ah := by unfold keptN; rw [e1, if_pos c2]
      have e3 : wroteN la ke wr here = wr + 1 := by unfold wroteN; rw [e1, if_pos c2]
      rw [e1, e2, e3]
      clear e1 e2 e3
      go_enter Tryd.func18, Tryd.ntmps18
      go_wp2_with fail
      go_ret2
      exact ⟨rfl, ((H.out.s2 _).s3 _).s1 _, (((Touched.refl _ _).set _ _).set _ _).set _ _⟩
    · have e2 : keptN la ke ah here = ke := by unfold keptN; rw [e1, if_neg c2]
      have e3 : wroteN la ke wr here = wr := by unfold wroteN; rw [e1, if_neg c2]
      rw [e1, e2, e3]
      clear e1 e2 e3
      go_enter Tryd.func18, Tryd.ntmps18
      go_wp2_with fail
      go_ret2
      exact ⟨rfl, H.out.s1 _, (Touched.refl _ _).set _ _⟩
  · have e1 : tellN la here = la + 1 := by unfold tellN; omega
    rw [e1] at h8
    by_cases c2 : ke ≤ la + 1
    · have e2 : keptN la ke ah here = la + 1 + ah := by unfold keptN; rw [e1, if_pos c2]
      have e3 : wroteN la ke wr here = wr + 1 := by unfold wroteN; rw [e1, if_pos c2]
      rw [e1, e2, e3]
      clear e1 e2 e3
      go_enter Tryd.func18, Tryd.ntmps18
      go_wp2_with fail
      go_ret2
      exact ⟨rfl, ((H.out.s2 _).s3 _).s1 _, (((Touched.refl _ _).set _ _).set _ _).set _ _⟩
    · have e2 : keptN la ke ah here = ke := by unfold keptN; rw [e1, if_neg c2]
      have e3 : wroteN la ke wr here = wr := by unfold wroteN; rw [e1, if_neg c2]
      rw [e1, e2, e3]
      clear e1 e2 e3
      go_enter Tryd.func18, Tryd.ntmps18
      go_wp2_with fail
      go_ret2
      exact ⟨rfl, H.out.s1 _, (Touched.refl _ _).set _ _⟩
theorem rkeeper_Read_at (g : Nat) (ah la ke wr here n k r : Int) (w : World) (hk : RKeepAt w g ah la ke wr) (e1 : tellN la here = n) (e2 : keptN la ke ah here = k) (e3 : wroteN la ke wr here = r) (h1 : -1 ≤ la) (h2 : la ≤ 1000001000000) (h3 : 0 ≤ wr) (h4 : wr ≤ 1000000) (h5 : 1 ≤ ah) (h6 : ah ≤ 1000000) (h7 : 0 ≤ here) (h8 : n ≤ 1000000000000) :
    Calls Tryd.prog 18 #[.pointer (some ⟨g, 0, none⟩), .int .i64 here] w fun e w' => e = .returned (.tuple #[.int .i64 n, .int .i64 0]) ∧ RKeepAt w' g ah n k r ∧ Touched g w w' := by
  subst e1 e2 e3
  exact rkeeper_Read_ok g ah la ke wr here w hk h1 h2 h3 h4 h5 h6 h7 h8
theorem rkeeper_Read_bad (g : Nat) (here : Int) (w : World) (h : here < 0 ∨ 1000000000000 < here) :
    Calls Tryd.prog 18 #[.pointer (some ⟨g, 0, none⟩), .int .i64 here] w fun e w' => e = .returned (.tuple #[.int .i64 0, .int .i64 1]) ∧ w = w' := by
  rcases h with h | h
  · go_enter Tryd.func18, Tryd.ntmps18
    go_wp2_with fail
    go_ret2
    exact ⟨rfl, rfl⟩
  · have h' : ¬ here < 0 := by omega
    go_enter Tryd.func18, Tryd.ntmps18
    go_wp2_with fail
    go_ret2
    exact ⟨rfl, rfl⟩
theorem rkeeper_Read_full (g : Nat) (ah la ke wr here : Int) (w : World) (hk : RKeepAt w g ah la ke wr) (h2 : la ≤ 1000001000000) (h7 : 0 ≤ here) (h8 : here ≤ 1000000000000) (h9 : 1000000000000 < tellN la here) :
    Calls Tryd.prog 18 #[.pointer (some ⟨g, 0, none⟩), .int .i64 here] w fun e w' => e = .returned (.tuple #[.int .i64 0, .int .i64 4]) ∧ w = w' := by
  have k1 := hk.c1
  have c1 : here ≤ la + 1 := by unfold tellN at h9; omega
  have c2 : 1000000000000 < la + 1 := by unfold tellN at h9; omega
  clear h9
  go_enter Tryd.func18, Tryd.ntmps18
  go_wp2_with fail
  go_ret2
  exact ⟨rfl, rfl⟩
end Go.Proofs.YtkejdfpdehchcaaDoor
