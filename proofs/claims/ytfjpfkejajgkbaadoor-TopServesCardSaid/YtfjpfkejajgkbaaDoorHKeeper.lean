/- Package keeper, walked: a keeper is one block of four numbers. -/
import Derived.Test.YtfjpfkejajgkbaaDoorHG1
import Derived.Laws.Rows
namespace Go.Proofs.YtfjpfkejajgkbaaDoor
open Go.RowKit
set_option linter.unusedVariables false
set_option linter.unusedSimpArgs false
/-- a keeper's block. -/
def KeepAt (w : World) (g : Nat) (ah la ke wr : Int) : Prop := w.heap[g]? = some (.cells #[.int .i64 ah, .int .i64 la, .int .i64 ke, .int .i64 wr] 89 (0, 0))
theorem KeepAt.lt {w : World} {g : Nat} {ah la ke wr : Int} (h : KeepAt w g ah la ke wr) : g < w.heap.size := by
  rcases Nat.lt_or_ge g w.heap.size with hlt | hge
  · exact hlt
  · unfold KeepAt at h; rw [Array.getElem?_eq_none hge] at h; cases h
theorem KeepAt.c0 {w : World} {g : Nat} {ah la ke wr : Int} (h : KeepAt w g ah la ke wr) : w.cell? ⟨g, 0, none⟩ = some (.int .i64 ah) := by rw [cell_of_row w g 0 _ _ _ h]; rfl
theorem KeepAt.c1 {w : World} {g : Nat} {ah la ke wr : Int} (h : KeepAt w g ah la ke wr) : w.cell? ⟨g, 1, none⟩ = some (.int .i64 la) := by rw [cell_of_row w g 1 _ _ _ h]; rfl
theorem KeepAt.c2 {w : World} {g : Nat} {ah la ke wr : Int} (h : KeepAt w g ah la ke wr) : w.cell? ⟨g, 2, none⟩ = some (.int .i64 ke) := by rw [cell_of_row w g 2 _ _ _ h]; rfl
theorem KeepAt.c3 {w : World} {g : Nat} {ah la ke wr : Int} (h : KeepAt w g ah la ke wr) : w.cell? ⟨g, 3, none⟩ = some (.int .i64 wr) := by rw [cell_of_row w g 3 _ _ _ h]; rfl
theorem KeepAt.fz {w : World} {g : Nat} {ah la ke wr : Int} (h : KeepAt w g ah la ke wr) (o : Nat) : w.frozen? ⟨g, o, none⟩ = false := by
  unfold KeepAt at h
  simp [World.frozen?, h]
theorem KeepAt.below {w w' : World} {B g : Nat} {ah la ke wr : Int} (h : KeepAt w g ah la ke wr) (hb : Below B w w') (hg : g < B) : KeepAt w' g ah la ke wr := (hb.block g hg).trans h
theorem KeepAt.new (w : World) (ah la ke wr : Int) : KeepAt (w.alloc (.cells #[.int .i64 ah, .int .i64 la, .int .i64 ke, .int .i64 wr] 89)) w.heap.size ah la ke wr := by
  unfold KeepAt
  rw [heap_alloc_new]
theorem keeper_New_ok (ah : Int) (w : World) (h1 : 1 ≤ ah) (h2 : ah ≤ 1000000) :
    Calls Tryd.prog 7 #[.int .i64 ah] w fun e w' => e = .returned (.tuple #[.pointer (some ⟨w.heap.size, 0, none⟩), .nilIface]) ∧ w' = w.alloc (.cells #[.int .i64 ah, .int .i64 (-1), .int .i64 0, .int .i64 0] 89) := by
  go_enter Tryd.func7, Tryd.ntmps7
  go_wp2
  go_ret2
  exact ⟨rfl, rfl⟩
theorem keeper_New_no (ah : Int) (w : World) (h : ah < 1 ∨ 1000000 < ah) :
    Calls Tryd.prog 7 #[.int .i64 ah] w fun e w' => e = .returned (.tuple #[.pointer none, .iface 87 (.int .i64 1)]) ∧ w = w' := by
  rcases h with h | h
  · go_enter Tryd.func7, Tryd.ntmps7
    go_wp2
    go_ret2
    exact ⟨rfl, rfl⟩
  · have h' : ¬ ah < 1 := by omega
    go_enter Tryd.func7, Tryd.ntmps7
    go_wp2
    go_ret2
    exact ⟨rfl, rfl⟩
theorem KeepAt.s1 {w : World} {g : Nat} {ah la ke wr : Int} (h : KeepAt w g ah la ke wr) (n : Int) : KeepAt (w.setCell ⟨g, 1, none⟩ (.int .i64 n)) g ah n ke wr := by
  unfold KeepAt at h ⊢
  simp [World.setCell, Array.getElem?_modify, h]
theorem KeepAt.s2 {w : World} {g : Nat} {ah la ke wr : Int} (h : KeepAt w g ah la ke wr) (n : Int) : KeepAt (w.setCell ⟨g, 2, none⟩ (.int .i64 n)) g ah la n wr := by
  unfold KeepAt at h ⊢
  simp [World.setCell, Array.getElem?_modify, h]
theorem KeepAt.s3 {w : World} {g : Nat} {ah la ke wr : Int} (h : KeepAt w g ah la ke wr) (n : Int) : KeepAt (w.setCell ⟨g, 3, none⟩ (.int .i64 n)) g ah la ke n := by
  unfold KeepAt at h ⊢
  simp [World.setCell, Array.getElem?_modify, h]
def tellN (la here : Int) : Int := max here (la + 1)
def keptN (la ke ah here : Int) : Int := if ke ≤ tellN la here then tellN la here + ah else ke
def wroteN (la ke wr here : Int) : Int := if ke ≤ tellN la here then wr + 1 else wr
theorem keeper_Read_ok (g : Nat) (ah la ke wr here : Int) (w : World) (hk : KeepAt w g ah la ke wr) (h1 : -1 ≤ la) (h2 : la ≤ 1000001000000) (h3 : 0 ≤ wr) (h4 : wr ≤ 1000000) (h5 : 1 ≤ ah) (h6 : ah ≤ 1000000) (h7 : 0 ≤ here) (h8 : tellN la here ≤ 1000000000000) :
    Calls Tryd.prog 17 #[.pointer (some ⟨g, 0, none⟩), .int .i64 here] w fun e w' => e = .returned (.tuple #[.int .i64 (tellN la here), .nilIface]) ∧ KeepAt w' g ah (tellN la here) (keptN la ke ah here) (wroteN la ke wr here) ∧ Touched g w w' := by
  have k0 := hk.c0
  have k1 := hk.c1
  have k2 := hk.c2
  have k3 := hk.c3
  have kf := hk.fz
  have hlt := hk.lt
  have H := Lib.hid hk
  clear hk
  by_cases c1 : la + 1 ≤ here
  · have e1 : tellN la here = here := by unfold tellN; omega
    rw [e1] at h8
    by_cases c2 : ke ≤ here
    · have e2 : keptN la ke ah here = here + ah := by unfold keptN; rw [e1, if_pos c2]
      have e3 : wroteN la ke wr here = wr + 1 := by unfold wroteN; rw [e1, if_pos c2]
      rw [e1, e2, e3]
      clear e1 e2 e3
      go_enter Tryd.func17, Tryd.ntmps17
      go_wp2_with fail
      go_ret2
      exact ⟨rfl, ((H.out.s2 _).s3 _).s1 _, (((Touched.refl _ _).set _ _).set _ _).set _ _⟩
    · have e2 : keptN la ke ah here = ke := by unfold keptN; rw [e1, if_neg c2]
      have e3 : wroteN la ke wr here = wr := by unfold wroteN; rw [e1, if_neg c2]
      rw [e1, e2, e3]
      clear e1 e2 e3
      go_enter Tryd.func17, Tryd.ntmps17
      go_wp2_with fail
      go_ret2
      exact ⟨rfl, H.out.s1 _, (Touched.refl _ _).set _ _⟩
  · have e1 : tellN la here = la + 1 := by unfold tellN; omega
    rw [e1] at h8
    by_cases c2 : ke ≤ la + 1
    · have e2 : keptN la ke ah here = la + 1 + ah := by unfold keptN; rw [e1, if_pos c2]
      have e3 : wroteN la ke wr here = wr + 1 := by unfold wroteN; rw [e1, if_pos c2]
      rw [e1, e2, e3]
      clear e1 e2 e3
      go_enter Tryd.func17, Tryd.ntmps17
      go_wp2_with fail
      go_ret2
      exact ⟨rfl, ((H.out.s2 _).s3 _).s1 _, (((Touched.refl _ _).set _ _).set _ _).set _ _⟩
    · have e2 : keptN la ke ah here = ke := by unfold keptN; rw [e1, if_neg c2]
      have e3 : wroteN la ke wr here = wr := by unfold wroteN; rw [e1, if_neg c2]
      rw [e1, e2, e3]
      clear e1 e2 e3
      go_enter Tryd.func17, Tryd.ntmps17
      go_wp2_with fail
      go_ret2
      exact ⟨rfl, H.out.s1 _, (Touched.refl _ _).set _ _⟩
theorem keeper_Read_at (g : Nat) (ah la ke wr here n k r : Int) (w : World) (hk : KeepAt w g ah la ke wr) (e1 : tellN la here = n) (e2 : keptN la ke ah here = k) (e3 : wroteN la ke wr here = r) (h1 : -1 ≤ la) (h2 : la ≤ 1000001000000) (h3 : 0 ≤ wr) (h4 : wr ≤ 1000000) (h5 : 1 ≤ ah) (h6 : ah ≤ 1000000) (h7 : 0 ≤ here) (h8 : n ≤ 1000000000000) :
    Calls Tryd.prog 17 #[.pointer (some ⟨g, 0, none⟩), .int .i64 here] w fun e w' => e = .returned (.tuple #[.int .i64 n, .nilIface]) ∧ KeepAt w' g ah n k r ∧ Touched g w w' := by
  subst e1 e2 e3
  exact keeper_Read_ok g ah la ke wr here w hk h1 h2 h3 h4 h5 h6 h7 h8
theorem keeper_Read_bad (g : Nat) (here : Int) (w : World) (h : here < 0 ∨ 1000000000000 < here) :
    Calls Tryd.prog 17 #[.pointer (some ⟨g, 0, none⟩), .int .i64 here] w fun e w' => e = .returned (.tuple #[.int .i64 0, .iface 87 (.int .i64 1)]) ∧ w = w' := by
  rcases h with h | h
  · go_enter Tryd.func17, Tryd.ntmps17
    go_wp2_with fail
    go_ret2
    exact ⟨rfl, rfl⟩
  · have h' : ¬ here < 0 := by omega
    go_enter Tryd.func17, Tryd.ntmps17
    go_wp2_with fail
    go_ret2
    exact ⟨rfl, rfl⟩
theorem keeper_Read_full (g : Nat) (ah la ke wr here : Int) (w : World) (hk : KeepAt w g ah la ke wr) (h2 : la ≤ 1000001000000) (h7 : 0 ≤ here) (h8 : here ≤ 1000000000000) (h9 : 1000000000000 < tellN la here) :
    Calls Tryd.prog 17 #[.pointer (some ⟨g, 0, none⟩), .int .i64 here] w fun e w' => e = .returned (.tuple #[.int .i64 0, .iface 87 (.int .i64 4)]) ∧ w = w' := by
  have k1 := hk.c1
  have c1 : here ≤ la + 1 := by unfold tellN at h9; omega
  have c2 : 1000000000000 < la + 1 := by unfold tellN at h9; omega
  clear h9
  go_enter Tryd.func17, Tryd.ntmps17
  go_wp2_with fail
  go_ret2
  exact ⟨rfl, rfl⟩
end Go.Proofs.YtfjpfkejajgkbaaDoor
