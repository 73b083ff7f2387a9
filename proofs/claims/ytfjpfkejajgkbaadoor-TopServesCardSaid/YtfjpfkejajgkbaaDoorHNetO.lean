/- Package net: Offset, walked. -/
import Derived.Test.YtfjpfkejajgkbaaDoorHNetE
import Derived.Test.YtfjpfkejajgkbaaDoorHBetween
namespace Go.Proofs.YtfjpfkejajgkbaaDoor
open Go.RowKit
set_option linter.unusedVariables false
set_option linter.unusedSimpArgs false
/-- what a net tells of two clocks; the fault. -/
def OffS (n : Nat) (h : Nat → Int) (S : Nat → NSt) (a b : Int) (x : RSpan) (c : Int) : Prop :=
  ((nodeB n a && nodeB n b) = false ∧ c = 1 ∧ x = ⟨0, 0⟩) ∨ ((nodeB n a && nodeB n b) = true ∧ ((netC h S n ≠ 0 ∧ c = netC h S n ∧ x = ⟨0, 0⟩) ∨ (netC h S n = 0 ∧ BetS n (netL h S n) a b x c)))
def OffP (n : Nat) (h : Nat → Int) (S : Nat → NSt) (a b : Int) (w w' : World) (e : Ending) : Prop :=
  ∃ (x : RSpan) (c : Int), e = .returned (.tuple #[.agg #[.int .i64 x.lo, .int .i64 x.hi], errV c]) ∧ OffS n h S a b x c ∧ Below w.heap.size w w'
set_option maxRecDepth 100000 in
set_option maxHeartbeats 8000000 in
theorem net_Offset (a : NAd) (ss rs : List Int) (p t : Int) (uv : Value) (us : List RLetter) (K : Nat) (S : Nat → NSt) (i k : Int) (w : World) (h : NetAt w a ss rs p t uv us K S) :
    Calls Tryd.prog 11 #[.pointer (some ⟨a.N, 0, none⟩), .int .i64 i, .int .i64 k] w fun e w' => OffP a.n (hereAt ss rs t) S i k w w' e := by
  have HU := Lib.hid h
  have kN := h.net.lt
  have c1 := h.net.cell 1
  simp at c1
  have hnc := h.nc.1
  have hcm := h.nc.2
  unfold maxLen at hcm
  have CE := Lib.hid (fun W (hb : Below w.heap.size w W) => net_Edges a ss rs p t uv us K S W (h.below hb))
  clear h
  cases hnd : (nodeB (a.n : Int) i && nodeB (a.n : Int) k)
  · have HO := Lib.hid (show OffS a.n (hereAt ss rs t) S i k ⟨0, 0⟩ 1 from .inl ⟨hnd, rfl, rfl⟩)
    obtain ⟨x, hx⟩ : ∃ x, nodeB (a.n : Int) i = x := ⟨_, rfl⟩
    obtain ⟨y, hy⟩ : ∃ x, nodeB (a.n : Int) k = x := ⟨_, rfl⟩
    have C1 := Lib.hid (fun w => by have := Node_any (a.n : Int) i w; rw [hx] at this; exact this)
    have C2 := Lib.hid (fun w => by have := Node_any (a.n : Int) k w; rw [hy] at this; exact this)
    rw [hx, hy] at hnd
    have hd : x = false ∨ (x = true ∧ y = false) := by cases x; exact .inl rfl; exact .inr ⟨rfl, by simpa using hnd⟩
    clear hnd hx hy CE
    rcases hd with rfl | ⟨rfl, rfl⟩
    all_goals
      go_enter Tryd.func11, Tryd.ntmps11
      go_wp2_with (first | (go_at_call 34; (with_reducible refine (C1.out _).mono ?_); rintro e w' ⟨rfl, rfl⟩) | (go_at_call 34; (with_reducible refine (C2.out _).mono ?_); rintro e w' ⟨rfl, rfl⟩))
      refine bodyPost_ret (v := .tuple #[.agg #[.int .i64 0, .int .i64 0], .iface 87 (.int .i64 1)]) (by simp [results, Tryd.results11, go_sem]) rfl ?_
      exact ⟨⟨0, 0⟩, 1, rfl, HO.out, (by repeat (first | with_reducible exact Below.refl _ _ | (with_reducible refine Below.alloc ?_ (by first | omega | (simp; done) | (simp; omega)) _) | (with_reducible refine Below.setCell ?_ (by first | omega | (simp; done) | (simp; omega)) _) | (with_reducible refine Below.drew ?_) | (with_reducible refine below_drewN ?_ _) | (with_reducible assumption) | (with_reducible refine bel_step (by with_reducible assumption) ?_ (by first | omega | (simp; done) | (simp; omega)))))⟩
  · have HND := Lib.hid hnd
    rw [Bool.and_eq_true] at hnd
    have C1 := Lib.hid (fun w => by have := Node_any (a.n : Int) i w; rw [hnd.1] at this; exact this)
    have C2 := Lib.hid (fun w => by have := Node_any (a.n : Int) k w; rw [hnd.2] at this; exact this)
    clear hnd
    go_enter Tryd.func11, Tryd.ntmps11
    go_wp2_with (first | (go_at_call 34; (with_reducible refine (C1.out _).mono ?_); rintro e w' ⟨rfl, rfl⟩) | (go_at_call 34; (with_reducible refine (C2.out _).mono ?_); rintro e w' ⟨rfl, rfl⟩))
    refine (CE.out _ (by exact (by repeat (first | with_reducible exact Below.refl _ _ | (with_reducible refine Below.alloc ?_ (by first | omega | (simp; done) | (simp; omega)) _) | (with_reducible refine Below.setCell ?_ (by first | omega | (simp; done) | (simp; omega)) _) | (with_reducible refine Below.drew ?_) | (with_reducible refine below_drewN ?_ _) | (with_reducible assumption) | (with_reducible refine bel_step (by with_reducible assumption) ?_ (by first | omega | (simp; done) | (simp; omega))))))).mono ?_
    rintro e w1 ⟨A, n, c, rfl, hI, hb1⟩
    have hbr : Blk w1 w.heap.size 41 #[.int .i64 0, .int .i64 0] := (Blk.new w _ _).below hb1 (by simp)
    have HB1 := Lib.hid (show Below w.heap.size w w1 by exact (by repeat (first | with_reducible exact Below.refl _ _ | (with_reducible refine Below.alloc ?_ (by first | omega | (simp; done) | (simp; omega)) _) | (with_reducible refine Below.setCell ?_ (by first | omega | (simp; done) | (simp; omega)) _) | (with_reducible refine Below.drew ?_) | (with_reducible refine below_drewN ?_ _) | (with_reducible assumption) | (with_reducible refine bel_step (by with_reducible assumption) ?_ (by first | omega | (simp; done) | (simp; omega))))))
    have r0 : w1.cell? ⟨w.heap.size, 0, none⟩ = some (.int .i64 0) := hbr.cell 0
    have r1 : w1.cell? ⟨w.heap.size, 1, none⟩ = some (.int .i64 0) := hbr.cell 1
    have f0 : w1.frozen? ⟨w.heap.size, 0, none⟩ = false := hbr.fz 0
    have f1 : w1.frozen? ⟨w.heap.size, 1, none⟩ = false := hbr.fz 1
    have hl := hbr.lt
    have HI := Lib.hid hI
    have HBr := Lib.hid hbr
    clear hI hb1 hbr CE
    by_cases hc : netC (hereAt ss rs t) S a.n = 0
    · have HC := Lib.hid hc
      have y1 : w1.cell? ⟨a.N, 1, none⟩ = some (.slice (some ⟨a.q, 0, none⟩) a.n a.c) := (HB1.out.cell (p := ⟨a.N, 1, none⟩) kN).trans c1
      have CBt := Lib.hid (bounds_Between (a.n : Int) A n c (netL (hereAt ss rs t) S a.n) i k w1 (by have := HI.out; unfold netE at this; rw [if_pos hc] at this; exact this))
      rw [hc]
      clear hc
      go_wp2_with fail
      refine CBt.out.mono ?_
      rintro e w2 ⟨x, c', rfl, hS, hb2⟩
      have HS := Lib.hid hS
      have hbr2 := HBr.out.below hb2 hl
      have r0 : w2.cell? ⟨w.heap.size, 0, none⟩ = some (.int .i64 0) := hbr2.cell 0
      have r1 : w2.cell? ⟨w.heap.size, 1, none⟩ = some (.int .i64 0) := hbr2.cell 1
      have f0 : w2.frozen? ⟨w.heap.size, 0, none⟩ = false := hbr2.fz 0
      have f1 : w2.frozen? ⟨w.heap.size, 1, none⟩ = false := hbr2.fz 1
      have hl2 := hbr2.lt
      have hB2 : Below w.heap.size w w2 := HB1.out.trans (hb2.mono HB1.out.size)
      have hF : Blk ((w2.setCell ⟨w.heap.size, 0, none⟩ (.int .i64 x.lo)).setCell ⟨w.heap.size, 1, none⟩ (.int .i64 x.hi)) w.heap.size 41 #[.int .i64 x.lo, .int .i64 x.hi] := ((hbr2.set 0 _).set 1 _).conv rfl
      have z0 : ((w2.setCell ⟨w.heap.size, 0, none⟩ (.int .i64 x.lo)).setCell ⟨w.heap.size, 1, none⟩ (.int .i64 x.hi)).cell? ⟨w.heap.size, 0, none⟩ = some (.int .i64 x.lo) := hF.cell 0
      have z1 : ((w2.setCell ⟨w.heap.size, 0, none⟩ (.int .i64 x.lo)).setCell ⟨w.heap.size, 1, none⟩ (.int .i64 x.hi)).cell? ⟨w.heap.size, 1, none⟩ = some (.int .i64 x.hi) := hF.cell 1
      obtain ⟨E, hE⟩ : ∃ E, errV c' = E := ⟨_, rfl⟩
      rw [hE]
      have HE := Lib.hid hE
      clear hS hb2 hbr2 CBt hF hE
      go_wp2_with fail
      refine bodyPost_ret (v := .tuple #[.agg #[.int .i64 x.lo, .int .i64 x.hi], E]) (by simp [results, Tryd.results11, go_sem, r0, r1]) rfl ?_
      exact ⟨x, c', by rw [HE.out], .inr ⟨HND.out, .inr ⟨HC.out, HS.out⟩⟩, (by repeat (first | with_reducible exact Below.refl _ _ | (with_reducible refine Below.alloc ?_ (by first | omega | (simp; done) | (simp; omega)) _) | (with_reducible refine Below.setCell ?_ (by first | omega | (simp; done) | (simp; omega)) _) | (with_reducible refine Below.drew ?_) | (with_reducible refine below_drewN ?_ _) | (with_reducible assumption) | (with_reducible refine bel_step (by with_reducible assumption) ?_ (by first | omega | (simp; done) | (simp; omega)))))⟩
    · have HO := Lib.hid (show OffS a.n (hereAt ss rs t) S i k ⟨0, 0⟩ (netC (hereAt ss rs t) S a.n) from .inr ⟨HND.out, .inl ⟨hc, rfl, rfl⟩⟩)
      obtain ⟨cc, hcc⟩ : ∃ cc, netC (hereAt ss rs t) S a.n = cc := ⟨_, rfl⟩
      rw [hcc] at hc HO ⊢
      rw [errV_ne hc]
      clear hcc HI
      go_wp2_with fail
      refine bodyPost_ret (v := .tuple #[.agg #[.int .i64 0, .int .i64 0], .iface 87 (.int .i64 cc)]) (by simp [results, Tryd.results11, go_sem, r0, r1]) rfl ?_
      have hB1 := HB1.out
      exact ⟨⟨0, 0⟩, cc, by rw [errV_ne hc], HO.out, (by repeat (first | with_reducible exact Below.refl _ _ | (with_reducible refine Below.alloc ?_ (by first | omega | (simp; done) | (simp; omega)) _) | (with_reducible refine Below.setCell ?_ (by first | omega | (simp; done) | (simp; omega)) _) | (with_reducible refine Below.drew ?_) | (with_reducible refine below_drewN ?_ _) | (with_reducible assumption) | (with_reducible refine bel_step (by with_reducible assumption) ?_ (by first | omega | (simp; done) | (simp; omega)))))⟩
end Go.Proofs.YtfjpfkejajgkbaaDoor
