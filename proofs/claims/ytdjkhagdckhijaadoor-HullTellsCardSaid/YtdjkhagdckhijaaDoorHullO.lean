/- Package hull: up, over, flip, Upper, Lower, Over, Under, walked. -/
import Derived.Test.YtdjkhagdckhijaaDoorHullU
import Derived.Deep.DeepCutAuto
import Derived.Deep.CutBlock
import Derived.Deep.Light
namespace Go.Proofs.YtdjkhagdckhijaaDoor
open Go.RowKit Go.Shelf Go.Sort
set_option linter.unusedVariables false
set_option linter.unusedSimpArgs false
/-- divided, rounded up, as the program does. -/
def upV (a b : Int) : Int := a.tdiv b + if 0 < a.tmod b then 1 else 0
theorem upV_up {a b : Int} (h : 0 < b) : IsUp a b (upV a b) := by
  have h1 := Int.tdiv_mul_add_tmod a b
  have h2 := Int.tmod_lt_of_pos a h
  have h3 := Int.lt_tmod_of_pos a h
  unfold upV IsUp
  generalize a.tdiv b = q at *
  generalize a.tmod b = r at *
  split
  · have e1 : (q + 1 - 1) * b = q * b := by grind
    have e2 : (q + 1) * b = q * b + b := by grind
    rw [e1, e2]; omega
  · have e1 : (q + 0 - 1) * b = q * b - b := by grind
    have e2 : (q + 0) * b = q * b := by grind
    rw [e1, e2]; omega
theorem upV_bd {a b : Int} (h : -4000000000000 ≤ a ∧ a ≤ 4000000000000) : (-4000000000000 ≤ a.tdiv b ∧ a.tdiv b ≤ 4000000000000) ∧ -4000000000001 ≤ upV a b ∧ upV a b ≤ 4000000000001 := by
  have h1 := Int.natAbs_tdiv a b
  have h2 : a.natAbs.div b.natAbs ≤ a.natAbs := Nat.div_le_self _ _
  unfold upV
  constructor
  · omega
  · split <;> omega
set_option maxRecDepth 100000 in
theorem hull_up (a b : Int) (w : World) (ha : -4000000000000 ≤ a ∧ a ≤ 4000000000000) (hb : 0 < b) (hb2 : b ≤ 4000000000000) :
    Calls Tryd.prog 32 #[.int .i64 a, .int .i64 b] w fun e w' => e = .returned (.int .i64 (upV a b)) ∧ w = w' := by
  have hq := (upV_bd (b := b) ha).1
  have h2 := Int.tmod_lt_of_pos a hb
  have h3 := Int.lt_tmod_of_pos a hb
  have hb0 : (b == 0) = false := by simp; omega
  have hbn : ¬ b = 0 := by omega
  have i1 := IntWalk.i64_in (a.tdiv b) (by omega)
  have i2 := IntWalk.i64_in (a.tmod b) (by omega)
  have i3 := IntWalk.i64_in (a.tdiv b + 1) (by omega)
  unfold upV
  clear ha hb hb2 hq h2 h3
  by_cases c : 0 < a.tmod b
  · rw [if_pos c]
    go_enter Tryd.func32, Tryd.ntmps32
    go_wp2_with fail
    go_ret
    exact ⟨rfl, rfl⟩
  · rw [if_neg c, Int.add_zero]
    go_enter Tryd.func32, Tryd.ntmps32
    go_wp2_with fail
    go_ret
    exact ⟨rfl, rfl⟩
set_option maxRecDepth 100000 in
set_option maxHeartbeats 4000000 in
theorem hull_over (A : Option Addr) (n c : Nat) (cs : List RPoint) (x : Int) (w : World) (h : IsRecs w RPoint.cells RPoint.ok 2 A n c cs) (hr : RiseX cs) (hb : ∀ z ∈ cs, ptB z = true) (h0 : 0 < n) (h60 : n ≤ 60) (hf : ∀ a, cs[0]? = some a → a.x ≤ x) (hlst : ∀ a, cs[cs.length - 1]? = some a → x ≤ a.x) :
    Calls Tryd.prog 17 #[.slice A n c, .int .i64 x] w fun e w' => ∃ v, e = .returned (.int .i64 v) ∧ OverR cs x v ∧ (-5000000000000 ≤ v ∧ v ≤ 5000000000000) ∧ Below w.heap.size w w' := by
  obtain ⟨l1, l2, l3, l4, l5⟩ := h
  unfold maxLen at l3
  obtain ⟨b, off, rfl, hbl, hc⟩ := l5 h0
  obtain ⟨z0, hz0⟩ : ∃ z, cs[0]? = some z := ⟨_, List.getElem?_eq_getElem (by omega)⟩
  have hx0 := hf z0 hz0
  have HF := Lib.hid hf
  have HLs := Lib.hid hlst
  have HRs := Lib.hid hr
  have HB := Lib.hid hb
  have L1 := Lib.hid l1
  have HC := Lib.hid hc
  have HZ0 := Lib.hid hz0
  have hzb := ptB_iff.1 (hb z0 (List.mem_of_getElem? hz0))
  have hxb : -1000000 ≤ x ∧ x ≤ 1000000 := by
    obtain ⟨zl, hzl⟩ : ∃ z, cs[cs.length - 1]? = some z := ⟨_, List.getElem?_eq_getElem (by omega)⟩
    have q1 := hlst zl hzl
    have q2 := ptB_iff.1 (hb zl (List.mem_of_getElem? hzl))
    omega
  clear l1 l4 l5 hf hlst hr hb hc hz0
  go_enter Tryd.func17, Tryd.ntmps17
  go_wp2_with fail
  go_loopw [5] (fun iv wr => ∃ i : Nat, iv = .int .i64 i ∧ 1 ≤ i ∧ i ≤ n ∧ (∀ a, cs[i - 1]? = some a → i = 1 ∨ a.x < x) ∧ Below w.heap.size w wr) (fun iv _ => n - (intOf iv).toNat)
  case atStart => exact ⟨1, rfl, by omega, by omega, fun a _ => .inl rfl, Below.refl _ _⟩
  case round =>
    obtain ⟨i, rfl, hi1, hi2, hI, hBw⟩ := hrel
    have HI := Lib.hid hI
    have HBw := Lib.hid hBw
    have hzw := hBw.size
    clear hI hBw
    by_cases d1 : i < n
    · obtain ⟨j, hj⟩ : ∃ j, i = j + 1 := ⟨i - 1, by omega⟩
      obtain ⟨p, hp⟩ : ∃ z, cs[j]? = some z := ⟨_, List.getElem?_eq_getElem (by have := L1.out; omega)⟩
      obtain ⟨q, hq⟩ : ∃ z, cs[i]? = some z := ⟨_, List.getElem?_eq_getElem (by have := L1.out; omega)⟩
      have x0 : wr.cell? ⟨b, off + j * 2, none⟩ = some (.int .i64 p.x) := (HBw.out.cell (p := ⟨b, off + j * 2, none⟩) hbl).trans (HC.out j p hp 0 _ rfl)
      have x1 : wr.cell? ⟨b, off + j * 2 + 1, none⟩ = some (.int .i64 p.y) := (HBw.out.cell (p := ⟨b, off + j * 2 + 1, none⟩) hbl).trans (HC.out j p hp 1 _ rfl)
      have x2 : wr.cell? ⟨b, off + i * 2, none⟩ = some (.int .i64 q.x) := (HBw.out.cell (p := ⟨b, off + i * 2, none⟩) hbl).trans (HC.out i q hq 0 _ rfl)
      have x3 : wr.cell? ⟨b, off + i * 2 + 1, none⟩ = some (.int .i64 q.y) := (HBw.out.cell (p := ⟨b, off + i * 2 + 1, none⟩) hbl).trans (HC.out i q hq 1 _ rfl)
      have hpq : p.x < q.x := rise_at HRs.out hp hq (by omega)
      have hpb := ptB_iff.1 (HB.out p (List.mem_of_getElem? hp))
      have hqb := ptB_iff.1 (HB.out q (List.mem_of_getElem? hq))
      have hpx : p.x ≤ x := by
        rcases HI.out p (by rw [hj]; simpa using hp) with e | e
        · have : j = 0 := by omega
          rw [this] at hp
          exact HF.out p hp
        · omega
      have HP := Lib.hid hp
      have HQ := Lib.hid hq
      have HJ := Lib.hid hj
      have t1 : (0 : Int) ≤ (j : Int) := by omega
      have t2 : (j : Int) < (n : Int) := by omega
      have t3 : (i : Int) - 1 = (j : Int) := by omega
      have t4 : (0 : Int) ≤ (i : Int) := by omega
      have t5 : (i : Int) < (n : Int) := by omega
      have t6 := IntWalk.i64_in (j : Int) (by omega)
      have kb : b < wr.heap.size := by omega
      clear hp hq hj
      go_wp2_with fail
      go_upto_region 5 with fail
      go_cut [6, 7] (fun pv qv wx => ∃ g6 g7 : Nat, pv = .pointer (some ⟨g6, 0, none⟩) ∧ qv = .pointer (some ⟨g7, 0, none⟩) ∧ wx.cell? ⟨g6, 0, none⟩ = some (.int .i64 p.x) ∧ wx.cell? ⟨g6, 1, none⟩ = some (.int .i64 p.y) ∧ wx.cell? ⟨g7, 0, none⟩ = some (.int .i64 q.x) ∧ wx.cell? ⟨g7, 1, none⟩ = some (.int .i64 q.y) ∧ Below w.heap.size w wx)
      case first =>
        have hB1 := HBw.out
        go_wp2_with fail
        go_region
        all_goals
          go_wp2_with fail
          go_meet
          case rel => exact ⟨_, _, rfl, rfl, by simp, by simp, by simp, by simp, (by repeat (first | with_reducible exact Below.refl _ _ | (with_reducible refine Below.alloc ?_ (by first | omega | (simp; done) | (simp; omega)) _) | (with_reducible refine Below.setCell ?_ (by first | omega | (simp; done) | (simp; omega)) _) | (with_reducible refine Below.drew ?_) | (with_reducible refine below_drewN ?_ _) | (with_reducible assumption) | (with_reducible refine bel_step (by with_reducible assumption) ?_ (by first | omega | (simp; done) | (simp; omega)))))⟩
      case rest =>
        obtain ⟨g6, g7, rfl, rfl, y0, y1, y2, y3, hB7⟩ := hcut
        obtain ⟨w7, hw7⟩ : ∃ x : World, x = wc := ⟨_, rfl⟩
        subst hw7
        have HB7 := Lib.hid hB7
        clear hB7 x0 x1 x2 x3
        by_cases d2 : x ≤ q.x
        · have m1 := mul_bd2 (p := q.y - p.y) (q := x - p.x) (by omega) (by omega)
          have HU := Lib.hid (upV_up (a := (q.y - p.y) * (x - p.x)) (show 0 < q.x - p.x by omega))
          have hub := (upV_bd (a := (q.y - p.y) * (x - p.x)) (b := q.x - p.x) m1).2
          have CU := Lib.hid (fun w => hull_up ((q.y - p.y) * (x - p.x)) (q.x - p.x) w m1 (by omega) (by omega))
          obtain ⟨U, hU⟩ : ∃ U, upV ((q.y - p.y) * (x - p.x)) (q.x - p.x) = U := ⟨_, rfl⟩
          rw [hU] at HU CU hub
          have i1 := IntWalk.i64_in (q.y - p.y) (by omega)
          have i2 := IntWalk.i64_in (x - p.x) (by omega)
          have i3 := IntWalk.i64_in ((q.y - p.y) * (x - p.x)) (by omega)
          have i4 := IntWalk.i64_in (q.x - p.x) (by omega)
          have i5 := IntWalk.i64_in (p.y + U) (by omega)
          have HV := Lib.hid (show OverR cs x (p.y + U) from .inr ⟨j, p, q, HP.out, by have := HQ.out; rwa [HJ.out] at this, by
            rcases HI.out p (by rw [HJ.out]; simpa using HP.out) with e | e
            · left; have := HJ.out; omega
            · exact .inr e, hpx, d2, by rw [show p.y + U - p.y = U by omega]; exact HU.out⟩)
          have HVb := Lib.hid (show -5000000000000 ≤ p.y + U ∧ p.y + U ≤ 5000000000000 by omega)
          clear m1 hub hU hpb hqb hpx hpq hzb hxb t6 hx0
          go_wp2_with fail
          go_quiet ((go_at_call 32; exact quiet_left (CU.out _)))
          clear i1 i2 i3 i4 i5
          go_wp2_with fail
          refine bodyPost_ret (v := .int .i64 (p.y + U)) (by simp [results, Tryd.results17, go_sem]) rfl ?_
          have hB7 := HB7.out
          exact ⟨_, rfl, HV.out, HVb.out, (by repeat (first | with_reducible exact Below.refl _ _ | (with_reducible refine Below.alloc ?_ (by first | omega | (simp; done) | (simp; omega)) _) | (with_reducible refine Below.setCell ?_ (by first | omega | (simp; done) | (simp; omega)) _) | (with_reducible refine Below.drew ?_) | (with_reducible refine below_drewN ?_ _) | (with_reducible assumption) | (with_reducible refine bel_step (by with_reducible assumption) ?_ (by first | omega | (simp; done) | (simp; omega)))))⟩
        · have HI2 := Lib.hid (show ∀ a, cs[i + 1 - 1]? = some a → i + 1 = 1 ∨ a.x < x from fun a ha => by
            rw [show i + 1 - 1 = i by omega, HQ.out] at ha
            cases ha; right; omega)
          clear hpb hqb hpx hpq hzb hxb t6 hx0
          go_wp2_with fail
          go_roundw
          case rel => exact ⟨i + 1, by go_num, by omega, by omega, HI2.out, HB7.out⟩
          case measure => go_light; simp [intOf]; omega
    · obtain rfl : i = n := by omega
      have hone : i = 1 := by
        have hl := L1.out
        obtain ⟨zl, hzl⟩ : ∃ z, cs[i - 1]? = some z := ⟨_, List.getElem?_eq_getElem (by omega)⟩
        rcases HI.out zl hzl with e | e
        · exact e
        · have := HLs.out zl (by rw [hl]; exact hzl); omega
      have hz0x : z0.x = x := by
        have := HLs.out z0 (by rw [L1.out, hone]; exact HZ0.out)
        omega
      have x1 : wr.cell? ⟨b, off + 1, none⟩ = some (.int .i64 z0.y) := by
        have := (HBw.out.cell (p := ⟨b, off + 0 * 2 + 1, none⟩) hbl).trans (HC.out 0 z0 HZ0.out 1 _ rfl)
        simpa using this
      have x0 : wr.cell? ⟨b, off, none⟩ = some (.int .i64 z0.x) := by
        have := (HBw.out.cell (p := ⟨b, off + 0 * 2 + 0, none⟩) hbl).trans (HC.out 0 z0 HZ0.out 0 _ rfl)
        simpa using this
      have HV := Lib.hid (show OverR cs x z0.y from .inl ⟨by rw [L1.out, hone], z0, HZ0.out, hz0x, rfl⟩)
      have HVb := Lib.hid (show -5000000000000 ≤ z0.y ∧ z0.y ≤ 5000000000000 by omega)
      have h0' : (0 : Int) < (i : Int) := by omega
      have kb : b < wr.heap.size := by omega
      clear hzb hxb hx0 hone hz0x
      go_wp2_with fail
      refine bodyPost_ret (v := .int .i64 z0.y) (by simp [results, Tryd.results17, go_sem]) rfl ?_
      have hB7 := HBw.out
      exact ⟨_, rfl, HV.out, HVb.out, (by repeat (first | with_reducible exact Below.refl _ _ | (with_reducible refine Below.alloc ?_ (by first | omega | (simp; done) | (simp; omega)) _) | (with_reducible refine Below.setCell ?_ (by first | omega | (simp; done) | (simp; omega)) _) | (with_reducible refine Below.drew ?_) | (with_reducible refine below_drewN ?_ _) | (with_reducible assumption) | (with_reducible refine bel_step (by with_reducible assumption) ?_ (by first | omega | (simp; done) | (simp; omega)))))⟩
end Go.Proofs.YtdjkhagdckhijaaDoor
