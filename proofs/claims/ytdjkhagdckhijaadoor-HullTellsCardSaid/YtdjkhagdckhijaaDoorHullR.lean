/- noonref1's Points, Flip, corner and Over, walked. -/
import Derived.Test.YtdjkhagdckhijaaDoorHullW
import Derived.Test.YtdjkhagdckhijaaDoorTake
import Derived.Deep.AppendLies
import Derived.Deep.RegionHeld3
namespace Go.Proofs.YtdjkhagdckhijaaDoor
open Go.RowKit
set_option linter.unusedVariables false
set_option linter.unusedSimpArgs false
set_option maxRecDepth 100000 in
theorem r1_Points (A : Option Addr) (n c : Nat) (zs : List RPoint) (w : World) (h : IsRecs w RPoint.cells RPoint.ok 2 A n c zs) :
    Calls Tryd.prog 9 #[.slice A n c] w fun e w' => e = .returned (.int .i64 (ptsC zs)) ∧ Below w.heap.size w w' := by
  have hcs := ptsC_cases h.1
  obtain ⟨l1, l2, l3, l4, l5⟩ := h
  unfold maxLen at l3
  have L1 := Lib.hid l1
  have L5 := Lib.hid l5
  clear l1 l4 l5
  by_cases d1 : 60 < n
  · have hv : ptsC zs = 4 := by rcases hcs with ⟨_, h⟩ | ⟨h, _⟩ | ⟨h, _⟩ <;> first | exact h | exact absurd d1 h
    have k0 : (60 : Int) < (n : Int) := by omega
    rw [hv]
    clear hcs hv
    go_enter Tryd.func9, Tryd.ntmps9
    go_wp2_with fail
    go_ret
    exact ⟨rfl, Below.refl _ _⟩
  · have HV := Lib.hid (show ptsC zs = if badP zs = true then 1 else 0 by unfold ptsC; rw [L1.out, if_neg d1])
    have k0 : ¬ (60 : Int) < (n : Int) := by omega
    clear hcs
    go_enter Tryd.func9, Tryd.ntmps9
    go_wp2_with fail
    go_loopw [3] (fun kv wr => ∃ k : Nat, kv = .int .i64 k ∧ k ≤ n ∧ (∀ x ∈ zs.take k, ptB x = true) ∧ w = wr) (fun kv _ => n - (intOf kv).toNat)
    case atStart => exact ⟨0, rfl, by omega, fun x hx => by simp at hx, rfl⟩
    case round =>
      obtain ⟨k, rfl, hk, hD, rfl⟩ := hrel
      have HD := Lib.hid hD
      clear hD
      by_cases d3 : k < n
      · obtain ⟨b, off, rfl, hb, hc⟩ := L5.out (by omega)
        obtain ⟨z, hz⟩ : ∃ z, zs[k]? = some z := ⟨_, List.getElem?_eq_getElem (by rw [L1.out]; omega)⟩
        have x0 : w.cell? ⟨b, off + k * 2, none⟩ = some (.int .i64 z.x) := hc k z hz 0 _ rfl
        have x1 : w.cell? ⟨b, off + k * 2 + 1, none⟩ = some (.int .i64 z.y) := hc k z hz 1 _ rfl
        have HZ := Lib.hid hz
        have t1 : (0 : Int) ≤ (k : Int) := by omega
        have t2 : (k : Int) < (n : Int) := by omega
        clear hc hz
        cases e1 : ptB z
        · have HN := Lib.hid (badP_yes HZ.out e1)
          have hw : z.x < -1000000 ∨ (¬ z.x < -1000000 ∧ 1000000 < z.x) ∨ (¬ z.x < -1000000 ∧ ¬ 1000000 < z.x ∧ z.y < -1000000) ∨ (¬ z.x < -1000000 ∧ ¬ 1000000 < z.x ∧ ¬ z.y < -1000000 ∧ 1000000 < z.y) := by
            have : ¬ ((-1000000 ≤ z.x ∧ z.x ≤ 1000000) ∧ (-1000000 ≤ z.y ∧ z.y ≤ 1000000)) := fun q => by rw [ptB_iff.2 q] at e1; cases e1
            omega
          clear e1
          rcases hw with g1 | ⟨g1, g2⟩ | ⟨g1, g2, g3⟩ | ⟨g1, g2, g3, g4⟩
          all_goals
            go_wp2_with fail
            go_ret
            exact ⟨by rw [HV.out, HN.out]; rfl, Below.refl _ _⟩
        · have HD2 := Lib.hid (takeP_more (p := fun x => ptB x = true) HZ.out HD.out e1)
          obtain ⟨⟨g1, g2⟩, g3, g4⟩ := ptB_iff.1 e1
          have g5 : ¬ z.x < -1000000 := by omega
          have g6 : ¬ 1000000 < z.x := by omega
          have g7 : ¬ z.y < -1000000 := by omega
          have g8 : ¬ 1000000 < z.y := by omega
          clear e1 g1 g2 g3 g4
          go_wp2_with fail
          go_roundw
          case rel => exact ⟨k + 1, by go_num, by omega, HD2.out, trivial⟩
          case measure => simp [intOf]; omega
      · have HN := Lib.hid (badP_no (zs := zs) (by
          have := HD.out
          rwa [List.take_of_length_le (by rw [L1.out]; omega)] at this))
        go_wp2_with fail
        go_ret
        exact ⟨by rw [HV.out, HN.out]; rfl, Below.refl _ _⟩
set_option maxRecDepth 100000 in
set_option maxHeartbeats 8000000 in
theorem r1_corner (A : Option Addr) (n c : Nat) (zs : List RPoint) (p : RPoint) (w : World) (h : IsRecs w RPoint.cells RPoint.ok 2 A n c zs) (hb : ∀ z ∈ zs, ptB z = true) (hp : ptB p = true) :
    Calls Tryd.prog 23 #[.slice A n c, .agg #[.int .i64 p.x, .int .i64 p.y]] w fun e w' => ∃ r, e = .returned (.bool r) ∧ (r = true ↔ CornerP zs p) ∧ Below w.heap.size w w' := by
  obtain ⟨l1, l2, l3, l4, l5⟩ := h
  unfold maxLen at l3
  have L1 := Lib.hid l1
  have L5 := Lib.hid l5
  have HB := Lib.hid hb
  have HP := Lib.hid hp
  clear l1 l4 l5 hb hp
  go_enter Tryd.func23, Tryd.ntmps23
  go_wp2_with fail
  obtain ⟨bx, hbx⟩ : ∃ bx, w.heap.size = bx := ⟨_, rfl⟩
  obtain ⟨w1, hw1⟩ : ∃ w1, w.alloc (.cells #[.int .i64 p.x, .int .i64 p.y] 29) = w1 := ⟨_, rfl⟩
  have hal : Below w.heap.size w w1 := by rw [← hw1]; exact (Below.refl _ _).alloc (Nat.le_refl _) _
  have hbp : Blk w1 bx 29 #[.int .i64 p.x, .int .i64 p.y] := by rw [← hw1, ← hbx]; exact Blk.new w _ _
  have HA := Lib.hid hal
  have HBp := Lib.hid hbp
  rw [hw1]
  rw [show (⟨w.heap.size, 0, none⟩ : Addr) = ⟨bx, 0, none⟩ by rw [hbx]]
  have hz1 := hal.size
  clear hw1 hal hbp
  go_loopw [5] (fun iv wr => ∃ i : Nat, iv = .int .i64 i ∧ i ≤ n ∧ (∀ q ∈ zs.take i, (q.x = p.x → q.y ≤ p.y) ∧ ∀ b ∈ zs, q.x < p.x → p.x < b.x → 0 < turn q b p) ∧ Below w1.heap.size w1 wr) (fun iv _ => n - (intOf iv).toNat)
  case atStart => exact ⟨0, rfl, by omega, fun q hq => by simp at hq, Below.refl _ _⟩
  case round =>
    obtain ⟨i, rfl, hi', hQ, hBw⟩ := hrel
    have HQ := Lib.hid hQ
    have HBw := Lib.hid hBw
    have hzw := hBw.size
    clear hQ hBw
    by_cases d1 : i < n
    · obtain ⟨b, off, rfl, hbl, hc⟩ := L5.out (by omega)
      obtain ⟨z, hz⟩ : ∃ z, zs[i]? = some z := ⟨_, List.getElem?_eq_getElem (by rw [L1.out]; omega)⟩
      have HC := Lib.hid hc
      have HZ := Lib.hid hz
      have HX := Lib.hid (fun (W : World) (hb' : Below w1.heap.size w1 W) => show W.cell? ⟨b, off + i * 2, none⟩ = some (.int .i64 z.x) ∧ W.cell? ⟨b, off + i * 2 + 1, none⟩ = some (.int .i64 z.y) ∧ W.cell? ⟨bx, 0, none⟩ = some (.int .i64 p.x) ∧ W.cell? ⟨bx, 1, none⟩ = some (.int .i64 p.y) from
        ⟨(((HA.out).trans (hb'.mono hz1)).cell (p := ⟨b, off + i * 2, none⟩) hbl).trans (hc i z hz 0 _ rfl), (((HA.out).trans (hb'.mono hz1)).cell (p := ⟨b, off + i * 2 + 1, none⟩) hbl).trans (hc i z hz 1 _ rfl), (hb'.cell (p := ⟨bx, 0, none⟩) HBp.out.lt).trans (HBp.out.cell 0), (hb'.cell (p := ⟨bx, 1, none⟩) HBp.out.lt).trans (HBp.out.cell 1)⟩)
      obtain ⟨x0, x1, x2, x3⟩ := HX.out wr HBw.out
      have t0 : (0 : Int) ≤ (i : Int) := by omega
      have t1 : (i : Int) < (n : Int) := by omega
      have kb : b < wr.heap.size := by omega
      clear hc hz
      by_cases c0 : z.x = p.x ∧ p.y < z.y
      · obtain ⟨c1, c2⟩ := c0
        have HN := Lib.hid (show ¬ CornerP zs p from fun q => by have := q.1 z (List.mem_of_getElem? HZ.out) c1; omega)
        have c3 : (z.x == p.x) = true := by simpa using c1
        clear c1
        go_wp2_with fail
        go_quiet (fail)
        go_wp2_with fail
        go_ret
        exact ⟨false, rfl, ⟨fun h => (Bool.noConfusion h), fun h => absurd h HN.out⟩, HA.out.trans ((below_drewN HBw.out _).mono hz1)⟩
      · have HT := Lib.hid (show z.x = p.x → z.y ≤ p.y from fun e => by
          by_cases g : z.y ≤ p.y
          · exact g
          · exact absurd ⟨e, by omega⟩ c0)
        go_upto_region 6 with fail
        go_cut [32] (fun v wx => v = .bool false ∧ Below w1.heap.size w1 wx)
        case first =>
          by_cases c1 : z.x = p.x
          · have c2 : ¬ p.y < z.y := fun g => c0 ⟨c1, g⟩
            have c3 : (z.x == p.x) = true := by simpa using c1
            have c4 : decide (p.y < z.y) = false := by simpa using c2
            clear c0 c1
            go_wp2_with fail
            go_quiet (fail)
            go_wp2_with fail
            go_meet
            case rel => exact ⟨rfl, below_drewN HBw.out _⟩
          · have c3 : (z.x == p.x) = false := by simpa using c1
            clear c0 c1
            go_wp2_with fail
            go_quiet (fail)
            go_wp2_with fail
            go_meet
            case rel => exact ⟨rfl, below_drewN HBw.out _⟩
        case rest =>
        obtain ⟨rfl, hB7⟩ := hcut
        obtain ⟨w7, hw7⟩ : ∃ x : World, x = wc := ⟨_, rfl⟩
        subst hw7
        have HB7 := Lib.hid hB7
        clear hB7 x0 x1 x2 x3 c0
        go_wp2_with fail
        go_loopw [6] (fun jv wr => ∃ j : Nat, jv = .int .i64 j ∧ j ≤ n ∧ (∀ q ∈ zs.take j, z.x < p.x → p.x < q.x → 0 < turn z q p) ∧ Below w1.heap.size w1 wr) (fun jv _ => n - (intOf jv).toNat)
        case atStart => exact ⟨0, rfl, by omega, fun q hq => by simp at hq, HB7.out⟩
        case round =>
          obtain ⟨j, rfl, hj', hR, hBx⟩ := hrel
          have HR := Lib.hid hR
          have HBx := Lib.hid hBx
          have hzx := hBx.size
          clear hR hBx
          by_cases d2 : j < n
          · obtain ⟨y, hy⟩ : ∃ y, zs[j]? = some y := ⟨_, List.getElem?_eq_getElem (by rw [L1.out]; omega)⟩
            have HY := Lib.hid hy
            obtain ⟨x0, x1, x2, x3⟩ := HX.out wr HBx.out
            have x4 : wr.cell? ⟨b, off + j * 2, none⟩ = some (.int .i64 y.x) := (((HA.out).trans (HBx.out.mono hz1)).cell (p := ⟨b, off + j * 2, none⟩) hbl).trans (HC.out j y hy 0 _ rfl)
            have x5 : wr.cell? ⟨b, off + j * 2 + 1, none⟩ = some (.int .i64 y.y) := (((HA.out).trans (HBx.out.mono hz1)).cell (p := ⟨b, off + j * 2 + 1, none⟩) hbl).trans (HC.out j y hy 1 _ rfl)
            have kb2 : b < wr.heap.size := by omega
            have kx : bx < wr.heap.size := Nat.lt_of_lt_of_le HBp.out.lt hzx
            have t2 : (0 : Int) ≤ (j : Int) := by omega
            have t3 : (j : Int) < (n : Int) := by omega
            have hzb := ptB_iff.1 (HB.out z (List.mem_of_getElem? HZ.out))
            have hyb := ptB_iff.1 (HB.out y (List.mem_of_getElem? hy))
            have hpb := ptB_iff.1 HP.out
            have m1 := mul_bd2 (p := p.y - z.y) (q := y.x - z.x) (by omega) (by omega)
            have m2 := mul_bd2 (p := y.y - z.y) (q := p.x - z.x) (by omega) (by omega)
            have HTn := Lib.hid (show turn z y p = (p.y - z.y) * (y.x - z.x) - (y.y - z.y) * (p.x - z.x) by unfold turn; grind)
            have i1 := IntWalk.i64_in (p.y - z.y) (by omega)
            have i2 := IntWalk.i64_in (y.x - z.x) (by omega)
            have i3 := IntWalk.i64_in ((p.y - z.y) * (y.x - z.x)) (by omega)
            have i4 := IntWalk.i64_in (y.y - z.y) (by omega)
            have i5 := IntWalk.i64_in (p.x - z.x) (by omega)
            have i6 := IntWalk.i64_in ((y.y - z.y) * (p.x - z.x)) (by omega)
            have hal2 : Below wr.heap.size wr ((wr.alloc (.cells #[.int .i64 z.x, .int .i64 z.y] 29)).alloc (.cells #[.int .i64 y.x, .int .i64 y.y] 29)) := ((Below.refl _ _).alloc (Nat.le_refl _) _).alloc (by simp) _
            have HBy := Lib.hid (HBx.out.trans (hal2.mono hzx))
            clear hy m1 m2 hzb hyb hpb hal2
            by_cases c1 : z.x < p.x
            · by_cases c2 : p.x < y.x
              · by_cases c3 : (p.y - z.y) * (y.x - z.x) ≤ (y.y - z.y) * (p.x - z.x)
                · have HN := Lib.hid (show ¬ CornerP zs p from fun q => by
                    have := q.2 z (List.mem_of_getElem? HZ.out) y (List.mem_of_getElem? HY.out) c1 c2
                    have := HTn.out; omega)
                  go_wp2_with fail
                  go_ret
                  exact ⟨false, rfl, ⟨fun h => (Bool.noConfusion h), fun h => absurd h HN.out⟩, HA.out.trans (HBy.out.mono hz1)⟩
                · have HR2 := Lib.hid (show ∀ q ∈ zs.take (j + 1), z.x < p.x → p.x < q.x → 0 < turn z q p from takeP_more HY.out HR.out (fun _ _ => by have := HTn.out; omega))
                  go_wp2_with fail
                  go_roundw
                  case rel => exact ⟨j + 1, by go_num, by omega, HR2.out, HBy.out⟩
                  case measure => go_light; simp [intOf]; omega
              · have HR2 := Lib.hid (show ∀ q ∈ zs.take (j + 1), z.x < p.x → p.x < q.x → 0 < turn z q p from takeP_more HY.out HR.out (fun _ h => absurd h c2))
                go_wp2_with fail
                go_roundw
                case rel => exact ⟨j + 1, by go_num, by omega, HR2.out, HBy.out⟩
                case measure => go_light; simp [intOf]; omega
            · have HR2 := Lib.hid (show ∀ q ∈ zs.take (j + 1), z.x < p.x → p.x < q.x → 0 < turn z q p from takeP_more HY.out HR.out (fun h => absurd h c1))
              go_wp2_with fail
              go_roundw
              case rel => exact ⟨j + 1, by go_num, by omega, HR2.out, HBy.out⟩
              case measure => go_light; simp [intOf]; omega
          · obtain rfl : j = n := by omega
            have HR2 := Lib.hid (show ∀ q ∈ zs.take (i + 1), (q.x = p.x → q.y ≤ p.y) ∧ ∀ b ∈ zs, q.x < p.x → p.x < b.x → 0 < turn q b p from takeP_more HZ.out HQ.out (by
              have hall : zs.take j = zs := List.take_of_length_le (by rw [L1.out]; exact Nat.le_refl _)
              have hq := HR.out
              rw [hall] at hq
              exact ⟨HT.out, fun b hb h1 h2 => hq b hb h1 h2⟩))
            go_wp2_with fail
            go_roundw
            case rel => exact ⟨i + 1, by go_num, by omega, HR2.out, HBx.out⟩
            case measure => go_light; simp [intOf]; omega
    · obtain rfl : i = n := by omega
      have HN := Lib.hid (show CornerP zs p from by
        have hall : zs.take i = zs := List.take_of_length_le (by rw [L1.out]; exact Nat.le_refl _)
        have hq := HQ.out
        rw [hall] at hq
        exact ⟨fun q hqm e => (hq q hqm).1 e, fun a ha b hb h1 h2 => (hq a ha).2 b hb h1 h2⟩)
      go_wp2_with fail
      go_ret
      exact ⟨true, rfl, ⟨fun _ => HN.out, fun _ => rfl⟩, HA.out.trans (HBw.out.mono hz1)⟩
set_option maxRecDepth 100000 in
set_option maxHeartbeats 8000000 in
theorem r1_OverH (A : Option Addr) (n c : Nat) (cs : List RPoint) (x : Int) (w : World) (h : IsRecs w RPoint.cells RPoint.ok 2 A n c cs) (hr : RiseX cs) (hb : ∀ z ∈ cs, ptB z = true) (h0 : 0 < n) (h60 : n ≤ 60) (hf : ∀ a, cs[0]? = some a → a.x ≤ x) (hlst : ∀ a, cs[cs.length - 1]? = some a → x ≤ a.x) :
    Calls Tryd.prog 15 #[.slice A n c, .int .i64 x] w fun e w' => ∃ v, e = .returned (.int .i64 v) ∧ OverR cs x v ∧ (-5000000000000 ≤ v ∧ v ≤ 5000000000000) ∧ Below w.heap.size w w' := by
  obtain ⟨l1, l2, l3, l4, l5⟩ := h
  unfold maxLen at l3
  obtain ⟨b, off, rfl, hbl, hc⟩ := l5 h0
  obtain ⟨z0, hz0⟩ : ∃ z, cs[0]? = some z := ⟨_, List.getElem?_eq_getElem (by omega)⟩
  have hx0 := hf z0 hz0
  have HF := Lib.hid hf
  have HLs := Lib.hid hlst
  have HRs := Lib.hid hr
  have HB := Lib.hid hb
  have L1 := Lib.hid l1
  have HC := Lib.hid hc
  have HZ0 := Lib.hid hz0
  have hxb : -1000000 ≤ x ∧ x ≤ 1000000 := by
    obtain ⟨zl, hzl⟩ : ∃ z, cs[cs.length - 1]? = some z := ⟨_, List.getElem?_eq_getElem (by omega)⟩
    have q1 := hlst zl hzl
    have q2 := ptB_iff.1 (hb zl (List.mem_of_getElem? hzl))
    have q3 := ptB_iff.1 (hb z0 (List.mem_of_getElem? hz0))
    omega
  clear l1 l4 l5 hf hlst hr hb hc hz0
  go_enter Tryd.func15, Tryd.ntmps15
  go_wp2_with fail
  go_loopw [5] (fun iv wr => ∃ i : Nat, iv = .int .i64 i ∧ i < n ∧ (∀ a, cs[i]? = some a → i = 0 ∨ a.x < x) ∧ Below w.heap.size w wr) (fun iv _ => n - (intOf iv).toNat)
  case atStart => exact ⟨0, rfl, by omega, fun a _ => .inl rfl, Below.refl _ _⟩
  case round =>
    obtain ⟨i, rfl, hi2, hI, hBw⟩ := hrel
    have HI := Lib.hid hI
    have HBw := Lib.hid hBw
    have hzw := hBw.size
    have i0 := IntWalk.i64_in ((i : Int) + 1) (by omega)
    clear hI hBw
    by_cases d1 : i + 1 < n
    · obtain ⟨p, hp⟩ : ∃ z, cs[i]? = some z := ⟨_, List.getElem?_eq_getElem (by have := L1.out; omega)⟩
      obtain ⟨q, hq⟩ : ∃ z, cs[i + 1]? = some z := ⟨_, List.getElem?_eq_getElem (by have := L1.out; omega)⟩
      obtain ⟨k, hk⟩ : ∃ k, i + 1 = k := ⟨_, rfl⟩
      have x0 : wr.cell? ⟨b, off + i * 2, none⟩ = some (.int .i64 p.x) := (HBw.out.cell (p := ⟨b, off + i * 2, none⟩) hbl).trans (HC.out i p hp 0 _ rfl)
      have x1 : wr.cell? ⟨b, off + i * 2 + 1, none⟩ = some (.int .i64 p.y) := (HBw.out.cell (p := ⟨b, off + i * 2 + 1, none⟩) hbl).trans (HC.out i p hp 1 _ rfl)
      have x2 : wr.cell? ⟨b, off + k * 2, none⟩ = some (.int .i64 q.x) := (HBw.out.cell (p := ⟨b, off + k * 2, none⟩) hbl).trans (by rw [← hk]; exact HC.out (i + 1) q hq 0 _ rfl)
      have x3 : wr.cell? ⟨b, off + k * 2 + 1, none⟩ = some (.int .i64 q.y) := (HBw.out.cell (p := ⟨b, off + k * 2 + 1, none⟩) hbl).trans (by rw [← hk]; exact HC.out (i + 1) q hq 1 _ rfl)
      have hpq : p.x < q.x := rise_at HRs.out hp hq (by omega)
      have hpb := ptB_iff.1 (HB.out p (List.mem_of_getElem? hp))
      have hqb := ptB_iff.1 (HB.out q (List.mem_of_getElem? hq))
      have hpx : p.x ≤ x := by
        rcases HI.out p hp with e | e
        · rw [e] at hp; exact HF.out p hp
        · omega
      have HP := Lib.hid hp
      have HQ := Lib.hid hq
      have HK := Lib.hid hk
      have hki : (i : Int) + 1 = (k : Int) := by omega
      rw [hki] at i0
      have t1 : (0 : Int) ≤ (i : Int) := by omega
      have t2 : (i : Int) < (n : Int) := by omega
      have t4 : (0 : Int) ≤ (k : Int) := by omega
      have t5 : (k : Int) < (n : Int) := by omega
      have kb : b < wr.heap.size := by omega
      have hal2 : Below wr.heap.size wr ((wr.alloc (.cells #[.int .i64 p.x, .int .i64 p.y] 29)).alloc (.cells #[.int .i64 q.x, .int .i64 q.y] 29)) := ((Below.refl _ _).alloc (Nat.le_refl _) _).alloc (by simp) _
      have HB7 := Lib.hid (HBw.out.trans (hal2.mono hzw))
      clear hp hq hal2
      by_cases d2 : x ≤ q.x
      · have m1 := mul_bd2 (p := q.y - p.y) (q := x - p.x) (by omega) (by omega)
        have hw0 : 0 < q.x - p.x := by omega
        have HU := Lib.hid (upV_up (a := (q.y - p.y) * (x - p.x)) hw0)
        have hub := upV_bd (a := (q.y - p.y) * (x - p.x)) (b := q.x - p.x) m1
        have hmod := Int.tdiv_mul_add_tmod ((q.y - p.y) * (x - p.x)) (q.x - p.x)
        have hm1 := Int.tmod_lt_of_pos ((q.y - p.y) * (x - p.x)) hw0
        have hm2 := Int.lt_tmod_of_pos ((q.y - p.y) * (x - p.x)) hw0
        have i1 := IntWalk.i64_in (q.x - p.x) (by omega)
        have i2 := IntWalk.i64_in (q.y - p.y) (by omega)
        have i3 := IntWalk.i64_in (x - p.x) (by omega)
        have i4 := IntWalk.i64_in ((q.y - p.y) * (x - p.x)) (by omega)
        obtain ⟨D, hD⟩ : ∃ D, (q.y - p.y) * (x - p.x) = D := ⟨_, rfl⟩
        obtain ⟨W, hW⟩ : ∃ W, q.x - p.x = W := ⟨_, rfl⟩
        obtain ⟨Q, hQ⟩ : ∃ Q, D.tdiv W = Q := ⟨_, rfl⟩
        obtain ⟨U, hU⟩ : ∃ U, upV D W = U := ⟨_, rfl⟩
        have HD := Lib.hid hD
        have HW := Lib.hid hW
        rw [hD, hW] at HU hub hmod hm1 hm2
        rw [hU] at HU hub
        rw [hQ] at hub hmod
        have hUe : U = Q + if 0 < D.tmod W then 1 else 0 := by rw [← hU, ← hQ]; rfl
        rw [hW] at i1 hw0
        rw [hD] at i4 m1
        have i5 := IntWalk.i64_in (p.y + U) (by omega)
        have i6 := IntWalk.i64_in Q (by omega)
        have hw1 : ¬ W = 0 := by omega
        have hw2 : (W == 0) = false := by simp; omega
        have i4' : IntKind.i64.wrap ((q.y - p.y) * (x - p.x)) = D := by rw [hD]; exact i4
        have i1' : IntKind.i64.wrap (q.x - p.x) = W := by rw [hW]; exact i1
        have i6' : IntKind.i64.wrap (D.tdiv W) = Q := by rw [hQ]; exact i6
        have HV := Lib.hid (show OverR cs x (p.y + U) from .inr ⟨i, p, q, HP.out, HQ.out, HI.out p HP.out, hpx, d2, by rw [show p.y + U - p.y = U by omega, HD.out, HW.out]; exact HU.out⟩)
        have d3 : ¬ q.x < x := by omega
        have hWb : W ≤ 2000000 := by omega
        have HVb := Lib.hid (show -5000000000000 ≤ p.y + U ∧ p.y + U ≤ 5000000000000 by omega)
        clear hpb hqb hpx hpq hxb hx0 hD hW hQ hU hki HU d2
        by_cases c1 : 0 < D.tmod W
        · rw [if_pos c1] at hUe
          subst hUe
          have e1 : Q * W < D := by omega
          have e2 : ¬ (Q + 1) * W < D := by
            have : (Q + 1) * W = Q * W + W := by grind
            omega
          have j1 := IntWalk.i64_in (Q * W) (by omega)
          have j2 := IntWalk.i64_in ((Q + 1) * W) (by have : (Q + 1) * W = Q * W + W := by grind
                                                      omega)
          have j3 := IntWalk.i64_in (Q + 1) (by omega)
          clear hmod hm1 hm2 hub m1 c1
          go_wp2_with fail
          refine wp_loop_rounds 2 ?_
          rw [rounds_succ]
          go_wp2_with fail
          rw [rounds_succ]
          go_wp2_with fail
          refine bodyPost_ret (v := .int .i64 (p.y + (Q + 1))) (by simp [results, Tryd.results15, go_sem]) rfl ?_
          exact ⟨_, rfl, HV.out, HVb.out, HB7.out⟩
        · rw [if_neg c1, Int.add_zero] at hUe
          subst hUe
          have e1 : ¬ U * W < D := by omega
          have j1 := IntWalk.i64_in (U * W) (by omega)
          clear hmod hm1 hm2 hub m1 c1
          go_wp2_with fail
          refine wp_loop_rounds 1 ?_
          rw [rounds_succ]
          go_wp2_with fail
          refine bodyPost_ret (v := .int .i64 (p.y + U)) (by simp [results, Tryd.results15, go_sem]) rfl ?_
          exact ⟨_, rfl, HV.out, HVb.out, HB7.out⟩
      · have HI2 := Lib.hid (show ∀ a, cs[k]? = some a → k = 0 ∨ a.x < x from fun a ha => by
          rw [← HK.out, HQ.out] at ha
          cases ha; right; omega)
        have d3 : q.x < x := by omega
        clear hpb hqb hpx hpq hxb hx0 hki d2
        go_wp2_with fail
        go_roundw
        case rel => exact ⟨k, by go_num, by omega, HI2.out, HB7.out⟩
        case measure => go_light; simp [intOf]; have := HK.out; omega
    · obtain rfl : i = 0 := by
        have hl := L1.out
        obtain ⟨zl, hzl⟩ : ∃ z, cs[i]? = some z := ⟨_, List.getElem?_eq_getElem (by omega)⟩
        rcases HI.out zl hzl with e | e
        · exact e
        · have := HLs.out zl (by rw [hl, show n - 1 = i by omega]; exact hzl); omega
      have hn1 : n = 1 := by omega
      subst hn1
      have hz0x : z0.x = x := by
        have := HLs.out z0 (by rw [L1.out]; exact HZ0.out)
        omega
      have x1 : wr.cell? ⟨b, off + 1, none⟩ = some (.int .i64 z0.y) := by
        have := (HBw.out.cell (p := ⟨b, off + 0 * 2 + 1, none⟩) hbl).trans (HC.out 0 z0 HZ0.out 1 _ rfl)
        simpa using this
      have HV := Lib.hid (show OverR cs x z0.y from .inl ⟨L1.out, z0, HZ0.out, hz0x, rfl⟩)
      have HVb := Lib.hid (show -5000000000000 ≤ z0.y ∧ z0.y ≤ 5000000000000 by have := ptB_iff.1 (HB.out z0 (List.mem_of_getElem? HZ0.out)); omega)
      have kb : b < wr.heap.size := by omega
      clear hxb hx0 hz0x
      go_wp2_with fail
      refine bodyPost_ret (v := .int .i64 z0.y) (by simp [results, Tryd.results15, go_sem]) rfl ?_
      exact ⟨_, rfl, HV.out, HVb.out, HBw.out⟩
end Go.Proofs.YtdjkhagdckhijaaDoor
