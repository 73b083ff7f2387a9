/- Proved: noonlaw2.OrderHolds answers true for every input and leaves its arguments as they were. Its conditions: none beyond the tied card's own. -/
import Derived.Test.YthclepohilekaaaDoorOrderHoldsB
import Derived.Deep.DeepCutAuto
import Derived.Deep.CutBlock
namespace Go.Proofs.YthclepohilekaaaDoor.lOrderHolds
open Go.ChangeShapes Go.WideShapes Go.ChangeAt Go.RowKit
set_option linter.unusedVariables false
set_option linter.unusedSimpArgs false
set_option maxRecDepth 100000 in
set_option maxHeartbeats 32000000 in
theorem good (a0 : Option Addr) (n0 c0 : Nat) (z0 : List REvent) (a1 : Option Addr) (n1 c1 : Nat) (z1 : List Int) (w : World) (h0 : IsRecs w REvent.cells REvent.ok 3 a0 n0 c0 z0) (h1 : IsInts w a1 n1 c1 z1) (hg : HandleAt w) (hr1 : n1 * 8 ≤ 140737488351232) (e0 : readyC z0 z1 = 0) :
    Calls Tryd.prog 3 #[.slice a0 n0 c0, .slice a1 n1 c1] w fun e w' => e = .returned (.bool true) ∧ Below w.heap.size w w' := by
  obtain ⟨W1, hW1⟩ : ∃ W1, (w.alloc (.cells #[.int .i64 1, .int .i64 5, .int .i64 9, .int .i64 2, .int .i64 1, .int .i64 3] 27)).alloc (.cells #[.int .i64 1, .int .i64 0] 3) = W1 := ⟨_, rfl⟩
  have hA : Below (w.heap.size + 1) (w.alloc (.cells #[.int .i64 1, .int .i64 5, .int .i64 9, .int .i64 2, .int .i64 1, .int .i64 3] 27)) W1 := by rw [← hW1]; exact (Below.refl _ _).alloc (by simp) _
  have hw1 : Below w.heap.size w W1 := by rw [← hW1]; exact ((Below.refl _ w).alloc (Nat.le_refl _) _).alloc (by simp) _
  have hs1 : W1.heap.size = w.heap.size + 2 := by rw [← hW1]; simp
  have CC1 := order_Could_ok (some ⟨w.heap.size, 0, none⟩) 2 2 twoE (some ⟨w.heap.size + 1, 0, none⟩) 2 2 [1, 0] W1 (lit_ev w _ W1 hA) (by rw [← hW1]; have := lit_two (w.alloc (.cells #[.int .i64 1, .int .i64 5, .int .i64 9, .int .i64 2, .int .i64 1, .int .i64 3] 27)) 3 1 0 (by unfold i64B; omega) (by unfold i64B; omega); simpa using this) (by omega) two_r1
  rw [two_could1] at CC1
  have CC2 := Lib.hid (fun (w2 : World) (hb : Below W1.heap.size W1 w2) => by
    have h := order_Could_ok (some ⟨w.heap.size, 0, none⟩) 2 2 twoE (some ⟨w2.heap.size, 0, none⟩) 2 2 [0, 1] (w2.alloc (.cells #[.int .i64 0, .int .i64 1] 3)) (lit_ev w _ _ ((hA.trans (hb.mono (by omega))).alloc (by have := hb.size; omega) _)) (lit_two w2 _ 0 1 (by unfold i64B; omega) (by unfold i64B; omega)) (by omega) two_r2
    rw [two_could2] at h
    exact h)
  rw [← hW1] at CC1 hs1
  have CC1 := Lib.hid CC1
  have HW1 := Lib.hid hw1
  have CE5 := Lib.hid (fun w' (hb : Below w.heap.size w w') => show Calls Tryd.prog 9 #[.iface 54 (.int .i64 5), .int .i64 5] w' fun e w'' => e = .returned (.bool true) ∧ Below w'.heap.size w' w'' by have := Error_n 5 5 (by decide) w' (hg.below hb); simpa using this)
  have hn1 := h0.2.1
  have hn2 := h0.2.2.1
  have hm1 := h1.2.1
  have hm2 := h1.2.2.1
  unfold maxLen at hn2 hm2
  have HW1e := Lib.hid hW1
  have hq0 := readyC_0 e0
  obtain rfl : n0 = n1 := by have := hq0.2.1; rw [h0.1, h1.1] at this; exact this.symm
  have CC := Lib.hid (fun w' (hb : Below w.heap.size w w') => order_Could_ok a0 n0 c0 z0 a1 n0 c1 z1 w' (h0.below hb) (IsRecs.below h1 hb) hr1 e0)
  have CT := Lib.hid (fun w' (hb : Below w.heap.size w w') => order_Times_ok a0 n0 c0 z0 a1 n0 c1 z1 w' (h0.below hb) (IsRecs.below h1 hb) hr1 e0)
  have CR := Lib.hid (fun w' (hb : Below w.heap.size w w') => order_Ranks_ok a0 n0 c0 z0 w' (h0.below hb) hq0.1)
  obtain ⟨e1, e2, e3, e4⟩ := hq0
  obtain ⟨p1, p2⟩ := evC_0 e1
  have hl0 := h0.1
  have hl1 := h1.1
  rw [hl0] at p1 e3
  have hz1 : ∀ i, i < n0 → z1[i]? = some (z1.getD i 0) := fun i hi => by rw [List.getD_eq_getElem?_getD, List.getElem?_eq_getElem (by omega : i < z1.length)]; rfl
  have hz0 : ∀ i, i < n0 → z0[i]? = some (z0.getD i default) := fun i hi => by rw [List.getD_eq_getElem?_getD, List.getElem?_eq_getElem (by omega : i < z0.length)]; rfl
  have hoi : ∀ i, i < n0 → ∃ e : Nat, z1.getD i 0 = (e : Int) ∧ e < n0 := fun i hi => by
    have := e3 _ (List.mem_of_getElem? (hz1 i hi))
    exact ⟨(z1.getD i 0).toNat, by omega, by omega⟩
  have CS := Lib.hid (fun w' (hb : Below w.heap.size w w') i k (hi : i < n0) (hk : k < n0) => order_Surely_ok a0 n0 c0 i k z0 _ _ w' (h0.below hb) e1 (hz0 i hi) (hz0 k hk))
  have HOI := Lib.hid hoi
  have HO := Lib.hid (fun (hp : 0 < n0) => show ∃ b off, a1 = some ⟨b, off, none⟩ ∧ b < w.heap.size ∧ ∀ W, Below w.heap.size w W → ∀ i, i < n0 → W.cell? ⟨b, off + i, none⟩ = some (.int .i64 (z1.getD i 0)) from by
    obtain ⟨b, off, e, hb, hc⟩ := h1.2.2.2.2 hp
    exact ⟨b, off, e, hb, fun W hB i hi => (hB.cell (p := ⟨b, off + i, none⟩) hb).trans (by simpa using hc i _ (hz1 i hi) 0 _ rfl)⟩)
  have HEv := Lib.hid (fun (hp : 0 < n0) => evsAt h0 hp)
  have HWn := Lib.hid (show couldB z0 z1 = wB z0 z1 n0 from by
    rw [← hl1]
    refine could_want fun i hi => ?_
    obtain ⟨e, h1', h2'⟩ := hoi i (by omega)
    have hm : evAt z0 z1 i ∈ z0 := by
      unfold evAt
      rw [h1', List.getD_eq_getElem?_getD, List.getElem?_eq_getElem (by simp; omega)]
      exact List.getElem_mem _
    have := rightB_iff.1 (p2 _ hm)
    omega)
  have HRl := Lib.hid (fun i k (hk : k < n0) hlt => rankV_lt (zs := z0) p2 (i := i) (k := k) (by rw [hl0]; exact hk) hlt)
  have HRb := Lib.hid (fun i => rankV_le (zs := z0) (by rw [hl0]; exact p1) i)
  have HTi := Lib.hid (fun (hc : couldB z0 z1 = true) i (hi : i < n0) => tm_in hc (i := i) (by omega))
  have HP2 := Lib.hid p2
  have HL1 := Lib.hid hl1
  have HL0 := Lib.hid hl0
  have HCE := CE5
  clear hl0 hl1 hz1 hz0 hoi p2 e0 e1 e2 e3 e4 h0 h1 hg hr1 hA hW1 hw1 hs1 CE5
  go_enter Tryd.func3, Tryd.ntmps3
  go_wp2_with fail
  refine CC1.out.mono ?_
  rintro e w2 ⟨rfl, hb2⟩
  rw [HW1e.out] at hb2
  have CC2 := Lib.hid (CC2.out w2 hb2)
  have HB2 : Below w.heap.size w w2 := HW1.out.trans (hb2.mono HW1.out.size)
  have HZ2 := HB2.size
  clear hb2
  go_wp2_with fail
  refine CC2.out.mono ?_
  rintro e w3 ⟨rfl, hb3⟩
  have HB3 : Below w.heap.size w w3 := (by repeat (first | with_reducible exact Below.refl _ _ | (with_reducible refine Below.alloc ?_ (by first | omega | (simp; done) | (simp; omega)) _) | (with_reducible refine Below.setCell ?_ (by first | omega | (simp; done) | (simp; omega)) _) | (with_reducible refine Below.drew ?_) | (with_reducible refine below_drewN ?_ _) | (with_reducible assumption) | (with_reducible refine bel_step (by with_reducible assumption) ?_ (by first | omega | (simp; done) | (simp; omega)))))
  clear hb3 HB2
  go_wp2_with fail
  refine (CC.out _ HB3).mono ?_
  rintro e w4 ⟨rfl, hb4⟩
  have HZ3 := HB3.size
  have HB4 : Below w.heap.size w w4 := (by repeat (first | with_reducible exact Below.refl _ _ | (with_reducible refine Below.alloc ?_ (by first | omega | (simp; done) | (simp; omega)) _) | (with_reducible refine Below.setCell ?_ (by first | omega | (simp; done) | (simp; omega)) _) | (with_reducible refine Below.drew ?_) | (with_reducible refine below_drewN ?_ _) | (with_reducible assumption) | (with_reducible refine bel_step (by with_reducible assumption) ?_ (by first | omega | (simp; done) | (simp; omega)))))
  clear hb4 HB3 HZ2 HZ3 CC CC1 CC2 HW1 HW1e
  obtain ⟨Q, hQ⟩ : ∃ Q, couldB z0 z1 = Q := ⟨_, rfl⟩
  rw [hQ] at HWn HTi ⊢
  have HQ := Lib.hid hQ
  clear hQ
  go_wp2_with fail
  refine (CR.out _ HB4).mono ?_
  rintro e w5 ⟨B, m, d, rfl, hI, hb5⟩
  have HZ4 := HB4.size
  have HB5 : Below w.heap.size w w5 := (by repeat (first | with_reducible exact Below.refl _ _ | (with_reducible refine Below.alloc ?_ (by first | omega | (simp; done) | (simp; omega)) _) | (with_reducible refine Below.setCell ?_ (by first | omega | (simp; done) | (simp; omega)) _) | (with_reducible refine Below.drew ?_) | (with_reducible refine below_drewN ?_ _) | (with_reducible assumption) | (with_reducible refine bel_step (by with_reducible assumption) ?_ (by first | omega | (simp; done) | (simp; omega)))))
  obtain rfl : n0 = m := by have := hI.1; rw [rankL_len] at this; exact this
  have hd := hI.2.2.1
  have hd2 := hI.2.1
  unfold maxLen at hd
  have HRk := Lib.hid (fun (hp : 0 < n0) => show ∃ b off, B = some ⟨b, off, none⟩ ∧ b < w5.heap.size ∧ ∀ W, Below w5.heap.size w5 W → ∀ i, i < n0 → W.cell? ⟨b, off + i, none⟩ = some (.int .i64 (rankV z0 i)) from by
    obtain ⟨b, off, e, hb, hc⟩ := hI.2.2.2.2 hp
    exact ⟨b, off, e, hb, fun W hB i hi => (hB.cell (p := ⟨b, off + i, none⟩) hb).trans (by simpa using hc i _ (rankL_get z0 n0 i hi) 0 _ rfl)⟩)
  have HB5 := Lib.hid HB5
  have HZ5 := HB5.out.size
  clear hb5 hI HB4 HZ4 CR
  go_wp2_with fail
  go_loopw [14, 15] (fun vv iv wr => ∃ i : Nat, iv = .int .i64 i ∧ vv = .bool (wB z0 z1 i) ∧ i ≤ n0 ∧ Below w5.heap.size w5 wr) (fun _ iv _ => n0 - (intOf iv).toNat)
  case atStart => exact ⟨0, rfl, rfl, by omega, Below.refl _ _⟩
  case round =>
    obtain ⟨i, rfl, rfl, hi, hB⟩ := hrel
    have HB := Lib.hid hB
    have hzr := hB.size
    by_cases d1 : i < n0
    · obtain ⟨b2, off2, rfl, hb2, hc2⟩ := HO.out (by omega)
      obtain ⟨ei, hei, hein⟩ := HOI.out i d1
      have HC2 := Lib.hid hc2
      have HBw := Lib.hid (show Below w.heap.size w wr from HB5.out.trans (hB.mono HZ5))
      have x0 : wr.cell? ⟨b2, off2 + i, none⟩ = some (.int .i64 (ei : Int)) := by rw [← hei]; exact hc2 wr HBw.out i d1
      have HEi := Lib.hid hei
      have g1 : ¬ (ei : Int) < 0 := by omega
      have g2 : ¬ (n0 : Int) ≤ (ei : Int) := by omega
      clear hc2 hei hB
      go_wp2_with fail
      obtain ⟨wo, rfl⟩ : ∃ wo : World, wo = wr := ⟨_, rfl⟩
      go_loopw [14, 16] (fun vv kv wr => ∃ (k : Nat) (v : Bool), kv = .int .i64 k ∧ vv = .bool v ∧ v = (wB z0 z1 i && wI z0 z1 i k) ∧ k ≤ i ∧ Below w5.heap.size w5 wr) (fun _ kv _ => i - (intOf kv).toNat)
      case atStart => exact ⟨0, _, rfl, rfl, by simp [wI], by omega, HB.out⟩
      case round =>
        obtain ⟨k, v, rfl, rfl, hv, hk, hB⟩ := hrel
        have HV := Lib.hid hv
        clear hv
        have HBr := Lib.hid hB
        have hzr := hB.size
        clear x0
        by_cases d2 : k < i
        · obtain ⟨ek, hek, hekn⟩ := HOI.out k (by omega)
          have HBw := Lib.hid (show Below w.heap.size w wr from HB5.out.trans (hB.mono HZ5))
          have x0 : wr.cell? ⟨b2, off2 + i, none⟩ = some (.int .i64 (ei : Int)) := by rw [← HEi.out]; exact HC2.out wr HBw.out i d1
          have x1 : wr.cell? ⟨b2, off2 + k, none⟩ = some (.int .i64 (ek : Int)) := by rw [← hek]; exact HC2.out wr HBw.out k (by omega)
          have CSk := Lib.hid (fun w' hb => CS.out w' hb ei ek hein hekn)
          have HS := Lib.hid (show wI z0 z1 i (k + 1) = (wI z0 z1 i k && !decide ((z0.getD ei default).hi < (z0.getD ek default).lo)) from by
            show (wI z0 z1 i k && !decide ((evAt z0 z1 i).hi < (evAt z0 z1 k).lo)) = _
            unfold evAt
            rw [HEi.out, hek]; rfl)
          obtain ⟨q, hq⟩ : ∃ q, decide ((z0.getD ei default).hi < (z0.getD ek default).lo) = q := ⟨_, rfl⟩
          rw [hq] at CSk HS
          have k0 : (0 : Int) ≤ (i : Int) := by omega
          have k1 : (i : Int) < (n0 : Int) := by omega
          have k2 : (0 : Int) ≤ (k : Int) := by omega
          have k3 : (k : Int) < (n0 : Int) := by omega
          have HC3 := Lib.hid (fun w' (hB : Below w.heap.size w w') => show w'.cell? ⟨b2, off2 + i, none⟩ = some (.int .i64 (ei : Int)) ∧ w'.cell? ⟨b2, off2 + k, none⟩ = some (.int .i64 (ek : Int)) from ⟨by rw [← HEi.out]; exact HC2.out w' hB i d1, by rw [← hek]; exact HC2.out w' hB k (by omega)⟩)
          have hwz := HBw.out.size
          clear hq hek hB
          go_wp2_with fail
          go_region_held3 (fun w' => w'.cell? ⟨b2, off2 + i, none⟩ = some (.int .i64 (ei : Int)) ∧ w'.cell? ⟨b2, off2 + k, none⟩ = some (.int .i64 (ek : Int))) (first | go_keep | ((repeat' apply And.intro) <;> assumption)) (first | ((go_at_call 7; refine (CSk.out _ (by first | exact HBw.out.drew | exact HBw.out)).mono ?_; rintro e w6 ⟨rfl, hb6⟩; have hB6 : Below w.heap.size w w6 := (by have hBq := HBw.out; exact (by repeat (first | with_reducible exact Below.refl _ _ | (with_reducible refine Below.alloc ?_ (by first | omega | (simp; done) | (simp; omega)) _) | (with_reducible refine Below.setCell ?_ (by first | omega | (simp; done) | (simp; omega)) _) | (with_reducible refine Below.drew ?_) | (with_reducible refine below_drewN ?_ _) | (with_reducible assumption) | (with_reducible refine bel_step (by with_reducible assumption) ?_ (by first | omega | (simp; done) | (simp; omega)))))); obtain ⟨y0, y1⟩ := HC3.out w6 hB6)))
          all_goals
            clear hB6
            have HB6 := Lib.hid (show Below w5.heap.size w5 w6 from by have hBq := HBr.out; exact (by repeat (first | with_reducible exact Below.refl _ _ | (with_reducible refine Below.alloc ?_ (by first | omega | (simp; done) | (simp; omega)) _) | (with_reducible refine Below.setCell ?_ (by first | omega | (simp; done) | (simp; omega)) _) | (with_reducible refine Below.drew ?_) | (with_reducible refine below_drewN ?_ _) | (with_reducible assumption) | (with_reducible refine bel_step (by with_reducible assumption) ?_ (by first | omega | (simp; done) | (simp; omega))))))
            clear hb6 y0 y1 x0 x1
            have HS2 := Lib.hid (show (v && !q) = (wB z0 z1 i && wI z0 z1 i (k + 1)) from by rw [HS.out, HV.out, Bool.and_assoc])
            clear HS HV
            cases q <;> cases v
            all_goals
              go_wp2_with fail
              go_roundw
              case rel => exact ⟨k + 1, _, by go_num, rfl, HS2.out, by omega, HB6.out⟩
              case measure => go_light; simp [intOf]; omega
        · obtain rfl : k = i := by omega
          have HV2 := Lib.hid (show v = wB z0 z1 (k + 1) from HV.out)
          go_wp2_with fail
          go_roundw
          case rel => exact ⟨k + 1, by go_num, by rw [HV2.out], by omega, HBr.out⟩
          case measure => go_light; simp [intOf]; omega
    · obtain rfl : i = n0 := by omega
      have HW2 := Lib.hid (show wB z0 z1 i = Q from HWn.out.symm)
      rw [HW2.out]
      go_wp2_with fail
      obtain ⟨wo, rfl⟩ : ∃ wo : World, wo = wr := ⟨_, rfl⟩
      go_loopw [19] (fun av wr => ∃ a : Nat, av = .int .i64 a ∧ a ≤ i ∧ Below w5.heap.size w5 wr) (fun av _ => i - (intOf av).toNat)
      case atStart => exact ⟨0, rfl, by omega, HB.out⟩
      case round =>
        obtain ⟨x, rfl, hx, hB⟩ := hrel
        have HBx := Lib.hid hB
        have hzx := hB.size
        clear HB hB hzr
        by_cases d3 : x < i
        · go_wp2_with fail
          obtain ⟨wo2, rfl⟩ : ∃ wo2 : World, wo2 = wr := ⟨_, rfl⟩
          go_loopw [20] (fun av wr => ∃ a : Nat, av = .int .i64 a ∧ a ≤ i ∧ Below w5.heap.size w5 wr) (fun av _ => i - (intOf av).toNat)
          case atStart => exact ⟨0, rfl, by omega, HBx.out⟩
          case round =>
            obtain ⟨y, rfl, hy, hB⟩ := hrel
            have HBy := Lib.hid hB
            have hzy := hB.size
            by_cases d4 : y < i
            · obtain ⟨b3, off3, rfl, hb3, hc3⟩ := HRk.out (by omega)
              have HBw := Lib.hid (show Below w.heap.size w wr from HB5.out.trans (hB.mono HZ5))
              have CSk := Lib.hid (fun w' hb => CS.out w' hb x y d3 d4)
              have HLt := Lib.hid (fun h => HRl.out y x d3 h)
              obtain ⟨q, hq⟩ : ∃ q, decide ((z0.getD x default).hi < (z0.getD y default).lo) = q := ⟨_, rfl⟩
              have HQq := Lib.hid hq
              rw [hq] at CSk
              have HC3 := Lib.hid (fun w' (hB : Below w5.heap.size w5 w') => show w'.cell? ⟨b3, off3 + x, none⟩ = some (.int .i64 (rankV z0 x)) ∧ w'.cell? ⟨b3, off3 + y, none⟩ = some (.int .i64 (rankV z0 y)) from ⟨hc3 w' hB x d3, hc3 w' hB y d4⟩)
              obtain ⟨rx, hrx⟩ : ∃ r, rankV z0 x = r := ⟨_, rfl⟩
              obtain ⟨ry, hry⟩ : ∃ r, rankV z0 y = r := ⟨_, rfl⟩
              rw [hrx, hry] at HC3 HLt
              have k0 : (0 : Int) ≤ (x : Int) := by omega
              have k1 : (x : Int) < (i : Int) := by omega
              have k2 : (0 : Int) ≤ (y : Int) := by omega
              have k3 : (y : Int) < (i : Int) := by omega
              clear hq hc3 hrx hry hB
              go_wp2_with fail
              refine (CSk.out _ HBw.out).mono ?_
              rintro e w6 ⟨rfl, hb6⟩
              have HB6 := Lib.hid (show Below w5.heap.size w5 w6 from HBy.out.trans (hb6.mono hzy))
              obtain ⟨y0, y1⟩ := HC3.out w6 HB6.out
              clear hb6 CSk
              cases q
              · go_wp2_with fail
                go_quiet (fail)
                go_wp2_with fail
                go_roundw
                case rel => exact ⟨y + 1, by go_num, by omega, below_drewN HB6.out _⟩
                case measure => go_light; simp [intOf]; omega
              · have hlt := HLt.out (of_decide_eq_true HQq.out)
                have bl : decide (ry ≤ rx) = false := by simp; omega
                go_wp2_with fail
                go_quiet (fail)
                go_wp2_with fail
                go_roundw
                case rel => exact ⟨y + 1, by go_num, by omega, below_drewN HB6.out _⟩
                case measure => go_light; simp [intOf]; omega
            · obtain rfl : y = i := by omega
              go_wp2_with fail
              go_roundw
              case rel => exact ⟨x + 1, by go_num, by omega, HBy.out⟩
              case measure => go_light; simp [intOf]; omega
        · obtain rfl : x = i := by omega
          have HBw := Lib.hid (show Below w.heap.size w wr from HB5.out.trans (HBx.out.mono HZ5))
          have HOI2 := Lib.hid HOI.out
          clear d1 d3 HOI HRl HRb HRk CS HWn HW2 hx
          cases Q
          · have CTf := Lib.hid (fun w' (hb : Below w.heap.size w w') => (CT.out w' hb).mono (R' := fun e w'' => ∃ B m d, e = .returned (.tuple #[.slice B m d, .iface 54 (.int .i64 5)]) ∧ Below w'.heap.size w' w'') fun e w'' ⟨B, m, d, he, _, hb⟩ => ⟨B, m, d, by rw [he, HQ.out]; rfl, hb⟩)
            clear CT HTi HQ
            go_wp2_with fail
            refine (CTf.out _ HBw.out).mono ?_
            rintro e w6 ⟨B2, m2, d2, rfl, hb6⟩
            have HB6 := HBw.out.trans (hb6.mono HBw.out.size)
            clear hb6
            go_wp2_with fail
            refine (HCE.out _ HB6).mono ?_
            rintro e w7 ⟨rfl, hb7⟩
            have HB7 := HB6.trans (hb7.mono HB6.size)
            go_wp2_with fail
            go_ret
            exact ⟨rfl, HB7⟩
          · have CTt := Lib.hid (fun w' (hb : Below w.heap.size w w') => (CT.out w' hb).mono (R' := fun e w'' => ∃ B d, e = .returned (.tuple #[.slice B x d, .nilIface]) ∧ IsInts w'' B x d (tmL z0 z1 x) ∧ Below w'.heap.size w' w'') fun e w'' ⟨B, m, d, he, hI, hb⟩ => by
              rw [HQ.out] at he hI
              have hI : IsInts w'' B m d (tmL z0 z1 z1.length) := hI
              rw [HL1.out] at hI
              obtain rfl : m = x := by have := hI.1; rw [tmL_len] at this; exact this.symm
              exact ⟨B, d, he, hI, hb⟩)
            have HTj := Lib.hid (show ∀ j, j < x → (evAt z0 z1 j).lo ≤ tmAt z0 z1 j ∧ tmAt z0 z1 j ≤ (evAt z0 z1 j).hi from fun j hj => HTi.out (by trivial) j hj)
            clear CT HQ
            go_wp2_with fail
            refine (CTt.out _ HBw.out).mono ?_
            rintro e w6 ⟨B2, d2, rfl, hI6, hb6⟩
            have HB6 := Lib.hid (HBw.out.trans (hb6.mono HBw.out.size))
            have hz6 := HB6.out.size
            have hd2' := hI6.2.2.1
            have hd3' := hI6.2.1
            unfold maxLen at hd2'
            have HTm := Lib.hid (fun (hp : 0 < x) => show ∃ b off, B2 = some ⟨b, off, none⟩ ∧ b < w6.heap.size ∧ ∀ W, Below w6.heap.size w6 W → ∀ j, j < x → W.cell? ⟨b, off + j, none⟩ = some (.int .i64 (tmAt z0 z1 j)) from by
              obtain ⟨b, off, e, hb, hc⟩ := hI6.2.2.2.2 hp
              exact ⟨b, off, e, hb, fun W hB j hj => (hB.cell (p := ⟨b, off + j, none⟩) hb).trans (by simpa using hc j _ (tmL_get z0 z1 x j hj) 0 _ rfl)⟩)
            clear hb6 hI6 CTt HBx HBw hzx
            go_wp2_with fail
            go_loopw [24] (fun av wr => ∃ a : Nat, av = .int .i64 a ∧ a ≤ x ∧ Below w6.heap.size w6 wr) (fun av _ => x - (intOf av).toNat)
            case atStart => exact ⟨0, rfl, by omega, Below.refl _ _⟩
            case round =>
              obtain ⟨j, rfl, hj, hB⟩ := hrel
              have HBj := Lib.hid hB
              have hzj := hB.size
              have HBw := Lib.hid (show Below w.heap.size w wr from HB6.out.trans (hB.mono hz6))
              by_cases d5 : j < x
              · obtain ⟨b2, off2, rfl, hb2, hc2⟩ := HO.out (by omega)
                obtain ⟨b, off, rfl, hb, hc⟩ := HEv.out (by omega)
                obtain ⟨b4, off4, rfl, hb4, hc4⟩ := HTm.out (by omega)
                obtain ⟨ej, hej, hejn⟩ := HOI2.out j d5
                have htj := HTj.out j d5
                have hevj : evAt z0 z1 j = z0.getD ej default := by unfold evAt; rw [hej]; rfl
                rw [hevj] at htj
                have hrz : rightB (z0.getD ej default).lo (z0.getD ej default).hi = true := by
                  refine HP2.out _ ?_
                  rw [List.getD_eq_getElem?_getD, List.getElem?_eq_getElem (by rw [HL0.out]; exact hejn)]
                  exact List.getElem_mem _
                obtain ⟨zj, hzj'⟩ : ∃ z, z0.getD ej default = z := ⟨_, rfl⟩
                obtain ⟨tj, htj'⟩ : ∃ t, tmAt z0 z1 j = t := ⟨_, rfl⟩
                rw [hzj'] at hrz htj
                rw [htj'] at htj
                have CH := Lib.hid (fun W' => by have := span_Has zj.lo zj.hi tj W'; rw [show hasB zj.lo zj.hi tj = true from by unfold hasB; rw [hrz]; simp; omega, hrz, show errV (okC true) = .nilIface from rfl] at this; exact this)
                have HC6 := Lib.hid (fun w' (hB : Below w6.heap.size w6 w') => show w'.cell? ⟨b2, off2 + j, none⟩ = some (.int .i64 (ej : Int)) ∧ w'.cell? ⟨b, off + ej * 3 + 1, none⟩ = some (.int .i64 zj.lo) ∧ w'.cell? ⟨b, off + ej * 3 + 1 + 1, none⟩ = some (.int .i64 zj.hi) ∧ w'.cell? ⟨b4, off4 + j, none⟩ = some (.int .i64 tj) from by
                  have hBw : Below w.heap.size w w' := HB6.out.trans (hB.mono hz6)
                  refine ⟨by rw [← hej]; exact hc2 w' hBw j d5, ?_, ?_, by rw [← htj']; exact hc4 w' hB j d5⟩
                  · rw [← hzj']; exact (hc w' hBw ej hejn).2.1
                  · rw [← hzj']; exact (hc w' hBw ej hejn).2.2)
                have HPv := Lib.hid (fun (w' : World) (hB : Below w6.heap.size w6 w') (i : Nat) (hi : j = i + 1) => show w'.cell? ⟨b4, off4 + i, none⟩ = some (.int .i64 (tmAt z0 z1 i)) ∧ tmAt z0 z1 i ≤ tj from ⟨hc4 w' hB i (by omega), by rw [← htj', hi]; exact tm_up z0 z1 i⟩)
                obtain ⟨x0, x1, x2, x3⟩ := HC6.out wr hB
                have k0 : (0 : Int) ≤ (j : Int) := by omega
                have k1 : (j : Int) < (x : Int) := by omega
                have k2 : (0 : Int) ≤ (ej : Int) := by omega
                have k3 : (ej : Int) < (x : Int) := by omega
                clear hc2 hc hc4 hej hevj hrz hzj' htj' htj hB
                go_wp2_with fail
                go_region_held3 (fun w' => w'.cell? ⟨b2, off2 + j, none⟩ = some (.int .i64 (ej : Int)) ∧ w'.cell? ⟨b, off + ej * 3 + 1, none⟩ = some (.int .i64 zj.lo) ∧ w'.cell? ⟨b, off + ej * 3 + 1 + 1, none⟩ = some (.int .i64 zj.hi) ∧ w'.cell? ⟨b4, off4 + j, none⟩ = some (.int .i64 tj)) (first | go_keep | ((repeat' apply And.intro) <;> assumption)) (first | ((go_at_call 10; refine (CH.out _).mono ?_; rintro e w7 ⟨rfl, hb7⟩; have hB7 : Below w6.heap.size w6 w7 := (by have hBq := HBj.out; exact (by repeat (first | with_reducible exact Below.refl _ _ | (with_reducible refine Below.alloc ?_ (by first | omega | (simp; done) | (simp; omega)) _) | (with_reducible refine Below.setCell ?_ (by first | omega | (simp; done) | (simp; omega)) _) | (with_reducible refine Below.drew ?_) | (with_reducible refine below_drewN ?_ _) | (with_reducible assumption) | (with_reducible refine bel_step (by with_reducible assumption) ?_ (by first | omega | (simp; done) | (simp; omega)))))); obtain ⟨y0, y1, y2, y3⟩ := HC6.out w7 hB7)))
                all_goals
                  have HB7 := Lib.hid hB7
                  clear hb7 hB7 y0 y1 y2 x0 x1 x2 x3
                  rcases Nat.eq_zero_or_pos j with hj0 | hj0
                  · have hjz : ¬ (0 : Int) < (j : Int) := by omega
                    have hjd : decide ((0 : Int) < (j : Int)) = false := by simp; omega
                    have hjd2 : decide (0 < j) = false := by simp; omega
                    clear hj0
                    go_wp2_with fail
                    go_quiet (fail)
                    go_wp2_with fail
                    go_roundw
                    case rel => exact ⟨j + 1, by go_num, by omega, below_drewN HB7.out _⟩
                    case measure => go_light; simp [intOf]; omega
                  · obtain ⟨i, hi⟩ : ∃ i, j = i + 1 := ⟨j - 1, by omega⟩
                    obtain ⟨v0, v1⟩ := HPv.out w7 HB7.out i hi
                    obtain ⟨ti, hti⟩ : ∃ t, tmAt z0 z1 i = t := ⟨_, rfl⟩
                    rw [hti] at v0 v1
                    have hjz : (0 : Int) < (j : Int) := by omega
                    have hjd2 : decide (0 < j) = true := by simp; omega
                    have hjd : decide ((0 : Int) < (j : Int)) = true := by simp; omega
                    have hm1' : IntKind.i64.wrap ((j : Int) - 1) = (i : Int) := by rw [IntWalk.i64_in _ (by omega)]; omega
                    have hm2' : (j : Int) - 1 = (i : Int) := by omega
                    have hm3 : (0 : Int) ≤ (i : Int) := by omega
                    have hm4 : (i : Int) < (x : Int) := by omega
                    have bl : decide (tj < ti) = false := by simp; omega
                    clear hti hi hj0 v1
                    go_wp2_with fail
                    go_quiet (fail)
                    go_wp2_with fail
                    go_roundw
                    case rel => exact ⟨j + 1, by go_num, by omega, below_drewN HB7.out _⟩
                    case measure => go_light; simp [intOf]; omega
              · go_wp2_with fail
                go_ret
                exact ⟨rfl, HBw.out⟩
set_option maxRecDepth 100000 in
theorem walk (a0 : Option Addr) (n0 c0 : Nat) (z0 : List REvent) (a1 : Option Addr) (n1 c1 : Nat) (z1 : List Int) (w : World) (h0 : IsRecs w REvent.cells REvent.ok 3 a0 n0 c0 z0) (h1 : IsInts w a1 n1 c1 z1) (hg : HandleAt w) (hr1 : n1 * 8 ≤ 140737488351232) :
    Calls Tryd.prog 3 #[.slice a0 n0 c0, .slice a1 n1 c1] w fun e w' => e = .returned (.bool true) ∧ Below w.heap.size w w' := by
  by_cases e0 : readyC z0 z1 = 0
  · exact good a0 n0 c0 z0 a1 n1 c1 z1 w h0 h1 hg hr1 e0
  · exact bad a0 n0 c0 z0 a1 n1 c1 z1 w h0 h1 hg hr1 e0

set_option maxRecDepth 100000 in
theorem lifted (os : Os) (started : os.Started) (H : Type) (enc : TypeId × Value → H) :
    ReturnsInHanded {} Tryd.checked os 3 .any (fun w args => (Rows.orderHoldsSpec.pre enc Tryd.prog Tryd.f3 [] false w args ∧ laidMetH Tryd.prog laidList w) ∧ sizedMet enc Tryd.prog Tryd.f3 (OpenSpec.ofChange Rows.orderHoldsSpec) false w args)
      (Rows.orderHoldsSpec.post enc Tryd.prog Tryd.f3 false true false false) := by
  refine returnsInHanded_of_change_and (C := Tryd.checked) (X := fun w _ => laidMetH Tryd.prog laidList w) (fun _ _ _ hh h => h.of_heap hh) own started (by kernel_rfl) Tryd.func3
    (ChangeSpec.witness_at (enc := enc) (C := Tryd.checked) (os := os) (X := fun w _ => laidMetH Tryd.prog laidList w) false (laidWorld os) #[.slice none 0 0, .slice none 0 0] 8 rfl (by kernel_rfl) (by kernel_rfl) (by kernel_rfl) (by kernel_rfl) (by kernel_rfl) (laidWorld_met os _)) ?_
  intro W base args ds gs before hval0 hW hcnd hsz0 hL _
  have hval : ∀ (j : Nat) t v, Tryd.f3.params[j]? = some t → args[j]? = some v → Value.okWide Tryd.prog W .any base t v := hval0
  have hW' := hW
  obtain ⟨p, q, hA0, hV, rfl, hfz, hnd⟩ := hW
  have hA : DataW.TrodAll enc Tryd.prog W 0 (fun _ => true) true Tryd.f3.params.toList args.toList ds p := hA0
  rw [Tryd.params3] at hA hval
  obtain ⟨v0, vs0, d0, ds0, p0, q0, hargs, rfl, rfl, g0, r0⟩ := trodAll_cons hA
  obtain ⟨v1, vs1, d1, ds1, p1, q1, rfl, rfl, rfl, g1, r1⟩ := trodAll_cons r0
  obtain ⟨rfl, rfl, rfl⟩ := trodAll_nil r1
  obtain rfl : args = #[v0, v1] := by cases args; simp_all
  have hV2 : DataW.TrodVars enc Tryd.prog W (fun _ => true) [] gs q := hV
  obtain ⟨rfl, rfl⟩ : gs = [] ∧ q = [] := by
    cases gs with
    | nil => exact ⟨rfl, hV2⟩
    | cons g r => exact absurd hV2 (by intro h; cases h)
  have k0 := g0
  have lt0 : ∀ x ∈ p0, x.block < W.heap.size := by obtain ⟨m, hm⟩ := k0; exact DataW.trod_lt m _ _ _ hm
  have rd0 : Tryd.prog.readableRec 22 = true := by kernel_rfl
  have ls0 : 22 < Tryd.prog.types.size := of_decide_eq_true (by kernel_rfl)
  obtain ⟨a0, n0, c0, z0, rfl, h0⟩ := open_REvents (hval 0 22 v0 rfl rfl) g0
  have k1 := g1
  have lt1 : ∀ x ∈ p1, x.block < W.heap.size := by obtain ⟨m, hm⟩ := k1; exact DataW.trod_lt m _ _ _ hm
  have rd1 : Tryd.prog.readableRec 23 = true := by kernel_rfl
  have ls1 : 23 < Tryd.prog.types.size := of_decide_eq_true (by kernel_rfl)
  obtain ⟨a1, n1, c1, z1, rfl, h1⟩ := open_Ints (hval 1 23 v1 rfl rfl) g1
  have hsz : (DataW.weightsEach Tryd.prog (Tryd.f3.params.toList ++ []) (_ ++ [])).all (fun x => decide (x ≤ reachBytes)) = true := hsz0
  rw [Tryd.params3] at hsz
  have hr1 : n1 * 8 ≤ 140737488351232 := by
    rcases slice_data Tryd.underlying23 g1 with ⟨_, h⟩ | ⟨el, sp, hd, hl⟩
    · rw [h]; omega
    · have := sized_slice hsz (j := 1) (t := 23) (e := 3) rfl (by rw [hd]; rfl) Tryd.underlying23
      rw [show Tryd.prog.bytesOf 3 = 8 by kernel_rfl] at this
      simp only [reachBytes] at this
      omega
  clear hA0 hval0
  refine (walk a0 n0 c0 z0 a1 n1 c1 z1 W h0 h1 (handle_of_laid hL) hr1).mono fun e W' ⟨he, bel⟩ => ?_
  subst he
  exact ⟨_, rfl, _, _, _, [], _, [], hW', trodAll_mk1 (shut_bool Tryd.underlying4 _), (trodAll_cons_mk (Below.trod laidOut rd0 ls0 k0 bel lt0) (trodAll_cons_mk (Below.trod laidOut rd1 ls1 k1 bel lt1) trodAll_mk0)), rfl, bel.frame _, fun h => by cases h⟩

theorem over : Rows.orderHoldsRow.holds Tryd.pinned (OpenSpec.ofChange Rows.orderHoldsSpec) :=
  OpenClaim.holds_of_wide 3 Tryd.f3 rfl rfl rfl rfl rfl rfl rfl ⟨rfl, rfl, rfl, rfl, rfl⟩ rfl rfl rfl rfl rfl (by kernel_rfl) Tryd.func3 (by kernel_rfl)
    (of_decide_eq_true (by kernel_rfl)) (by unfold Func.isWrapper; rw [if_neg (of_decide_eq_false (by kernel_rfl))]; exact ⟨rfl, rfl⟩)
    (fun os started H enc _ => lifted os started H enc)

theorem card : Rows.OrderHoldsCardSaid :=
  Claim7.holds_tied_plain_at .later [] [.handle] true (true, Rows.orderHoldsCard.stood.harness.2) true
    over (fun _ h => by cases h) (by kernel_rfl) (fun _ h => by cases h) orderHolds_row_tie rfl ⟨rfl, rfl⟩ (by kernel_rfl) rfl
    (fun f fn hf hfn => by
      obtain rfl : f = 3 := Option.some.inj ((show Tryd.prog.funcNamed "noonmark/noonlaw2.OrderHolds" = some 3 by kernel_rfl).symm.trans hf) |>.symm
      obtain rfl : fn = Tryd.f3 := (Option.some.inj (Tryd.func3.symm.trans hfn)).symm
      exact ⟨by kernel_rfl, fun j t ht => by
        rw [Tryd.params3] at ht
        exact noStandIn (ps := #[22, 23]) (by kernel_rfl) ht⟩)
    (by kernel_rfl)

end Go.Proofs.YthclepohilekaaaDoor.lOrderHolds
