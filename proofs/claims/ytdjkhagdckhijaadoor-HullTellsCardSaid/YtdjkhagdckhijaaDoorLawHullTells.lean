/- Proved: noonlaw1.HullTells answers true for every input and leaves its arguments as they were. Its conditions: none beyond the tied card's own. -/
import Derived.Test.YtdjkhagdckhijaaDoorDoor
import Derived.Test.YtdjkhagdckhijaaDoorSized
import Derived.Test.YtdjkhagdckhijaaDoorHullZ
import Derived.Test.YtdjkhagdckhijaaDoorSameL
import Derived.Deep.DeepCutAuto
import Derived.Deep.CutBlock
import Derived.Deep.Light
namespace Go.Proofs.YtdjkhagdckhijaaDoor.lHullTells
open Go.ChangeShapes Go.WideShapes Go.ChangeAt Go.RowKit
set_option linter.unusedVariables false
set_option linter.unusedSimpArgs false
theorem nilP (w : World) : IsRecs w RPoint.cells RPoint.ok 2 none 0 0 [] := ⟨rfl, Nat.le_refl _, by unfold maxLen; omega, by simp, fun h => absurd h (by omega)⟩
set_option maxRecDepth 100000 in
set_option maxHeartbeats 16000000 in
theorem bad (a0 : Option Addr) (n0 c0 : Nat) (z0 : List RPoint) (a1 : Int) (w : World) (h0 : IsRecs w RPoint.cells RPoint.ok 2 a0 n0 c0 z0) (hg : HandleAt w) (hr0 : n0 * 16 ≤ 140737488351232) (e0 : ptsC z0 ≠ 0) :
    Calls Tryd.prog 4 #[.slice a0 n0 c0, .int .i64 a1] w fun e w' => e = .returned (.bool true) ∧ Below w.heap.size w w' := by
  have HRR := Lib.hid hr0
  obtain ⟨c, hc⟩ : ∃ c, ptsC z0 = c := ⟨_, rfl⟩
  have CE := Lib.hid (fun (w' : World) (hb : Below w.heap.size w w') => show Calls Tryd.prog 6 #[.iface 39 (.int .i64 c), .int .i64 c] w' fun e w'' => e = .returned (.bool true) ∧ Below w'.heap.size w' w'' by have := Error_any c c w' (hg.below hb); rw [errV_ne (by rw [← hc]; exact e0)] at this; simpa using this)
  have H := Lib.hid h0
  rw [hc] at e0
  have HC := Lib.hid hc
  have hce : (c == 0) = false := by simpa using e0
  have hr := Lib.hid (errV_ne e0)
  have C1 := Lib.hid (by have := r1_Points a0 n0 c0 z0 w h0; rw [hc] at this; exact this)
  have C2 := Lib.hid (fun (w' : World) (hb : Below w.heap.size w w') => show Calls Tryd.prog 10 #[.slice a0 n0 c0] w' fun e w'' => e = .returned (.iface 39 (.int .i64 c)) ∧ Below w'.heap.size w' w'' by have := hull_Check a0 n0 c0 z0 w' (h0.below hb); rw [hc, errV_ne e0] at this; exact this)
  clear h0 hg hr0 hc
  go_enter Tryd.func4, Tryd.ntmps4
  go_wp2_with fail
  refine C1.out.mono ?_
  rintro e w1 ⟨rfl, hb1⟩
  have HB1 := Lib.hid hb1
  clear hb1 C1
  go_wp2_with fail
  refine (C2.out _ HB1.out).mono ?_
  rintro e w2 ⟨rfl, hb2⟩
  have HB2 := Lib.hid (HB1.out.trans (hb2.mono HB1.out.size))
  clear hb2 C2
  go_wp2_with fail
  refine (CE.out _ HB2.out).mono ?_
  rintro e w3 ⟨rfl, hb3⟩
  have HB3 := Lib.hid (HB2.out.trans (hb3.mono HB2.out.size))
  clear hb3
  go_wp2_with fail
  refine (hull_Upper _ _ _ z0 w3 (H.out.below HB3.out)).mono ?_
  rintro e w4 ⟨hb4, ⟨-, rfl⟩ | ⟨hq, _⟩⟩
  case inr => exact absurd (HC.out.symm.trans hq) e0
  rw [HC.out]
  have HB4 := Lib.hid (HB3.out.trans (hb4.mono HB3.out.size))
  clear hb4
  go_wp2_with fail
  refine (CE.out _ HB4.out).mono ?_
  rintro e w5 ⟨rfl, hb5⟩
  have HB5 := Lib.hid (HB4.out.trans (hb5.mono HB4.out.size))
  clear hb5
  go_wp2_with fail
  refine (hull_Lower _ _ _ z0 w5 (H.out.below HB5.out)).mono ?_
  rintro e w6 ⟨hb6, ⟨-, rfl⟩ | ⟨hq, _⟩⟩
  case inr => exact absurd (HC.out.symm.trans hq) e0
  rw [HC.out]
  have HB6 := Lib.hid (HB5.out.trans (hb6.mono HB5.out.size))
  clear hb6
  go_wp2_with fail
  refine (CE.out _ HB6.out).mono ?_
  rintro e w7 ⟨rfl, hb7⟩
  have HB7 := Lib.hid (HB6.out.trans (hb7.mono HB6.out.size))
  clear hb7
  go_wp2_with fail
  refine (same_Points _ _ _ _ _ _ [] w7 (nilP _) (nilP _)).mono ?_
  rintro e w8 ⟨rfl, hb8⟩
  have HB8 := Lib.hid (HB7.out.trans (hb8.mono HB7.out.size))
  clear hb8
  go_wp2_with fail
  refine (same_Points _ _ _ _ _ _ [] w8 (nilP _) (nilP _)).mono ?_
  rintro e w9 ⟨rfl, hb9⟩
  have HB9 := Lib.hid (HB8.out.trans (hb9.mono HB8.out.size))
  clear hb9
  go_wp2_with fail
  refine (hull_Over _ _ _ z0 a1 w9 (H.out.below HB9.out)).mono ?_
  rintro e w10 ⟨v, k, rfl, hO, -, hb10⟩
  obtain ⟨rfl, rfl⟩ := over_bad HC.out e0 hO
  rw [hr.out]
  have HB10 := Lib.hid (HB9.out.trans (hb10.mono HB9.out.size))
  clear hO hb10
  go_wp2_with fail
  refine (CE.out _ HB10.out).mono ?_
  rintro e w11 ⟨rfl, hb11⟩
  have HB11 := Lib.hid (HB10.out.trans (hb11.mono HB10.out.size))
  clear hb11
  go_wp2_with fail
  refine (hull_Under _ _ _ z0 a1 w11 (H.out.below HB11.out) (by have := HRR.out; omega)).mono ?_
  rintro e w12 ⟨u, j, rfl, hU, hb12⟩
  obtain ⟨rfl, rfl⟩ := over_bad ((ptsC_flip z0).trans HC.out) e0 hU
  rw [hr.out]
  have HB12 := Lib.hid (HB11.out.trans (hb12.mono HB11.out.size))
  clear hU hb12
  go_wp2_with fail
  refine (CE.out _ HB12.out).mono ?_
  rintro e w13 ⟨rfl, hb13⟩
  have HB13 := Lib.hid (HB12.out.trans (hb13.mono HB12.out.size))
  clear hb13
  go_wp2_with fail
  go_ret
  exact ⟨by simp, HB13.out⟩
set_option maxRecDepth 100000 in
set_option maxHeartbeats 16000000 in
theorem good (a0 : Option Addr) (n0 c0 : Nat) (z0 : List RPoint) (a1 : Int) (w : World) (h0 : IsRecs w RPoint.cells RPoint.ok 2 a0 n0 c0 z0) (hg : HandleAt w) (hr0 : n0 * 16 ≤ 140737488351232) (e0 : ptsC z0 = 0) :
    Calls Tryd.prog 4 #[.slice a0 n0 c0, .int .i64 a1] w fun e w' => e = .returned (.bool true) ∧ Below w.heap.size w w' := by
  have HRR := Lib.hid hr0
  have CE := Lib.hid (fun (k : Int) (w' : World) (hb : Below w.heap.size w w') => show Calls Tryd.prog 6 #[errV k, .int .i64 k] w' fun e w'' => e = .returned (.bool true) ∧ Below w'.heap.size w' w'' by have := Error_any k k w' (hg.below hb); simpa using this)
  have CE0 := Lib.hid (CE.out 0)
  have H := Lib.hid h0
  obtain ⟨q1, q2⟩ := ptsC_0 e0
  have hn60 : n0 ≤ 60 := by have := h0.1; omega
  have HC := Lib.hid e0
  have HQ := Lib.hid q2
  have HQF := Lib.hid (show ∀ z ∈ z0.map flipP, ptB z = true from fun z hz => by
    obtain ⟨y, hy, rfl⟩ := List.mem_map.1 hz
    exact flipP_ptB (q2 y hy))
  have hcap := h0.2.2.1
  unfold maxLen at hcap
  have C1 := Lib.hid (by have := r1_Points a0 n0 c0 z0 w h0; rw [e0] at this; exact this)
  have C2 := Lib.hid (fun (w' : World) (hb : Below w.heap.size w w') => show Calls Tryd.prog 10 #[.slice a0 n0 c0] w' fun e w'' => e = .returned (errV 0) ∧ Below w'.heap.size w' w'' by have := hull_Check a0 n0 c0 z0 w' (h0.below hb); rw [e0] at this; exact this)
  clear h0 hg hr0 e0 q1 q2
  go_enter Tryd.func4, Tryd.ntmps4
  go_wp2_with fail
  refine C1.out.mono ?_
  rintro e w1 ⟨rfl, hb1⟩
  have HB1 := Lib.hid hb1
  clear hb1 C1
  go_wp2_with fail
  refine (C2.out _ HB1.out).mono ?_
  rintro e w2 ⟨rfl, hb2⟩
  have HB2 := Lib.hid (HB1.out.trans (hb2.mono HB1.out.size))
  clear hb2 C2
  go_wp2_with fail
  refine (CE0.out _ HB2.out).mono ?_
  rintro e w3 ⟨rfl, hb3⟩
  have HB3 := Lib.hid (HB2.out.trans (hb3.mono HB2.out.size))
  clear hb3
  go_wp2_with fail
  refine (r1_UpperH _ _ _ z0 w3 (H.out.below HB3.out) hn60 HQ.out).mono ?_
  rintro e w4 ⟨A1, m1, d1, S, rfl, hI1, hU1, hm1, hb4⟩
  have HU1 := Lib.hid hU1
  have HI1 := Lib.hid hI1
  have HB4 := Lib.hid (HB3.out.trans (hb4.mono HB3.out.size))
  clear hb4 hU1 hI1
  go_wp2_with fail
  refine (r1_Flip _ _ _ z0 w4 (H.out.below HB4.out) hn60 HQ.out).mono ?_
  rintro e w5 ⟨A2, d2, rfl, hI2, hb5⟩
  have HI2 := Lib.hid hI2
  have HI1b := Lib.hid (HI1.out.below hb5)
  have HB5 := Lib.hid (HB4.out.trans (hb5.mono HB4.out.size))
  clear hb5 hI2 HI1
  go_wp2_with fail
  refine (r1_UpperH _ _ _ (z0.map flipP) w5 HI2.out hn60 HQF.out).mono ?_
  rintro e w6 ⟨A3, m3, d3, S2, rfl, hI3, hU3, hm3, hb6⟩
  have HU3 := Lib.hid hU3
  have HI3 := Lib.hid hI3
  have HI1 := Lib.hid (HI1b.out.below hb6)
  have HB6 := Lib.hid (HB5.out.trans (hb6.mono HB5.out.size))
  clear hb6 hU3 hI3 HI2 HI1b
  go_wp2_with fail
  refine (r1_Flip _ _ _ S2 w6 HI3.out (by omega) (fun z hz => HQF.out z (HU3.out.len z hz))).mono ?_
  rintro e w7 ⟨A4, d4, rfl, hI4, hb7⟩
  have HI4 := Lib.hid hI4
  have HI1b := Lib.hid (HI1.out.below hb7)
  have HB7 := Lib.hid (HB6.out.trans (hb7.mono HB6.out.size))
  clear hb7 hI4 HI3 HI1
  go_wp2_with fail
  refine (hull_Upper _ _ _ z0 w7 (H.out.below HB7.out)).mono ?_
  rintro e w8 ⟨hb8, ⟨hq, _⟩ | ⟨-, cs, A5, m5, d5, rfl, hI5, hH5, -⟩⟩
  · exact absurd HC.out hq
  have heq : S = cs := HU1.out.hull hH5
  subst heq
  have HH5 := Lib.hid hH5
  have HI5 := Lib.hid hI5
  have HI1 := Lib.hid (HI1b.out.below hb8)
  have HI4b := Lib.hid (HI4.out.below hb8)
  have HB8 := Lib.hid (HB7.out.trans (hb8.mono HB7.out.size))
  clear hb8 hH5 hI5 HI1b HI4 HU1
  go_wp2_with fail
  refine (CE0.out _ HB8.out).mono ?_
  rintro e w9 ⟨rfl, hb9⟩
  have HI5b := Lib.hid (HI5.out.below hb9)
  have HI1b := Lib.hid (HI1.out.below hb9)
  have HI4 := Lib.hid (HI4b.out.below hb9)
  have HB9 := Lib.hid (HB8.out.trans (hb9.mono HB8.out.size))
  clear hb9 HI5 HI1 HI4b
  go_wp2_with fail
  refine (hull_Lower _ _ _ z0 w9 (H.out.below HB9.out)).mono ?_
  rintro e w10 ⟨hb10, ⟨hq, _⟩ | ⟨-, ds, A6, m6, d6, rfl, hI6, hH6, -⟩⟩
  · exact absurd HC.out hq
  have heq : S2 = ds := HU3.out.hull hH6
  subst heq
  have HH6 := Lib.hid hH6
  have HI6 := Lib.hid hI6
  have HI5 := Lib.hid (HI5b.out.below hb10)
  have HI1 := Lib.hid (HI1b.out.below hb10)
  have HI4b := Lib.hid (HI4.out.below hb10)
  have HB10 := Lib.hid (HB9.out.trans (hb10.mono HB9.out.size))
  clear hb10 hH6 hI6 HI5b HI1b HI4 HU3
  go_wp2_with fail
  refine (CE0.out _ HB10.out).mono ?_
  rintro e w11 ⟨rfl, hb11⟩
  have HI6b := Lib.hid (HI6.out.below hb11)
  have HI5b := Lib.hid (HI5.out.below hb11)
  have HI1b := Lib.hid (HI1.out.below hb11)
  have HI4 := Lib.hid (HI4b.out.below hb11)
  have HB11 := Lib.hid (HB10.out.trans (hb11.mono HB10.out.size))
  clear hb11 HI6 HI5 HI1 HI4b
  go_wp2_with fail
  refine (same_Points _ _ _ _ _ _ _ w11 HI5b.out HI1b.out).mono ?_
  rintro e w12 ⟨rfl, hb12⟩
  have HI6 := Lib.hid (HI6b.out.below hb12)
  have HI1 := Lib.hid (HI1b.out.below hb12)
  have HI4b := Lib.hid (HI4.out.below hb12)
  have HB12 := Lib.hid (HB11.out.trans (hb12.mono HB11.out.size))
  clear hb12 HI6b HI5b HI1b HI4
  go_wp2_with fail
  refine (same_Points _ _ _ _ _ _ _ w12 HI6.out HI4b.out).mono ?_
  rintro e w13 ⟨rfl, hb13⟩
  have HI1b := Lib.hid (HI1.out.below hb13)
  have HI4 := Lib.hid (HI4b.out.below hb13)
  have HB13 := Lib.hid (HB12.out.trans (hb13.mono HB12.out.size))
  clear hb13 HI6 HI1 HI4b
  have hz13 := HB13.out.size
  rcases Nat.eq_zero_or_pos n0 with hn0 | hn0
  · subst hn0
    obtain rfl : z0 = [] := List.length_eq_zero_iff.1 H.out.1
    have CE5 := Lib.hid (by have := CE.out 5; rw [errV_ne (show (5 : Int) ≠ 0 by decide)] at this; exact this)
    clear HH5 HH6 HI1b HI4 HQ HQF
    go_wp2_with fail
    refine (hull_Over _ _ _ [] a1 w13 (H.out.below HB13.out)).mono ?_
    rintro e w14 ⟨v, k, rfl, hO, -, hb14⟩
    obtain ⟨rfl, rfl⟩ := over_nil hO
    rw [errV_ne (show (5 : Int) ≠ 0 by decide)]
    have HB14 := Lib.hid (HB13.out.trans (hb14.mono hz13))
    clear hO hb14
    go_wp2_with fail
    refine (CE5.out _ HB14.out).mono ?_
    rintro e w15 ⟨rfl, hb15⟩
    have HB15 := Lib.hid (HB14.out.trans (hb15.mono HB14.out.size))
    clear hb15
    go_wp2_with fail
    refine (hull_Under _ _ _ [] a1 w15 (H.out.below HB15.out) (by omega)).mono ?_
    rintro e w16 ⟨u, j, rfl, hU, hb16⟩
    obtain ⟨rfl, rfl⟩ := over_nil hU
    rw [errV_ne (show (5 : Int) ≠ 0 by decide)]
    have HB16 := Lib.hid (HB15.out.trans (hb16.mono HB15.out.size))
    clear hU hb16
    go_wp2_with fail
    refine (CE5.out _ HB16.out).mono ?_
    rintro e w17 ⟨rfl, hb17⟩
    have HB17 := Lib.hid (HB16.out.trans (hb17.mono HB16.out.size))
    clear hb17
    go_wp2_with fail
    go_ret
    exact ⟨by simp, HB17.out⟩
  · have hne := Lib.hid (show z0 ≠ [] from fun e => by have := H.out.1; rw [e] at this; simp at this; omega)
    have hnf := Lib.hid (show z0.map flipP ≠ [] from fun e => hne.out (by simpa using e))
    obtain ⟨a, b, ha, hb⟩ := ends_of (HH5.out.any hne.out)
    obtain ⟨p, q, hp, hq⟩ := ends_of (HH6.out.any hnf.out)
    obtain ⟨hpx, hqx⟩ := flip_ends HH5.out HH6.out ha hb hp hq
    have hSp := Lib.hid (List.length_pos_iff.2 (HH5.out.any hne.out))
    have hm1p : 0 < m1 := by have := HI1b.out.1; have := hSp.out; omega
    obtain ⟨b1, o1, rfl, hbl1, hc1⟩ := HI1b.out.2.2.2.2 hm1p
    obtain ⟨j1, hj1⟩ : ∃ j1, S.length - 1 = j1 := ⟨_, rfl⟩
    have x0 : w13.cell? ⟨b1, o1, none⟩ = some (.int .i64 a.x) := by have := hc1 0 a ha 0 _ rfl; simpa using this
    have x1 : w13.cell? ⟨b1, o1 + j1 * 2, none⟩ = some (.int .i64 b.x) := by have := hc1 j1 b (by rw [← hj1]; exact hb) 0 _ rfl; simpa using this
    have t0 : (0 : Int) < (m1 : Int) := by omega
    have t1 : (m1 : Int) - 1 = (j1 : Int) := by have := HI1b.out.1; omega
    have t2 : (0 : Int) ≤ (j1 : Int) := by omega
    have t3 : (j1 : Int) < (m1 : Int) := by have := HI1b.out.1; omega
    have t4 := IntWalk.i64_in (j1 : Int) (by omega)
    have t5 : ((n0 : Int) == 0) = false := by simp; omega
    have t6 : ¬ n0 = 0 := by omega
    have HA := Lib.hid ha
    have HBb := Lib.hid hb
    have HP := Lib.hid hp
    have HQq := Lib.hid hq
    have HX := Lib.hid (And.intro hpx hqx)
    have hnl := HI1b.out.2.1
    have hml := HI1b.out.2.2.1
    unfold maxLen at hml
    have hcF : ptsC (z0.map flipP) = 0 := by rw [← map_flip HQ.out, ptsC_flip]; exact HC.out
    have HCF := Lib.hid hcF
    have HMF := Lib.hid (map_flip HQ.out)
    clear ha hb hp hq hpx hqx hc1 hj1 hcF
    by_cases hx : a1 < a.x ∨ b.x < a1
    · have CE1 := Lib.hid (by have := CE.out 1; rw [errV_ne (show (1 : Int) ≠ 0 by decide)] at this; exact this)
      have hx2 : a1 < a.x ∨ (¬ a1 < a.x ∧ b.x < a1) := by omega
      have HXx := Lib.hid hx
      clear hx
      rcases hx2 with hx2 | ⟨hx2, hx3⟩
      all_goals
        go_wp2_with fail
        refine (hull_Over _ _ _ z0 a1 w13 (H.out.below HB13.out)).mono ?_
        rintro e w14 ⟨v, k, rfl, hO, -, hb14⟩
        obtain ⟨rfl, rfl⟩ := over_out HC.out HH5.out hne.out HA.out HBb.out HXx.out hO
        rw [errV_ne (show (1 : Int) ≠ 0 by decide)]
        have HB14 := Lib.hid (HB13.out.trans (hb14.mono hz13))
        clear hO hb14
        go_wp2_with fail
        refine (CE1.out _ HB14.out).mono ?_
        rintro e w15 ⟨rfl, hb15⟩
        have HB15 := Lib.hid (HB14.out.trans (hb15.mono HB14.out.size))
        clear hb15
        go_wp2_with fail
        refine (hull_Under _ _ _ z0 a1 w15 (H.out.below HB15.out) (by omega)).mono ?_
        rintro e w16 ⟨u, j, rfl, hU, hb16⟩
        rw [HMF.out] at hU
        obtain ⟨rfl, rfl⟩ := over_out HCF.out HH6.out hnf.out HP.out HQq.out (by rw [HX.out.1, HX.out.2]; exact HXx.out) hU
        rw [errV_ne (show (1 : Int) ≠ 0 by decide)]
        have HB16 := Lib.hid (HB15.out.trans (hb16.mono HB15.out.size))
        clear hU hb16
        go_wp2_with fail
        refine (CE1.out _ HB16.out).mono ?_
        rintro e w17 ⟨rfl, hb17⟩
        have HB17 := Lib.hid (HB16.out.trans (hb17.mono HB16.out.size))
        clear hb17
        go_wp2_with fail
        go_ret
        exact ⟨by simp, HB17.out⟩
    · have hx2 : ¬ a1 < a.x := by omega
      have hx3 : ¬ b.x < a1 := by omega
      have HXx := Lib.hid (show a.x ≤ a1 ∧ a1 ≤ b.x by omega)
      have CO := Lib.hid (r1_OverH _ _ _ S a1 w13 HI1b.out HH5.out.rise (fun z hz => HQ.out z (HH5.out.sub z hz)) hm1p (by omega) (fun y hy => by rw [HA.out] at hy; cases hy; omega) (fun y hy => by rw [HBb.out] at hy; cases hy; omega))
      clear hx
      go_wp2_with fail
      refine CO.out.mono ?_
      rintro e w14 ⟨v0, rfl, hv0, -, hb14⟩
      have HV0 := Lib.hid hv0
      have HI4b := Lib.hid (HI4.out.below hb14)
      have HB14 := Lib.hid (HB13.out.trans (hb14.mono hz13))
      clear hv0 hb14 HI4 CO x0 x1
      go_wp2_with fail
      refine (r1_Flip _ _ _ (S2.map flipP) w14 HI4b.out (by omega) (fun z hz => by
        obtain ⟨y, hy, rfl⟩ := List.mem_map.1 hz
        exact flipP_ptB (HQF.out y (HH6.out.sub y hy)))).mono ?_
      rintro e w15 ⟨A8, d8, rfl, hI8, hb15⟩
      rw [flip_twice] at hI8
      have HI8 := Lib.hid hI8
      have HB15 := Lib.hid (HB14.out.trans (hb15.mono HB14.out.size))
      have CO := Lib.hid (r1_OverH _ _ _ S2 a1 w15 hI8 HH6.out.rise (fun z hz => HQF.out z (HH6.out.sub z hz)) (by have := List.length_pos_iff.2 (HH6.out.any hnf.out); have := hI8.1; omega) (by omega) (fun y hy => by rw [HP.out] at hy; cases hy; rw [HX.out.1]; exact HXx.out.1) (fun y hy => by rw [HQq.out] at hy; cases hy; rw [HX.out.2]; exact HXx.out.2))
      clear hI8 hb15 HI4b
      go_wp2_with fail
      refine CO.out.mono ?_
      rintro e w16 ⟨u0, rfl, hu0, hub, hb16⟩
      have HU0 := Lib.hid hu0
      have HB16 := Lib.hid (HB15.out.trans (hb16.mono HB15.out.size))
      have hw := IntWalk.i64_in (-u0) (by omega)
      clear hu0 hb16 CO hub
      go_wp2_with fail
      clear hw
      refine (hull_Over _ _ _ z0 a1 w16 (H.out.below HB16.out)).mono ?_
      rintro e w17 ⟨v, k, rfl, hO, -, hb17⟩
      obtain ⟨rfl, hv⟩ := over_in HC.out HH5.out hne.out HA.out HBb.out HXx.out.1 HXx.out.2 hO
      obtain rfl := over_one HH5.out.rise hv HV0.out
      rw [errV_0]
      have HB17 := Lib.hid (HB16.out.trans (hb17.mono HB16.out.size))
      clear hO hb17 hv
      go_wp2_with fail
      refine (CE0.out _ HB17.out).mono ?_
      rintro e w18 ⟨rfl, hb18⟩
      have HB18 := Lib.hid (HB17.out.trans (hb18.mono HB17.out.size))
      clear hb18
      go_wp2_with fail
      refine (hull_Under _ _ _ z0 a1 w18 (H.out.below HB18.out) (by omega)).mono ?_
      rintro e w19 ⟨u, j, rfl, hU, hb19⟩
      rw [HMF.out] at hU
      obtain ⟨rfl, hu⟩ := over_in HCF.out HH6.out hnf.out HP.out HQq.out (by rw [HX.out.1]; exact HXx.out.1) (by rw [HX.out.2]; exact HXx.out.2) hU
      obtain rfl := over_one HH6.out.rise hu HU0.out
      rw [errV_0]
      have HB19 := Lib.hid (HB18.out.trans (hb19.mono HB18.out.size))
      obtain ⟨Q, hQ⟩ : ∃ Q, -u = Q := ⟨_, rfl⟩
      rw [hQ]
      clear hU hb19 hu HU0 hQ
      go_wp2_with fail
      refine (CE0.out _ HB19.out).mono ?_
      rintro e w20 ⟨rfl, hb20⟩
      have HB20 := Lib.hid (HB19.out.trans (hb20.mono HB19.out.size))
      clear hb20
      go_wp2_with fail
      go_ret
      exact ⟨by simp, HB20.out⟩
set_option maxRecDepth 100000 in
theorem walk (a0 : Option Addr) (n0 c0 : Nat) (z0 : List RPoint) (a1 : Int) (w : World) (h0 : IsRecs w RPoint.cells RPoint.ok 2 a0 n0 c0 z0) (h1 : -9223372036854775808 ≤ a1 ∧ a1 ≤ 9223372036854775807) (hg : HandleAt w) (hr0 : n0 * 16 ≤ 140737488351232) :
    Calls Tryd.prog 4 #[.slice a0 n0 c0, .int .i64 a1] w fun e w' => e = .returned (.bool true) ∧ Below w.heap.size w w' := by
  by_cases e0 : ptsC z0 = 0
  · exact good a0 n0 c0 z0 a1 w h0 hg hr0 e0
  · exact bad a0 n0 c0 z0 a1 w h0 hg hr0 e0

set_option maxRecDepth 100000 in
theorem lifted (os : Os) (started : os.Started) (H : Type) (enc : TypeId × Value → H) :
    ReturnsInHanded {} Tryd.checked os 4 .any (fun w args => (Rows.hullTellsSpec.pre enc Tryd.prog Tryd.f4 [] false w args ∧ laidMetH Tryd.prog laidList w) ∧ sizedMet enc Tryd.prog Tryd.f4 (OpenSpec.ofChange Rows.hullTellsSpec) false w args)
      (Rows.hullTellsSpec.post enc Tryd.prog Tryd.f4 false true false false) := by
  refine returnsInHanded_of_change_and (C := Tryd.checked) (X := fun w _ => laidMetH Tryd.prog laidList w) (fun _ _ _ hh h => h.of_heap hh) own started (by kernel_rfl) Tryd.func4
    (ChangeSpec.witness_at (enc := enc) (C := Tryd.checked) (os := os) (X := fun w _ => laidMetH Tryd.prog laidList w) false (laidWorld os) #[.slice none 0 0, .int .i64 0] 8 rfl (by kernel_rfl) (by kernel_rfl) (by kernel_rfl) (by kernel_rfl) (by kernel_rfl) (laidWorld_met os _)) ?_
  intro W base args ds gs before hval0 hW hcnd hsz0 hL _
  have hval : ∀ (j : Nat) t v, Tryd.f4.params[j]? = some t → args[j]? = some v → Value.okWide Tryd.prog W .any base t v := hval0
  have hW' := hW
  obtain ⟨p, q, hA0, hV, rfl, hfz, hnd⟩ := hW
  have hA : DataW.TrodAll enc Tryd.prog W 0 (fun _ => true) true Tryd.f4.params.toList args.toList ds p := hA0
  rw [Tryd.params4] at hA hval
  obtain ⟨v0, vs0, d0, ds0, p0, q0, hargs, rfl, rfl, g0, r0⟩ := trodAll_cons hA
  obtain ⟨v1, vs1, d1, ds1, p1, q1, rfl, rfl, rfl, g1, r1⟩ := trodAll_cons r0
  obtain ⟨rfl, rfl, rfl⟩ := trodAll_nil r1
  obtain rfl : args = #[v0, v1] := by cases args; simp_all
  have hV2 : DataW.TrodVars enc Tryd.prog W (fun _ => true) [] gs q := hV
  obtain ⟨rfl, rfl⟩ : gs = [] ∧ q = [] := by
    cases gs with
    | nil => exact ⟨rfl, hV2⟩
    | cons g r => exact absurd hV2 (by intro h; cases h)
  have k0 := g0
  have lt0 : ∀ x ∈ p0, x.block < W.heap.size := by obtain ⟨m, hm⟩ := k0; exact DataW.trod_lt m _ _ _ hm
  have rd0 : Tryd.prog.readableRec 27 = true := by kernel_rfl
  have ls0 : 27 < Tryd.prog.types.size := of_decide_eq_true (by kernel_rfl)
  obtain ⟨a0, n0, c0, z0, rfl, h0⟩ := open_RPoints (hval 0 27 v0 rfl rfl) g0
  obtain ⟨a1, rfl, rfl, rfl, u1⟩ := open_int Tryd.underlying3 (hval 1 3 v1 rfl rfl) g1
  have h1 := bounds_i64 u1
  have hsz : (DataW.weightsEach Tryd.prog (Tryd.f4.params.toList ++ []) (_ ++ [])).all (fun x => decide (x ≤ reachBytes)) = true := hsz0
  rw [Tryd.params4] at hsz
  have hr0 : n0 * 16 ≤ 140737488351232 := by
    rcases slice_data Tryd.underlying27 g0 with ⟨_, h⟩ | ⟨el, sp, hd, hl⟩
    · rw [h]; omega
    · have := sized_slice hsz (j := 0) (t := 27) (e := 29) rfl (by rw [hd]; rfl) Tryd.underlying27
      rw [show Tryd.prog.bytesOf 29 = 16 by kernel_rfl] at this
      simp only [reachBytes] at this
      omega
  clear hA0 hval0
  refine (walk a0 n0 c0 z0 a1 W h0 h1 (handle_of_laid hL) hr0).mono fun e W' ⟨he, bel⟩ => ?_
  subst he
  exact ⟨_, rfl, _, _, _, [], _, [], hW', trodAll_mk1 (shut_bool Tryd.underlying4 _), (trodAll_cons_mk (Below.trod laidOut rd0 ls0 k0 bel lt0) (trodAll_cons_mk (shut_int Tryd.underlying3 u1) trodAll_mk0)), rfl, bel.frame _, fun h => by cases h⟩

theorem over : Rows.hullTellsRow.holds Tryd.pinned (OpenSpec.ofChange Rows.hullTellsSpec) :=
  OpenClaim.holds_of_wide 4 Tryd.f4 rfl rfl rfl rfl rfl rfl rfl ⟨rfl, rfl, rfl, rfl, rfl⟩ rfl rfl rfl rfl rfl (by kernel_rfl) Tryd.func4 (by kernel_rfl)
    (of_decide_eq_true (by kernel_rfl)) (by unfold Func.isWrapper; rw [if_neg (of_decide_eq_false (by kernel_rfl))]; exact ⟨rfl, rfl⟩)
    (fun os started H enc _ => lifted os started H enc)

theorem card : Rows.HullTellsCardSaid :=
  Claim7.holds_tied_plain_at .later [] [.handle] true (true, Rows.hullTellsCard.stood.harness.2) true
    over (fun _ h => by cases h) (by kernel_rfl) (fun _ h => by cases h) hullTells_row_tie rfl ⟨rfl, rfl⟩ (by kernel_rfl) rfl
    (fun f fn hf hfn => by
      obtain rfl : f = 4 := Option.some.inj ((show Tryd.prog.funcNamed "noonmark/noonlaw1.HullTells" = some 4 by kernel_rfl).symm.trans hf) |>.symm
      obtain rfl : fn = Tryd.f4 := (Option.some.inj (Tryd.func4.symm.trans hfn)).symm
      exact ⟨by kernel_rfl, fun j t ht => by
        rw [Tryd.params4] at ht
        exact noStandIn (ps := #[27, 3]) (by kernel_rfl) ht⟩)
    (by kernel_rfl)

