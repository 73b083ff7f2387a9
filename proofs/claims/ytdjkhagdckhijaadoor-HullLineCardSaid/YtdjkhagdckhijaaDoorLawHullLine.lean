/- Proved: noonlaw4.HullLine answers true for every input and leaves its arguments as they were. Its conditions: none beyond the tied card's own. -/
import Derived.Test.YtdjkhagdckhijaaDoorDoor
import Derived.Test.YtdjkhagdckhijaaDoorHullM
import Derived.Deep.DeepCutAuto
import Derived.Deep.CutBlock
import Derived.Deep.Light
namespace Go.Proofs.YtdjkhagdckhijaaDoor.lHullLine
open Go.ChangeShapes Go.WideShapes Go.ChangeAt Go.RowKit
set_option linter.unusedVariables false
set_option linter.unusedSimpArgs false
theorem line_recs {w : World} {B : Nat} {v : Value} {s : Int} {n : Nat} (hs : -1000 ≤ s ∧ s ≤ 1000) (hn : n ≤ 60) (h : w.ownsRow B 29 2 v n ((lineL s n).flatMap RPoint.cells)) : ∃ A c, v = .slice A n c ∧ IsRecs w RPoint.cells RPoint.ok 2 A n c (lineL s n) := by
  obtain ⟨A, k, c, rfl, hI⟩ := own_recs RPoint.cells RPoint.ok 2 (fun _ => rfl) (zs := lineL s n) (by rw [lineL_len]; exact h) (fun z hz => by
    have := ptB_iff.1 ((ptsC_0 (line_ok hs hn)).2 z hz)
    unfold RPoint.ok i64B; omega)
  have : k = n := by rw [← hI.1, lineL_len]
  subst this
  exact ⟨A, c, rfl, hI⟩
set_option maxRecDepth 100000 in
set_option maxHeartbeats 32000000 in
theorem walk (a0 : Int) (a1 : Int) (a2 : Int) (w : World) (h0 : -9223372036854775808 ≤ a0 ∧ a0 ≤ 9223372036854775807) (h1 : -9223372036854775808 ≤ a1 ∧ a1 ≤ 9223372036854775807) (h2 : -9223372036854775808 ≤ a2 ∧ a2 ≤ 9223372036854775807) (hg : HandleAt w) :
    Calls Tryd.prog 3 #[.int .i64 a0, .int .i64 a1, .int .i64 a2] w fun e w' => e = .returned (.bool true) ∧ Below w.heap.size w w' := by
  obtain ⟨i0, hi, hz0, hz1, hz2⟩ := info_parts infoPt
  have CE5 := Lib.hid (fun w' (hb : Below w.heap.size w w') => show Calls Tryd.prog 6 #[.iface 39 (.int .i64 5), .int .i64 5] w' fun e w'' => e = .returned (.bool true) ∧ Below w'.heap.size w' w'' by have := Error_any 5 5 w' (hg.below hb); rw [errV_ne (by decide)] at this; simpa using this)
  have CE1 := Lib.hid (fun w' (hb : Below w.heap.size w w') => show Calls Tryd.prog 6 #[.iface 39 (.int .i64 1), .int .i64 1] w' fun e w'' => e = .returned (.bool true) ∧ Below w'.heap.size w' w'' by have := Error_any 1 1 w' (hg.below hb); rw [errV_ne (by decide)] at this; simpa using this)
  clear hg
  by_cases g : a0 < 2 ∨ 60 < a0 ∨ a1 < -1000 ∨ 1000 < a1
  · have g2 : a0 < 2 ∨ (¬ a0 < 2 ∧ 60 < a0) ∨ (¬ a0 < 2 ∧ ¬ 60 < a0 ∧ a1 < -1000) ∨ (¬ a0 < 2 ∧ ¬ 60 < a0 ∧ ¬ a1 < -1000 ∧ 1000 < a1) := by omega
    have CO := Lib.hid (hull_Over none 0 0 [] 0 w ⟨rfl, Nat.le_refl _, by unfold maxLen; omega, by simp, fun h => absurd h (by omega)⟩)
    clear g h0 h1 h2
    rcases g2 with g2 | ⟨g1, g2⟩ | ⟨g1, g2, g3⟩ | ⟨g1, g2, g3, g4⟩
    all_goals
      go_enter Tryd.func3, Tryd.ntmps3
      go_wp2_with fail
      refine CO.out.mono ?_
      rintro e w1 ⟨v, k, rfl, hO, -, hb1⟩
      obtain rfl := over_none hO
      rw [errV_ne (show (5 : Int) ≠ 0 by decide)]
      have HB1 := Lib.hid hb1
      clear hO hb1
      go_wp2_with fail
      refine (CE5.out w1 HB1.out).mono ?_
      rintro e w2 ⟨rfl, hb2⟩
      have HB2 := Lib.hid (HB1.out.trans (hb2.mono HB1.out.size))
      clear hb2
      go_wp2_with fail
      go_ret
      exact ⟨rfl, HB2.out⟩
  · obtain ⟨N, rfl⟩ := Int.eq_ofNat_of_zero_le (show 0 ≤ a0 by omega)
    have hs : -1000 ≤ a1 ∧ a1 ≤ 1000 := by omega
    have hN2 : 2 ≤ N := by omega
    have hN60 : N ≤ 60 := by omega
    have g1 : ¬ (N : Int) < 2 := by omega
    have g2 : ¬ (60 : Int) < (N : Int) := by omega
    have g3 : ¬ a1 < -1000 := by omega
    have g4 : ¬ 1000 < a1 := by omega
    have HS := Lib.hid hs
    clear g h0 h1
    go_enter Tryd.func3, Tryd.ntmps3
    go_upto_block 0 with fail
    go_cut [9, 10] (fun ov _ wx => wx.ownsRow w.heap.size 29 2 ov N ((lineL a1 N).flatMap RPoint.cells) ∧ Below w.heap.size w wx)
    case first =>
      go_wp2_with fail
      go_loopw [9, 10] (fun ov iv wr => ∃ i : Nat, iv = .int .i64 i ∧ i ≤ N ∧ wr.ownsRow w.heap.size 29 2 ov i ((lineL a1 i).flatMap RPoint.cells) ∧ Below w.heap.size w wr) (fun _ iv _ => N - (intOf iv).toNat)
      case atStart => exact ⟨0, rfl, by omega, own_nil _ _ _ _, Below.refl _ _⟩
      case round =>
        obtain ⟨i, rfl, hi', ho, hB⟩ := hrel
        have HO := Lib.hid ho
        have HB := Lib.hid hB
        have hzw := hB.size
        clear ho hB
        by_cases d1 : i < N
        · have hbd := line_bd (s := a1) (i := i) HS.out (by omega)
          have hw1 := IntWalk.i64_in (a1 * (i : Int)) (by omega)
          have HSn := Lib.hid (lineL_snoc a1 i)
          obtain ⟨Y, hY⟩ : ∃ Y, a1 * (i : Int) = Y := ⟨_, rfl⟩
          rw [hY] at hw1 HSn
          have HY := Lib.hid hY
          have d1' : (i : Int) < (N : Int) := by omega
          clear hbd
          go_wp2_with (at_builtin; refine wpList_append_own _ rfl _ _ 27 rfl w.heap.size 29 i0 (.agg #[.int .i64 0, .int .i64 0]) 2 16 Tryd.underlying27 hi hz0 hz1 hz2 rfl (by decide) _ _ _ rfl (HO.out.alloc _) ⟨wr.heap.size, 0, none⟩ 1 1 (RPoint.cells ⟨i, Y⟩) rfl rfl (cell_newAt wr (RPoint.cells ⟨i, Y⟩) _ _ rfl) (point_one _) (by unfold maxLen; omega) (by omega) (by simp; omega) ?_; intro v' w1 ho1 hg1 _)
          have HB2 := Lib.hid (show Below w.heap.size w w1 from (HB.out.alloc hzw (.cells (RPoint.cells ⟨i, Y⟩).toArray 29)).grown hg1 (by simp; omega) (fun k hk => (HO.out.lt k hk).1))
          have HO2 := Lib.hid (show w1.ownsRow w.heap.size 29 2 v' (i + 1) ((lineL a1 (i + 1)).flatMap RPoint.cells) by rw [HSn.out]; simpa using ho1)
          clear ho1 hg1 hw1 hY
          go_wp2_with fail
          go_roundw
          case rel => exact ⟨i + 1, by go_num, by omega, HO2.out, HB2.out⟩
          case measure => go_light; simp [intOf]; omega
        · obtain rfl : i = N := by omega
          go_wp2_with fail
          go_meet
          case rel => exact ⟨HO.out, HB.out⟩
    case rest =>
    obtain ⟨ho, hB⟩ := hcut
    obtain ⟨w3, hw3⟩ : ∃ x : World, x = wc := ⟨_, rfl⟩
    subst hw3
    obtain ⟨A, c, rfl, hI⟩ := line_recs HS.out hN60 ho
    have HI := Lib.hid hI
    have HB3 := Lib.hid hB
    have hz3 := hB.size
    clear ho hI hB
    obtain ⟨m, rfl⟩ : ∃ m, N = m + 1 := ⟨N - 1, by omega⟩
    have hm1 : 1 ≤ m := by omega
    have HOk := Lib.hid (line_ok HS.out hN60)
    go_wp2_with fail
    refine (hull_Upper _ _ _ _ w3 HI.out).mono ?_
    rintro e w4 ⟨hb4, ⟨hc, rfl⟩ | ⟨-, cs, A', k', c', rfl, hJ, hH, -⟩⟩
    · exact absurd HOk.out hc
    have he := hull_one hH (line_hull a1 hm1)
    subst he
    obtain rfl : k' = 2 := by rw [← hJ.1]; rfl
    have HI4 := Lib.hid (HI.out.below hb4)
    have HB4 := Lib.hid (HB3.out.trans (hb4.mono hz3))
    have hz4 := HB4.out.size
    obtain ⟨b1, o1, rfl, hl1, hc1⟩ := hJ.2.2.2.2 (by omega)
    obtain ⟨b2, o2, rfl, hl2, hc2⟩ := HI4.out.2.2.2.2 (by omega)
    have x0 : w4.cell? ⟨b1, o1, none⟩ = some (.int .i64 0) := by have := hc1 0 ⟨0, 0⟩ rfl 0 _ rfl; simpa using this
    have x1 : w4.cell? ⟨b1, o1 + 1, none⟩ = some (.int .i64 0) := by have := hc1 0 ⟨0, 0⟩ rfl 1 _ rfl; simpa using this
    have x2 : w4.cell? ⟨b1, o1 + 2, none⟩ = some (.int .i64 m) := by have := hc1 1 ⟨(m : Int), a1 * (m : Int)⟩ rfl 0 _ rfl; simpa using this
    have x3 : w4.cell? ⟨b1, o1 + 2 + 1, none⟩ = some (.int .i64 (a1 * (m : Int))) := by have := hc1 1 ⟨(m : Int), a1 * (m : Int)⟩ rfl 1 _ rfl; simpa using this
    have y0 : w4.cell? ⟨b2, o2, none⟩ = some (.int .i64 0) := by have := hc2 0 _ (lineL_at (by omega)) 0 _ rfl; simpa using this
    have y1 : w4.cell? ⟨b2, o2 + 1, none⟩ = some (.int .i64 0) := by have := hc2 0 _ (lineL_at (by omega)) 1 _ rfl; simpa using this
    have y2 : w4.cell? ⟨b2, o2 + m * 2, none⟩ = some (.int .i64 m) := by have := hc2 m _ (lineL_at (by omega)) 0 _ rfl; simpa using this
    have y3 : w4.cell? ⟨b2, o2 + m * 2 + 1, none⟩ = some (.int .i64 (a1 * (m : Int))) := by have := hc2 m _ (lineL_at (by omega)) 1 _ rfl; simpa using this
    obtain ⟨Y, hY⟩ : ∃ Y, a1 * (m : Int) = Y := ⟨_, rfl⟩
    rw [hY] at x3 y3
    obtain ⟨N, hN⟩ : ∃ N, m + 1 = N := ⟨_, rfl⟩
    have HN := Lib.hid hN
    rw [hN] at HI HI4 ⊢
    have t0 : (0 : Int) < (N : Int) := by omega
    have t1 : (N : Int) - 1 = (m : Int) := by omega
    have t2 : (0 : Int) ≤ (m : Int) := by omega
    have t3 : (m : Int) < (N : Int) := by omega
    have t4 := IntWalk.i64_in (m : Int) (by omega)
    clear hb4 hJ hH hc1 hc2 HB3 hz3 hY hN
    go_wp2_with fail
    go_quiet (fail)
    clear x0 x1 x2 x3 y0 y1 y2 y3 t4
    go_wp2_with fail
    refine (hull_Over _ _ _ _ a2 _ (HI4.out.below (by exact (by repeat (first | with_reducible exact Below.refl _ _ | (with_reducible refine Below.alloc ?_ (by first | omega | (simp; done) | (simp; omega)) _) | (with_reducible refine Below.setCell ?_ (by first | omega | (simp; done) | (simp; omega)) _) | (with_reducible refine Below.drew ?_) | (with_reducible refine below_drewN ?_ _) | (with_reducible assumption) | (with_reducible refine bel_step (by with_reducible assumption) ?_ (by first | omega | (simp; done) | (simp; omega)))))))).mono ?_
    rintro e w5 ⟨v, k, rfl, hO, -, hb5⟩
    rw [← HN.out] at hO
    have HO := Lib.hid (line_over HS.out hm1 hN60 hO)
    have hb45 : Below w4.heap.size w4 w5 := by exact (by repeat (first | with_reducible exact Below.refl _ _ | (with_reducible refine Below.alloc ?_ (by first | omega | (simp; done) | (simp; omega)) _) | (with_reducible refine Below.setCell ?_ (by first | omega | (simp; done) | (simp; omega)) _) | (with_reducible refine Below.drew ?_) | (with_reducible refine below_drewN ?_ _) | (with_reducible assumption) | (with_reducible refine bel_step (by with_reducible assumption) ?_ (by first | omega | (simp; done) | (simp; omega)))))
    have HB5 := Lib.hid (HB4.out.trans (hb45.mono hz4))
    have HI5 := Lib.hid (HI4.out.below hb45)
    have hz5 := HB5.out.size
    obtain ⟨E1, hE1⟩ : ∃ E, errV k = E := ⟨_, rfl⟩
    rw [hE1]
    have HE1 := Lib.hid hE1
    clear hO hb5 hb45 hE1 HB4 HI4 hz4
    go_wp2_with fail
    refine (hull_Under _ _ _ _ a2 w5 HI5.out (by omega)).mono ?_
    rintro e w6 ⟨u, j, rfl, hU, hb6⟩
    rw [← HN.out] at hU
    have HU := Lib.hid (fun p q => line_under HS.out hm1 hN60 hU p q)
    have HB6 := Lib.hid (HB5.out.trans (hb6.mono hz5))
    have hz6 := HB6.out.size
    clear hU hb6 HB5 HI5 hz5
    rcases HO.out with ⟨hx, rfl⟩ | ⟨hx1, hx2, rfl, rfl⟩
    · have he1 : E1 = .iface 39 (.int .i64 1) := by rw [← HE1.out, errV_ne (by decide)]
      subst he1
      obtain ⟨E2, hE2⟩ : ∃ E, errV j = E := ⟨_, rfl⟩
      rw [hE2]
      have hx2 : a2 < 0 ∨ (¬ a2 < 0 ∧ (m : Int) + 1 ≤ a2) := by omega
      clear HE1 HU HO hE2 hx
      rcases hx2 with hx | ⟨hx, hx'⟩
      all_goals
        go_wp2_with fail
        refine (CE1.out w6 HB6.out).mono ?_
        rintro e w7 ⟨rfl, hb7⟩
        have HB7 := Lib.hid (HB6.out.trans (hb7.mono hz6))
        clear hb7
        go_wp2_with fail
        go_ret
        exact ⟨rfl, HB7.out⟩
    · have he1 : E1 = .nilIface := by rw [← HE1.out, errV_0]
      subst he1
      obtain ⟨rfl, hu⟩ := HU.out hx1 hx2
      rw [errV_0]
      obtain ⟨i, rfl⟩ := Int.eq_ofNat_of_zero_le hx1
      have hbd := line_bd (s := a1) (i := i) HS.out (by omega)
      have hw := IntWalk.i64_in (a1 * (i : Int)) (by omega)
      rw [hu]
      obtain ⟨Z, hZ⟩ : ∃ Z, a1 * (i : Int) = Z := ⟨_, rfl⟩
      rw [hZ] at hw ⊢
      have g5 : ¬ (i : Int) < 0 := by omega
      have g6 : ¬ (m : Int) + 1 ≤ (i : Int) := by omega
      have hw2 : IntKind.i64.wrap (a1 * (i : Int)) = Z := by rw [hZ]; exact hw
      clear HE1 HU HO hu hbd hZ hw
      go_wp2_with fail
      go_ret
      exact ⟨by simp, HB6.out⟩

set_option maxRecDepth 100000 in
theorem lifted (os : Os) (started : os.Started) (H : Type) (enc : TypeId × Value → H) :
    ReturnsInHanded {} Tryd.checked os 3 .any (fun w args => (Rows.hullLineSpec.pre enc Tryd.prog Tryd.f3 [] false w args ∧ laidMetH Tryd.prog laidList w) ∧ sizedMet enc Tryd.prog Tryd.f3 (OpenSpec.ofChange Rows.hullLineSpec) false w args)
      (Rows.hullLineSpec.post enc Tryd.prog Tryd.f3 false true false false) := by
  refine returnsInHanded_of_change_and (C := Tryd.checked) (X := fun w _ => laidMetH Tryd.prog laidList w) (fun _ _ _ hh h => h.of_heap hh) own started (by kernel_rfl) Tryd.func3
    (ChangeSpec.witness_at (enc := enc) (C := Tryd.checked) (os := os) (X := fun w _ => laidMetH Tryd.prog laidList w) false (laidWorld os) #[.int .i64 0, .int .i64 0, .int .i64 0] 8 rfl (by kernel_rfl) (by kernel_rfl) (by kernel_rfl) (by kernel_rfl) (by kernel_rfl) (laidWorld_met os _)) ?_
  intro W base args ds gs before hval0 hW hcnd hreach hL _
  have hval : ∀ (j : Nat) t v, Tryd.f3.params[j]? = some t → args[j]? = some v → Value.okWide Tryd.prog W .any base t v := hval0
  have hW' := hW
  obtain ⟨p, q, hA0, hV, rfl, hfz, hnd⟩ := hW
  have hA : DataW.TrodAll enc Tryd.prog W 0 (fun _ => true) true Tryd.f3.params.toList args.toList ds p := hA0
  rw [Tryd.params3] at hA hval
  obtain ⟨v0, vs0, d0, ds0, p0, q0, hargs, rfl, rfl, g0, r0⟩ := trodAll_cons hA
  obtain ⟨v1, vs1, d1, ds1, p1, q1, rfl, rfl, rfl, g1, r1⟩ := trodAll_cons r0
  obtain ⟨v2, vs2, d2, ds2, p2, q2, rfl, rfl, rfl, g2, r2⟩ := trodAll_cons r1
  obtain ⟨rfl, rfl, rfl⟩ := trodAll_nil r2
  obtain rfl : args = #[v0, v1, v2] := by cases args; simp_all
  have hV2 : DataW.TrodVars enc Tryd.prog W (fun _ => true) [] gs q := hV
  obtain ⟨rfl, rfl⟩ : gs = [] ∧ q = [] := by
    cases gs with
    | nil => exact ⟨rfl, hV2⟩
    | cons g r => exact absurd hV2 (by intro h; cases h)
  obtain ⟨a0, rfl, rfl, rfl, u0⟩ := open_int Tryd.underlying3 (hval 0 3 v0 rfl rfl) g0
  have h0 := bounds_i64 u0
  obtain ⟨a1, rfl, rfl, rfl, u1⟩ := open_int Tryd.underlying3 (hval 1 3 v1 rfl rfl) g1
  have h1 := bounds_i64 u1
  obtain ⟨a2, rfl, rfl, rfl, u2⟩ := open_int Tryd.underlying3 (hval 2 3 v2 rfl rfl) g2
  have h2 := bounds_i64 u2
  clear hA0 hval0
  refine (walk a0 a1 a2 W h0 h1 h2 (handle_of_laid hL)).mono fun e W' ⟨he, bel⟩ => ?_
  subst he
  exact ⟨_, rfl, _, _, _, [], _, [], hW', trodAll_mk1 (shut_bool Tryd.underlying4 _), (trodAll_cons_mk (shut_int Tryd.underlying3 u0) (trodAll_cons_mk (shut_int Tryd.underlying3 u1) (trodAll_cons_mk (shut_int Tryd.underlying3 u2) trodAll_mk0))), rfl, bel.frame _, fun h => by cases h⟩

theorem over : Rows.hullLineRow.holds Tryd.pinned (OpenSpec.ofChange Rows.hullLineSpec) :=
  OpenClaim.holds_of_wide 3 Tryd.f3 rfl rfl rfl rfl rfl rfl rfl ⟨rfl, rfl, rfl, rfl, rfl⟩ rfl rfl rfl rfl rfl (by kernel_rfl) Tryd.func3 (by kernel_rfl)
    (of_decide_eq_true (by kernel_rfl)) (by unfold Func.isWrapper; rw [if_neg (of_decide_eq_false (by kernel_rfl))]; exact ⟨rfl, rfl⟩)
    (fun os started H enc _ => lifted os started H enc)

theorem card : Rows.HullLineCardSaid :=
  Claim7.holds_tied_plain_at .later [] [.handle] true (true, Rows.hullLineCard.stood.harness.2) true
    over (fun _ h => by cases h) (by kernel_rfl) (fun _ h => by cases h) hullLine_row_tie rfl ⟨rfl, rfl⟩ (by kernel_rfl) rfl
    (fun f fn hf hfn => by
      obtain rfl : f = 3 := Option.some.inj ((show Tryd.prog.funcNamed "noonmark/noonlaw4.HullLine" = some 3 by kernel_rfl).symm.trans hf) |>.symm
      obtain rfl : fn = Tryd.f3 := (Option.some.inj (Tryd.func3.symm.trans hfn)).symm
      exact ⟨by kernel_rfl, fun j t ht => by
        rw [Tryd.params3] at ht
        exact noStandIn (ps := #[3, 3, 3]) (by kernel_rfl) ht⟩)
    (by kernel_rfl)

