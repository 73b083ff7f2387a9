/- The reference's smeared time, walked. -/
import Derived.Test.YtcigoleplhdlaaaDoorRLeap2
namespace Go.Proofs.YtcigoleplhdlaaaDoor
open Go.RowKit
set_option linter.unusedVariables false
set_option linter.unusedSimpArgs false
set_option maxRecDepth 100000 in
set_option maxHeartbeats 8000000 in
theorem r_Smear (A : Option Addr) (n c : Nat) (zs : List RLeap) (t d : Int) (w : World) (h : IsRecs w RLeap.cells RLeap.ok 2 A n c zs) (hg : LeapGood zs) (h0 : 0 ≤ d) (h1 : d ≤ 84005) (k1 : beginL zs d ≤ t) (k2 : t < beginL zs (d + 1)) :
    Calls Tryd.prog 36 #[.slice A n c, .int .i64 t] w fun e w' => e = .returned (.int .i64 (smearV zs t d)) ∧ Below w.heap.size w w' := by
  have hnn : n ≤ 20 := by have := h.1; have := hg.len; omega
  have hcc := h.2.2.1
  unfold maxLen at hcc
  have hncc := h.2.1
  have C1 := Lib.hid (fun w' (hb : Below w.heap.size w w') => r_DayOf A n c zs t d w' (h.below hb) hg h0 h1 k1 k2)
  have C2 := Lib.hid (fun d' w' (hb : Below w.heap.size w w') a b => r_Begin A n c zs d' w' (h.below hb) hg a b)
  have C3 := Lib.hid (fun d' w' (hb : Below w.heap.size w w') => r_More A n c zs d' w' (h.below hb) hg)
  have C4 := Lib.hid (fun d' w' (hb : Below w.heap.size w w') => r_Long A n c zs d' w' (h.below hb) hg)
  obtain ⟨t0, t1⟩ := n_bd hg h0 h1 k1 k2
  have H1 := Lib.hid h.1
  have H5 := Lib.hid h.2.2.2.2
  have HG := Lib.hid hg
  clear h hg k1 k2
  go_enter Tryd.func36, Tryd.ntmps36
  go_wp2_with fail
  go_loop [4, 5, 6, 7] (fun _ iv _ _ => ∃ (i : Nat), i ≤ n ∧ iv = .int .i64 i ∧ (zs.drop i).find? (inL zs t) = zs.find? (inL zs t)) (fun _ iv _ _ => n - (intOf iv).toNat)
  case atStart => exact ⟨0, by omega, rfl, rfl⟩
  case round =>
    obtain ⟨i, hi, rfl, hI⟩ := hrel
    by_cases d1 : i < n
    · obtain ⟨b, off, rfl, hbl, hc⟩ := H5.out (by omega)
      obtain ⟨z, hz⟩ : ∃ z, zs[i]? = some z := ⟨_, List.getElem?_eq_getElem (by rw [H1.out]; omega)⟩
      have x0 := hc i z hz 0 _ rfl
      simp only [Nat.add_zero] at x0
      have hfs := find_step (p := inL zs t) hz
      rw [hI] at hfs
      have HF := Lib.hid hfs
      have hzd := chkL_mem HG.out.chk z (List.mem_of_getElem? hz)
      have hat := atL_mem HG.out (List.mem_of_getElem? hz)
      have hlo := longL_at zs z.day
      rw [hat] at hlo
      have hbb := beginL_bd HG.out z.day
      have hby := byL_bd z
      have hbe : beginL zs z.day = 86400 * z.day + moreL zs z.day := rfl
      obtain ⟨B, eB⟩ : ∃ B, beginL zs z.day = B := ⟨_, rfl⟩
      obtain ⟨Y, eY⟩ : ∃ B, byL z = B := ⟨_, rfl⟩
      obtain ⟨M, eM⟩ : ∃ B, moreL zs z.day = B := ⟨_, rfl⟩
      obtain ⟨W, eW⟩ : ∃ B, longL zs z.day = B := ⟨_, rfl⟩
      have C5 := fun w' hb => C2.out z.day w' hb (by omega) (by omega)
      have C6 := fun w' hb => C4.out z.day w' hb
      rw [eW] at C6 hlo
      rw [eY] at hby hlo
      rw [eB] at C5 hbb hbe
      rw [eM] at hbe
      have EB := Lib.hid eB
      have EY := Lib.hid eY
      have EM := Lib.hid eM
      have C5 := Lib.hid C5
      have C6 := Lib.hid C6
      obtain ⟨D, eD⟩ : ∃ D, z.day = D := ⟨_, rfl⟩
      rw [eD] at x0 C5 C6 hzd hbb hbe
      obtain ⟨zd1, zd2, _⟩ := hzd
      obtain ⟨bb1, bb2⟩ := hbb
      obtain ⟨by1, by2⟩ := hby
      have B0 : -20 ≤ B := by omega
      have B1 : B ≤ 7258118420 := by omega
      have W0 : 86399 ≤ W := by omega
      have W1 : W ≤ 86401 := by omega
      have HBE := Lib.hid hbe
      have HLO := Lib.hid hlo
      have y1 : (i : Int) < (n : Int) := by omega
      have y2 : (0 : Int) ≤ (i : Int) := by omega
      clear hc hz hI hfs eB eY eM eD eW bb1 bb2 hat hlo hbe by1 by2
      by_cases c1 : 0 ≤ t - (B + 43200)
      · by_cases c2 : t - (B + 43200) < W
        · have HIn := Lib.hid (show inL zs t z = true by unfold inL fromL wideL; rw [EB.out, EY.out]; have := HLO.out; simp; omega)
          have HV := Lib.hid (show smearV zs t d = 1000 * (86400 * D + 43200) + 86400000 * (t - (B + 43200)) / W by
            have hf := HF.out
            rw [HIn.out, if_pos rfl] at hf
            unfold smearV
            rw [hf]
            show 1000 * (fromL zs z - moreL zs z.day) + 86400000 * (t - fromL zs z) / wideL z = _
            unfold fromL wideL
            rw [EB.out, EY.out, EM.out, ← HLO.out, HBE.out]
            congr 1
            omega)
          obtain ⟨K, eK⟩ : ∃ K, t - (B + 43200) = K := ⟨_, rfl⟩
          rw [eK] at c1 c2 HV
          have p8 : 0 ≤ 86400000 * K := by omega
          obtain ⟨Q, eQ⟩ : ∃ Q, 86400000 * K / W = Q := ⟨_, rfl⟩
          have hQ : 0 ≤ Q ∧ Q ≤ 7464960000000 := by
            rw [← eQ]
            exact ⟨Int.ediv_nonneg p8 (by omega), Int.le_trans (Int.ediv_le_self _ p8) (by omega)⟩
          obtain ⟨Q0, Q1⟩ := hQ
          rw [eQ] at HV
          have p1 := IntWalk.i64_in (86400 * D) (by omega)
          have p2 := IntWalk.i64_in (86400 * D + 43200) (by omega)
          have p3 := IntWalk.i64_in (1000 * (86400 * D + 43200)) (by omega)
          have p4 := IntWalk.i64_in (86400000 * K) (by omega)
          have p5 := IntWalk.i64_in (1000 * (86400 * D + 43200) + Q) (by omega)
          have p6 : (86400000 * K).tdiv W = Q := by rw [Int.tdiv_eq_ediv_of_nonneg p8]; exact eQ
          have p7 : ((W == 0) : Bool) = false := by simp; omega
          have p9 := IntWalk.i64_in Q (by omega)
          clear eQ
          go_wp2_with fail
          refine (C5.out _ (Below.refl _ _)).mono ?_
          rintro e w' ⟨rfl, rfl⟩
          go_wp2_with fail
          refine (C6.out _ (Below.refl _ _)).mono ?_
          rintro e w' ⟨rfl, rfl⟩
          go_wp2_with fail
          go_quiet ((go_at_call 59; exact quiet_left (C6.out _ (by repeat (first | with_reducible exact Below.refl _ _ | (with_reducible refine Below.alloc ?_ (by first | omega | (simp; done) | (simp; omega)) _) | (with_reducible refine Below.setCell ?_ (by first | omega | (simp; done) | (simp; omega)) _) | (with_reducible refine Below.drew ?_) | (with_reducible refine below_drewN ?_ _) | (with_reducible assumption) | (with_reducible refine bel_step (by with_reducible assumption) ?_ (by first | omega | (simp; done) | (simp; omega))))))))
          go_wp2_with fail
          go_ret
          exact ⟨by rw [HV.out]; rfl, (by repeat (first | with_reducible exact Below.refl _ _ | (with_reducible refine Below.alloc ?_ (by first | omega | (simp; done) | (simp; omega)) _) | (with_reducible refine Below.setCell ?_ (by first | omega | (simp; done) | (simp; omega)) _) | (with_reducible refine Below.drew ?_) | (with_reducible refine below_drewN ?_ _) | (with_reducible assumption) | (with_reducible refine bel_step (by with_reducible assumption) ?_ (by first | omega | (simp; done) | (simp; omega)))))⟩
        · have HN := Lib.hid (show inL zs t z = false by unfold inL fromL wideL; rw [EB.out, EY.out]; have := HLO.out; simp; omega)
          have HS := HF.out
          rw [HN.out, if_neg (by simp)] at HS
          have HS := Lib.hid HS
          go_wp2_with fail
          refine (C5.out _ (Below.refl _ _)).mono ?_
          rintro e w' ⟨rfl, rfl⟩
          go_wp2_with fail
          refine (C6.out _ (Below.refl _ _)).mono ?_
          rintro e w' ⟨rfl, rfl⟩
          go_wp2_with fail
          go_round
          case rel => exact ⟨i + 1, by omega, by go_num, HS.out.symm⟩
          case measure => simp [intOf]; omega
      · have HN := Lib.hid (show inL zs t z = false by unfold inL fromL wideL; rw [EB.out, EY.out]; simp; omega)
        have HS := HF.out
        rw [HN.out, if_neg (by simp)] at HS
        have HS := Lib.hid HS
        go_wp2_with fail
        refine (C5.out _ (Below.refl _ _)).mono ?_
        rintro e w' ⟨rfl, rfl⟩
        go_wp2_with fail
        go_round
        case rel => exact ⟨i + 1, by omega, by go_num, HS.out.symm⟩
        case measure => simp [intOf]; omega
    · have : i = n := by omega
      subst this
      rw [List.drop_of_length_le (by rw [H1.out]; omega)] at hI
      have HV := Lib.hid (show smearV zs t d = 1000 * (t - moreL zs d) by unfold smearV; rw [← hI]; rfl)
      have hmo := moreL_bd zs d
      have hle := HG.out.len
      have C6 := fun w' hb => C3.out d w' hb
      obtain ⟨M, eM⟩ : ∃ B, moreL zs d = B := ⟨_, rfl⟩
      rw [eM] at HV hmo C6
      obtain ⟨mo1, mo2⟩ := hmo
      have M0 : -20 ≤ M := by omega
      have M1 : M ≤ 20 := by omega
      have C6 := Lib.hid C6
      clear eM mo1 mo2 hle hI
      go_wp2_with fail
      refine (C1.out _ (Below.refl _ _)).mono ?_
      rintro e w' ⟨rfl, rfl⟩
      go_wp2_with fail
      refine (C6.out _ (Below.refl _ _)).mono ?_
      rintro e w' ⟨rfl, rfl⟩
      go_wp2_with fail
      go_ret
      exact ⟨by rw [HV.out]; rfl, Below.refl _ _⟩
end Go.Proofs.YtcigoleplhdlaaaDoor
