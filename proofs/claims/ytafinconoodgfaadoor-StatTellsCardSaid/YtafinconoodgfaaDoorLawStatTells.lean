/- Proved: noonlaw3.StatTells answers true for every input and leaves its arguments as they were. No condition. -/
import Derived.Test.YtafinconoodgfaaDoorDoor
import Derived.Test.YtafinconoodgfaaDoorStatR
import Derived.Test.YtafinconoodgfaaDoorSame
import Derived.Deep.DeepCutAuto
import Derived.Deep.CutBlock
import Derived.Deep.AppendLies
import Derived.Deep.RegionLaw
import Derived.Deep.Light
import Derived.Deep.RegionHeld3
namespace Go.Proofs.YtafinconoodgfaaDoor.lStatTells
open Go.ChangeShapes Go.WideShapes Go.ChangeAt Go.RowKit
set_option linter.unusedVariables false
set_option linter.unusedSimpArgs false
theorem absI {m d W : Int} (h : W = m) : max (max W d) (-d) = if d < 0 then (if W < -d then -d else W) else (if W < d then d else W) := by
  by_cases h1 : d < 0
  · rw [if_pos h1]; split <;> omega
  · rw [if_neg h1]; split <;> omega
set_option maxRecDepth 100000 in
set_option maxHeartbeats 32000000 in
theorem walk (a0 : Option Addr) (n0 c0 : Nat) (z0 : List RSpan) (a1 : Option Addr) (n1 c1 : Nat) (z1 : List Int) (a2 : Int) (w : World) (h0 : IsRecs w RSpan.cells RSpan.ok 2 a0 n0 c0 z0) (h1 : IsInts w a1 n1 c1 z1) (h2 : -9223372036854775808 ≤ a2 ∧ a2 ≤ 9223372036854775807) (hg : HandleAt w) :
    Calls Tryd.prog 3 #[.slice a0 n0 c0, .slice a1 n1 c1, .int .i64 a2] w fun e w' => e = .returned (.bool true) ∧ Below w.heap.size w w' := by
  obtain ⟨i0, hi, hz0, hz1, hz2⟩ := info_parts infoI
  have HG := Lib.hid hg
  have CS := Lib.hid (fun w' (hb : Below w.heap.size w w') => r1_Spans a0 n0 c0 z0 w' (h0.below hb))
  have CW := Lib.hid (fun w' (hb : Below w.heap.size w w') => stat_Widths a0 n0 c0 z0 w' (h0.below hb))
  have CN := Lib.hid (fun w' (hb : Below w.heap.size w w') => r2_Numbers a1 n1 c1 z1 w' (h1.below hb))
  have CO := Lib.hid (fun h w' (hb : Below w.heap.size w w') => r2_Sorted a1 n1 c1 z1 w' (h1.below hb) h)
  have CA := Lib.hid (fun h w' (hb : Below w.heap.size w w') => r2_Mean a1 n1 c1 z1 w' (h1.below hb) h)
  have C1 := Lib.hid (fun w' (hb : Below w.heap.size w w') => stat_Median a1 n1 c1 z1 w' (h1.below hb))
  have C2 := Lib.hid (fun w' (hb : Below w.heap.size w w') => stat_Mean a1 n1 c1 z1 w' (h1.below hb))
  have C3 := Lib.hid (fun w' (hb : Below w.heap.size w w') => stat_Wander a1 n1 c1 a2 z1 w' (h1.below hb))
  obtain ⟨l1, l2, l3, l4, l5⟩ := h0
  obtain ⟨m1, m2, m3, m4, m5⟩ := h1
  unfold maxLen at l3 m3
  have L1 := Lib.hid l1
  have L5 := Lib.hid l5
  have M1 := Lib.hid m1
  have M5 := Lib.hid m5
  have P0 := Lib.hid (fun h => spansC_0 (zs := z0) h)
  have P1 := Lib.hid (fun h => numsC_0 (l := z1) h)
  have PW := Lib.hid (show (spansC z0 = 0 → widR z0 = widL z0) ∧ (spansC z0 ≠ 0 → widR z0 = []) from ⟨fun h => if_pos h, fun h => if_neg h⟩)
  have PM := Lib.hid (show (numsC z1 = 0 → midR z1 = (sortI z1).getD ((n1 - 1) / 2) 0 ∧ meanR z1 = meanV z1) ∧ (numsC z1 ≠ 0 → midR z1 = 0 ∧ meanR z1 = 0) from ⟨fun h => by unfold midR meanR midV; rw [if_pos h, if_pos h, m1]; exact ⟨rfl, rfl⟩, fun h => by unfold midR meanR; rw [if_neg h, if_neg h]; exact ⟨rfl, rfl⟩⟩)
  have PC := Lib.hid (show wanC z1 a2 = (if numsC z1 = 0 then (if 1 ≤ a2 ∧ a2 < (n1 : Int) then 0 else 1) else numsC z1) from by unfold wanC; rw [m1])
  have PR := Lib.hid (show (wanC z1 a2 = 0 → wanR z1 a2 = wanU z1 a2.toNat (n1 - a2.toNat)) ∧ (wanC z1 a2 ≠ 0 → wanR z1 a2 = 0) from ⟨fun h => by unfold wanR; rw [if_pos h, m1], fun h => if_neg h⟩)
  obtain ⟨E1, hE1⟩ : ∃ v, spansC z0 = v := ⟨_, rfl⟩
  obtain ⟨E2, hE2⟩ : ∃ v, numsC z1 = v := ⟨_, rfl⟩
  obtain ⟨E3, hE3⟩ : ∃ v, wanC z1 a2 = v := ⟨_, rfl⟩
  obtain ⟨V1, hV1⟩ : ∃ v, midR z1 = v := ⟨_, rfl⟩
  obtain ⟨V2, hV2⟩ : ∃ v, meanR z1 = v := ⟨_, rfl⟩
  obtain ⟨V3, hV3⟩ : ∃ v, wanR z1 a2 = v := ⟨_, rfl⟩
  rw [hE1] at CS CW P0 PW
  rw [hE2] at CN P1 PM PC
  simp only [hE2] at CA C1 C2
  simp only [hE3, hV3] at C3
  rw [hE3] at PC PR
  rw [hV3] at PR
  simp only [hV1] at C1 PM
  simp only [hV2] at C2 PM
  clear hg l1 l4 l5 m1 m4 m5 hE1 hE2 hE3 hV1 hV2 hV3
  go_enter Tryd.func3, Tryd.ntmps3
  go_wp2_with fail
  refine (CS.out _ (Below.refl _ _)).mono ?_
  rintro e w1 ⟨rfl, hb1⟩
  have HB1 := Lib.hid hb1
  clear hb1
  go_upto_block 0 with fail
  go_cut [8] (fun v wx => ∃ A m d, v = .slice A m d ∧ IsInts wx A m d (widR z0) ∧ Below w.heap.size w wx)
  case first =>
    as_aux_lemma =>
      by_cases e0 : E1 = 0
      · obtain ⟨p1, p2, p3⟩ := P0.out e0
        have P3 := Lib.hid p3
        have HW := Lib.hid (PW.out.1 e0)
        rw [L1.out] at p1 p2
        subst e0
        clear p3 PW PM PC PR P0 P1 C1 C2 C3 CA CO CN CW CS M5 M1
        go_wp2_with fail
        go_loopw [8, 9] (fun ov kv wr => ∃ (k : Nat) (ys : List Int), kv = .int .i64 k ∧ k ≤ n0 ∧ ys = widL (z0.take k) ∧ ys.length = k ∧ wr.ownsRow w.heap.size 3 1 ov ys.length (ys.flatMap intCells) ∧ Below w.heap.size w wr) (fun _ kv _ => n0 - (intOf kv).toNat)
        case atStart => exact ⟨0, [], rfl, by omega, rfl, rfl, own_nil _ _ _ _, HB1.out⟩
        case round =>
          obtain ⟨k, ys, rfl, hk, hys, hlen, ho, hB⟩ := hrel
          have HO := Lib.hid ho
          have HB := Lib.hid hB
          have HY := Lib.hid hys
          have hzw := hB.size
          clear ho hys HB1
          by_cases d1 : k < n0
          · obtain ⟨b, off, rfl, hb, hc⟩ := L5.out (by omega)
            obtain ⟨z, hz⟩ : ∃ z, z0[k]? = some z := ⟨_, List.getElem?_eq_getElem (by rw [L1.out]; omega)⟩
            have x0 : wr.cell? ⟨b, off + k * 2, none⟩ = some (.int .i64 z.lo) := (hB.cell (p := ⟨b, off + k * 2, none⟩) hb).trans (hc k z hz 0 _ rfl)
            have x1 : wr.cell? ⟨b, off + k * 2 + 1, none⟩ = some (.int .i64 z.hi) := (hB.cell (p := ⟨b, off + k * 2 + 1, none⟩) hb).trans (hc k z hz 1 _ rfl)
            have HY2 := Lib.hid (wid_snoc hz)
            have hr := rightB_iff.1 (P3.out z (List.mem_of_getElem? hz))
            have hw1 := IntWalk.i64_in (z.hi - z.lo) (by omega)
            have k0 : (0 : Int) ≤ (k : Int) := by omega
            have k1 : (k : Int) < (n0 : Int) := by omega
            clear hc hz hB hr
            go_wp2_with fail
            have HK := Lib.hid (show k + 1 ≤ n0 by omega)
            have HLn := Lib.hid (show (ys ++ [z.hi - z.lo]).length = k + 1 by rw [List.length_append, hlen]; rfl)
            have B0 := Lib.hid (show w.heap.size ≤ wr.heap.size + 1 by omega)
            have B1 := Lib.hid (show w.heap.size ≤ (wr.alloc (.cells #[.int .i64 (z.hi - z.lo)] 3)).drew.heap.size by simp; omega)
            have B2 := Lib.hid (show ys.length + 1 ≤ maxLen by unfold maxLen; omega)
            have B3 := Lib.hid (show (ys.length + 1) * 8 ≤ 140737488355328 by omega)
            have KP := Lib.hid (fun w' (h : Below w.heap.size wr w') => And.intro ((h.cell (p := ⟨b, off + k * 2, none⟩) hb).trans x0) ((h.cell (p := ⟨b, off + k * 2 + 1, none⟩) hb).trans x1))
            go_region_held3 (fun w' => w'.cell? ⟨b, off + k * 2, none⟩ = some (.int .i64 z.lo) ∧ w'.cell? ⟨b, off + k * 2 + 1, none⟩ = some (.int .i64 z.hi)) (first | exact ⟨x0, x1⟩ | exact KP.out _ ((Below.refl _ wr).alloc hzw _) | exact KP.out _ ((Below.refl _ wr).alloc hzw _).drew | exact KP.out _ (((Below.refl _ wr).alloc hzw _).drew.grown hg1 (by simp; exact B0.out) (fun k hk => (HO.out.lt k hk).1)) | exact KP.out _ (((Below.refl _ wr).alloc hzw _).grown hg1 (by simp; exact B0.out) (fun k hk => (HO.out.lt k hk).1))) (first | (refine step_append_lies _ rfl _ _ 23 rfl w.heap.size 3 i0 (.int .i64 0) 1 8 Tryd.underlying23 hi hz0 hz1 hz2 rfl (by decide) u8 ys.length (ys.flatMap intCells) (by simp [Act.eval, Act.put]) (HO.out.alloc _) ⟨wr.heap.size, 0, none⟩ 1 1 (intCells (z.hi - z.lo)) (by simp [Act.eval, Act.put]) rfl (by exact cell_newAt wr (intCells (z.hi - z.lo)) _ _ rfl) (int_one _) (by decide) B2.out B3.out (by simp; exact B0.out) _ rfl ?_; intro gg cap w3 ho1 hg1 _ _))
            all_goals
              clear hw1 x0 x1 k0 k1
              have HB2 := Lib.hid (show Below w.heap.size w w3 from ((HB.out.alloc hzw _).drew).grown hg1 B1.out (fun k hk => (HO.out.lt k hk).1))
              have hq := own_snoc intCells (z := z.hi - z.lo) ho1
              rw [hlen] at hq
              have HO2 := Lib.hid hq
              clear ho1 hg1 hq
              as_aux_lemma =>
                go_wp2_with fail
                go_roundw
                case rel => exact ⟨k + 1, ys ++ [z.hi - z.lo], by go_num, HK.out, by rw [HY2.out, HY.out], HLn.out, HO2.out, HB2.out⟩
                case measure => go_light; simp [intOf]; omega
          · obtain rfl : k = n0 := by omega
            have hy : ys = widR z0 := by rw [HW.out, HY.out, List.take_of_length_le (by rw [L1.out]; omega)]
            have hok := wid_ok P3.out
            rw [← HW.out] at hok
            subst hy
            obtain ⟨B, m, d, rfl, hI⟩ := own_isInts' HO.out hok
            have HI := Lib.hid hI
            clear HO hI hlen hB hok
            go_wp2_with fail
            go_meet
            case rel => exact ⟨B, m, d, rfl, HI.out, HB.out⟩
      · have e9 : decide (E1 = 0) = false := by simpa using e0
        have e8 : (E1 == 0) = false := by simpa using e0
        have HW := Lib.hid (PW.out.2 e0)
        clear PW PM PC PR P0 P1 C1 C2 C3 CA CO CN CW CS M5 M1
        go_wp2_with fail
        refine wp_loop_rounds 1 ?_
        rw [rounds_succ]
        have kk : 0 < n0 ∨ ¬ 0 < n0 := by omega
        rcases kk with kk | kk
        all_goals
          go_wp2_with fail
          go_meet
          case rel => exact ⟨none, 0, 0, rfl, by rw [HW.out]; exact nil_ints _ _ (by unfold maxLen; omega), HB1.out⟩
  case rest =>
    obtain ⟨A, m, d, rfl, hI, hb⟩ := hcut
    have HI := Lib.hid hI
    have HB2 := Lib.hid hb
    obtain ⟨wa, hwa⟩ : ∃ v, wc = v := ⟨_, rfl⟩
    subst hwa
    clear hI hb HB1 L5 L1 P0 PW l2 l3 CS
    go_wp2_with fail
    refine (CW.out _ HB2.out).mono ?_
    rintro e w3 ⟨B, m', d', rfl, hJ, hb3⟩
    have HB3 := Lib.hid (HB2.out.trans (hb3.mono HB2.out.size))
    have HI3 := Lib.hid (HI.out.below hb3)
    have HJ := Lib.hid hJ
    clear hb3 hJ HI CW
    go_wp2_with fail
    refine (Error_any E1 E1 _ (HG.out.below HB3.out)).mono ?_
    rintro e w4 ⟨rfl, hb4⟩
    have HB4 := Lib.hid (HB3.out.trans (hb4.mono HB3.out.size))
    have HI4 := Lib.hid (HI3.out.below hb4)
    have HJ4 := Lib.hid (HJ.out.below hb4)
    clear hb4 HI3 HJ
    rw [beq_self_eq_true E1]
    go_wp2_with fail
    refine (same_Ints _ _ _ _ _ _ _ _ HJ4.out HI4.out).mono ?_
    rintro e w5 ⟨rfl, hb5⟩
    have HB5 := Lib.hid (HB4.out.trans (hb5.mono HB4.out.size))
    clear hb5 HI4 HJ4
    go_wp2_with fail
    refine (CN.out _ HB5.out).mono ?_
    rintro e w' ⟨rfl, rfl⟩
    go_upto_if 63 with fail
    go_cut [14, 15] (fun a b wx => a = .int .i64 V1 ∧ b = .int .i64 V2 ∧ Below w.heap.size w wx)
    case first =>
      as_aux_lemma =>
        by_cases e0 : E2 = 0
        · obtain ⟨p1, p2, p3⟩ := P1.out e0
          have HP := Lib.hid (PM.out.1 e0)
          have COs := Lib.hid (CO.out (by rw [M1.out] at p1; exact p1) _ HB5.out)
          have CAs := Lib.hid (fun w' (hb : Below w.heap.size w w') => CA.out e0 w' hb)
          rw [M1.out] at p1 p2
          subst e0
          have hsl : (sortI z1).length = n1 := by rw [sortI_len, M1.out]
          obtain ⟨K, hK⟩ : ∃ K : Nat, (n1 - 1) / 2 = K := ⟨_, rfl⟩
          have kk : Int.tdiv ((n1 : Int) - 1) 2 = (K : Int) := by rw [Int.tdiv_eq_ediv_of_nonneg (by omega)]; omega
          have k1 : K < n1 := by omega
          rw [hK] at HP
          clear PM PC PR P1 C1 C2 C3 CA CO CN M5 M1 p3 hK
          go_wp2_with fail
          refine COs.out.mono ?_
          rintro e w6 ⟨v, rfl, ho, hb6⟩
          obtain ⟨q, cap, rfl, q1, q2, q3, q4, q5⟩ := own_ints ho (by omega)
          have x0 := q5 K _ (by rw [List.getElem?_eq_getElem (by omega : K < (sortI z1).length)])
          have HB6 := Lib.hid (HB5.out.trans (hb6.mono HB5.out.size))
          have hV : (sortI z1)[K]'(by omega) = V1 := by rw [HP.out.1, List.getD_eq_getElem?_getD, List.getElem?_eq_getElem (by omega : K < (sortI z1).length)]; rfl
          rw [hV] at x0
          clear hV
          rw [hsl] at q3
          unfold maxLen at q4
          have k2 : (0 : Int) ≤ (K : Int) := by omega
          have k3 : (K : Int) < (n1 : Int) := by omega
          rw [hsl]
          clear ho hb6 q5 COs hsl
          go_wp2_with fail
          refine (CAs.out _ HB6.out).mono ?_
          rintro e w' ⟨rfl, rfl⟩
          go_wp2_with fail
          go_meet
          case rel => exact ⟨rfl, by rw [HP.out.2], HB6.out⟩
        · have HP := Lib.hid (PM.out.2 e0)
          have e9 : decide (E2 = 0) = false := by simpa using e0
          have e8 : (E2 == 0) = false := by simpa using e0
          clear PM PC PR P1 C1 C2 C3 CA CO CN M5 M1
          go_wp2_with fail
          go_meet
          case rel => exact ⟨by rw [HP.out.1], by rw [HP.out.2], HB5.out⟩
    case rest =>
      obtain ⟨rfl, rfl, hb6⟩ := hcut
      have HB6 := Lib.hid hb6
      clear hb6
      clear HB5 CN PM CO CA
      go_wp2_with fail
      refine (C1.out _ HB6.out).mono ?_
      rintro e w7 ⟨rfl, hb7⟩
      have HB7 := Lib.hid (HB6.out.trans (hb7.mono HB6.out.size))
      clear hb7 C1
      go_wp2_with fail
      refine (Error_any E2 E2 _ (HG.out.below HB7.out)).mono ?_
      rintro e w8 ⟨rfl, hb8⟩
      have HB8 := Lib.hid (HB7.out.trans (hb8.mono HB7.out.size))
      clear hb8
      rw [beq_self_eq_true E2]
      go_wp2_with fail
      refine (C2.out _ HB8.out).mono ?_
      rintro e w' ⟨rfl, rfl⟩
      go_wp2_with fail
      refine (Error_any E2 E2 _ (HG.out.below HB8.out)).mono ?_
      rintro e w9 ⟨rfl, hb9⟩
      have HB9 := Lib.hid (HB8.out.trans (hb9.mono HB8.out.size))
      clear hb9 C2
      rw [beq_self_eq_true E2]
      have hp := PC.out
      by_cases e0 : E2 = 0
      · rw [if_pos e0] at hp
        subst e0
        by_cases dd : 1 ≤ a2 ∧ a2 < (n1 : Int)
        · rw [if_pos dd] at hp
          subst hp
          have d0 : decide (a2 < 1) = false := by simp; omega
          have d2 : decide ((n1 : Int) ≤ a2) = false := by simp; omega
          obtain ⟨p1, p2, p3⟩ := P1.out rfl
          have HP := Lib.hid (PR.out.1 rfl)
          have P3 := Lib.hid p3
          rw [M1.out] at p1 p2
          obtain ⟨M, rfl⟩ : ∃ M : Nat, a2 = M := ⟨a2.toNat, by omega⟩
          have d3 : decide (n1 ≤ M) = false := by simp; omega
          have d4 : decide (M = 0) = false := by simp; omega
          clear PR P1 PC p3
          as_aux_lemma =>
            go_upto_block 2 with fail
            go_cut [19] (fun u wx => u = .int .i64 V3 ∧ Below w.heap.size w wx)
            case first =>
              as_aux_lemma =>
                go_wp2_with fail
                go_loopw [19, 20] (fun mv kv wr => ∃ (k : Nat) (W : Int), kv = .int .i64 ((M + k : Nat) : Int) ∧ mv = .int .i64 W ∧ M + k ≤ n1 ∧ W = wanU z1 M k ∧ (0 ≤ W ∧ W ≤ 2000000000000) ∧ ∃ q, wr = w9.drewN q) (fun _ kv _ => n1 - (intOf kv).toNat)
                case atStart => exact ⟨0, 0, rfl, rfl, by omega, rfl, by omega, 0, rfl⟩
                case round =>
                  obtain ⟨k, W, rfl, rfl, hk, hS, hB, q, rfl⟩ := hrel
                  have HS := Lib.hid hS
                  clear hS
                  obtain ⟨i, hi⟩ : ∃ i, M + k = i := ⟨_, rfl⟩
                  rw [hi]
                  rw [hi] at hk
                  by_cases d1 : i < n1
                  · obtain ⟨b, off, rfl, hb, hcx⟩ := M5.out (by omega)
                    obtain ⟨x, hx⟩ : ∃ x, z1[i]? = some x := ⟨_, List.getElem?_eq_getElem (by rw [M1.out]; omega)⟩
                    obtain ⟨y, hy⟩ : ∃ y, z1[k]? = some y := ⟨_, List.getElem?_eq_getElem (by rw [M1.out]; omega)⟩
                    have x0 : w9.cell? ⟨b, off + i, none⟩ = some (.int .i64 x) := (HB9.out.cell (p := ⟨b, off + i, none⟩) hb).trans (by have := hcx i x hx 0 _ rfl; simpa using this)
                    have y0 : w9.cell? ⟨b, off + k, none⟩ = some (.int .i64 y) := (HB9.out.cell (p := ⟨b, off + k, none⟩) hb).trans (by have := hcx k y hy 0 _ rfl; simpa using this)
                    have bx := timeB_iff.1 (P3.out x (List.mem_of_getElem? hx))
                    have by_ := timeB_iff.1 (P3.out y (List.mem_of_getElem? hy))
                    have HX := Lib.hid (wanU_at (n := M) (by rw [hi]; exact hx) hy)
                    have HI := Lib.hid hi
                    have s1 : (i : Int) - (M : Int) = (k : Int) := by omega
                    have k0 : (0 : Int) ≤ (i : Int) := by omega
                    have k1 : (i : Int) < (n1 : Int) := by omega
                    have k2 : (0 : Int) ≤ (k : Int) := by omega
                    have k3 : (k : Int) < (n1 : Int) := by omega
                    have hw1 : IntKind.i64.wrap (k : Int) = (k : Int) := IntWalk.i64_in _ (by omega)
                    obtain ⟨D, hD⟩ : ∃ D, x - y = D := ⟨_, rfl⟩
                    have hD2 : -2000000000000 ≤ D ∧ D ≤ 2000000000000 := by omega
                    rw [hD] at HX
                    clear hcx hx hy hi bx by_
                    have HK := Lib.hid (show M + (k + 1) ≤ n1 by omega)
                    have HI2 := Lib.hid (show ((M + (k + 1) : Nat) : Int) = (i : Int) + 1 by omega)
                    have hk9 : k ≤ 60 := by omega
                    have HMe := Lib.hid (show n1 - (i + 1) < n1 - i by omega)
                    clear hw1 hk9
                    have hS9 := HS.out
                    rcases (by omega : (D < 0 ∧ W < -D) ∨ (D < 0 ∧ ¬ W < -D) ∨ (¬ D < 0 ∧ W < D) ∨ (¬ D < 0 ∧ ¬ W < D)) with ⟨g1, g2⟩ | ⟨g1, g2⟩ | ⟨g1, g2⟩ | ⟨g1, g2⟩
                    · have HV := Lib.hid (show -D = wanU z1 M (k + 1) by rw [HX.out, ← HS.out]; omega)
                      have HW := Lib.hid (show 0 ≤ -D ∧ -D ≤ 2000000000000 by omega)
                      have hw1 : IntKind.i64.wrap (k : Int) = (k : Int) := IntWalk.i64_in _ (by omega)
                      clear hS9 HX HS
                      as_aux_lemma =>
                        go_wp2_with fail
                        go_quiet (fail)
                        go_wp2_with fail
                        go_roundw
                        case rel => exact ⟨k + 1, -D, by rw [HI2.out], rfl, HK.out, HV.out, HW.out, _, rfl⟩
                        case measure => go_light; simp [intOf]; omega
                    · have HV := Lib.hid (show W = wanU z1 M (k + 1) by rw [HX.out, ← HS.out]; omega)
                      have HW := Lib.hid (show 0 ≤ W ∧ W ≤ 2000000000000 by omega)
                      have hw1 : IntKind.i64.wrap (k : Int) = (k : Int) := IntWalk.i64_in _ (by omega)
                      clear hS9 HX HS
                      as_aux_lemma =>
                        go_wp2_with fail
                        go_quiet (fail)
                        go_wp2_with fail
                        go_roundw
                        case rel => exact ⟨k + 1, W, by rw [HI2.out], rfl, HK.out, HV.out, HW.out, _, rfl⟩
                        case measure => go_light; simp [intOf]; omega
                    · have HV := Lib.hid (show D = wanU z1 M (k + 1) by rw [HX.out, ← HS.out]; omega)
                      have HW := Lib.hid (show 0 ≤ D ∧ D ≤ 2000000000000 by omega)
                      have hw1 : IntKind.i64.wrap (k : Int) = (k : Int) := IntWalk.i64_in _ (by omega)
                      clear hS9 HX HS
                      as_aux_lemma =>
                        go_wp2_with fail
                        go_quiet (fail)
                        go_wp2_with fail
                        go_roundw
                        case rel => exact ⟨k + 1, D, by rw [HI2.out], rfl, HK.out, HV.out, HW.out, _, rfl⟩
                        case measure => go_light; simp [intOf]; omega
                    · have HV := Lib.hid (show W = wanU z1 M (k + 1) by rw [HX.out, ← HS.out]; omega)
                      have HW := Lib.hid (show 0 ≤ W ∧ W ≤ 2000000000000 by omega)
                      have hw1 : IntKind.i64.wrap (k : Int) = (k : Int) := IntWalk.i64_in _ (by omega)
                      clear hS9 HX HS
                      as_aux_lemma =>
                        go_wp2_with fail
                        go_quiet (fail)
                        go_wp2_with fail
                        go_roundw
                        case rel => exact ⟨k + 1, W, by rw [HI2.out], rfl, HK.out, HV.out, HW.out, _, rfl⟩
                        case measure => go_light; simp [intOf]; omega
                  · obtain rfl : i = n1 := by omega
                    have HI := Lib.hid (show i - M = k by omega)
                    as_aux_lemma =>
                      go_wp2_with fail
                      go_meet
                      case rel => exact ⟨by rw [HP.out, Int.toNat_natCast, HI.out, ← HS.out]; (try rfl), below_drewN HB9.out _⟩
            case rest =>
              obtain ⟨rfl, hb⟩ := hcut
              have HB10 := Lib.hid hb
              clear hb HB9
              go_wp2_with fail
              refine (C3.out _ HB10.out).mono ?_
              rintro e w11 ⟨rfl, hb11⟩
              have HB11 := Lib.hid (HB10.out.trans (hb11.mono HB10.out.size))
              clear hb11
              go_wp2_with fail
              refine (Error_any 0 0 _ (HG.out.below HB11.out)).mono ?_
              rintro e w12 ⟨rfl, hb12⟩
              have HB12 := Lib.hid (HB11.out.trans (hb12.mono HB11.out.size))
              clear hb12
              rw [beq_self_eq_true (0 : Int)]
              go_wp2_with fail
              go_ret
              exact ⟨rfl, HB12.out⟩
        · rw [if_neg dd] at hp
          subst hp
          have e3 : ¬ (1 : Int) = 0 := by decide
          rcases (by omega : a2 < 1 ∨ (¬ a2 < 1 ∧ (n1 : Int) ≤ a2)) with dd | ⟨dd, dd'⟩
          · as_aux_lemma =>
              have d0 : decide (a2 < 1) = true := by simp; omega
              have HP := Lib.hid (PR.out.2 e3)
              clear PR P1 PC
              go_upto_block 2 with fail
              go_cut [19] (fun u wx => u = .int .i64 V3 ∧ Below w.heap.size w wx)
              case first =>
                as_aux_lemma =>
                  go_wp2_with fail
                  refine wp_loop_rounds 1 ?_
                  rw [rounds_succ]
                  have kk : a2 < (n1 : Int) ∨ ¬ a2 < (n1 : Int) := by omega
                  rcases kk with kk | kk
                  all_goals
                    go_wp2_with fail
                    go_meet
                    case rel => exact ⟨by rw [HP.out], HB9.out⟩
              case rest =>
                obtain ⟨rfl, hb⟩ := hcut
                have HB10 := Lib.hid hb
                clear hb HB9
                go_wp2_with fail
                refine (C3.out _ HB10.out).mono ?_
                rintro e w11 ⟨rfl, hb11⟩
                have HB11 := Lib.hid (HB10.out.trans (hb11.mono HB10.out.size))
                clear hb11
                go_wp2_with fail
                refine (Error_any 1 1 _ (HG.out.below HB11.out)).mono ?_
                rintro e w12 ⟨rfl, hb12⟩
                have HB12 := Lib.hid (HB11.out.trans (hb12.mono HB11.out.size))
                clear hb12
                rw [beq_self_eq_true (1 : Int)]
                go_wp2_with fail
                go_ret
                exact ⟨rfl, HB12.out⟩
          · as_aux_lemma =>
              have d0 : decide (a2 < 1) = false := by simp; omega
              have d2 : decide ((n1 : Int) ≤ a2) = true := by simp; omega
              have HP := Lib.hid (PR.out.2 e3)
              clear PR P1 PC
              go_upto_block 2 with fail
              go_cut [19] (fun u wx => u = .int .i64 V3 ∧ Below w.heap.size w wx)
              case first =>
                as_aux_lemma =>
                  go_wp2_with fail
                  refine wp_loop_rounds 1 ?_
                  rw [rounds_succ]
                  have kk : a2 < (n1 : Int) ∨ ¬ a2 < (n1 : Int) := by omega
                  rcases kk with kk | kk
                  all_goals
                    go_wp2_with fail
                    go_meet
                    case rel => exact ⟨by rw [HP.out], HB9.out⟩
              case rest =>
                obtain ⟨rfl, hb⟩ := hcut
                have HB10 := Lib.hid hb
                clear hb HB9
                go_wp2_with fail
                refine (C3.out _ HB10.out).mono ?_
                rintro e w11 ⟨rfl, hb11⟩
                have HB11 := Lib.hid (HB10.out.trans (hb11.mono HB10.out.size))
                clear hb11
                go_wp2_with fail
                refine (Error_any 1 1 _ (HG.out.below HB11.out)).mono ?_
                rintro e w12 ⟨rfl, hb12⟩
                have HB12 := Lib.hid (HB11.out.trans (hb12.mono HB11.out.size))
                clear hb12
                rw [beq_self_eq_true (1 : Int)]
                go_wp2_with fail
                go_ret
                exact ⟨rfl, HB12.out⟩
      · rw [if_neg e0] at hp
        subst hp
        as_aux_lemma =>
          have e3 := e0
          have e9 : decide (E3 = 0) = false := by simpa using e0
          have e8 : (E3 == 0) = false := by simpa using e0
          have HP := Lib.hid (PR.out.2 e3)
          clear PR P1 PC
          go_upto_block 2 with fail
          go_cut [19] (fun u wx => u = .int .i64 V3 ∧ Below w.heap.size w wx)
          case first =>
            as_aux_lemma =>
              go_wp2_with fail
              refine wp_loop_rounds 1 ?_
              rw [rounds_succ]
              have kk : a2 < (n1 : Int) ∨ ¬ a2 < (n1 : Int) := by omega
              rcases kk with kk | kk
              all_goals
                go_wp2_with fail
                go_meet
                case rel => exact ⟨by rw [HP.out], HB9.out⟩
          case rest =>
            obtain ⟨rfl, hb⟩ := hcut
            have HB10 := Lib.hid hb
            clear hb HB9
            go_wp2_with fail
            refine (C3.out _ HB10.out).mono ?_
            rintro e w11 ⟨rfl, hb11⟩
            have HB11 := Lib.hid (HB10.out.trans (hb11.mono HB10.out.size))
            clear hb11
            go_wp2_with fail
            refine (Error_any E3 E3 _ (HG.out.below HB11.out)).mono ?_
            rintro e w12 ⟨rfl, hb12⟩
            have HB12 := Lib.hid (HB11.out.trans (hb12.mono HB11.out.size))
            clear hb12
            rw [beq_self_eq_true E3]
            go_wp2_with fail
            go_ret
            exact ⟨rfl, HB12.out⟩

set_option maxRecDepth 100000 in
theorem lifted (os : Os) (started : os.Started) (H : Type) (enc : TypeId × Value → H) :
    ReturnsInHanded {} Tryd.checked os 3 .any (fun w args => (Rows.statTellsSpec.pre enc Tryd.prog Tryd.f3 [] false w args ∧ laidMetH Tryd.prog laidList w) ∧ sizedMet enc Tryd.prog Tryd.f3 (OpenSpec.ofChange Rows.statTellsSpec) false w args)
      (Rows.statTellsSpec.post enc Tryd.prog Tryd.f3 false true false false) := by
  refine returnsInHanded_of_change_and (C := Tryd.checked) (X := fun w _ => laidMetH Tryd.prog laidList w) (fun _ _ _ hh h => h.of_heap hh) own started (by kernel_rfl) Tryd.func3
    (ChangeSpec.witness_at (enc := enc) (C := Tryd.checked) (os := os) (X := fun w _ => laidMetH Tryd.prog laidList w) false (laidWorld os) #[.slice none 0 0, .slice none 0 0, .int .i64 0] 8 rfl (by kernel_rfl) (by kernel_rfl) (by kernel_rfl) (by kernel_rfl) (by kernel_rfl) (laidWorld_met os _)) ?_
  intro W base args ds gs before hval0 hW hcnd hreach hL _
  have hval : ∀ (j : Nat) t v, Tryd.f3.params[j]? = some t → args[j]? = some v → Value.okWide Tryd.prog W .any base t v := hval0
  have hW' := hW
  obtain ⟨p, q, hA0, hV, rfl, hfz, hnd⟩ := hW
  have hA : DataW.TrodAll enc Tryd.prog W 0 (fun _ => true) true Tryd.f3.params.toList args.toList ds p := hA0
  rw [Tryd.params3] at hA hval
  obtain ⟨v0, vs0, d0, ds0, p0, q0, hargs, rfl, rfl, g0, r0⟩ := trodAll_cons hA
  obtain ⟨v1, vs1, d1, ds1, p1, q1, rfl, rfl, rfl, g1, r1⟩ := trodAll_cons r0
  obtain ⟨v2, vs2, d2, ds2, p2, q2, rfl, rfl, rfl, g2, r2⟩ := trodAll_cons r1
  obtain ⟨rfl, rfl, rfl⟩ := trodAll_nil r2
  obtain rfl : args = #[v0, v1, v2] := by cases args; simp_all
  have hV2 : DataW.TrodVars enc Tryd.prog W (fun _ => true) [] gs q := hV
  obtain ⟨rfl, rfl⟩ : gs = [] ∧ q = [] := by
    cases gs with
    | nil => exact ⟨rfl, hV2⟩
    | cons g r => exact absurd hV2 (by intro h; cases h)
  have k0 := g0
  have lt0 : ∀ x ∈ p0, x.block < W.heap.size := by obtain ⟨m, hm⟩ := k0; exact DataW.trod_lt m _ _ _ hm
  have rd0 : Tryd.prog.readableRec 22 = true := by kernel_rfl
  have ls0 : 22 < Tryd.prog.types.size := of_decide_eq_true (by kernel_rfl)
  obtain ⟨a0, n0, c0, z0, rfl, h0⟩ := open_RSpans (hval 0 22 v0 rfl rfl) g0
  have k1 := g1
  have lt1 : ∀ x ∈ p1, x.block < W.heap.size := by obtain ⟨m, hm⟩ := k1; exact DataW.trod_lt m _ _ _ hm
  have rd1 : Tryd.prog.readableRec 23 = true := by kernel_rfl
  have ls1 : 23 < Tryd.prog.types.size := of_decide_eq_true (by kernel_rfl)
  obtain ⟨a1, n1, c1, z1, rfl, h1⟩ := open_Ints (hval 1 23 v1 rfl rfl) g1
  obtain ⟨a2, rfl, rfl, rfl, u2⟩ := open_int Tryd.underlying3 (hval 2 3 v2 rfl rfl) g2
  have h2 := bounds_i64 u2
  clear hA0 hval0
  refine (walk a0 n0 c0 z0 a1 n1 c1 z1 a2 W h0 h1 h2 (handle_of_laid hL)).mono fun e W' ⟨he, bel⟩ => ?_
  subst he
  exact ⟨_, rfl, _, _, _, [], _, [], hW', trodAll_mk1 (shut_bool Tryd.underlying4 _), (trodAll_cons_mk (Below.trod laidOut rd0 ls0 k0 bel lt0) (trodAll_cons_mk (Below.trod laidOut rd1 ls1 k1 bel lt1) (trodAll_cons_mk (shut_int Tryd.underlying3 u2) trodAll_mk0))), rfl, bel.frame _, fun h => by cases h⟩

theorem over : Rows.statTellsRow.holds Tryd.pinned (OpenSpec.ofChange Rows.statTellsSpec) :=
  OpenClaim.holds_of_wide 3 Tryd.f3 rfl rfl rfl rfl rfl rfl rfl ⟨rfl, rfl, rfl, rfl, rfl⟩ rfl rfl rfl rfl rfl (by kernel_rfl) Tryd.func3 (by kernel_rfl)
    (of_decide_eq_true (by kernel_rfl)) (by unfold Func.isWrapper; rw [if_neg (of_decide_eq_false (by kernel_rfl))]; exact ⟨rfl, rfl⟩)
    (fun os started H enc _ => lifted os started H enc)

theorem card : Rows.StatTellsCardSaid :=
  Claim7.holds_tied_plain_at .later [] [.handle] true (true, Rows.statTellsCard.stood.harness.2) true
    over (fun _ h => by cases h) (by kernel_rfl) (fun _ h => by cases h) statTells_row_tie rfl ⟨rfl, rfl⟩ (by kernel_rfl) rfl
    (fun f fn hf hfn => by
      obtain rfl : f = 3 := Option.some.inj ((show Tryd.prog.funcNamed "noonmark/noonlaw3.StatTells" = some 3 by kernel_rfl).symm.trans hf) |>.symm
      obtain rfl : fn = Tryd.f3 := (Option.some.inj (Tryd.func3.symm.trans hfn)).symm
      exact ⟨by kernel_rfl, fun j t ht => by
        rw [Tryd.params3] at ht
        exact noStandIn (ps := #[22, 23, 3]) (by kernel_rfl) ht⟩)
    (by kernel_rfl)

end Go.Proofs.YtafinconoodgfaaDoor.lStatTells
