/- Proved: noonlaw3.StatBetween answers true for every input and leaves its arguments as they were. No condition. -/
import Derived.Test.YtafinconoodgfaaOpen
import Derived.Test.YtafinconoodgfaaStat
import Derived.Deep.DeepCutAuto
import Derived.Deep.CutBlock
namespace Go.Proofs.Ytafinconoodgfaa.lStatBetween
open Go.ChangeShapes Go.WideShapes Go.ChangeAt Go.RowKit
set_option linter.unusedVariables false
set_option linter.unusedSimpArgs false
theorem lit4 (w : World) : IsInts (w.alloc (.cells #[.int .i64 9, .int .i64 1, .int .i64 5, .int .i64 7] 3)) (some ⟨w.heap.size, 0, none⟩) 4 4 [9, 1, 5, 7] := by
  refine ⟨rfl, by omega, by unfold maxLen; omega, ?_, fun _ => ⟨w.heap.size, 0, rfl, by simp, ?_⟩⟩
  · intro z hz
    simp only [List.mem_cons, List.not_mem_nil, or_false] at hz
    rcases hz with rfl | rfl | rfl | rfl <;> (unfold i64B; omega)
  · intro i z hz j u hu
    match i, hz with
    | 0, hz => simp at hz; subst hz; match j, hu with
      | 0, hu => simp [intCells] at hu; subst hu; simp
      | j + 1, hu => simp [intCells] at hu
    | 1, hz => simp at hz; subst hz; match j, hu with
      | 0, hu => simp [intCells] at hu; subst hu; simp
      | j + 1, hu => simp [intCells] at hu
    | 2, hz => simp at hz; subst hz; match j, hu with
      | 0, hu => simp [intCells] at hu; subst hu; simp
      | j + 1, hu => simp [intCells] at hu
    | 3, hz => simp at hz; subst hz; match j, hu with
      | 0, hu => simp [intCells] at hu; subst hu; simp
      | j + 1, hu => simp [intCells] at hu
    | i + 4, hz => simp at hz
theorem mid4 : midR [9, 1, 5, 7] = 5 := by
  have h : sortI [9, 1, 5, 7] = [1, 5, 7, 9] := sortI_eq (by decide) (by decide)
  unfold midR midV
  rw [if_pos (show numsC [9, 1, 5, 7] = 0 from rfl), h]; rfl
/-- what was counted when k numbers were looked at. -/
structure Bet (zs : List Int) (M : Int) (k : Nat) (lo hi : Int) (B : Bool) (p q : Nat) : Prop where
  all : ∀ x ∈ zs.take k, lo ≤ x ∧ x ≤ hi
  lo : lo ∈ zs
  hi : hi ∈ zs
  is : (zs.take k).any (fun x => decide (x = M)) = B
  below : (zs.take k).countP (fun x => decide (x < M)) = p
  above : (zs.take k).countP (fun x => decide (M < x)) = q
  few : p ≤ k ∧ q ≤ k
theorem Bet.start {zs : List Int} {M z : Int} (h : z ∈ zs) : Bet zs M 0 z z false 0 0 := ⟨fun x hx => by simp at hx, h, h, rfl, rfl, rfl, by omega⟩
theorem Bet.step {zs : List Int} {M : Int} {k : Nat} {lo hi lo' hi' : Int} {B B' : Bool} {p q p' q' : Nat} {z : Int} (h : Bet zs M k lo hi B p q) (hz : zs[k]? = some z)
    (h1 : lo' = if z < lo then z else lo) (h2 : hi' = if hi < z then z else hi) (h3 : B' = (B || decide (z = M))) (h4 : p' = p + if z < M then 1 else 0) (h5 : q' = q + if M < z then 1 else 0) : Bet zs M (k + 1) lo' hi' B' p' q' := by
  have hm : z ∈ zs := List.mem_of_getElem? hz
  have e : zs.take (k + 1) = zs.take k ++ [z] := by rw [List.take_add_one, hz]; rfl
  refine ⟨?_, ?_, ?_, ?_, ?_, ?_, ?_⟩
  · intro x hx
    rw [e] at hx
    rcases List.mem_append.1 hx with hx | hx
    · have := h.all x hx
      subst h1; subst h2
      constructor <;> split <;> omega
    · simp at hx
      subst hx; subst h1; subst h2
      constructor <;> split <;> omega
  · subst h1; split
    · exact hm
    · exact h.lo
  · subst h2; split
    · exact hm
    · exact h.hi
  · rw [e, List.any_append, h.is, h3]; simp
  · rw [e, List.countP_append, h.below, h4]; simp [List.countP_cons]
  · rw [e, List.countP_append, h.above, h5]; simp [List.countP_cons]
  · have := h.few; subst h4; subst h5; constructor <;> split <;> omega
/-- and when all were. -/
theorem Bet.done {zs : List Int} {k : Nat} {lo hi : Int} {B : Bool} {p q : Nat} (h : Bet zs (midV zs) k lo hi B p q) (hk : zs.length = k) (h0 : 0 < k) :
    B = true ∧ 2 * p ≤ k ∧ 2 * q ≤ k ∧ lo ≤ meanV zs ∧ meanV zs ≤ hi ∧ ∀ n : Nat, wanU zs n (zs.length - n) ≤ hi - lo := by
  have e : zs.take k = zs := List.take_of_length_le (by omega)
  obtain ⟨h1, h2, h3, h4, h5, h6, h7⟩ := h
  rw [e] at h1 h4 h5 h6
  refine ⟨?_, ?_, ?_, mean_low (by omega) fun x hx => (h1 x hx).1, mean_high (by omega) fun x hx => (h1 x hx).2, fun n => wan_span h1 (by omega)⟩
  · rw [← h4, List.any_eq_true]
    exact ⟨_, mid_mem (by omega), by simp⟩
  · have := mid_below (l := zs) (by omega); omega
  · have := mid_above (l := zs) (by omega); omega
set_option maxRecDepth 100000 in
set_option maxHeartbeats 32000000 in
theorem walk (a0 : Option Addr) (n0 c0 : Nat) (z0 : List Int) (a1 : Int) (w : World) (h0 : IsInts w a0 n0 c0 z0) (h1 : -9223372036854775808 ≤ a1 ∧ a1 ≤ 9223372036854775807) :
    Calls Try.prog 4 #[.slice a0 n0 c0, .int .i64 a1] w fun e w' => e = .returned (.bool true) ∧ Below w.heap.size w w' := by
  have f2 : numsC [9, 1, 5, 7] = 0 := rfl
  have H0 := Lib.hid h0
  obtain ⟨l1, l2, l3, l4, l5⟩ := h0
  unfold maxLen at l3
  have L1 := Lib.hid l1
  have L5 := Lib.hid l5
  have C1 := Lib.hid (fun w' (hb : Below w.heap.size w w') => stat_Median a0 n0 c0 z0 w' (H0.out.below hb))
  have C3 := Lib.hid (fun w' (hb : Below w.heap.size w w') => stat_Mean a0 n0 c0 z0 w' (H0.out.below hb))
  have C5 := Lib.hid (fun m w' (hb : Below w.heap.size w w') => stat_Wander a0 n0 c0 m z0 w' (H0.out.below hb))
  clear l4 l5
  by_cases e0 : numsC z0 = 0
  · as_aux_lemma =>
      obtain ⟨p1, p2, p3⟩ := numsC_0 e0
      obtain ⟨r1, r2⟩ := stat_range e0
      have P3 := Lib.hid p3
      have hR : midR z0 = midV z0 ∧ meanR z0 = meanV z0 := by unfold midR meanR; rw [if_pos e0, if_pos e0]; exact ⟨rfl, rfl⟩
      have HW := Lib.hid (show ∀ m, wanC z0 m = (if 1 ≤ m ∧ m < (n0 : Int) then 0 else 1) ∧ (∀ k : Nat, m = k → wanC z0 m = 0 → wanR z0 m = wanU z0 k (n0 - k)) from fun m => by
        unfold wanR wanC
        rw [if_pos e0, l1]
        refine ⟨rfl, fun k hk hc => ?_⟩
        rw [if_pos hc, hk]; rfl)
      have HD := Lib.hid (fun lo hi B p q (h : Bet z0 (midV z0) n0 lo hi B p q) => h.done l1 (by omega))
      have HT := Lib.hid (fun k (h : 2 * k ≤ z0.length) => wan_twice h)
      have HN := Lib.hid (fun k => wan_nonneg z0 k (n0 - k))
      rw [l1] at p1 p2 HT
      obtain ⟨M, hM⟩ : ∃ M, midV z0 = M := ⟨_, rfl⟩
      obtain ⟨E, hE⟩ : ∃ E, meanV z0 = E := ⟨_, rfl⟩
      rw [hR.1, hM] at r1 C1
      rw [hR.2, hE] at r2 C3
      rw [hM, hE, l1] at HD
      rw [e0, errV_0] at C1 C3
      clear e0 p3 hR hM hE l1 H0
      obtain ⟨b, off, rfl, hb, hc⟩ := L5.out p2
      have HC := Lib.hid (show ∀ wr, Below w.heap.size w wr → ∀ k z, z0[k]? = some z → wr.cell? ⟨b, off + k, none⟩ = some (.int .i64 z) from fun wr hB k z hz => by
        refine (hB.cell (p := ⟨b, off + k, none⟩) hb).trans ?_
        have := hc k z hz 0 _ rfl
        simpa using this)
      obtain ⟨y0, hy0⟩ : ∃ z, z0[0]? = some z := ⟨_, List.getElem?_eq_getElem (by rw [L1.out]; omega)⟩
      have HY := Lib.hid hy0
      clear hc L5 hy0
      go_enter Try.func4, Try.ntmps4
      go_wp2_with fail
      have CM := stat_Median _ 4 4 [9, 1, 5, 7] _ (lit4 w)
      rw [mid4, f2, errV_0] at CM
      refine CM.mono ?_
      rintro e w1 ⟨rfl, hb1⟩
      have HB1 := Lib.hid (((Below.refl _ w).alloc (Nat.le_refl _) _).trans (hb1.mono (by simp)))
      clear CM hb1
      go_wp2_with fail
      refine (C1.out _ HB1.out).mono ?_
      rintro e w2 ⟨rfl, hb2⟩
      have HB2 := Lib.hid (HB1.out.trans (hb2.mono HB1.out.size))
      clear hb2
      go_wp2_with fail
      refine (C3.out _ HB2.out).mono ?_
      rintro e w' ⟨rfl, rfl⟩
      have x0 := HC.out _ HB2.out 0 y0 HY.out
      simp only [Nat.add_zero] at x0
      have n00 : ¬ n0 = 0 := by omega
      have n01 : ((n0 : Int) == 0) = false := by simp; omega
      have n02 : decide ((n0 : Int) = 0) = false := by simp; omega
      go_wp2_with fail
      clear x0
      go_loopw [11, 12, 13, 14, 15, 16] (fun lv hv iv pv qv kv wr => ∃ (k : Nat) (lo hi : Int) (B : Bool) (p q : Nat), kv = .int .i64 k ∧ lv = .int .i64 lo ∧ hv = .int .i64 hi ∧ iv = .bool B ∧ pv = .int .i64 p ∧ qv = .int .i64 q ∧ k ≤ n0 ∧ (p ≤ k ∧ q ≤ k) ∧ lo ≤ hi ∧ Bet z0 M k lo hi B p q ∧ w2 = wr) (fun _ _ _ _ _ kv _ => n0 - (intOf kv).toNat)
      case atStart => exact ⟨0, y0, y0, false, 0, 0, rfl, rfl, rfl, rfl, rfl, rfl, by omega, by omega, by omega, .start (List.mem_of_getElem? HY.out), rfl⟩
      case round =>
        obtain ⟨k, lo, hi, B, p, q, rfl, rfl, rfl, rfl, rfl, rfl, hk, ⟨hp, hq⟩, hlh, hbet, rfl⟩ := hrel
        have HBet := Lib.hid hbet
        clear hbet
        by_cases d1 : k < n0
        · obtain ⟨z, hz⟩ : ∃ z, z0[k]? = some z := ⟨_, List.getElem?_eq_getElem (by rw [L1.out]; omega)⟩
          have x0 := HC.out _ HB2.out k z hz
          have HZ := Lib.hid hz
          clear hz
          obtain ⟨LO, hLO⟩ : ∃ v, v = (if z < lo then z else lo) := ⟨_, rfl⟩
          obtain ⟨HH, hHH⟩ : ∃ v, v = (if hi < z then z else hi) := ⟨_, rfl⟩
          obtain ⟨BB, hBB⟩ : ∃ v, v = (B || decide (z = M)) := ⟨_, rfl⟩
          obtain ⟨P1, hP1⟩ : ∃ v : Nat, v = (if z < M then 1 else 0) := ⟨_, rfl⟩
          obtain ⟨Q1, hQ1⟩ : ∃ v : Nat, v = (if M < z then 1 else 0) := ⟨_, rfl⟩
          have HS := Lib.hid (HBet.out.step HZ.out hLO hHH hBB (by rw [← hP1]) (by rw [← hQ1]))
          have o1 : LO ≤ HH := by rw [hLO, hHH]; split <;> split <;> omega
          have o2 : P1 ≤ 1 := by rw [hP1]; split <;> omega
          have o3 : Q1 ≤ 1 := by rw [hQ1]; split <;> omega
          have HLO9 := Lib.hid hLO
          have HHH9 := Lib.hid hHH
          have HBB9 := Lib.hid hBB
          have HP19 := Lib.hid hP1
          have HQ19 := Lib.hid hQ1
          clear hLO hHH hBB hP1 hQ1
          go_upto_if 68 with fail
          go_cut [11, 68] (fun u _ wx => u = .int .i64 LO ∧ w2 = wx)
          case first =>
            as_aux_lemma =>
              by_cases g : z < lo
              · have HV := Lib.hid (HLO9.out.trans (if_pos g))
                go_wp2_with fail
                go_meet
                case rel => exact ⟨by rw [HV.out], rfl⟩
              · have HV := Lib.hid (HLO9.out.trans (if_neg g))
                go_wp2_with fail
                go_meet
                case rel => exact ⟨by rw [HV.out], rfl⟩
          case rest =>
            obtain ⟨rfl, rfl⟩ := hcut
            go_upto_if 78 with fail
            go_cut [12, 78] (fun u _ wx => u = .int .i64 HH ∧ w2 = wx)
            case first =>
              as_aux_lemma =>
                by_cases g : hi < z
                · have HV := Lib.hid (HHH9.out.trans (if_pos g))
                  go_wp2_with fail
                  go_meet
                  case rel => exact ⟨by rw [HV.out], rfl⟩
                · have HV := Lib.hid (HHH9.out.trans (if_neg g))
                  go_wp2_with fail
                  go_meet
                  case rel => exact ⟨by rw [HV.out], rfl⟩
            case rest =>
              obtain ⟨rfl, rfl⟩ := hcut
              go_upto_region 22 with fail
              go_cut [13] (fun u wx => u = .bool BB ∧ w2 = wx)
              case first =>
                as_aux_lemma =>
                  cases B
                  · by_cases g : z = M
                    · have HV := Lib.hid (show BB = true from by rw [HBB9.out]; simp [g])
                      have g2 : (z == M) = true := by simp [g]
                      go_wp2_with fail
                      go_meet
                      case rel => exact ⟨by rw [HV.out], rfl⟩
                    · have HV := Lib.hid (show BB = false from by rw [HBB9.out]; simp [g])
                      have g2 : (z == M) = false := by simp [g]
                      go_wp2_with fail
                      go_meet
                      case rel => exact ⟨by rw [HV.out], rfl⟩
                  · have HV := Lib.hid (show BB = true from by rw [HBB9.out]; rfl)
                    go_wp2_with fail
                    go_meet
                    case rel => exact ⟨by rw [HV.out], rfl⟩
              case rest =>
                obtain ⟨rfl, rfl⟩ := hcut
                go_upto_if 97 with fail
                go_cut [14, 97] (fun u _ wx => u = .int .i64 ((p + P1 : Nat) : Int) ∧ w2 = wx)
                case first =>
                  as_aux_lemma =>
                    by_cases g : z < M
                    · have HV := Lib.hid (HP19.out.trans (if_pos g))
                      go_wp2_with fail
                      go_meet
                      case rel => exact ⟨by rw [HV.out]; (try go_num), rfl⟩
                    · have HV := Lib.hid (HP19.out.trans (if_neg g))
                      go_wp2_with fail
                      go_meet
                      case rel => exact ⟨by rw [HV.out]; (try go_num), rfl⟩
                case rest =>
                  obtain ⟨rfl, rfl⟩ := hcut
                  have HB9 := HB2.out
                  by_cases g : M < z
                  · have HV := Lib.hid (HQ19.out.trans (if_pos g))
                    have h9 : Q1 = 1 := HV.out
                    subst h9
                    go_wp2_with fail
                    go_roundw
                    case rel => exact ⟨k + 1, LO, HH, BB, p + P1, q + 1, by go_num, rfl, rfl, rfl, rfl, by go_num, by omega, by omega, o1, HS.out, trivial⟩
                    case measure => simp [intOf]; omega
                  · have HV := Lib.hid (HQ19.out.trans (if_neg g))
                    have h9 : Q1 = 0 := HV.out
                    subst h9
                    go_wp2_with fail
                    go_roundw
                    case rel => exact ⟨k + 1, LO, HH, BB, p + P1, q + 0, by go_num, rfl, rfl, rfl, rfl, rfl, by omega, by omega, o1, HS.out, trivial⟩
                    case measure => simp [intOf]; omega
        · obtain rfl : k = n0 := by omega
          as_aux_lemma =>
            obtain ⟨rfl, q1, q2, q3, q4, q5⟩ := HD.out _ _ _ _ _ HBet.out
            have HQ5 := Lib.hid q5
            have lo1 := timeB_iff.1 (P3.out _ HBet.out.lo)
            have hi1 := timeB_iff.1 (P3.out _ HBet.out.hi)
            clear q5 HD HBet HY
            obtain ⟨m, hm⟩ : ∃ m, IntKind.i64.wrap (2 * a1) = m := ⟨_, rfl⟩
            have hway : wanC z0 a1 ≠ 0 ∨ (wanC z0 a1 = 0 ∧ wanC z0 m ≠ 0) ∨ (wanC z0 a1 = 0 ∧ wanC z0 m = 0 ∧ wanR z0 m ≤ 2 * wanR z0 a1 ∧ wanR z0 a1 ≤ hi - lo ∧ 0 ≤ wanR z0 a1 ∧ a1 ≤ 100) := by
              by_cases v1 : wanC z0 a1 = 0
              · by_cases v2 : wanC z0 m = 0
                · refine .inr (.inr ⟨v1, v2, ?_⟩)
                  obtain ⟨s1, s2⟩ := HW.out a1
                  obtain ⟨s3, s4⟩ := HW.out m
                  have s5 : 1 ≤ a1 ∧ a1 < (k : Int) := by
                    by_cases h : 1 ≤ a1 ∧ a1 < (k : Int)
                    · exact h
                    · rw [if_neg h] at s1; omega
                  have s6 : 1 ≤ m ∧ m < (k : Int) := by
                    by_cases h : 1 ≤ m ∧ m < (k : Int)
                    · exact h
                    · rw [if_neg h] at s3; omega
                  have s7 : IntKind.i64.wrap (2 * a1) = 2 * a1 := IntWalk.i64_in _ (by omega)
                  obtain ⟨j, hj⟩ : ∃ j : Nat, a1 = j := ⟨a1.toNat, by omega⟩
                  have s8 := s2 j hj v1
                  have s9 := s4 (2 * j) (by omega) v2
                  have t1 := HT.out j (by omega)
                  have t2 := HQ5.out j
                  have t3 := HN.out j
                  rw [s8, s9]
                  omega
                · exact .inr (.inl ⟨v1, v2⟩)
              · exact .inl v1
            have D1 := C5.out a1
            have D2 := C5.out m
            generalize wanC z0 a1 = V1 at D1 hway
            generalize wanC z0 m = V2 at D2 hway
            generalize wanR z0 a1 = X1 at D1 hway
            generalize wanR z0 m = X2 at D2 hway
            clear HW HT HN HQ5 C5 C1 C3 HC P3
            rcases hway with v1 | ⟨v1, v2⟩ | ⟨v1, v2, g1, g2, g3, g4⟩
            · rw [errV_ne v1] at D1
              have HD1 := Lib.hid D1
              obtain ⟨EE, hEE⟩ : ∃ v, errV V2 = v := ⟨_, rfl⟩
              rw [hEE] at D2
              have HD2 := Lib.hid D2
              clear D1 D2 v1 hEE
              as_aux_lemma =>
                go_wp2_with fail
                refine (HD1.out _ HB2.out).mono ?_
                rintro e w5 ⟨rfl, hb5⟩
                have HB5 := Lib.hid (HB2.out.trans (hb5.mono HB2.out.size))
                clear hb5
                go_wp2_with fail
                refine (HD2.out _ HB5.out).mono ?_
                rintro e w6 ⟨rfl, hb6⟩
                have HB6 := Lib.hid (HB5.out.trans (hb6.mono HB5.out.size))
                clear hb6
                go_wp2_with fail
                go_ret
                exact ⟨rfl, HB6.out⟩
            · subst v1
              rw [errV_ne v2] at D2
              rw [errV_0] at D1
              have HD1 := Lib.hid D1
              have HD2 := Lib.hid D2
              clear D1 D2 v2
              as_aux_lemma =>
                go_wp2_with fail
                refine (HD1.out _ HB2.out).mono ?_
                rintro e w5 ⟨rfl, hb5⟩
                have HB5 := Lib.hid (HB2.out.trans (hb5.mono HB2.out.size))
                clear hb5
                go_wp2_with fail
                refine (HD2.out _ HB5.out).mono ?_
                rintro e w6 ⟨rfl, hb6⟩
                have HB6 := Lib.hid (HB5.out.trans (hb6.mono HB5.out.size))
                clear hb6
                go_wp2_with fail
                go_ret
                exact ⟨rfl, HB6.out⟩
            · subst v1; subst v2
              rw [errV_0] at D1 D2
              have HD1 := Lib.hid D1
              have HD2 := Lib.hid D2
              have w21 := IntWalk.i64_in (2 * X1) (by omega)
              have w22 := IntWalk.i64_in (hi - lo) (by omega)
              clear D1 D2
              as_aux_lemma =>
                go_wp2_with fail
                refine (HD1.out _ HB2.out).mono ?_
                rintro e w5 ⟨rfl, hb5⟩
                have HB5 := Lib.hid (HB2.out.trans (hb5.mono HB2.out.size))
                clear hb5
                go_wp2_with fail
                refine (HD2.out _ HB5.out).mono ?_
                rintro e w6 ⟨rfl, hb6⟩
                have HB6 := Lib.hid (HB5.out.trans (hb6.mono HB5.out.size))
                clear hb6
                go_wp2_with fail
                go_ret
                exact ⟨rfl, HB6.out⟩
  · as_aux_lemma =>
      obtain ⟨E, hE⟩ : ∃ E, numsC z0 = E := ⟨_, rfl⟩
      rw [hE] at e0 C1
      rw [errV_ne e0] at C1
      clear e0 hE C3 C5 L5
      go_enter Try.func4, Try.ntmps4
      go_wp2_with fail
      have CM := stat_Median _ 4 4 [9, 1, 5, 7] _ (lit4 w)
      rw [mid4, f2, errV_0] at CM
      refine CM.mono ?_
      rintro e w1 ⟨rfl, hb1⟩
      have HB1 := Lib.hid (((Below.refl _ w).alloc (Nat.le_refl _) _).trans (hb1.mono (by simp)))
      clear CM hb1
      go_wp2_with fail
      refine (C1.out _ HB1.out).mono ?_
      rintro e w2 ⟨rfl, hb2⟩
      have HB2 := Lib.hid (HB1.out.trans (hb2.mono HB1.out.size))
      clear hb2
      go_wp2_with fail
      go_ret
      exact ⟨rfl, HB2.out⟩

set_option maxRecDepth 100000 in
theorem lifted (os : Os) (started : os.Started) (H : Type) (enc : TypeId × Value → H) :
    ReturnsInHanded {} Try.checked os 4 .any (Rows.statBetweenSpec.pre6 enc Try.prog Try.f4 Rows.statBetweenRow.domain false) (Rows.statBetweenSpec.post enc Try.prog Try.f4 false true false false) := by
  refine returnsInHanded_of_change (C := Try.checked) own started (by kernel_rfl) Try.func4
    (ChangeSpec.witness6 (enc := enc) (C := Try.checked) false ⟨#[], #[.slice none 0 0, .int .i64 0], []⟩ 8 (by kernel_rfl) (by kernel_rfl) (by kernel_rfl) (by kernel_rfl)) ?_
  intro W base args ds gs before hval0 hW hcnd hreach
  have hval : ∀ (j : Nat) t v, Try.f4.params[j]? = some t → args[j]? = some v → Value.okWide Try.prog W .any base t v := hval0
  have hW' := hW
  obtain ⟨p, q, hA0, hV, rfl, hfz, hnd⟩ := hW
  have hA : DataW.TrodAll enc Try.prog W 0 (fun _ => true) true Try.f4.params.toList args.toList ds p := hA0
  rw [Try.params4] at hA hval
  obtain ⟨v0, vs0, d0, ds0, p0, q0, hargs, rfl, rfl, g0, r0⟩ := trodAll_cons hA
  obtain ⟨v1, vs1, d1, ds1, p1, q1, rfl, rfl, rfl, g1, r1⟩ := trodAll_cons r0
  obtain ⟨rfl, rfl, rfl⟩ := trodAll_nil r1
  obtain rfl : args = #[v0, v1] := by cases args; simp_all
  obtain ⟨rfl, rfl⟩ := trodVars_none hV
  have k0 := g0
  have lt0 : ∀ x ∈ p0, x.block < W.heap.size := by obtain ⟨m, hm⟩ := k0; exact DataW.trod_lt m _ _ _ hm
  have rd0 : Try.prog.readableRec 22 = true := by kernel_rfl
  have ls0 : 22 < Try.prog.types.size := of_decide_eq_true (by kernel_rfl)
  obtain ⟨a0, n0, c0, z0, rfl, h0⟩ := open_Ints (hval 0 22 v0 rfl rfl) g0
  obtain ⟨a1, rfl, rfl, rfl, u1⟩ := open_int Try.underlying3 (hval 1 3 v1 rfl rfl) g1
  have h1 := bounds_i64 u1
  clear hA0 hval0
  refine (walk a0 n0 c0 z0 a1 W h0 h1).mono fun e W' ⟨he, bel⟩ => ?_
  subst he
  exact ⟨_, rfl, _, _, _, [], _, [], hW', trodAll_mk1 (shut_bool Try.underlying4 _), (trodAll_cons_mk (Below.trod laidOut rd0 ls0 k0 bel lt0) (trodAll_cons_mk (shut_int Try.underlying3 u1) trodAll_mk0)), rfl, bel.frame _, fun h => by cases h⟩

theorem over : Rows.statBetweenRow.holds Try.pinned (OpenSpec.ofChange Rows.statBetweenSpec) :=
  OpenClaim.holds_of_wide 4 Try.f4 rfl rfl rfl rfl rfl rfl rfl ⟨rfl, rfl, rfl, rfl, rfl⟩ rfl rfl rfl rfl rfl (by kernel_rfl) Try.func4 (by kernel_rfl)
    (of_decide_eq_true (by kernel_rfl)) (by unfold Func.isWrapper; rw [if_neg (of_decide_eq_false (by kernel_rfl))]; exact ⟨rfl, rfl⟩)
    (fun os started H enc _ => lifted os started H enc)

/-- the statement -/
theorem proved : Rows.StatBetweenSaid := over

end Go.Proofs.Ytafinconoodgfaa.lStatBetween
