/- Proved: noontop.TopServes answers true for every input and leaves its arguments as they were: a clock that learns from a net has the other node's time in what it says; what a keeper tells of it rises, and so does its label. Its conditions: none beyond the tied card's own. -/
import Derived.Test.YtfjpfkejajgkbaaDoorHG1
import Derived.Test.YtfjpfkejajgkbaaDoorHTab
import Derived.Test.YtfjpfkejajgkbaaDoorHNetN
import Derived.Test.YtfjpfkejajgkbaaDoorHNetD
import Derived.Test.YtfjpfkejajgkbaaDoorHG3
import Derived.Test.YtfjpfkejajgkbaaDoorHTopOne
import Derived.Deep.DeepCutAuto
import Derived.Deep.CutBlock
import Derived.Deep.Light
namespace Go.Proofs.YtfjpfkejajgkbaaDoor.lTopServes
open Go.ChangeShapes Go.WideShapes Go.ChangeAt Go.RowKit
set_option linter.unusedVariables false
set_option linter.unusedSimpArgs false
set_option maxRecDepth 100000 in
set_option maxHeartbeats 64000000 in
theorem walk (a0 : Int) (a1 : Int) (a2 : Int) (a3 : Option Addr) (n3 c3 : Nat) (z3 : List Int) (a4 : Int) (w : World) (h0 : -9223372036854775808 ≤ a0 ∧ a0 ≤ 9223372036854775807) (h1 : -9223372036854775808 ≤ a1 ∧ a1 ≤ 9223372036854775807) (h2 : -9223372036854775808 ≤ a2 ∧ a2 ≤ 9223372036854775807) (h3 : IsInts w a3 n3 c3 z3) (h4 : -9223372036854775808 ≤ a4 ∧ a4 ≤ 9223372036854775807) (hT : TabAt w) :
    Calls Tryd.prog 3 #[.int .i64 a0, .int .i64 a1, .int .i64 a2, .slice a3 n3 c3, .int .i64 a4] w fun e w' => e = .returned (.bool true) ∧ Below w.heap.size w w' := by
  have HT := Lib.hid hT
  obtain ⟨l1, l2, l3, l4, l5⟩ := h3
  unfold maxLen at l3
  have L1 := Lib.hid l1
  have L5 := Lib.hid l5
  have hp := Lib.hid h2
  have i0 : i64B a0 := h0
  have i1 : i64B a1 := h1
  clear h0 h1 h2 h4 l1 l4 l5 hT
  go_enter Tryd.func3, Tryd.ntmps3
  go_wp2_with fail
  refine (top_one _).mono ?_
  rintro e w5 ⟨rfl, hb5⟩
  have HB5 := Lib.hid hb5
  have hz5 := hb5.size
  clear hb5
  go_wp2_with fail
  have I0 : IsInts ((w5.alloc (.cells #[.int .i64 0, .int .i64 a0] 3)).alloc (.cells #[.int .i64 a1, .int .i64 0] 3)) (some ⟨w5.heap.size, 0, none⟩) 2 2 [0, a0] := pair_ints ((Blk.new w5 _ _).alloc _) (by unfold i64B; omega) i0
  have I1 : IsInts ((w5.alloc (.cells #[.int .i64 0, .int .i64 a0] 3)).alloc (.cells #[.int .i64 a1, .int .i64 0] 3)) (some ⟨w5.heap.size + 1, 0, none⟩) 2 2 [a1, 0] := pair_ints (T := 3) (by have := Blk.new (w5.alloc (.cells #[.int .i64 0, .int .i64 a0] 3)) 3 #[.int .i64 a1, .int .i64 0]; simpa using this) i1 (by unfold i64B; omega)
  have HBx := Lib.hid (show Below w.heap.size w ((w5.alloc (.cells #[.int .i64 0, .int .i64 a0] 3)).alloc (.cells #[.int .i64 a1, .int .i64 0] 3)) from (HB5.out.alloc hz5 _).alloc (by simp; omega) _)
  have hzx := HBx.out.size
  by_cases e0 : newC [0, a0] [a1, 0] a2 = 0
  · obtain ⟨r1, r2, r3, r4, r5⟩ := newC_0 e0
    have hrb := rateB_iff.1 r1
    have HT0 := Lib.hid (new_true (n := 2) e0 rfl)
    have CN := Lib.hid (net_New _ _ _ [0, a0] _ _ _ [a1, 0] a2 _ I0 I1 e0)
    clear e0 I0 I1 hp r2 r3 r4 r5 i0 i1
    refine CN.out.mono ?_
    rintro e w6 ⟨a, rfl, han, hgw, hN, hb6⟩
    have HB6 := Lib.hid (HBx.out.trans (hb6.mono hzx))
    have hga : w.heap.size ≤ a.g := by have := hzx; simp at this hgw; omega
    have HN6 := Lib.hid hN
    have HFX := Lib.hid hN.fix
    have hz6 := HB6.out.size
    clear hgw hN hb6 HBx hzx CN HB5
    go_wp2_with fail
    by_cases hk : 1 ≤ a4 ∧ a4 ≤ 1000000
    · refine (keeper_New_ok a4 w6 hk.1 hk.2).mono ?_
      rintro e w7 ⟨rfl, hw7⟩
      have hb7 : Below w6.heap.size w6 w7 := by rw [hw7]; exact (Below.refl _ _).alloc (Nat.le_refl _) _
      have hk7 : KeepAt w7 w6.heap.size a4 (-1) 0 0 := by rw [hw7]; exact KeepAt.new _ _ _ _ _
      have hs7 : w7.heap.size = w6.heap.size + 1 := by rw [hw7]; simp
      have HB7 := Lib.hid (HB6.out.trans (hb7.mono hz6))
      have HN7 := Lib.hid (HN6.out.below hb7)
      have HK7 := Lib.hid hk7
      clear hw7 hb7 hk7 HB6
      go_wp2_with fail
      refine (clock_New_ok a2 w7 r1).mono ?_
      rintro e w8 ⟨rfl, hw8⟩
      have hb8 : Below w7.heap.size w7 w8 := by rw [hw8]; exact (Below.refl _ _).alloc (Nat.le_refl _) _
      have hc8 : ClockAt w8 w7.heap.size 92 ⟨a2, 0, false, 0, 0, 0, false, 0⟩ := by rw [hw8]; exact Blk.new _ _ _
      have HB8 := Lib.hid (HB7.out.trans (hb8.mono (by have := HB7.out.size; omega)))
      have HN8 := Lib.hid (HN7.out.below hb8)
      obtain ⟨uv0, huv⟩ : ∃ uv0, Value.slice none 0 0 = uv0 := ⟨_, rfl⟩
      have HR8 := Lib.hid (show Rest w8 w6.heap.size w7.heap.size a4 (-1) 0 0 ⟨a2, 0, false, 0, 0, 0, false, 0⟩ (.slice none 0 0) from ⟨HK7.out.below hb8 (by omega), hc8, by simp [Value.ownBlock], by simp [Value.ownBlock], by omega⟩)
      have hz8 := HB8.out.size
      have HS0 := Lib.hid (SInv.init (p := a2) a0 a1 hrb.1 hrb.2)
      have hgk : w6.heap.size ≤ w6.heap.size := Nat.le_refl _
      obtain ⟨gk, egk⟩ : ∃ g, w6.heap.size = g := ⟨_, rfl⟩
      obtain ⟨gc, egc⟩ : ∃ g, w7.heap.size = g := ⟨_, rfl⟩
      have hgc : gk ≤ gc := by omega
      rw [egk, egc] at HR8
      rw [egk] at HFX hz6 ⊢
      rw [egc]
      clear hw8 hb8 hc8 HB7 HN7 HK7 HN6 r1 huv hgk egk egc hs7
      go_wp2_with fail
      go_loopw [18, 19, 20] (fun lv sv iv wx => ∃ (k K : Nat) (t la ke wn : Int) (uv : Value) (S : Nat → NSt) (c : CK) (ll : List UInt8), iv = .int .i64 k ∧ lv = .int .i64 la ∧ sv = .string ⟨ll.toArray⟩ ∧ k ≤ n3 ∧ k ≤ 20 ∧ K ≤ 4 * k ∧ t ≤ 1000000 * (k : Int) ∧ -1 ≤ la ∧ la ≤ 400000000 + (k : Int) ∧ 0 ≤ wn ∧ wn ≤ (k : Int) ∧ LabS la ll ∧ SInv a0 a1 a2 t c ∧ NetAt wx a [0, a0] [a1, 0] a2 t uv [] K S ∧ TrueN a.n [0, a0] [a1, 0] a2 t [] S ∧ Rest wx gk gc a4 la ke wn c uv ∧ Below w.heap.size w wx) (fun _ _ iv _ => n3 - (intOf iv).toNat)
      case atStart => exact ⟨0, 0, 0, -1, 0, 0, _, _, _, [], rfl, rfl, rfl, by omega, by omega, by omega, by omega, by omega, by omega, by omega, by omega, .inl ⟨rfl, rfl⟩, HS0.out, HN8.out, by rw [han]; exact HT0.out, HR8.out, HB8.out⟩
      case round =>
        obtain ⟨k, K, t, la, ke, wn, uv, S, c, ll, rfl, rfl, rfl, hk3, hk20, hK, ht, hla, hla2, hwn, hwn2, hL, hS, hN, hTr, hR, hB⟩ := hrel
        have HL := Lib.hid hL
        have HS := Lib.hid hS
        have HNr := Lib.hid hN
        have HTr := Lib.hid hTr
        have HRr := Lib.hid hR
        have HBr := Lib.hid hB
        have hzr := hB.size
        have hkk := hk
        clear hL hS hN hTr hR hB HS0 HN8 HT0 HR8 HB8
        by_cases d1 : k < n3
        · by_cases d2 : k < 20
          · obtain ⟨z, hz⟩ : ∃ z, z3[k]? = some z := ⟨_, List.getElem?_eq_getElem (by rw [L1.out]; omega)⟩
            obtain ⟨b3, off3, rfl, hb3, hc3⟩ := L5.out (by omega)
            have HX := Lib.hid (fun W (hW : Below w.heap.size w W) => show W.cell? ⟨b3, off3 + k, none⟩ = some (.int .i64 z) by
              have := (hW.cell (p := ⟨b3, off3 + k * 1 + 0, none⟩) hb3).trans (hc3 k z hz 0 _ rfl)
              simpa using this)
            have x0 := HX.out wr HBr.out
            have q0 : (0 : Int) ≤ (k : Int) := by omega
            have q1 : (k : Int) < (n3 : Int) := by omega
            have q2 : (k : Int) < 20 := by omega
            clear hz hc3
            by_cases z0 : z < 0
            · have b1 : decide (z < 0) = true := by simp; omega
              clear z0
              as_aux_lemma =>
                go_upto_if 88 with (fail)
                go_wp2_with fail
                go_roundw
                case rel => exact ⟨k + 1, K, t, la, ke, wn, uv, S, c, ll, by go_num, rfl, rfl, by omega, by omega, by omega, by omega, by omega, by omega, by omega, by omega, HL.out, HS.out, HNr.out, HTr.out, HRr.out, HBr.out⟩
                case measure => go_light; simp [intOf]; omega
            · have b1 : decide (z < 0) = false := by simp; omega
              by_cases z1 : 1000000 < z
              · have b2 : decide (1000000 < z) = true := by simp; omega
                clear z0 z1
                as_aux_lemma =>
                  go_upto_if 88 with (fail)
                  go_wp2_with fail
                  go_roundw
                  case rel => exact ⟨k + 1, K, t, la, ke, wn, uv, S, c, ll, by go_num, rfl, rfl, by omega, by omega, by omega, by omega, by omega, by omega, by omega, by omega, HL.out, HS.out, HNr.out, HTr.out, HRr.out, HBr.out⟩
                  case measure => go_light; simp [intOf]; omega
              · have b2 : decide (1000000 < z) = false := by simp; omega
                go_upto_if 88 with (fail)
                have okA : RAct.ok ⟨2, 0, 1⟩ := by unfold RAct.ok i64B; simp
                have okG : RAct.ok ⟨1, z, 0⟩ := by unfold RAct.ok i64B; simp; omega
                have okD : RAct.ok ⟨3, 0, 0⟩ := by unfold RAct.ok i64B; simp
                obtain ⟨S1, S2, us1, us2, s1, s2, s3, s4, T4, hoff⟩ := serve_round han HTr.out (show 0 ≤ z by omega) (show z ≤ 1000000 by omega) (by omega)
                have hst := HS.out.step (v := z) (by omega) hrb.1 hrb.2 (HTr.out.C.r 0 (by omega)).1 (HTr.out.C.r 0 (by omega)).2 (by omega)
                have hrt : -a2 ≤ a1 ∧ a1 ≤ a2 := HTr.out.C.r 0 (by omega)
                have hs01 : 0 ≤ a0 ∧ a0 ≤ 1000000 := HTr.out.C.s 1 (by omega)
                have hT1 : t + z ≤ 1000000 * ((k + 1 : Nat) : Int) := by omega
                have hT9 : t + z ≤ 90000000 := by omega
                have hk1 : k + 1 ≤ n3 := by omega
                have hk21 : k + 1 ≤ 20 := by omega
                have hla3 : la ≤ 400000000 + ((k + 1 : Nat) : Int) := by omega
                have hwn3 : wn ≤ ((k + 1 : Nat) : Int) := by omega
                have hwgc : w.heap.size ≤ gc := Nat.le_trans hz6 hgc
                have Q1 := Lib.hid s1
                have Q2 := Lib.hid s2
                have Q3 := Lib.hid s3
                have Q4 := Lib.hid s4
                have HT4 := Lib.hid T4
                have HOf := Lib.hid hoff
                have HSt := Lib.hid hst
                clear s1 s2 s3 s4 T4 hoff hst b1 b2 z0 z1 HTr HS x0 ht
                go_wp2_with fail
                refine (net_Do a _ _ _ _ _ _ _ _ _ _ _ ⟨2, 0, 1⟩ _ wr HNr.out okA (by omega) Q1.out).mono ?_
                rintro e w1 ⟨rfl, uv1, hN1, hK1, hq1⟩
                have HB1 := Lib.hid (HNr.out.done HBr.out hga hK1)
                have HN1 := Lib.hid hN1
                have HR1 := Lib.hid (HRr.out.done hK1 HFX.out (Nat.le_refl _) hgc hq1)
                clear hN1 hK1 hq1 HNr HBr HRr Q1
                go_wp2_with fail
                refine (net_Do a _ _ _ _ _ _ _ _ _ _ _ ⟨3, 0, 0⟩ _ w1 HN1.out okD (by omega) Q2.out).mono ?_
                rintro e w2 ⟨rfl, uv2, hN2, hK2, hq2⟩
                have HB2 := Lib.hid (HN1.out.done HB1.out hga hK2)
                have HN2 := Lib.hid hN2
                have HR2 := Lib.hid (HR1.out.done hK2 HFX.out (Nat.le_refl _) hgc hq2)
                have x0 := HX.out w2 HB2.out
                clear hN2 hK2 hq2 HN1 HB1 HR1 Q2
                go_wp2_with fail
                refine (net_Do a _ _ _ _ _ _ _ _ _ _ _ ⟨1, z, 0⟩ _ w2 HN2.out okG (by omega) Q3.out).mono ?_
                rintro e w3 ⟨rfl, uv3, hN3, hK3, hq3⟩
                have HB3 := Lib.hid (HN2.out.done HB2.out hga hK3)
                have HN3 := Lib.hid hN3
                have HR3 := Lib.hid (HR2.out.done hK3 HFX.out (Nat.le_refl _) hgc hq3)
                clear hN3 hK3 hq3 HN2 HB2 HR2 Q3 x0
                go_wp2_with fail
                refine (net_Do a _ _ _ _ _ _ _ _ _ _ _ ⟨3, 0, 0⟩ _ w3 HN3.out okD (by omega) Q4.out).mono ?_
                rintro e w4 ⟨rfl, uv4, hN4, hK4, hq4⟩
                have HB4 := Lib.hid (HN3.out.done HB3.out hga hK4)
                have HN4 := Lib.hid hN4
                have HR4 := Lib.hid (HR3.out.done hK4 HFX.out (Nat.le_refl _) hgc hq4)
                have hz4 := HB4.out.size
                clear hN4 hK4 hq4 HN3 HB3 HR3 Q4 HX okA okG okD
                obtain ⟨T, eT⟩ : ∃ T, t + z = T := ⟨_, rfl⟩
                rw [eT] at HT4 HN4 hT1 hT9
                simp only [eT] at HOf HSt
                clear eT
                obtain ⟨K4, eK4⟩ : ∃ v, K + 1 + 1 + 1 + 1 = v := ⟨_, rfl⟩
                rw [eK4] at HN4
                have hK4 : K4 ≤ 4 * (k + 1) := by omega
                have CS0 := Lib.hid (fun (W : World) (hW : NetAt W a [0, a0] [a1, 0] a2 T uv4 [] K4 S2) => show Calls Tryd.prog 10 #[.pointer (some ⟨a.N, 0, none⟩), .int .i64 0] W fun e w' => e = .returned (.tuple #[.int .i64 (shw a1 T), .nilIface]) ∧ Below W.heap.size W w' from by have := net_Show a [0, a0] [a1, 0] a2 T uv4 [] K4 S2 0 W hW (by omega); rw [here_0] at this; exact this)
                have CS1 := Lib.hid (fun (W : World) (hW : NetAt W a [0, a0] [a1, 0] a2 T uv4 [] K4 S2) => show Calls Tryd.prog 10 #[.pointer (some ⟨a.N, 0, none⟩), .int .i64 1] W fun e w' => e = .returned (.tuple #[.int .i64 (a0 + T), .nilIface]) ∧ Below W.heap.size W w' from by have := net_Show a [0, a0] [a1, 0] a2 T uv4 [] K4 S2 1 W hW (by omega); rw [here_1] at this; exact this)
                obtain ⟨h0v, eh0⟩ : ∃ v, shw a1 T = v := ⟨_, rfl⟩
                rw [eh0] at CS0 HSt
                clear eh0 eK4
                go_wp2_with fail
                refine (CS0.out w4 HN4.out).mono ?_
                rintro e m1 ⟨rfl, hbm1⟩
                have HB11 := Lib.hid (HB4.out.trans (hbm1.mono hz4))
                have HN11 := Lib.hid (HN4.out.below hbm1)
                have HR11 := Lib.hid (HR4.out.below hbm1)
                have hz11 := HB11.out.size
                clear hbm1 HB4 HN4 HR4 CS0
                go_wp2_with fail
                refine (CS1.out m1 HN11.out).mono ?_
                rintro e m2 ⟨rfl, hbm2⟩
                have HB12 := Lib.hid (HB11.out.trans (hbm2.mono hz11))
                have HN12 := Lib.hid (HN11.out.below hbm2)
                have HR12 := Lib.hid (HR11.out.below hbm2)
                have hz12 := HB12.out.size
                clear hbm2 HB11 HN11 HR11 CS1
                go_wp2_with fail
                refine (net_Offset a [0, a0] [a1, 0] a2 T uv4 [] K4 S2 0 1 m2 HN12.out).mono ?_
                rintro e m3 ⟨x, c', rfl, hS, hbm3⟩
                obtain ⟨rfl, o1, o2, o3, o4⟩ := HOf.out x c' hS
                rw [errV_0]
                have HB13 := Lib.hid (HB12.out.trans (hbm3.mono hz12))
                have HN13 := Lib.hid (HN12.out.below hbm3)
                have HR13 := Lib.hid (HR12.out.below hbm3)
                have hz13 := HB13.out.size
                obtain ⟨hst0, HS1⟩ := HSt.out
                obtain ⟨c1, ec1⟩ : ∃ v, stepK c h0v = v := ⟨_, rfl⟩
                have CSt := Lib.hid (fun (W : World) (hW : ClockAt W gc 92 c) => step_ok hst0 ec1 W hW)
                rw [ec1] at HS1
                obtain ⟨hl0, hok2, ⟨l, u, hnw, hru, hhs⟩, hpt, HS3⟩ := serve_clock HS1 hT9 hrb hrt hs01.1 o1 o2 o3 o4
                have hok1 := HS1.ok
                obtain ⟨c2, ec2⟩ : ∃ v, learnK c1 x.lo x.hi = v := ⟨_, rfl⟩
                have CL := Lib.hid (fun (W : World) (hW : ClockAt W gc 92 c1) => learn_ok hl0 ec2 hok1 W hW)
                rw [ec2] at hok2 hnw hpt HS3
                have CN := Lib.hid (fun (W : World) (hW : ClockAt W gc 92 c2) => now_ok hnw hok2 W hW)
                have CH := Lib.hid (fun (W : World) => has_ok hhs hru W)
                obtain ⟨c3, ec3⟩ : ∃ v, pointK c2 = v := ⟨_, rfl⟩
                obtain ⟨pv, epv⟩ : ∃ v, pointV c2 = v := ⟨_, rfl⟩
                obtain ⟨pc, epc⟩ : ∃ v, pointC c2 = v := ⟨_, rfl⟩
                have CP := Lib.hid (fun (W : World) (hW : ClockAt W gc 92 c2) => point_ok epv epc ec3 hok2 W hW)
                rw [ec3] at HS3
                rw [epv, epc] at hpt
                have HS3 := Lib.hid HS3
                have HPT := Lib.hid hpt
                clear hS hbm3 HOf HSt hst0 ec1 HS1 hl0 ec2 hok1 hok2 hnw hru hhs o1 o2 o3 o4 ec3 epv epc hpt HB12 HN12 HR12
                obtain ⟨ma, hma⟩ : ∃ W, m3.alloc (.cells #[.int .i64 x.lo, .int .i64 x.hi] 41) = W := ⟨_, rfl⟩
                have hba : Below m3.heap.size m3 ma := by rw [← hma]; exact (Below.refl _ _).alloc (Nat.le_refl _) _
                have hbk : Blk ma m3.heap.size 41 #[.int .i64 x.lo, .int .i64 x.hi] := by rw [← hma]; exact Blk.new m3 _ _
                have hgl : gc < m3.heap.size := Blk.lt HR13.out.c
                have y0 := hbk.cell 0
                have y1 := hbk.cell 1
                simp at y0 y1
                have HB14 := Lib.hid (HB13.out.trans (hba.mono hz13))
                have HN14 := Lib.hid (HN13.out.below hba)
                have HR14 := Lib.hid (HR13.out.below hba)
                have hz14 := HB14.out.size
                have hne1 : some m3.heap.size ≠ some gc := fun e => absurd (Option.some.inj e) (Nat.ne_of_gt hgl)
                clear hba hbk HB13 HN13 HR13
                go_wp2_with fail
                clear hma
                refine (CSt.out ma HR14.out.c).mono ?_
                rintro e m4 ⟨rfl, hc4, ht4⟩
                have y2 := (show ma.grownBy m4 (some gc) from ht4).cell y0 hne1
                have y3 := (show ma.grownBy m4 (some gc) from ht4).cell y1 hne1
                have HR15 := Lib.hid (HR14.out.clock hc4 ht4)
                have HN15 := Lib.hid (HN14.out.grown (show ma.grownBy m4 (some gc) from ht4) HFX.out (fun q e => by cases e; exact ⟨hgc, HR14.out.uc⟩))
                have HB15 := Lib.hid (HB14.out.trans (ht4.below hwgc hz14))
                have hz15 := HB15.out.size
                clear hc4 ht4 HB14 HN14 HR14 CSt y0 y1 hne1
                go_wp2_with fail
                refine (CL.out m4 HR15.out.c).mono ?_
                rintro e m5 ⟨rfl, hc5, ht5⟩
                have HR16 := Lib.hid (HR15.out.clock hc5 ht5)
                have HN16 := Lib.hid (HN15.out.grown (show m4.grownBy m5 (some gc) from ht5) HFX.out (fun q e => by cases e; exact ⟨hgc, HR15.out.uc⟩))
                have HB16 := Lib.hid (HB15.out.trans (ht5.below hwgc hz15))
                have hz16 := HB16.out.size
                clear hc5 ht5 HB15 HN15 HR15 CL y2 y3
                go_wp2_with fail
                refine (CN.out m5 HR16.out.c).mono ?_
                rintro e m6 ⟨rfl, hbm6⟩
                have HB17 := Lib.hid (HB16.out.trans (hbm6.mono hz16))
                have HN17 := Lib.hid (HN16.out.below hbm6)
                have HR17 := Lib.hid (HR16.out.below hbm6)
                have hz17 := HB17.out.size
                obtain ⟨mb, hmb⟩ : ∃ W, m6.alloc (.cells #[.int .i64 l, .int .i64 u] 41) = W := ⟨_, rfl⟩
                have hba : Below m6.heap.size m6 mb := by rw [← hmb]; exact (Below.refl _ _).alloc (Nat.le_refl _) _
                have hbk : Blk mb m6.heap.size 41 #[.int .i64 l, .int .i64 u] := by rw [← hmb]; exact Blk.new m6 _ _
                have y0 := hbk.cell 0
                have y1 := hbk.cell 1
                simp at y0 y1
                have HB18 := Lib.hid (HB17.out.trans (hba.mono hz17))
                have HN18 := Lib.hid (HN17.out.below hba)
                have HR18 := Lib.hid (HR17.out.below hba)
                have hz18 := HB18.out.size
                clear hbm6 hba hbk HB16 HN16 HR16 HB17 HN17 HR17 CN
                go_wp2_with fail
                clear hmb
                refine (CH.out mb).mono ?_
                rintro e m7 ⟨rfl, hbm7⟩
                have HB19 := Lib.hid (HB18.out.trans (hbm7.mono hz18))
                have HN19 := Lib.hid (HN18.out.below hbm7)
                have HR19 := Lib.hid (HR18.out.below hbm7)
                have hz19 := HB19.out.size
                clear hbm7 HB18 HN18 HR18 CH y0 y1
                go_wp2_with fail
                refine (CP.out m7 HR19.out.c).mono ?_
                rintro e m8 ⟨rfl, hc8, ht8⟩
                have HR20 := Lib.hid (HR19.out.clock hc8 ht8)
                have HN20 := Lib.hid (HN19.out.grown (show m7.grownBy m8 (some gc) from ht8) HFX.out (fun q e => by cases e; exact ⟨hgc, HR19.out.uc⟩))
                have HB20 := Lib.hid (HB19.out.trans (ht8.below hwgc hz19))
                have hz20 := HB20.out.size
                clear hc8 ht8 HB19 HN19 HR19 CP
                rcases HPT.out with hp0 | ⟨rfl, hpv⟩
                · rw [errV_ne hp0]
                  clear hp0 HPT
                  as_aux_lemma =>
                    go_wp2_with fail
                    go_roundw
                    case rel => exact ⟨k + 1, K4, T, la, ke, wn, uv4, S2, c3, ll, by go_num, rfl, rfl, hk1, hk21, hK4, hT1, hla, hla3, hwn, hwn3, HL.out, HS3.out, HN20.out, HT4.out, HR20.out, HB20.out⟩
                    case measure => go_light; simp [intOf]; omega
                · rw [errV_0]
                  by_cases hp1 : pv < 0
                  · have b1 : decide (pv < 0) = true := decide_eq_true hp1
                    clear HPT hp1
                    as_aux_lemma =>
                      go_wp2_with fail
                      clear b1
                      go_roundw
                      case rel => exact ⟨k + 1, K4, T, la, ke, wn, uv4, S2, c3, ll, by go_num, rfl, rfl, hk1, hk21, hK4, hT1, hla, hla3, hwn, hwn3, HL.out, HS3.out, HN20.out, HT4.out, HR20.out, HB20.out⟩
                      case measure => go_light; simp [intOf]; omega
                  · have b1 : decide (pv < 0) = false := decide_eq_false hp1
                    obtain ⟨⟨e1, e2, e3, e4⟩, htl2, htl3, e5, e6, e7, e8, hwr1, hwr2⟩ := serve_keep (ke := ke) (ah := a4) hla hla2 hwn hwn2 hpv hp1 d2
                    obtain ⟨X, eX⟩ : ∃ v, tellN la pv = v := ⟨_, rfl⟩
                    obtain ⟨ke', eke⟩ : ∃ v, keptN la ke a4 pv = v := ⟨_, rfl⟩
                    obtain ⟨wn', ewn⟩ : ∃ v, wroteN la ke wn pv = v := ⟨_, rfl⟩
                    have CR := Lib.hid (read_ok eX eke ewn m8 HR20.out.k hla e1 hwn e2 hk.1 hk.2 e3 e4)
                    rw [eX] at htl2 htl3 e5 e6 e7 e8
                    rw [ewn] at hwr1 hwr2
                    obtain ⟨zl, hzl, hvl⟩ := lab_total (x := X) e5 e6
                    obtain ⟨s1, s2⟩ := HL.out.up htl2 hzl hvl
                    have HLn := Lib.hid (show LabS X (labT zl) from .inr ⟨e5, zl, hzl, hvl, rfl⟩)
                    have CU := Lib.hid (fun (W : World) (hW : TabAt W) => utc_nil hzl W hW)
                    obtain ⟨lt, elt⟩ : ∃ v, labT zl = v := ⟨_, rfl⟩
                    have CPr := Lib.hid (fun (W : World) (hW : TabAt W) => print_ok hvl elt W hW)
                    rw [elt] at s1 s2 HLn
                    have b2 : decide (X ≤ la) = false := decide_eq_false (Int.not_le.2 htl2)
                    have b3 : decide (X < pv) = false := decide_eq_false (Int.not_lt.2 htl3)
                    clear hp1 HPT eX eke ewn hzl hvl elt HL e1 e2 e3 e4 e5 e6
                    go_wp2_with fail
                    refine CR.out.mono ?_
                    rintro e m9 ⟨rfl, hk9, ht9⟩
                    have HR21 := Lib.hid (HR20.out.keep hk9 ht9)
                    have HN21 := Lib.hid (HN20.out.grown (show m8.grownBy m9 (some gk) from ht9) HFX.out (fun q e => by cases e; exact ⟨Nat.le_refl _, HR20.out.uk⟩))
                    have HB21 := Lib.hid (HB20.out.trans (ht9.below hz6 hz20))
                    have hz21 := HB21.out.size
                    clear hk9 ht9 HB20 HN20 HR20 CR
                    go_wp2_with fail
                    refine (CU.out m9 (HT.out.below HB21.out)).mono ?_
                    rintro e m10 ⟨rfl, hbm10⟩
                    have HB22 := Lib.hid (HB21.out.trans (hbm10.mono hz21))
                    have HN22 := Lib.hid (HN21.out.below hbm10)
                    have HR22 := Lib.hid (HR21.out.below hbm10)
                    have hz22 := HB22.out.size
                    obtain ⟨mc, hmc⟩ : ∃ W, m10.alloc (.cells #[.int .i64 zl.year, .int .i64 zl.month, .int .i64 zl.day, .int .i64 zl.h, .int .i64 zl.m, .int .i64 zl.s] 53) = W := ⟨_, rfl⟩
                    have hba : Below m10.heap.size m10 mc := by rw [← hmc]; exact (Below.refl _ _).alloc (Nat.le_refl _) _
                    have hbk : Blk mc m10.heap.size 53 #[.int .i64 zl.year, .int .i64 zl.month, .int .i64 zl.day, .int .i64 zl.h, .int .i64 zl.m, .int .i64 zl.s] := by rw [← hmc]; exact Blk.new m10 _ _
                    have y0 := hbk.cell 0
                    have y1 := hbk.cell 1
                    have y2 := hbk.cell 2
                    have y3 := hbk.cell 3
                    have y4 := hbk.cell 4
                    have y5 := hbk.cell 5
                    simp at y0 y1 y2 y3 y4 y5
                    have HB23 := Lib.hid (HB22.out.trans (hba.mono hz22))
                    have HN23 := Lib.hid (HN22.out.below hba)
                    have HR23 := Lib.hid (HR22.out.below hba)
                    have hz23 := HB23.out.size
                    clear hbm10 hba hbk HB21 HN21 HR21 HB22 HN22 HR22 CU
                    go_wp2_with fail
                    clear hmc
                    refine (CPr.out mc (HT.out.below HB23.out)).mono ?_
                    rintro e m11 ⟨rfl, hbm11⟩
                    have HB24 := Lib.hid (HB23.out.trans (hbm11.mono hz23))
                    have HN24 := Lib.hid (HN23.out.below hbm11)
                    have HR24 := Lib.hid (HR23.out.below hbm11)
                    have hz24 := HB24.out.size
                    clear hbm11 HB23 HN23 HR23 CPr y0 y1 y2 y3 y4 y5
                    go_wp2_with fail
                    go_roundw
                    case rel => exact ⟨k + 1, K4, T, X, ke', wn', uv4, S2, c3, lt, by go_num, rfl, rfl, hk1, hk21, hK4, hT1, e7, e8, hwr1, hwr2, HLn.out, HS3.out, HN24.out, HT4.out, HR24.out, HB24.out⟩
                    case measure => go_light; simp [intOf]; omega
          · obtain rfl : k = 20 := by omega
            go_wp2_with fail
            go_ret
            exact ⟨rfl, HBr.out⟩
        · obtain rfl : k = n3 := by omega
          go_wp2_with fail
          go_ret
          exact ⟨rfl, HBr.out⟩
    · refine (keeper_New_no a4 w6 (by omega)).mono ?_
      rintro e w7 ⟨rfl, rfl⟩
      go_wp2_with fail
      refine (clock_New_ok a2 _ r1).mono ?_
      rintro e w8 ⟨rfl, hw8⟩
      have HB8 := Lib.hid (show Below w.heap.size w w8 by rw [hw8]; exact HB6.out.alloc hz6 _)
      clear hw8
      go_wp2_with fail
      go_ret
      exact ⟨rfl, HB8.out⟩
  · have CN := Lib.hid (net_New_no _ _ _ [0, a0] _ _ _ [a1, 0] a2 _ I0 I1 hp.out e0)
    obtain ⟨c, hc⟩ : ∃ c, newC [0, a0] [a1, 0] a2 = c := ⟨_, rfl⟩
    rw [hc] at CN e0
    clear hc I0 I1 hp
    refine CN.out.mono ?_
    rintro e w6 ⟨rfl, rfl⟩
    go_wp2_with fail
    by_cases hk : 1 ≤ a4 ∧ a4 ≤ 1000000
    · refine (keeper_New_ok a4 _ hk.1 hk.2).mono ?_
      rintro e w7 ⟨rfl, hw7⟩
      have HB7 := Lib.hid (show Below w.heap.size w w7 by rw [hw7]; exact HBx.out.alloc hzx _)
      have hz7 := HB7.out.size
      clear hw7
      go_wp2_with fail
      cases hr : rateB a2
      · refine (clock_New_no a2 w7 hr).mono ?_
        rintro e w8 ⟨rfl, rfl⟩
        clear hr
        go_wp2_with fail
        go_ret
        exact ⟨rfl, HB7.out⟩
      · refine (clock_New_ok a2 w7 hr).mono ?_
        rintro e w8 ⟨rfl, hw8⟩
        have HB8 := Lib.hid (show Below w.heap.size w w8 by rw [hw8]; exact HB7.out.alloc hz7 _)
        clear hw8 hr
        go_wp2_with fail
        go_ret
        exact ⟨rfl, HB8.out⟩
    · refine (keeper_New_no a4 _ (by omega)).mono ?_
      rintro e w7 ⟨rfl, rfl⟩
      go_wp2_with fail
      cases hr : rateB a2
      · refine (clock_New_no a2 _ hr).mono ?_
        rintro e w8 ⟨rfl, rfl⟩
        clear hr
        go_wp2_with fail
        go_ret
        exact ⟨rfl, HBx.out⟩
      · refine (clock_New_ok a2 _ hr).mono ?_
        rintro e w8 ⟨rfl, hw8⟩
        have HB8 := Lib.hid (show Below w.heap.size w w8 by rw [hw8]; exact HBx.out.alloc hzx _)
        clear hw8 hr
        go_wp2_with fail
        go_ret
        exact ⟨rfl, HB8.out⟩

set_option maxRecDepth 100000 in
theorem lifted (os : Os) (started : os.Started) (H : Type) (enc : TypeId × Value → H) :
    ReturnsInHanded {} Tryd.checked os 3 .any (fun w args => (Rows.topServesSpec.pre enc Tryd.prog Tryd.f3 [] false w args ∧ laidMetH Tryd.prog laidListT w) ∧ sizedMet enc Tryd.prog Tryd.f3 (OpenSpec.ofChange Rows.topServesSpec) false w args)
      (Rows.topServesSpec.post enc Tryd.prog Tryd.f3 false true false false) := by
  refine returnsInHanded_of_change_and (C := Tryd.checked) (X := fun w _ => laidMetH Tryd.prog laidListT w) (fun _ _ _ hh h => h.of_heap hh) own started (by kernel_rfl) Tryd.func3
    (ChangeSpec.witness_at (enc := enc) (C := Tryd.checked) (os := os) (X := fun w _ => laidMetH Tryd.prog laidListT w) false (laidWorldT os) #[.int .i64 0, .int .i64 0, .int .i64 0, .slice none 0 0, .int .i64 0] 8 rfl (by kernel_rfl) (by kernel_rfl) (by kernel_rfl) (by kernel_rfl) (by kernel_rfl) (laidWorldT_met os _)) ?_
  intro W base args ds gs before hval0 hW hcnd hreach hL _
  have hval : ∀ (j : Nat) t v, Tryd.f3.params[j]? = some t → args[j]? = some v → Value.okWide Tryd.prog W .any base t v := hval0
  have hW' := hW
  obtain ⟨p, q, hA0, hV, rfl, hfz, hnd⟩ := hW
  have hA : DataW.TrodAll enc Tryd.prog W 0 (fun _ => true) true Tryd.f3.params.toList args.toList ds p := hA0
  rw [Tryd.params3] at hA hval
  obtain ⟨v0, vs0, d0, ds0, p0, q0, hargs, rfl, rfl, g0, r0⟩ := trodAll_cons hA
  obtain ⟨v1, vs1, d1, ds1, p1, q1, rfl, rfl, rfl, g1, r1⟩ := trodAll_cons r0
  obtain ⟨v2, vs2, d2, ds2, p2, q2, rfl, rfl, rfl, g2, r2⟩ := trodAll_cons r1
  obtain ⟨v3, vs3, d3, ds3, p3, q3, rfl, rfl, rfl, g3, r3⟩ := trodAll_cons r2
  obtain ⟨v4, vs4, d4, ds4, p4, q4, rfl, rfl, rfl, g4, r4⟩ := trodAll_cons r3
  obtain ⟨rfl, rfl, rfl⟩ := trodAll_nil r4
  obtain rfl : args = #[v0, v1, v2, v3, v4] := by cases args; simp_all
  have hV2 : DataW.TrodVars enc Tryd.prog W (fun _ => true) [] gs q := hV
  obtain ⟨rfl, rfl⟩ : gs = [] ∧ q = [] := by
    cases gs with
    | nil => exact ⟨rfl, hV2⟩
    | cons g r => exact absurd hV2 (by intro h; cases h)
  obtain ⟨a0, rfl, rfl, rfl, u0⟩ := open_int Tryd.underlying3 (hval 0 3 v0 rfl rfl) g0
  have h0 := bounds_i64 u0
  obtain ⟨a1, rfl, rfl, rfl, u1⟩ := open_int Tryd.underlying3 (hval 1 3 v1 rfl rfl) g1
  have h1 := bounds_i64 u1
  obtain ⟨a2, rfl, rfl, rfl, u2⟩ := open_int Tryd.underlying3 (hval 2 3 v2 rfl rfl) g2
  have h2 := bounds_i64 u2
  have k3 := g3
  have lt3 : ∀ x ∈ p3, x.block < W.heap.size := by obtain ⟨m, hm⟩ := k3; exact DataW.trod_lt m _ _ _ hm
  have rd3 : Tryd.prog.readableRec 22 = true := by kernel_rfl
  have ls3 : 22 < Tryd.prog.types.size := of_decide_eq_true (by kernel_rfl)
  obtain ⟨a3, n3, c3, z3, rfl, h3⟩ := open_Ints (hval 3 22 v3 rfl rfl) g3
  obtain ⟨a4, rfl, rfl, rfl, u4⟩ := open_int Tryd.underlying3 (hval 4 3 v4 rfl rfl) g4
  have h4 := bounds_i64 u4
  clear hA0 hval0
  refine (walk a0 a1 a2 a3 n3 c3 z3 a4 W h0 h1 h2 h3 h4 (tab_of_laidT hL)).mono fun e W' ⟨he, bel⟩ => ?_
  subst he
  exact ⟨_, rfl, _, _, _, [], _, [], hW', trodAll_mk1 (shut_bool Tryd.underlying4 _), (trodAll_cons_mk (shut_int Tryd.underlying3 u0) (trodAll_cons_mk (shut_int Tryd.underlying3 u1) (trodAll_cons_mk (shut_int Tryd.underlying3 u2) (trodAll_cons_mk (Below.trod laidOut rd3 ls3 k3 bel lt3) (trodAll_cons_mk (shut_int Tryd.underlying3 u4) trodAll_mk0))))), rfl, bel.frame _, fun h => by cases h⟩

theorem over : Rows.topServesRow.holds Tryd.pinned (OpenSpec.ofChange Rows.topServesSpec) :=
  OpenClaim.holds_of_wide 3 Tryd.f3 rfl rfl rfl rfl rfl rfl rfl ⟨rfl, rfl, rfl, rfl, rfl⟩ rfl rfl rfl rfl rfl (by kernel_rfl) Tryd.func3 (by kernel_rfl)
    (of_decide_eq_true (by kernel_rfl)) (by unfold Func.isWrapper; rw [if_neg (of_decide_eq_false (by kernel_rfl))]; exact ⟨rfl, rfl⟩)
    (fun os started H enc _ => lifted os started H enc)

theorem card : Rows.TopServesCardSaid :=
  Claim7.holds_tied_plain_at .later [] [.data] true (true, Rows.topServesCard.stood.harness.2) true
    over (fun _ h => by cases h) (by kernel_rfl) (fun _ h => by cases h) topServes_row_tie rfl ⟨rfl, rfl⟩ (by kernel_rfl) rfl
    (fun f fn hf hfn => by
      obtain rfl : f = 3 := Option.some.inj ((show Tryd.prog.funcNamed "noonmark/noontop.TopServes" = some 3 by kernel_rfl).symm.trans hf) |>.symm
      obtain rfl : fn = Tryd.f3 := (Option.some.inj (Tryd.func3.symm.trans hfn)).symm
      exact ⟨by kernel_rfl, fun j t ht => by
        rw [Tryd.params3] at ht
        exact noStandIn (ps := #[3, 3, 3, 22, 3]) (by kernel_rfl) ht⟩)
    (by kernel_rfl)

end Go.Proofs.YtfjpfkejajgkbaaDoor.lTopServes
