/- Proved: noontop.TopOrders answers true for every input and leaves its arguments as they were: events at true clocks, told as spans of one clock's time, could be in the order in which they were. Its conditions: none. -/
import Derived.Test.YtfjpfkejajgkbaaHG1
import Derived.Test.YtfjpfkejajgkbaaHNetD
import Derived.Test.YtfjpfkejajgkbaaHTopO
import Derived.Test.YtfjpfkejajgkbaaHTopR
import Derived.Test.YtfjpfkejajgkbaaHNetX
import Derived.Test.YtfjpfkejajgkbaaHTopOne
import Derived.Test.YtfjpfkejajgkbaaHOrdJ
import Derived.Deep.AppendLies
import Derived.Deep.DeepCutAuto
import Derived.Deep.CutBlock
import Derived.Deep.Light
namespace Go.Proofs.Ytfjpfkejajgkbaa.lTopOrders
open Go.ChangeShapes Go.WideShapes Go.ChangeAt Go.RowKit
set_option linter.unusedVariables false
set_option linter.unusedSimpArgs false
theorem int_one (z : Int) : ∀ u ∈ intCells z, u.oneCell' = true := by intro u hu; simp [intCells] at hu; subst hu; rfl
theorem event_one (z : REvent) : ∀ u ∈ REvent.cells z, u.oneCell' = true := by intro u hu; simp [REvent.cells] at hu; rcases hu with rfl | rfl | rfl <;> rfl
theorem infoEv : (Try.prog.info? 57).map (fun i => (i.zero, i.size, i.bytes)) = some (some (.agg #[.int .i64 0, .int .i64 0, .int .i64 0]), 3, 24) := by kernel_rfl
set_option maxRecDepth 100000 in
set_option maxHeartbeats 32000000 in
theorem walk (a0 : Option Addr) (n0 c0 : Nat) (z0 : List Int) (a1 : Option Addr) (n1 c1 : Nat) (z1 : List Int) (a2 : Int) (a3 : Option Addr) (n3 c3 : Nat) (z3 : List RAct) (a4 : Option Addr) (n4 c4 : Nat) (z4 : List Int) (w : World) (h0 : IsInts w a0 n0 c0 z0) (h1 : IsInts w a1 n1 c1 z1) (h2 : -9223372036854775808 ≤ a2 ∧ a2 ≤ 9223372036854775807) (h3 : IsRecs w RAct.cells RAct.ok 3 a3 n3 c3 z3) (h4 : IsInts w a4 n4 c4 z4) :
    Calls Try.prog 4 #[.slice a0 n0 c0, .slice a1 n1 c1, .int .i64 a2, .slice a3 n3 c3, .slice a4 n4 c4] w fun e w' => e = .returned (.bool true) ∧ Below w.heap.size w w' := by
  obtain ⟨i0, hi, hz0, hz1, hz2⟩ := info_parts infoI64
  obtain ⟨j0, hj, jz0, jz1, jz2⟩ := info_parts infoEv
  have H0 := Lib.hid h0
  have H1 := Lib.hid h1
  obtain ⟨l1, l2, l3, l4, l5⟩ := h3
  unfold maxLen at l3
  have L1 := Lib.hid l1
  have L4 := Lib.hid l4
  have L5 := Lib.hid l5
  obtain ⟨p1, p2, p3, p4, p5⟩ := h4
  unfold maxLen at p3
  have P1 := Lib.hid p1
  have P5 := Lib.hid p5
  have hp := Lib.hid h2
  clear h0 h1 h2 l1 l4 l5 p1 p4 p5
  go_enter Try.func4, Try.ntmps4
  go_wp2_with fail
  refine (top_one _).mono ?_
  rintro e w5 ⟨rfl, hb5⟩
  have HBx := Lib.hid hb5
  have hz5 := hb5.size
  clear hb5
  go_wp2_with fail
  by_cases e0 : newC z0 z1 a2 = 0
  · obtain ⟨r1, r2, r3, r4, r5⟩ := newC_0 e0
    have hn1 : 1 ≤ n0 := by rw [← H0.out.1]; exact r2
    have hn6 : n0 ≤ 6 := by rw [← H0.out.1]; exact r3
    have LS := Lib.hid (show z0.length = n0 from H0.out.1)
    have LR := Lib.hid (show z1.length = n0 by rw [← H0.out.1]; exact r4)
    have hc0 := H0.out.2.2.1
    have hc00 := H0.out.2.1
    unfold maxLen at hc0
    have HT0 := Lib.hid (new_true (n := n0) e0 LS.out)
    have CN := Lib.hid (net_New a0 n0 c0 z0 a1 n1 c1 z1 a2 _ (H0.out.below HBx.out) (H1.out.below HBx.out) e0)
    clear r1 r2 r3 r4 r5 e0 H0 H1 hp
    refine CN.out.mono ?_
    rintro e w6 ⟨a, rfl, han, hgw, hN, hb6⟩
    subst han
    have HB6 := Lib.hid (HBx.out.trans (hb6.mono hz5))
    have hga : w.heap.size ≤ a.g := by omega
    have HN6 := Lib.hid hN
    have HFX := Lib.hid hN.fix
    have hz6 := HB6.out.size
    clear hgw hN hb6 HBx hz5 CN
    go_upto_block 0 with fail
    go_cut [14, 15, 16] (fun lv ov _ wx => ∃ (k : Nat) (m : Int) (E : List REvent) (uv : Value), TwoRows wx w6.heap.size lv ov uv E (iotaL E.length) ∧ EvOk k m E ∧ k ≤ 60 ∧ Below w.heap.size w wx)
    case first =>
      as_aux_lemma =>
      go_wp2_with fail
      go_loopw [14, 15, 16] (fun lv ov iv wr => ∃ (k : Nat) (t : Int) (uv : Value) (us : List RLetter) (S : Nat → NSt) (E : List REvent), iv = .int .i64 k ∧ k ≤ n3 ∧ k ≤ 60 ∧ k ≤ n4 ∧ NetAt wr a z0 z1 a2 t uv us k S ∧ TrueN a.n z0 z1 a2 t us S ∧ TwoRows wr w6.heap.size lv ov uv E (iotaL E.length) ∧ EvOk k (hereAt z0 z1 t 0) E ∧ w6.heap.size ≤ wr.heap.size ∧ Below w.heap.size w wr) (fun _ _ iv _ => n3 - (intOf iv).toNat)
      case atStart => exact ⟨0, 0, _, [], _, [], rfl, by omega, by omega, by omega, HN6.out, HT0.out, TwoRows.nil _ _ _, EvOk.nil _ _, Nat.le_refl _, HB6.out⟩
      case round =>
        obtain ⟨k, t, uv, us, S, E, rfl, hk, hk60, hk4, hN, hT, hR, hE, hw6, hB⟩ := hrel
        have HNr := Lib.hid hN
        have HTr := Lib.hid hT
        have HBr := Lib.hid hB
        have HRr := Lib.hid hR
        have HEr := Lib.hid hE
        have HZr := hB.size
        obtain ⟨Al, cl, el, hcl, hcl2⟩ := own_slice hR.l
        obtain ⟨Ao, co, eo, hco, hco2⟩ := own_slice hR.o
        rw [iotaL_len] at eo hco
        unfold maxLen at hcl2 hco2
        subst el eo
        have hl12 := hE.len
        clear hN hT hB hR hE HN6 HT0
        by_cases d1 : k < n3
        · by_cases d2 : k < 60
          · by_cases d3 : k < n4
            · obtain ⟨z, hz⟩ : ∃ z, z3[k]? = some z := ⟨_, List.getElem?_eq_getElem (by rw [L1.out]; omega)⟩
              obtain ⟨b3, off3, rfl, hb3, hc3⟩ := L5.out (by omega)
              obtain ⟨v, hv⟩ : ∃ v, z4[k]? = some v := ⟨_, List.getElem?_eq_getElem (by rw [P1.out]; omega)⟩
              obtain ⟨b4, off4, rfl, hb4, hc4⟩ := P5.out (by omega)
              have x0 : wr.cell? ⟨b3, off3 + k * 3, none⟩ = some (.int .i64 z.what) := (HBr.out.cell (p := ⟨b3, off3 + k * 3, none⟩) hb3).trans (hc3 k z hz 0 _ rfl)
              have x1 : wr.cell? ⟨b3, off3 + k * 3 + 1, none⟩ = some (.int .i64 z.a) := (HBr.out.cell (p := ⟨b3, off3 + k * 3 + 1, none⟩) hb3).trans (hc3 k z hz 1 _ rfl)
              have x2 : wr.cell? ⟨b3, off3 + k * 3 + 2, none⟩ = some (.int .i64 z.b) := (HBr.out.cell (p := ⟨b3, off3 + k * 3 + 2, none⟩) hb3).trans (hc3 k z hz 2 _ rfl)
              have HX4 := Lib.hid (fun W (hW : Below w.heap.size w W) => show W.cell? ⟨b4, off4 + k, none⟩ = some (.int .i64 v) by
                have := (hW.cell (p := ⟨b4, off4 + k * 1 + 0, none⟩) hb4).trans (hc4 k v hv 0 _ rfl)
                simpa using this)
              obtain ⟨c, t', us', S', hna⟩ := nact_total a.n z0 z1 t us S z LS.out LR.out HNr.out.has
              obtain ⟨hT', hc7⟩ := nact_true HTr.out LS.out hna
              have hm := Lib.hid (HTr.out.C.mono (i := 0) (by omega) (nact_time hna))
              have CD := Lib.hid (net_Do a z0 z1 a2 t t' uv us us' k S S' z c wr HNr.out (L4.out z (List.mem_of_getElem? hz)) (by omega) hna)
              have HT' := Lib.hid hT'
              have q0 : (0 : Int) ≤ (k : Int) := by omega
              have q1 : (k : Int) < (n3 : Int) := by omega
              have q2 : (k : Int) < 60 := by omega
              have q3 : (k : Int) < (n4 : Int) := by omega
              clear hc3 hz hna hT' hc7 hc4 hv
              go_wp2_with fail
              refine CD.out.mono ?_
              rintro e w7 ⟨rfl, uv', hN7, hK7, hq7⟩
              have HB7 := Lib.hid (HNr.out.done HBr.out hga hK7)
              have hw7 : w6.heap.size ≤ w7.heap.size := Nat.le_trans hw6 hK7.size
              have HN7 := Lib.hid hN7
              have HR7 := Lib.hid (HRr.out.done hK7 HFX.out hq7)
              have hz7 := HB7.out.size
              have HUl := Lib.hid (fun q e => (hN7.W.low q e).2)
              have HE7 := Lib.hid (HEr.out.mono hm.out)
              clear hN7 hK7 hq7 CD HNr HBr HTr HRr x0 x1 x2
              have y0 := HX4.out w7 HB7.out
              by_cases c12 : E.length = 12
              · as_aux_lemma =>
                have b12 : ((E.length : Int) == 12) = true := by simp; omega
                clear c12
                go_upto_if 78 with (fail)
                go_wp2_with fail
                go_roundw
                case rel => exact ⟨k + 1, t', uv', us', S', E, by go_num, by omega, by omega, by omega, HN7.out, HT'.out, HR7.out, HE7.out, hw7, HB7.out⟩
                case measure => go_light; simp [intOf]; omega
              · have b12 : ((E.length : Int) == 12) = false := by simp; omega
                by_cases v0 : v < 0
                · as_aux_lemma =>
                  have bv : decide (v < 0) = true := by simp; omega
                  go_upto_if 78 with (fail)
                  go_wp2_with fail
                  go_roundw
                  case rel => exact ⟨k + 1, t', uv', us', S', E, by go_num, by omega, by omega, by omega, HN7.out, HT'.out, HR7.out, HE7.out, hw7, HB7.out⟩
                  case measure => go_light; simp [intOf]; omega
                · have bv : decide (v < 0) = false := by simp; omega
                  by_cases v1 : (a.n : Int) ≤ v
                  · as_aux_lemma =>
                    have bn : decide ((a.n : Int) ≤ v) = true := by simp; omega
                    go_upto_if 78 with (fail)
                    go_wp2_with fail
                    go_roundw
                    case rel => exact ⟨k + 1, t', uv', us', S', E, by go_num, by omega, by omega, by omega, HN7.out, HT'.out, HR7.out, HE7.out, hw7, HB7.out⟩
                    case measure => go_light; simp [intOf]; omega
                  · have bn : decide ((a.n : Int) ≤ v) = false := by simp; omega
                    obtain ⟨i, rfl⟩ := Int.eq_ofNat_of_zero_le (show 0 ≤ v by omega)
                    have hin : i < a.n := by omega
                    have CO := Lib.hid (net_Offset a z0 z1 a2 t' uv' us' (k + 1) S' (i : Int) 0 w7 HN7.out)
                    clear v0 v1
                    go_upto_if 78 with (fail)
                    go_wp2_with fail
                    refine CO.out.mono ?_
                    rintro e w8 ⟨x, c', rfl, hS, hb8⟩
                    have HX := Lib.hid hS
                    have HB8 := Lib.hid (HB7.out.trans (hb8.mono hz7))
                    have HN8 := Lib.hid (HN7.out.below hb8)
                    have HR8 := Lib.hid (HR7.out.below hb8)
                    have hz8 := HB8.out.size
                    have hw8 : w6.heap.size ≤ w8.heap.size := Nat.le_trans hw7 hb8.size
                    clear hS hb8 HB7 HN7 HR7 CO y0
                    by_cases hc0 : c' = 0
                    · subst hc0
                      rw [errV_0]
                      obtain ⟨i', j', e1, e2, hi', hj', hin'⟩ := (HT'.out.offset_in hn1 HX.out).resolve_left (fun h => h rfl) |>.2
                      obtain rfl : i = i' := by omega
                      obtain rfl : j' = 0 := by omega
                      have hbd := HT'.out.offset_bd HX.out
                      have bd := HT'.out.C.bd hi' HT'.out.t0 HT'.out.t1
                      have CS := Lib.hid (fun W hW => net_Show a z0 z1 a2 t' uv' us' (k + 1) S' i W hW hin)
                      have HMo := Lib.hid hm.out
                      obtain ⟨hv, ehv⟩ : ∃ v, hereAt z0 z1 t' i = v := ⟨_, rfl⟩
                      obtain ⟨h0v, eh0⟩ : ∃ v, hereAt z0 z1 t' 0 = v := ⟨_, rfl⟩
                      rw [ehv] at CS bd hin'
                      rw [eh0] at hin' HMo HE7
                      unfold hasB at hin'
                      simp only [Bool.and_eq_true, decide_eq_true_eq] at hin'
                      obtain ⟨g1, g2, g3⟩ := hin'
                      have g4 := rightB_iff.1 g1
                      have r1 : rightB (x.lo + hv) (x.hi + hv) = true := rightB_iff.2 (by omega)
                      have hadd : addS x.lo x.hi hv hv = ⟨x.lo + hv, x.hi + hv, 0⟩ := by
                        unfold addS whole
                        rw [if_pos ⟨g1, rightB_iff.2 (by omega)⟩, if_pos r1]
                      have CA := Lib.hid (fun W => by have := span_Add x.lo x.hi hv hv W; rw [hadd] at this; exact this)
                      have HEn := Lib.hid (HEr.out.snoc c12 HMo.out r1 (by omega) (by omega))
                      have HEh := Lib.hid eh0
                      obtain ⟨lo', elo⟩ : ∃ v, x.lo + hv = v := ⟨_, rfl⟩
                      obtain ⟨hi2, ehi⟩ : ∃ v, x.hi + hv = v := ⟨_, rfl⟩
                      simp only [elo, ehi] at CA HEn
                      obtain ⟨w8a, hw8a⟩ : ∃ W, w8.alloc (.cells #[.int .i64 x.lo, .int .i64 x.hi] 34) = W := ⟨_, rfl⟩
                      have hb8a : Below w8.heap.size w8 w8a := by rw [← hw8a]; exact (Below.refl _ _).alloc (Nat.le_refl _) _
                      have hbk : Blk w8a w8.heap.size 34 #[.int .i64 x.lo, .int .i64 x.hi] := by rw [← hw8a]; exact Blk.new w8 _ _
                      have HBa := Lib.hid (HB8.out.trans (hb8a.mono hz8))
                      have HNa := Lib.hid (HN8.out.below hb8a)
                      have HRa := Lib.hid (HR8.out.below hb8a)
                      have hza := HBa.out.size
                      have hs8a := hbk.lt
                      have y0 := HX4.out w8a HBa.out
                      have HBk := Lib.hid hbk
                      clear hbd bd g1 g2 g3 g4 r1 hadd HX hb8a hbk HE7 HMo eh0 ehv elo ehi e1 e2 HB8 HN8 HR8 hm
                      go_wp2_with fail
                      clear hw8a
                      refine (CS.out _ HNa.out).mono ?_
                      rintro e w9 ⟨rfl, hb9⟩
                      have hbk := HBk.out.below hb9 hs8a
                      have v0 := hbk.cell 0
                      have v1 := hbk.cell 1
                      simp at v0 v1
                      have HB9 := Lib.hid (HBa.out.trans (hb9.mono hza))
                      have HN9 := Lib.hid (HNa.out.below hb9)
                      have HR9 := Lib.hid (HRa.out.below hb9)
                      have hz9 := HB9.out.size
                      have hs9 := hb9.size
                      clear hb9 hbk HBk HBa HNa HRa CS y0
                      go_wp2_with fail
                      refine (CA.out _).mono ?_
                      rintro e w10 ⟨rfl, hb10⟩
                      have hs10 := hb10.size
                      obtain ⟨wa, hwa⟩ : ∃ W, w10.alloc (.cells #[.int .i64 lo', .int .i64 hi2] 34) = W := ⟨_, rfl⟩
                      have hba : Below w10.heap.size w10 wa := by rw [← hwa]; exact (Below.refl _ _).alloc (Nat.le_refl _) _
                      have hbk : Blk wa w10.heap.size 34 #[.int .i64 lo', .int .i64 hi2] := by rw [← hwa]; exact Blk.new w10 _ _
                      have hb9a := hb10.trans (hba.mono hs10)
                      have HBa := Lib.hid (HB9.out.trans (hb9a.mono hz9))
                      have HNa := Lib.hid (HN9.out.below hb9a)
                      have HRa := Lib.hid (HR9.out.below hb9a)
                      have hza := HBa.out.size
                      have hsa := hbk.lt
                      have u0 := hbk.cell 0
                      have u1 := hbk.cell 1
                      simp at u0 u1
                      have hw9 : w6.heap.size ≤ wa.heap.size := by have := hba.size; omega
                      have hoB := Lib.hid (fun q e => (HR9.out.o.lt q e).2)
                      have hbal := Lib.hid (fun o => (Below.refl wa.heap.size wa).alloc (Nat.le_refl _) o)
                      have hil := iotaL_len E.length
                      have hne1 : some w10.heap.size ≠ (Value.slice Ao E.length co).ownBlock := fun e => by have := hoB.out _ e.symm; omega
                      have U0 := Lib.hid (fun W (hg : (wa.alloc (.cells #[.int .i64 (E.length : Int)] 3)).grownBy W (Value.slice Ao E.length co).ownBlock) => show W.cell? ⟨w10.heap.size, 0, none⟩ = some (.int .i64 lo') ∧ W.cell? ⟨w10.heap.size, 1, none⟩ = some (.int .i64 hi2) from
                        ⟨hg.cell ((World.cell?_alloc_lt _ _ ⟨w10.heap.size, 0, none⟩ hsa).trans u0) hne1, hg.cell ((World.cell?_alloc_lt _ _ ⟨w10.heap.size, 1, none⟩ hsa).trans u1) hne1⟩)
                      clear hb10 hba hbk hb9a HB9 HN9 HR9 CA v0 v1 hoB hne1
                      go_wp2_with (at_builtin; first
                        | (refine wpList_append_lies _ rfl _ _ 22 rfl w6.heap.size 3 i0 (.int .i64 0) 1 8 Try.underlying22 hi hz0 hz1 hz2 rfl (by decide) (.slice Ao E.length co) (iotaL E.length).length _ rfl (HRa.out.o.alloc _) ⟨wa.heap.size, 0, none⟩ 1 1 _ rfl rfl (cell_new wa (intCells (E.length : Int)) _) (int_one _) (by decide) (by unfold maxLen; omega) (by omega) (by simp; omega) _ rfl ?_; intro gg cap w11 ho11 hg11 hgg hlt11; obtain ⟨u2, u3⟩ := U0.out _ hg11; have hs11 := hg11.size; (try simp at hs11))
                        | (refine wpList_append_lies _ rfl _ _ 52 rfl w6.heap.size 57 j0 (.agg #[.int .i64 0, .int .i64 0, .int .i64 0]) 3 24 Try.underlying52 hj jz0 jz1 jz2 rfl (by decide) (.slice Al E.length cl) E.length _ rfl (((HRa.out.below (hbal.out _)).pushO hg11 hgg ho11 (fun q e => ((HNa.out.below (hbal.out _)).W.low q e).2)).l.alloc _) ⟨w11.heap.size, 0, none⟩ 1 1 _ rfl rfl (cell_newAt w11 (REvent.cells ⟨(k : Int), lo', hi2⟩) _ _ rfl) (event_one _) (by decide) (by unfold maxLen; omega) (by omega) (by simp; omega) _ rfl ?_; intro gg2 cap2 w12 hl12 hg12 hgg2 hlt12))
                      have HNb := Lib.hid (HNa.out.below (hbal.out (.cells #[.int .i64 (E.length : Int)] 3)))
                      have HRb := Lib.hid (HRa.out.below (hbal.out (.cells #[.int .i64 (E.length : Int)] 3)))
                      have HR11 := Lib.hid (HRb.out.pushO hg11 hgg ho11 (fun q e => (HNb.out.W.low q e).2))
                      have HN11 := Lib.hid (HNb.out.grown hg11 HFX.out (fun q e => ⟨(HRb.out.o.lt q e).1, fun e2 => HRb.out.ou q e e2⟩))
                      have HB11 := Lib.hid (show Below w.heap.size w w11 from (HBa.out.alloc hza _).grown hg11 (by simp; omega) (fun q e => by have := (HRb.out.o.lt q e).1; omega))
                      have hz11 := HB11.out.size
                      have hbl := (Below.refl w11.heap.size w11).alloc (Nat.le_refl _) (.cells #[.int .i64 (k : Int), .int .i64 lo', .int .i64 hi2] 57)
                      have HNc := Lib.hid (HN11.out.below hbl)
                      have HRc := Lib.hid (HR11.out.below hbl)
                      have HR12 := Lib.hid (HRc.out.pushL (z := ⟨(k : Int), lo', hi2⟩) hg12 hgg2 hl12 (fun q e => (HNc.out.W.low q e).2))
                      have HN12 := Lib.hid (HNc.out.grown hg12 HFX.out (fun q e => ⟨(HRc.out.l.lt q e).1, fun e2 => HRc.out.lu q e e2⟩))
                      have HB12 := Lib.hid (show Below w.heap.size w w12 from (HB11.out.alloc hz11 _).grown hg12 (by simp; omega) (fun q e => by have := (HRc.out.l.lt q e).1; omega))
                      have hw12 : w6.heap.size ≤ w12.heap.size := by have := hg12.size; simp at this; omega
                      have HRz := Lib.hid (by have := HR12.out; rw [hil, ← iotaL_succ, show E.length + 1 = (E ++ [(⟨(k : Int), lo', hi2⟩ : REvent)]).length by simp] at this; exact this)
                      have hlz : (E ++ [(⟨(k : Int), lo', hi2⟩ : REvent)]).length = E.length + 1 := by simp
                      clear ho11 hg11 hgg hl12 hg12 hgg2 hbl HNb HRb HR11 HN11 HNc HRc HR12 HRa HNa hil
                      go_wp2_with fail
                      go_roundw
                      case rel => exact ⟨k + 1, t', uv', us', S', E ++ [⟨(k : Int), lo', hi2⟩], by go_num, by omega, by omega, by omega, HN12.out, HT'.out, by rw [← hlz]; exact HRz.out, by rw [HEh.out]; exact HEn.out, hw12, HB12.out⟩
                      case measure => go_light; simp [intOf]; omega
                    · rw [errV_ne hc0]
                      clear HX hc0
                      as_aux_lemma =>
                      go_wp2_with fail
                      go_roundw
                      case rel => exact ⟨k + 1, t', uv', us', S', E, by go_num, by omega, by omega, by omega, HN8.out.below ((Below.refl _ _).alloc (Nat.le_refl _) _), HT'.out, HR8.out.below ((Below.refl _ _).alloc (Nat.le_refl _) _), HE7.out, by simp; omega, HB8.out.alloc hz8 _⟩
                      case measure => go_light; simp [intOf]; omega
            · obtain rfl : k = n4 := by omega
              go_wp2_with fail
              go_meet
              case rel => exact ⟨_, _, _, _, HRr.out, HEr.out, by omega, HBr.out⟩
          · obtain rfl : k = 60 := by omega
            go_wp2_with fail
            go_meet
            case rel => exact ⟨_, _, _, _, HRr.out, HEr.out, by omega, HBr.out⟩
        · obtain rfl : k = n3 := by omega
          go_wp2_with fail
          go_meet
          case rel => exact ⟨_, _, _, _, HRr.out, HEr.out, by omega, HBr.out⟩
    case rest =>
    obtain ⟨k, m, E, uv, hR, hE, hk60, hB⟩ := hcut
    obtain ⟨w7, hw7⟩ : ∃ x : World, x = wc := ⟨_, rfl⟩
    subst hw7
    have HB7 := Lib.hid hB
    have hz7 := hB.size
    have hlen := hE.len
    obtain ⟨Al, nl, cl, el, hIl⟩ := own_recs REvent.cells REvent.ok 3 (fun _ => rfl) hR.l (fun z hz => by
      have h1 := hE.r z hz
      have h2 := rightB_iff.1 h1.1
      unfold REvent.ok i64B
      omega)
    obtain ⟨Ao, no, co, eo, hIo⟩ := own_recs intCells i64B 1 (fun _ => rfl) hR.o (fun z hz => by have := iotaL_mem.1 hz; unfold i64B; omega)
    obtain rfl : nl = E.length := hIl.1.symm
    obtain rfl : no = E.length := by rw [← hIo.1, iotaL_len]
    have hcl := hIl.2.2.1
    have hco := hIo.2.2.1
    unfold maxLen at hcl hco
    have hl2 := hIl.2.1
    have ho2 := hIo.2.1
    have HRd := Lib.hid hE.ready
    have HCd := Lib.hid hE.could
    have HIl := Lib.hid hIl
    have HIo := Lib.hid (show IsInts w7 Ao E.length co (iotaL E.length) from hIo)
    have CC := Lib.hid (order_Could_ok Al E.length cl E Ao E.length co (iotaL E.length) w7 HIl.out HIo.out (by omega) HRd.out)
    rw [HCd.out] at CC
    rw [el, eo]
    clear hR hE hB hIl hIo el eo
    go_wp2_with fail
    refine CC.out.mono ?_
    rintro e w8 ⟨rfl, hb8⟩
    have CT := Lib.hid (order_Times_ok Al E.length cl E Ao E.length co (iotaL E.length) w8 (HIl.out.below hb8) (IsRecs.below HIo.out hb8) (by omega) HRd.out)
    have HB8 := Lib.hid (HB7.out.trans (hb8.mono hz7))
    have hz8 := HB8.out.size
    clear hb8 CC HB7
    go_wp2_with fail
    refine CT.out.mono ?_
    rintro e w9 ⟨B9, m9, d9, rfl, hI9, hb9⟩
    rw [HCd.out] at hI9
    rw [HCd.out, if_pos rfl, errV_0]
    have hm9 : m9 = E.length := by
      have := hI9.1
      rw [if_pos rfl, tmL_len, iotaL_len] at this
      exact this.symm
    subst hm9
    have HB9 := Lib.hid (HB8.out.trans (hb9.mono hz8))
    clear hI9 hb9 CT HB8 HRd HCd HIl HIo
    go_wp2_with fail
    go_ret
    exact ⟨rfl, HB9.out⟩
  · have CN := Lib.hid (net_New_no a0 n0 c0 z0 a1 n1 c1 z1 a2 _ (H0.out.below HBx.out) (H1.out.below HBx.out) hp.out e0)
    obtain ⟨c, hc⟩ : ∃ c, newC z0 z1 a2 = c := ⟨_, rfl⟩
    rw [hc] at CN e0
    clear hc H0 H1 hp
    refine CN.out.mono ?_
    rintro e w6 ⟨rfl, rfl⟩
    go_wp2_with fail
    go_ret
    exact ⟨rfl, HBx.out⟩

set_option maxRecDepth 100000 in
theorem lifted (os : Os) (started : os.Started) (H : Type) (enc : TypeId × Value → H) :
    ReturnsInHanded {} Try.checked os 4 .any (Rows.topOrdersSpec.pre6 enc Try.prog Try.f4 Rows.topOrdersRow.domain false) (Rows.topOrdersSpec.post enc Try.prog Try.f4 false true false false) := by
  refine returnsInHanded_of_change (C := Try.checked) own started (by kernel_rfl) Try.func4
    (ChangeSpec.witness6 (enc := enc) (C := Try.checked) false ⟨#[], #[.slice none 0 0, .slice none 0 0, .int .i64 0, .slice none 0 0, .slice none 0 0], []⟩ 8 (by kernel_rfl) (by kernel_rfl) (by kernel_rfl) (by kernel_rfl)) ?_
  intro W base args ds gs before hval0 hW hcnd hreach
  have hval : ∀ (j : Nat) t v, Try.f4.params[j]? = some t → args[j]? = some v → Value.okWide Try.prog W .any base t v := hval0
  have hW' := hW
  obtain ⟨p, q, hA0, hV, rfl, hfz, hnd⟩ := hW
  have hA : DataW.TrodAll enc Try.prog W 0 (fun _ => true) true Try.f4.params.toList args.toList ds p := hA0
  rw [Try.params4] at hA hval
  obtain ⟨v0, vs0, d0, ds0, p0, q0, hargs, rfl, rfl, g0, r0⟩ := trodAll_cons hA
  obtain ⟨v1, vs1, d1, ds1, p1, q1, rfl, rfl, rfl, g1, r1⟩ := trodAll_cons r0
  obtain ⟨v2, vs2, d2, ds2, p2, q2, rfl, rfl, rfl, g2, r2⟩ := trodAll_cons r1
  obtain ⟨v3, vs3, d3, ds3, p3, q3, rfl, rfl, rfl, g3, r3⟩ := trodAll_cons r2
  obtain ⟨v4, vs4, d4, ds4, p4, q4, rfl, rfl, rfl, g4, r4⟩ := trodAll_cons r3
  obtain ⟨rfl, rfl, rfl⟩ := trodAll_nil r4
  obtain rfl : args = #[v0, v1, v2, v3, v4] := by cases args; simp_all
  obtain ⟨rfl, rfl⟩ := trodVars_none hV
  have k0 := g0
  have lt0 : ∀ x ∈ p0, x.block < W.heap.size := by obtain ⟨m, hm⟩ := k0; exact DataW.trod_lt m _ _ _ hm
  have rd0 : Try.prog.readableRec 22 = true := by kernel_rfl
  have ls0 : 22 < Try.prog.types.size := of_decide_eq_true (by kernel_rfl)
  obtain ⟨a0, n0, c0, z0, rfl, h0⟩ := open_Ints (hval 0 22 v0 rfl rfl) g0
  have k1 := g1
  have lt1 : ∀ x ∈ p1, x.block < W.heap.size := by obtain ⟨m, hm⟩ := k1; exact DataW.trod_lt m _ _ _ hm
  have rd1 : Try.prog.readableRec 22 = true := by kernel_rfl
  have ls1 : 22 < Try.prog.types.size := of_decide_eq_true (by kernel_rfl)
  obtain ⟨a1, n1, c1, z1, rfl, h1⟩ := open_Ints (hval 1 22 v1 rfl rfl) g1
  obtain ⟨a2, rfl, rfl, rfl, u2⟩ := open_int Try.underlying3 (hval 2 3 v2 rfl rfl) g2
  have h2 := bounds_i64 u2
  have k3 := g3
  have lt3 : ∀ x ∈ p3, x.block < W.heap.size := by obtain ⟨m, hm⟩ := k3; exact DataW.trod_lt m _ _ _ hm
  have rd3 : Try.prog.readableRec 23 = true := by kernel_rfl
  have ls3 : 23 < Try.prog.types.size := of_decide_eq_true (by kernel_rfl)
  obtain ⟨a3, n3, c3, z3, rfl, h3⟩ := open_RActs (hval 3 23 v3 rfl rfl) g3
  have k4 := g4
  have lt4 : ∀ x ∈ p4, x.block < W.heap.size := by obtain ⟨m, hm⟩ := k4; exact DataW.trod_lt m _ _ _ hm
  have rd4 : Try.prog.readableRec 22 = true := by kernel_rfl
  have ls4 : 22 < Try.prog.types.size := of_decide_eq_true (by kernel_rfl)
  obtain ⟨a4, n4, c4, z4, rfl, h4⟩ := open_Ints (hval 4 22 v4 rfl rfl) g4
  clear hA0 hval0
  refine (walk a0 n0 c0 z0 a1 n1 c1 z1 a2 a3 n3 c3 z3 a4 n4 c4 z4 W h0 h1 h2 h3 h4).mono fun e W' ⟨he, bel⟩ => ?_
  subst he
  exact ⟨_, rfl, _, _, _, [], _, [], hW', trodAll_mk1 (shut_bool Try.underlying4 _), (trodAll_cons_mk (Below.trod laidOut rd0 ls0 k0 bel lt0) (trodAll_cons_mk (Below.trod laidOut rd1 ls1 k1 bel lt1) (trodAll_cons_mk (shut_int Try.underlying3 u2) (trodAll_cons_mk (Below.trod laidOut rd3 ls3 k3 bel lt3) (trodAll_cons_mk (Below.trod laidOut rd4 ls4 k4 bel lt4) trodAll_mk0))))), rfl, bel.frame _, fun h => by cases h⟩

theorem over : Rows.topOrdersRow.holds Try.pinned (OpenSpec.ofChange Rows.topOrdersSpec) :=
  OpenClaim.holds_of_wide 4 Try.f4 rfl rfl rfl rfl rfl rfl rfl ⟨rfl, rfl, rfl, rfl, rfl⟩ rfl rfl rfl rfl rfl (by kernel_rfl) Try.func4 (by kernel_rfl)
    (of_decide_eq_true (by kernel_rfl)) (by unfold Func.isWrapper; rw [if_neg (of_decide_eq_false (by kernel_rfl))]; exact ⟨rfl, rfl⟩)
    (fun os started H enc _ => lifted os started H enc)

/-- the statement -/
theorem proved : Rows.TopOrdersSaid := over

end Go.Proofs.Ytfjpfkejajgkbaa.lTopOrders
