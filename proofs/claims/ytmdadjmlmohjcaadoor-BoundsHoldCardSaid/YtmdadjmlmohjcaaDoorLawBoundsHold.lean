/- Proved: the tied card of noonlaw1.BoundsHold: it answers true for every input and leaves its arguments as they were. The card's own condition: errors.errorType holds what the program's text lays there. -/
import Derived.Test.YtmdadjmlmohjcaaDoorDoor
import Derived.Test.YtmdadjmlmohjcaaDoorHoldP
import Derived.Test.YtmdadjmlmohjcaaDoorChain
import Derived.Test.YtmdadjmlmohjcaaDoorApp
import Derived.Deep.DeepCutAuto
namespace Go.Proofs.YtmdadjmlmohjcaaDoor.lBoundsHold
open Go.ChangeShapes Go.WideShapes Go.ChangeAt Go.RowKit
set_option linter.unusedVariables false
set_option linter.unusedSimpArgs false
theorem fitsV_c {n : Int} {zs : List REdge} {cl : List Int} (h : fitsV n zs cl = true) : fitsC n zs cl = 0 := by
  unfold fitsV at h
  simp only [Bool.and_eq_true, decide_eq_true_eq] at h
  exact h.1
theorem fitsC_0 {n : Int} {zs : List REdge} {cl : List Int} (h : fitsC n zs cl = 0) : (cl.length : Int) = n ∧ ∀ z ∈ cl, timeB z = true := by
  unfold fitsC at h
  split at h
  · split at h
    · rename_i h1
      refine ⟨h1, fun z hz => ?_⟩
      rcases okC_cases (cl.all timeB) with ⟨_, q⟩ | ⟨q, _⟩
      · exact List.all_eq_true.1 q z hz
      · omega
    · omega
  · rename_i h1; exact absurd h h1
theorem addS_ok {a b c d : Int} (h1 : rightB a b = true) (h2 : rightB c d = true) : (rightB (a + c) (b + d) = true → addS a b c d = ⟨a + c, b + d, 0⟩) ∧ (rightB (a + c) (b + d) = false → addS a b c d = ⟨0, 0, 1⟩) := by
  unfold addS whole
  rw [if_pos ⟨h1, h2⟩]
  refine ⟨fun h => by rw [if_pos h], fun h => by rw [if_neg (by rw [h]; simp)]⟩
theorem err_opq (c : Int) (N : Nat) : ∃ (E : Value) (q : Bool), errV c = E ∧ (∀ w, (binOp .eql 25 E .nilIface).run Tryd.prog w = .ok (.bool q) w) ∧ (∀ w, (eqGuard .eql 25 (.tmp N) (.const .nilIface) E .nilIface).run Tryd.prog w = .ok () w) ∧ (q = true → c = 0) := by
  by_cases h : c = 0
  · subst h
    exact ⟨_, true, rfl, fun w => by kernel_rfl, fun w => by kernel_rfl, fun _ => rfl⟩
  · rw [errV_ne h]
    exact ⟨_, false, rfl, fun w => by kernel_rfl, fun w => by kernel_rfl, fun q => by cases q⟩
theorem edge_eta (a : REdge) : (⟨a.a, a.b, a.lo, a.hi⟩ : REdge) = a := rfl
set_option maxRecDepth 100000 in
set_option maxHeartbeats 16000000 in
theorem walk (a0 : Int) (a1 : Option Addr) (n1 c1 : Nat) (z1 : List REdge) (a2 : Option Addr) (n2 c2 : Nat) (z2 : List Int) (a3 : Int) (a4 : Int) (a5 : Int) (a6 : REdge) (w : World) (h0 : -9223372036854775808 ≤ a0 ∧ a0 ≤ 9223372036854775807) (h1 : IsRecs w REdge.cells REdge.ok 4 a1 n1 c1 z1) (h2 : IsInts w a2 n2 c2 z2) (h3 : -9223372036854775808 ≤ a3 ∧ a3 ≤ 9223372036854775807) (h4 : -9223372036854775808 ≤ a4 ∧ a4 ≤ 9223372036854775807) (h5 : -9223372036854775808 ≤ a5 ∧ a5 ≤ 9223372036854775807) (h6 : a6.ok) (hg : HandleAt w) :
    Calls Tryd.prog 5 #[.int .i64 a0, .slice a1 n1 c1, .slice a2 n2 c2, .int .i64 a3, .int .i64 a4, .int .i64 a5, .agg #[.int .i64 a6.a, .int .i64 a6.b, .int .i64 a6.lo, .int .i64 a6.hi]] w fun e w' => e = .returned (.bool true) ∧ Below w.heap.size w w' := by
  have HG := Lib.hid hg
  clear hg
  obtain ⟨i0, hi, hz0, hz1, hz2⟩ := info_parts infoEdge
  have hm1 := h1.2.1
  have hm2 := h1.2.2.1
  have hm3 := h2.2.1
  have hm4 := h2.2.2.1
  have hl2 := h2.1
  unfold maxLen at hm2 hm4
  have HZ := Lib.hid h1
  have HC := Lib.hid h2
  have CF := Lib.hid (fun w' (hb : Below w.heap.size w w') => bounds_Fits a0 a1 n1 c1 z1 a2 n2 c2 z2 w' (h1.below hb) (h2.below hb))
  have CB := Lib.hid (fun a b w' (hb : Below w.heap.size w w') => bounds_Between a0 a1 n1 c1 z1 a b w' (h1.below hb))
  have H6 := Lib.hid h6
  clear h0 h1 h2 h3 h4 h5 h6
  go_enter Tryd.func5, Tryd.ntmps5
  go_wp2_with fail
  have IR := blk_recs REdge.cells REdge.ok 4 (fun _ => rfl) (zs := oneL) (Blk.newAt2 w (.cells #[.int .i64 a6.a, .int .i64 a6.b, .int .i64 a6.lo, .int .i64 a6.hi] 31) 31 #[.int .i64 0, .int .i64 1, .int .i64 1, .int .i64 2, .int .i64 1, .int .i64 2, .int .i64 10, .int .i64 20]) rfl (n := 2) rfl (by unfold maxLen; omega) (by
    intro z hz
    simp [oneL] at hz
    rcases hz with rfl | rfl <;> (unfold REdge.ok i64B; simp only []; omega))
  have C0 := Lib.hid (bounds_Between 3 _ 2 2 oneL 0 2 _ IR)
  clear IR
  refine C0.out.mono ?_
  rintro e w1 ⟨x, c, rfl, hx, hb1⟩
  obtain ⟨rfl, rfl⟩ := one_bet hx
  have HM1 := Lib.hid (show Blk w1 w.heap.size 31 #[.int .i64 a6.a, .int .i64 a6.b, .int .i64 a6.lo, .int .i64 a6.hi] from ((Blk.new w _ _).alloc _).below hb1 (by simp; omega))
  have hs1 := hb1.size
  simp at hs1
  have HB1 := Lib.hid (show Below w.heap.size w w1 by have := hb1; exact (by repeat (first | with_reducible exact Below.refl _ _ | (with_reducible refine Below.alloc ?_ (by first | omega | (simp; done) | (simp; omega)) _) | (with_reducible refine Below.setCell ?_ (by first | omega | (simp; done) | (simp; omega)) _) | (with_reducible refine Below.drew ?_) | (with_reducible refine below_drewN ?_ _) | (with_reducible assumption) | (with_reducible refine bel_step (by with_reducible assumption) ?_ (by first | omega | (simp; done) | (simp; omega))))))
  clear hx hb1
  go_wp2_with fail
  refine (CB.out _ _ _ (HB1.out.alloc HB1.out.size _)).mono ?_
  rintro e w2 ⟨x, c, rfl, hx, hb2⟩
  have hs2 := hb2.size
  simp at hs2
  have HB2 := Lib.hid ((HB1.out.alloc HB1.out.size (.cells #[.int .i64 11, .int .i64 22] 23)).trans (hb2.mono (by simp; exact Nat.le_trans HB1.out.size (by omega))))
  have HX := Lib.hid hx
  have HM2 := Lib.hid ((HM1.out.alloc _).below hb2 (by simp; exact Nat.lt_succ_of_lt HM1.out.lt))
  clear hx hb2 HM1
  go_wp2_with fail
  refine (CF.out _ (HB2.out.alloc HB2.out.size _)).mono ?_
  rintro e w3 ⟨rfl, hb3⟩
  have hs3 := hb3.size
  simp at hs3
  have HB3 := Lib.hid ((HB2.out.alloc HB2.out.size (.cells #[.int .i64 x.lo, .int .i64 x.hi] 23)).trans (hb3.mono (by simp; exact Nat.le_trans HB2.out.size (by omega))))
  have hxk : Blk w3 w2.heap.size 23 #[.int .i64 x.lo, .int .i64 x.hi] := (Blk.new w2 _ _).below hb3 (by simp)
  have HXK := Lib.hid hxk
  have HM3 := Lib.hid ((HM2.out.alloc _).below hb3 (by simp; exact Nat.lt_succ_of_lt HM2.out.lt))
  clear hb3 hxk HM2
  by_cases cz : c = 0
  · subst cz
    obtain ⟨N, a, b, rfl, rfl, rfl, hok⟩ := bet_ok HX.out
    have HOK := Lib.hid hok
    have e1 := hok.ha
    have e2 := hok.hb
    have e3 : ¬ (a : Int) < 0 := by omega
    have e4 : ¬ (N : Int) ≤ (a : Int) := by omega
    have e5 : ¬ (b : Int) < 0 := by omega
    have e6 : ¬ (N : Int) ≤ (b : Int) := by omega
    clear hok
    obtain ⟨E, q, hE, hq1, hq2, hq3⟩ := err_opq (fitsC N z1 z2) 98
    obtain ⟨FV, hFV⟩ : ∃ v, fitsV N z1 z2 = v := ⟨_, rfl⟩
    rw [hE, hFV]
    have HFV := Lib.hid hFV
    clear hE hFV
    go_upto_region 11 with fail
    go_cut [102] (fun u wx => u = .bool (q && FV) ∧ w3 = wx)
    case first =>
      cases q
      all_goals
        cases FV
        all_goals
          go_wp2_with fail
          go_meet
          case rel => exact ⟨rfl, rfl⟩
    case rest =>
     obtain ⟨rfl, hw3⟩ := hcut
     subst hw3
     have HQ := Lib.hid (show ∀ B, (q && FV) = B → B = true → FV = true from fun B h1 h2 => by rw [h2] at h1; cases q <;> simp_all)
     obtain ⟨B, hB⟩ : ∃ B, (q && FV) = B := ⟨_, rfl⟩
     have HFB := Lib.hid (HQ.out B hB)
     rw [hB]
     clear hB HQ hq1 hq2 hq3
     go_upto_if 102 with fail
     go_cut [14] (fun u wx => u = .bool false ∧ Below w3.heap.size w3 wx)
     case first =>
      cases B
      · go_wp2_with fail
        go_meet
        case rel => exact ⟨rfl, Below.refl _ _⟩
      · have hfv := HFB.out rfl
        subst hfv
        · obtain ⟨t1, t2⟩ := fitsC_0 (fitsV_c HFV.out)
          have hnn : n2 = N := by omega
          have hin := bet_in HOK.out HFV.out
          obtain ⟨ca, hca⟩ : ∃ v, z2[a]? = some v := ⟨_, List.getElem?_eq_getElem (by omega)⟩
          obtain ⟨cb, hcb⟩ : ∃ v, z2[b]? = some v := ⟨_, List.getElem?_eq_getElem (by omega)⟩
          have ta := timeB_iff.1 (t2 ca (List.mem_of_getElem? hca))
          have tb := timeB_iff.1 (t2 cb (List.mem_of_getElem? hcb))
          simp only [List.getD, hca, hcb, Option.getD_some] at hin
          obtain ⟨qb, off, rfl, q1, q2⟩ := HC.out.2.2.2.2 (by omega)
          have x0 : w3.cell? ⟨qb, off + a, none⟩ = some (.int .i64 ca) := by
            have h := q2 a ca hca 0 _ rfl
            rw [show off + a * 1 + 0 = off + a by omega] at h
            exact (HB3.out.cell (p := ⟨qb, _, none⟩) q1).trans h
          have x1 : w3.cell? ⟨qb, off + b, none⟩ = some (.int .i64 cb) := by
            have h := q2 b cb hcb 0 _ rfl
            rw [show off + b * 1 + 0 = off + b by omega] at h
            exact (HB3.out.cell (p := ⟨qb, _, none⟩) q1).trans h
          have x2 := HXK.out.cell 0
          have x3 := HXK.out.cell 1
          simp at x2 x3
          have HIN := Lib.hid hin
          have hr := HOK.out.r
          have k0 : (0 : Int) ≤ (a : Int) := by omega
          have k1 : (a : Int) < (n2 : Int) := by omega
          have k2 : (0 : Int) ≤ (b : Int) := by omega
          have k3 : (b : Int) < (n2 : Int) := by omega
          have k4 : qb < w3.heap.size := by have := HB3.out.size; omega
          have CH := Lib.hid (fun w => span_Has x.lo x.hi (cb - ca) w)
          rw [hin, hr] at CH
          have Y2 := Lib.hid (IntWalk.i64_in (cb - ca) (by omega))
          have hnn2 : ((n2 : Int) != (N : Int)) = false := by simp; omega
          have hnn3 : (n2 == N) = true := by simpa using hnn
          have HNN := Lib.hid hnn
          clear t1 t2 hca hcb q2 hin hr ta tb hnn
          go_wp2_with fail
          have y2 := Y2.out
          go_region_held3 (fun w' => w'.cell? ⟨w2.heap.size, 0, none⟩ = some (.int .i64 x.lo) ∧ w'.cell? ⟨w2.heap.size, 1, none⟩ = some (.int .i64 x.hi) ∧ w'.cell? ⟨qb, off + a, none⟩ = some (.int .i64 ca) ∧ w'.cell? ⟨qb, off + b, none⟩ = some (.int .i64 cb)) (first | go_keep | (((repeat' apply And.intro) <;> exact (Below.cell (B := (w3).heap.size) (w := w3) (by repeat (first | with_reducible exact Below.refl _ _ | (with_reducible refine Below.alloc ?_ (by first | omega | (simp; done) | (simp; omega)) _) | (with_reducible refine Below.setCell ?_ (by first | omega | (simp; done) | (simp; omega)) _) | (with_reducible refine Below.drew ?_) | (with_reducible refine below_drewN ?_ _) | (with_reducible assumption) | (with_reducible refine bel_step (by with_reducible assumption) ?_ (by first | omega | (simp; done) | (simp; omega))))) (by first | omega | (simp; done) | (simp; omega))).trans (by assumption))))
            (first | (go_at_call 14; (with_reducible refine (CH.out _).mono ?_); rintro e w4 ⟨rfl, hb4⟩; obtain ⟨hc4, hf4⟩ := bcell hb4; have hz4 := hb4.size; (try simp at hz4)))
          all_goals
            clear y2
            go_wp2_with fail
            go_meet
            case rel => exact ⟨rfl, (by repeat (first | with_reducible exact Below.refl _ _ | (with_reducible refine Below.alloc ?_ (by first | omega | (simp; done) | (simp; omega)) _) | (with_reducible refine Below.setCell ?_ (by first | omega | (simp; done) | (simp; omega)) _) | (with_reducible refine Below.drew ?_) | (with_reducible refine below_drewN ?_ _) | (with_reducible assumption) | (with_reducible refine bel_step (by with_reducible assumption) ?_ (by first | omega | (simp; done) | (simp; omega)))))⟩
     case rest =>
      obtain ⟨rfl, hb4⟩ := hcut
      obtain ⟨wa, rfl⟩ : ∃ wa : World, wa = wc := ⟨_, rfl⟩
      have HBA := Lib.hid (HB3.out.trans (hb4.mono HB3.out.size))
      have hs4 := hb4.size
      have HXA := Lib.hid (HXK.out.below hb4 (by omega))
      have HMA := Lib.hid (HM3.out.below hb4 HM3.out.lt)
      clear hb4 HFB HM3
      go_wp2_with fail
      refine (CB.out _ _ _ HBA.out).mono ?_
      rintro e w5 ⟨y, k1, rfl, hy, hb5⟩
      have hs5 := hb5.size
      have HB5 := Lib.hid (HBA.out.trans (hb5.mono HBA.out.size))
      have HX5 := Lib.hid (HXA.out.below hb5 (by omega))
      have HY := Lib.hid hy
      have HM5 := Lib.hid (HMA.out.below hb5 HMA.out.lt)
      clear hy hb5 HMA
      go_wp2_with fail
      refine (CB.out _ _ _ (HB5.out.alloc HB5.out.size _)).mono ?_
      rintro e w6 ⟨z, k2, rfl, hz, hb6⟩
      have hs6 := hb6.size
      simp at hs6
      have HB6 := Lib.hid ((HB5.out.alloc HB5.out.size (.cells #[.int .i64 y.lo, .int .i64 y.hi] 23)).trans (hb6.mono (by simp; exact Nat.le_trans HB5.out.size (by omega))))
      have HX6 := Lib.hid ((HX5.out.alloc _).below hb6 (by simp; omega))
      have y0 : w6.cell? ⟨w5.heap.size, 0, none⟩ = some (.int .i64 y.lo) := (hb6.cell (p := ⟨w5.heap.size, 0, none⟩) (by simp)).trans (by simp)
      have y1 : w6.cell? ⟨w5.heap.size, 1, none⟩ = some (.int .i64 y.hi) := (hb6.cell (p := ⟨w5.heap.size, 1, none⟩) (by simp)).trans (by simp)
      have hs6' : w5.heap.size < w6.heap.size := by omega
      have HZZ := Lib.hid hz
      have HM6 := Lib.hid ((HM5.out.alloc _).below hb6 (by simp; exact Nat.lt_succ_of_lt HM5.out.lt))
      clear hz hb6 HM5
      go_wp2_with fail
      refine (span_Add y.lo y.hi z.lo z.hi _).mono ?_
      rintro e w7 ⟨rfl, hb7⟩
      have hs7 := hb7.size
      simp at hs7
      have HB7 := Lib.hid ((HB6.out.alloc HB6.out.size (.cells #[.int .i64 z.lo, .int .i64 z.hi] 23)).trans (hb7.mono (by simp; exact Nat.le_trans HB6.out.size (by omega))))
      have HX7 := Lib.hid ((HX6.out.alloc _).below hb7 (by simp; omega))
      have HM7 := Lib.hid ((HM6.out.alloc _).below hb7 (by simp; exact Nat.lt_succ_of_lt HM6.out.lt))
      clear HM6
      have x0 := HX7.out.cell 0
      have x1 := HX7.out.cell 1
      simp at x0 x1
      have hxl : w2.heap.size < w7.heap.size := by omega
      have HS := Lib.hid (show k1 = 0 → k2 = 0 → (addS y.lo y.hi z.lo z.hi).c = 0 → ¬ x.lo < (addS y.lo y.hi z.lo z.hi).lo ∧ ¬ (addS y.lo y.hi z.lo z.hi).hi < x.hi from fun q1 q2 q3 => by
        subst q1 q2
        obtain ⟨n', a', c', e1, e2, e3, g⟩ := bet_ok HY.out
        obtain ⟨n'', c'', b'', e4, e5, e6, k⟩ := bet_ok HZZ.out
        obtain rfl : n' = N := by omega
        obtain rfl : n'' = n' := by omega
        obtain rfl : a' = a := by omega
        obtain rfl : b'' = b := by omega
        obtain rfl : c'' = c' := by omega
        have t := bet_tri HOK.out g k
        have hs : addS y.lo y.hi z.lo z.hi = ⟨y.lo + z.lo, y.hi + z.hi, 0⟩ := by
          have A := addS_ok g.r k.r
          cases hr : rightB (y.lo + z.lo) (y.hi + z.hi)
          · rw [A.2 hr] at q3; simp at q3
          · exact A.1 hr
        rw [hs]
        simp only []
        omega)
      obtain ⟨S, hS⟩ : ∃ S, addS y.lo y.hi z.lo z.hi = S := ⟨_, rfl⟩
      rw [hS] at HS ⊢
      clear hS hb7 y0 y1
      go_upto_region 20 with fail
      go_cut [25, 27, 29, 172] (fun _ _ _ u wx => u = .bool false ∧ w7.alloc (.cells #[.int .i64 S.lo, .int .i64 S.hi] 23) = wx)
      case first =>
        by_cases q1 : k1 = 0
        · subst q1
          by_cases q2 : k2 = 0
          · subst q2
            by_cases q3 : S.c = 0
            · obtain ⟨s1, s2⟩ := HS.out rfl rfl q3
              rw [q3]
              clear q3
              go_wp2_with fail
              go_meet
              case rel => exact ⟨by simp; omega, rfl⟩
            · rw [errV_ne q3]
              have Q3 := Lib.hid q3
              clear q3
              go_wp2_with fail
              go_meet
              case rel => exact ⟨rfl, rfl⟩
          · rw [errV_ne q2]
            have Q2 := Lib.hid q2
            clear q2
            go_wp2_with fail
            go_meet
            case rel => exact ⟨rfl, rfl⟩
        · rw [errV_ne q1]
          have Q1 := Lib.hid q1
          clear q1
          go_wp2_with fail
          go_meet
          case rel => exact ⟨rfl, rfl⟩
      case rest =>
        obtain ⟨rfl, hw7⟩ := hcut
        have HBC := Lib.hid (show Below w.heap.size w wc by rw [← hw7]; exact HB7.out.alloc HB7.out.size _)
        have HXC := Lib.hid (show Blk wc w2.heap.size 23 #[.int .i64 x.lo, .int .i64 x.hi] by rw [← hw7]; exact HX7.out.alloc _)
        have HMC := Lib.hid (show Blk wc w.heap.size 31 #[.int .i64 a6.a, .int .i64 a6.b, .int .i64 a6.lo, .int .i64 a6.hi] by rw [← hw7]; exact HM7.out.alloc _)
        have hn1 : n1 ≤ 40 := by
          have h1 := (edgesC_0 HOK.out.ok).2.2.1
          have h2 := HZ.out.1
          omega
        have hlz := HZ.out.1
        have HLZ := Lib.hid hlz
        have HZC := Lib.hid (HZ.out.below HBC.out)
        have hbs := HBC.out.size
        obtain ⟨wb, rfl⟩ : ∃ wb : World, wb = wc := ⟨_, rfl⟩
        clear x0 x1 hw7 hlz HX7 HM7 HB7 HS hs7 hs6 hs6' hs5 hs4 hxl
        go_upto_region 24 with (at_builtin; refine wpList_append_recs REdge.cells REdge.ok 4 (fun _ => rfl) edge_one _ rfl _ _ 29 rfl w.heap.size 31 i0 _ 32 Tryd.underlying29 hi hz0 hz1 hz2 rfl (by decide) (.slice none 0 0) 0 [] rfl (own_nil wb w.heap.size _ 4) a1 n1 c1 z1 rfl HZC.out (by unfold maxLen; omega) (by omega) hbs ?_; intro v1 w8 ho8 hg8)
        have HM8 := Lib.hid (HMC.out.grown hg8 (by simp [Value.ownBlock]))
        have HX8 := Lib.hid (HXC.out.grown hg8 (by simp [Value.ownBlock]))
        have HB8 := Lib.hid (HBC.out.grown hg8 hbs (fun k hk => by simp [Value.ownBlock] at hk))
        have hs8 := HB8.out.size
        have O8 := Lib.hid (show w8.ownsRow w.heap.size 31 4 v1 z1.length (z1.flatMap REdge.cells) by
          have h := ho8
          rw [Nat.zero_add, List.nil_append, ← HLZ.out] at h
          exact h)
        have x0 := HM8.out.cell 0
        have x1 := HM8.out.cell 1
        have x2 := HM8.out.cell 2
        have x3 := HM8.out.cell 3
        simp at x0 x1 x2 x3
        clear ho8 hg8 HMC HXC HBC HZC hbs
        have hl40 : z1.length ≤ 40 := by have := HLZ.out; omega
        go_upto_region 25 with (at_builtin; refine wpList_append_own _ rfl _ _ 29 rfl w.heap.size 31 i0 _ 4 32 Tryd.underlying29 hi hz0 hz1 hz2 rfl (by decide) _ _ _ rfl (O8.out.alloc _) ⟨w8.heap.size, 0, none⟩ 1 1 _ rfl rfl (cell_newAt w8 (REdge.cells a6) _ _ rfl) (edge_one _) (by unfold maxLen; omega) (by omega) (by simp; omega) ?_; intro v2 w9 ho9 hg9 _)
        have HX9 := Lib.hid (own_blk_far (O8.out.alloc (.cells #[.int .i64 a6.a, .int .i64 a6.b, .int .i64 a6.lo, .int .i64 a6.hi] 31)) hg9 (HX8.out.alloc _) (by decide))
        have HB9 := Lib.hid ((HB8.out.alloc hs8 _).grown hg9 (by simp; omega) (fun k hk => (O8.out.lt k hk).1))
        have O9 := own_snoc REdge.cells (z := a6) ho9
        obtain ⟨a9, n9, c9, rfl, hr9⟩ := own_recs REdge.cells REdge.ok 4 (fun _ => rfl) O9 (fun e he => by
          rcases List.mem_append.1 he with h | h
          · exact HZ.out.2.2.2.1 e h
          · obtain rfl : e = a6 := by simpa using h
            exact H6.out)
        have C9 := Lib.hid (bounds_Between N a9 n9 c9 (z1 ++ [a6]) a b w9 hr9)
        clear ho9 hg9 O9 hr9 x0 x1 x2 x3 O8 HB8 HM8 HX8
        go_wp2_with fail
        refine C9.out.mono ?_
        rintro e wd ⟨v, k3, rfl, hv, hbd⟩
        have HBD := Lib.hid (HB9.out.trans (hbd.mono HB9.out.size))
        have HXD := Lib.hid (HX9.out.below hbd HX9.out.lt)
        have x0 := HXD.out.cell 0
        have x1 := HXD.out.cell 1
        simp at x0 x1
        have hxl := HXD.out.lt
        by_cases q3 : k3 = 0
        · subst q3
          obtain ⟨n', a', b', e1, e2, e3, g⟩ := bet_ok hv
          obtain rfl : n' = N := by omega
          obtain rfl : a' = a := by omega
          obtain rfl : b' = b := by omega
          have hm := bet_more HOK.out g
          obtain ⟨m1, m2⟩ := hm
          clear hv hbd g
          go_wp2_with fail
          go_ret
          exact ⟨rfl, HBD.out.alloc HBD.out.size _⟩
        · rw [errV_ne q3]
          have Q3 := Lib.hid q3
          clear hv hbd q3
          go_wp2_with fail
          go_ret
          exact ⟨rfl, HBD.out.alloc HBD.out.size _⟩
  · have HCZ := Lib.hid cz
    rw [errV_ne cz]
    have BIG : ∀ wr, Below wr.heap.size w3 wr → True := fun _ _ => trivial
    clear BIG
    by_cases c7 : c = 7
    · subst c7
      have hns := bet_7 HX.out
      by_cases f0 : fitsC a0 z1 z2 = 0
      · have hfv : fitsV a0 z1 z2 = false := by
          cases h : fitsV a0 z1 z2
          · rfl
          · exact absurd hns (fit_not_sunk h)
        rw [f0, hfv]
        clear f0 hfv hns cz
        go_wp2_with fail
        refine (Error_n 7 _ (by omega) _ (HG.out.below HB3.out)).mono ?_
        rintro e w4 ⟨rfl, hb4⟩
        go_wp2_with fail
        go_ret
        exact ⟨rfl, HB3.out.trans (hb4.mono HB3.out.size)⟩
      · rw [errV_ne f0]
        have F0 := Lib.hid f0
        clear f0 hns cz
        go_wp2_with fail
        refine (Error_n 7 _ (by omega) _ (HG.out.below HB3.out)).mono ?_
        rintro e w4 ⟨rfl, hb4⟩
        go_wp2_with fail
        go_ret
        exact ⟨rfl, HB3.out.trans (hb4.mono HB3.out.size)⟩
    · have c8 : (c == 7) = false := by simpa using c7
      clear cz c7
      go_wp2_with fail
      refine (Error_n c _ HCZ.out _ (HG.out.below HB3.out)).mono ?_
      rintro e w4 ⟨rfl, hb4⟩
      go_wp2_with fail
      go_ret
      exact ⟨rfl, HB3.out.trans (hb4.mono HB3.out.size)⟩

set_option maxRecDepth 100000 in
theorem lifted (os : Os) (started : os.Started) (H : Type) (enc : TypeId × Value → H) :
    ReturnsInHanded {} Tryd.checked os 5 .any (fun w args => (Rows.boundsHoldSpec.pre enc Tryd.prog Tryd.f5 [] false w args ∧ laidMetH Tryd.prog laidList w) ∧ sizedMet enc Tryd.prog Tryd.f5 (OpenSpec.ofChange Rows.boundsHoldSpec) false w args)
      (Rows.boundsHoldSpec.post enc Tryd.prog Tryd.f5 false true false false) := by
  refine returnsInHanded_of_change_and (C := Tryd.checked) (X := fun w _ => laidMetH Tryd.prog laidList w) (fun _ _ _ hh h => h.of_heap hh) own started (by kernel_rfl) Tryd.func5
    (ChangeSpec.witness_at (enc := enc) (C := Tryd.checked) (os := os) (X := fun w _ => laidMetH Tryd.prog laidList w) false (laidWorld os) #[.int .i64 0, .slice none 0 0, .slice none 0 0, .int .i64 0, .int .i64 0, .int .i64 0, .agg #[.int .i64 0, .int .i64 0, .int .i64 0, .int .i64 0]] 8 rfl (by kernel_rfl) (by kernel_rfl) (by kernel_rfl) (by kernel_rfl) (by kernel_rfl) (laidWorld_met os _)) ?_
  intro W base args ds gs before hval0 hW hcnd hreach hL _
  have hval : ∀ (j : Nat) t v, Tryd.f5.params[j]? = some t → args[j]? = some v → Value.okWide Tryd.prog W .any base t v := hval0
  have hW' := hW
  obtain ⟨p, q, hA0, hV, rfl, hfz, hnd⟩ := hW
  have hA : DataW.TrodAll enc Tryd.prog W 0 (fun _ => true) true Tryd.f5.params.toList args.toList ds p := hA0
  rw [Tryd.params5] at hA hval
  obtain ⟨v0, vs0, d0, ds0, p0, q0, hargs, rfl, rfl, g0, r0⟩ := trodAll_cons hA
  obtain ⟨v1, vs1, d1, ds1, p1, q1, rfl, rfl, rfl, g1, r1⟩ := trodAll_cons r0
  obtain ⟨v2, vs2, d2, ds2, p2, q2, rfl, rfl, rfl, g2, r2⟩ := trodAll_cons r1
  obtain ⟨v3, vs3, d3, ds3, p3, q3, rfl, rfl, rfl, g3, r3⟩ := trodAll_cons r2
  obtain ⟨v4, vs4, d4, ds4, p4, q4, rfl, rfl, rfl, g4, r4⟩ := trodAll_cons r3
  obtain ⟨v5, vs5, d5, ds5, p5, q5, rfl, rfl, rfl, g5, r5⟩ := trodAll_cons r4
  obtain ⟨v6, vs6, d6, ds6, p6, q6, rfl, rfl, rfl, g6, r6⟩ := trodAll_cons r5
  obtain ⟨rfl, rfl, rfl⟩ := trodAll_nil r6
  obtain rfl : args = #[v0, v1, v2, v3, v4, v5, v6] := by cases args; simp_all
  have hV2 : DataW.TrodVars enc Tryd.prog W (fun _ => true) [] gs q := hV
  obtain ⟨rfl, rfl⟩ : gs = [] ∧ q = [] := by
    cases gs with
    | nil => exact ⟨rfl, hV2⟩
    | cons g r => exact absurd hV2 (by intro h; cases h)
  obtain ⟨a0, rfl, rfl, rfl, u0⟩ := open_int Tryd.underlying3 (hval 0 3 v0 rfl rfl) g0
  have h0 := bounds_i64 u0
  have k1 := g1
  have lt1 : ∀ x ∈ p1, x.block < W.heap.size := by obtain ⟨m, hm⟩ := k1; exact DataW.trod_lt m _ _ _ hm
  have rd1 : Tryd.prog.readableRec 29 = true := by kernel_rfl
  have ls1 : 29 < Tryd.prog.types.size := of_decide_eq_true (by kernel_rfl)
  obtain ⟨a1, n1, c1, z1, rfl, h1⟩ := open_REdges (hval 1 29 v1 rfl rfl) g1
  have k2 := g2
  have lt2 : ∀ x ∈ p2, x.block < W.heap.size := by obtain ⟨m, hm⟩ := k2; exact DataW.trod_lt m _ _ _ hm
  have rd2 : Tryd.prog.readableRec 33 = true := by kernel_rfl
  have ls2 : 33 < Tryd.prog.types.size := of_decide_eq_true (by kernel_rfl)
  obtain ⟨a2, n2, c2, z2, rfl, h2⟩ := open_Ints (hval 2 33 v2 rfl rfl) g2
  obtain ⟨a3, rfl, rfl, rfl, u3⟩ := open_int Tryd.underlying3 (hval 3 3 v3 rfl rfl) g3
  have h3 := bounds_i64 u3
  obtain ⟨a4, rfl, rfl, rfl, u4⟩ := open_int Tryd.underlying3 (hval 4 3 v4 rfl rfl) g4
  have h4 := bounds_i64 u4
  obtain ⟨a5, rfl, rfl, rfl, u5⟩ := open_int Tryd.underlying3 (hval 5 3 v5 rfl rfl) g5
  have h5 := bounds_i64 u5
  have k6 := g6
  have lt6 : ∀ x ∈ p6, x.block < W.heap.size := by obtain ⟨m, hm⟩ := k6; exact DataW.trod_lt m _ _ _ hm
  have rd6 : Tryd.prog.readableRec 31 = true := by kernel_rfl
  have ls6 : 31 < Tryd.prog.types.size := of_decide_eq_true (by kernel_rfl)
  obtain ⟨a6, rfl, h6⟩ := open_REdge (hval 6 31 v6 rfl rfl) g6
  clear hA0 hval0
  refine (walk a0 a1 n1 c1 z1 a2 n2 c2 z2 a3 a4 a5 a6 W h0 h1 h2 h3 h4 h5 h6 (handle_of_laid hL)).mono fun e W' ⟨he, bel⟩ => ?_
  subst he
  exact ⟨_, rfl, _, _, _, [], _, [], hW', trodAll_mk1 (shut_bool Tryd.underlying4 _), (trodAll_cons_mk (shut_int Tryd.underlying3 u0) (trodAll_cons_mk (Below.trod laidOut rd1 ls1 k1 bel lt1) (trodAll_cons_mk (Below.trod laidOut rd2 ls2 k2 bel lt2) (trodAll_cons_mk (shut_int Tryd.underlying3 u3) (trodAll_cons_mk (shut_int Tryd.underlying3 u4) (trodAll_cons_mk (shut_int Tryd.underlying3 u5) (trodAll_cons_mk (Below.trod laidOut rd6 ls6 k6 bel lt6) trodAll_mk0))))))), rfl, bel.frame _, fun h => by cases h⟩

theorem over : Rows.boundsHoldRow.holds Tryd.pinned (OpenSpec.ofChange Rows.boundsHoldSpec) :=
  OpenClaim.holds_of_wide 5 Tryd.f5 rfl rfl rfl rfl rfl rfl rfl ⟨rfl, rfl, rfl, rfl, rfl⟩ rfl rfl rfl rfl rfl (by kernel_rfl) Tryd.func5 (by kernel_rfl)
    (of_decide_eq_true (by kernel_rfl)) (by unfold Func.isWrapper; rw [if_neg (of_decide_eq_false (by kernel_rfl))]; exact ⟨rfl, rfl⟩)
    (fun os started H enc _ => lifted os started H enc)

theorem card : Rows.BoundsHoldCardSaid :=
  Claim7.holds_tied_plain_at .later [] [.handle] true (true, Rows.boundsHoldCard.stood.harness.2) true
    over (fun _ h => by cases h) (by kernel_rfl) (fun _ h => by cases h) boundsHold_row_tie rfl ⟨rfl, rfl⟩ (by kernel_rfl) rfl
    (fun f fn hf hfn => by
      obtain rfl : f = 5 := Option.some.inj ((show Tryd.prog.funcNamed "noonmark/noonlaw1.BoundsHold" = some 5 by kernel_rfl).symm.trans hf) |>.symm
      obtain rfl : fn = Tryd.f5 := (Option.some.inj (Tryd.func5.symm.trans hfn)).symm
      exact ⟨by kernel_rfl, fun j t ht => by
        rw [Tryd.params5] at ht
        exact noStandIn (ps := #[3, 29, 33, 3, 3, 3, 31]) (by kernel_rfl) ht⟩)
    (by kernel_rfl)

#print axioms card
end Go.Proofs.YtmdadjmlmohjcaaDoor.lBoundsHold
