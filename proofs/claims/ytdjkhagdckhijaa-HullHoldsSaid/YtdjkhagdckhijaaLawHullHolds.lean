/- Proved: noonlaw1.HullHolds answers true for every input and leaves its arguments as they were. Its conditions: none. -/
import Derived.Test.YtdjkhagdckhijaaOpen
import Derived.Test.YtdjkhagdckhijaaHullL
import Derived.Test.YtdjkhagdckhijaaSameL
import Derived.Deep.DeepCutAuto
import Derived.Deep.CutBlock
import Derived.Deep.Light
namespace Go.Proofs.Ytdjkhagdckhijaa.lHullHolds
open Go.ChangeShapes Go.WideShapes Go.ChangeAt Go.RowKit
set_option linter.unusedVariables false
set_option linter.unusedSimpArgs false
theorem pts3 {w : World} {g : Nat} (hb : Blk w g 24 #[.int .i64 0, .int .i64 0, .int .i64 2, .int .i64 5, .int .i64 4, .int .i64 0]) : IsRecs w RPoint.cells RPoint.ok 2 (some ⟨g, 0, none⟩) 3 3 hull3 := by
  refine ⟨rfl, Nat.le_refl _, by unfold maxLen; omega, by simp [hull3, RPoint.ok, i64B], fun _ => ⟨g, 0, rfl, hb.lt, fun i z hz j u hu => ?_⟩⟩
  match i, hz with
  | 0, hz => simp [hull3] at hz; subst hz; match j, hu with
    | 0, hu => simp [RPoint.cells] at hu; subst hu; exact hb.cell 0
    | 1, hu => simp [RPoint.cells] at hu; subst hu; exact hb.cell 1
    | j + 2, hu => simp [RPoint.cells] at hu
  | 1, hz => simp [hull3] at hz; subst hz; match j, hu with
    | 0, hu => simp [RPoint.cells] at hu; subst hu; exact hb.cell 2
    | 1, hu => simp [RPoint.cells] at hu; subst hu; exact hb.cell 3
    | j + 2, hu => simp [RPoint.cells] at hu
  | 2, hz => simp [hull3] at hz; subst hz; match j, hu with
    | 0, hu => simp [RPoint.cells] at hu; subst hu; exact hb.cell 4
    | 1, hu => simp [RPoint.cells] at hu; subst hu; exact hb.cell 5
    | j + 2, hu => simp [RPoint.cells] at hu
  | i + 3, hz => simp [hull3] at hz
set_option maxRecDepth 100000 in
set_option maxHeartbeats 32000000 in
theorem walk (a0 : Option Addr) (n0 c0 : Nat) (z0 : List RPoint) (a1 : RPoint) (a2 : Int) (w : World) (h0 : IsRecs w RPoint.cells RPoint.ok 2 a0 n0 c0 z0) (h1 : a1.ok) (h2 : -9223372036854775808 ≤ a2 ∧ a2 ≤ 9223372036854775807) :
    Calls Try.prog 3 #[.slice a0 n0 c0, .agg #[.int .i64 a1.x, .int .i64 a1.y], .int .i64 a2] w fun e w' => e = .returned (.bool true) ∧ Below w.heap.size w w' := by
  obtain ⟨i0, hi, hz0, hz1, hz2⟩ := info_parts infoPt
  have H0 := Lib.hid h0
  have HM := Lib.hid h1
  have hn0 := h0.2.1
  have hc0 := h0.2.2.1
  unfold maxLen at hc0
  clear h0 h1 h2
  go_enter Try.func3, Try.ntmps3
  go_wp2_with fail
  obtain ⟨w1, hw1⟩ : ∃ w1, (w.alloc (.cells #[.int .i64 a1.x, .int .i64 a1.y] 24)).alloc (.cells #[.int .i64 0, .int .i64 0, .int .i64 2, .int .i64 5, .int .i64 4, .int .i64 0] 24) = w1 := ⟨_, rfl⟩
  have hbm : Blk w1 w.heap.size 24 #[.int .i64 a1.x, .int .i64 a1.y] := by rw [← hw1]; exact (Blk.new w _ _).alloc _
  have hb3 : Blk w1 (w.heap.size + 1) 24 #[.int .i64 0, .int .i64 0, .int .i64 2, .int .i64 5, .int .i64 4, .int .i64 0] := by rw [← hw1]; exact Blk.newAt2 w _ _ _
  have HB1 := Lib.hid (show Below w.heap.size w w1 by rw [← hw1]; exact ((Below.refl _ _).alloc (Nat.le_refl _) _).alloc (by simp) _)
  have HM1 := Lib.hid hbm
  have C3 := Lib.hid (hull_Over _ _ _ hull3 1 w1 (pts3 hb3))
  have hz1 := HB1.out.size
  rw [hw1]
  clear hw1 hbm hb3
  refine C3.out.mono ?_
  rintro e w2 ⟨v3, k3, rfl, hO3, -, hb2⟩
  obtain ⟨rfl, rfl⟩ := over_3 hO3
  have HB2 := Lib.hid (HB1.out.trans (hb2.mono hz1))
  have HM2 := Lib.hid (HM1.out.below hb2 HM1.out.lt)
  have hz2 := HB2.out.size
  clear hO3 hb2 HB1 HM1 hz1 C3
  rw [errV_0]
  go_wp2_with fail
  refine (hull_Upper _ _ _ z0 w2 (H0.out.below HB2.out)).mono ?_
  rintro e w3 ⟨hb3, ⟨hc, rfl⟩ | ⟨hc, cs, A', k', c', rfl, hI, hH, hk⟩⟩
  · have HB3 := Lib.hid (HB2.out.trans (hb3.mono hz2))
    clear hb3 HB2 HM2
    go_wp2_with fail
    go_ret
    exact ⟨rfl, HB3.out⟩
  · have HB3 := Lib.hid (HB2.out.trans (hb3.mono hz2))
    have HM3 := Lib.hid (HM2.out.below hb3 HM2.out.lt)
    have HI := Lib.hid hI
    have HH := Lib.hid hH
    have HC := Lib.hid hc
    have hn60 : n0 ≤ 60 := by have := (ptsC_0 hc).1; have := H0.out.1; omega
    have hcc := Lib.hid (hull_bd hH hc (by rw [hI.1]; omega))
    have hz3 := HB3.out.size
    clear hb3 hI hH hc HB2 HM2 hz2
    go_wp2_with fail
    refine (hull_Upper _ _ _ cs w3 HI.out).mono ?_
    rintro e w4 ⟨hb4, ⟨hc, rfl⟩ | ⟨hc, ds, B', j', d', rfl, hJ, hG, hj⟩⟩
    · exact absurd hcc.out hc
    have he : ds = cs := hull_one hG (hull_self HH.out)
    subst he
    have HB4 := Lib.hid (HB3.out.trans (hb4.mono hz3))
    have HM4 := Lib.hid (HM3.out.below hb4 HM3.out.lt)
    have HI4 := Lib.hid (HI.out.below hb4)
    have HJ := Lib.hid hJ
    have hz4 := HB4.out.size
    clear hb4 hc hJ hG HB3 HM3 HI hcc HH hz3
    go_wp2_with fail
    refine (same_Points _ _ _ _ _ _ _ w4 HI4.out HJ.out).mono ?_
    rintro e w5 ⟨rfl, hb5⟩
    have HB5 := Lib.hid (HB4.out.trans (hb5.mono hz4))
    have HM5 := Lib.hid (HM4.out.below hb5 HM4.out.lt)
    have hz5 := HB5.out.size
    clear hb5 HB4 HM4 HI4 HJ hz4
    go_upto_block 0 with fail
    go_cut [14] (fun _ wx => Blk wx w.heap.size 24 #[.int .i64 a1.x, .int .i64 a1.y] ∧ Below w.heap.size w wx)
    case first =>
      go_wp2_with fail
      go_loopw [14] (fun iv wr => ∃ i : Nat, iv = .int .i64 i ∧ i ≤ n0 ∧ Blk wr w.heap.size 24 #[.int .i64 a1.x, .int .i64 a1.y] ∧ Below w.heap.size w wr) (fun iv _ => n0 - (intOf iv).toNat)
      case atStart => exact ⟨0, rfl, by omega, HM5.out, HB5.out⟩
      case round =>
        obtain ⟨i, rfl, hi', hM, hB⟩ := hrel
        have HMr := Lib.hid hM
        have HBr := Lib.hid hB
        have hzr := hB.size
        clear hM hB HM5 HB5
        by_cases d1 : i < n0
        · obtain ⟨b, off, rfl, hb, hcc⟩ := H0.out.2.2.2.2 (by omega)
          obtain ⟨z, hz⟩ : ∃ z, z0[i]? = some z := ⟨_, List.getElem?_eq_getElem (by rw [H0.out.1]; omega)⟩
          have HX := Lib.hid (fun (W : World) (hb' : Below w.heap.size w W) => show W.cell? ⟨b, off + i * 2, none⟩ = some (.int .i64 z.x) ∧ W.cell? ⟨b, off + i * 2 + 1, none⟩ = some (.int .i64 z.y) from ⟨(hb'.cell (p := ⟨b, off + i * 2, none⟩) hb).trans (hcc i z hz 0 _ rfl), (hb'.cell (p := ⟨b, off + i * 2 + 1, none⟩) hb).trans (hcc i z hz 1 _ rfl)⟩)
          have HZ := Lib.hid (List.mem_of_getElem? hz)
          obtain ⟨x0, -⟩ := HX.out wr HBr.out
          have t0 : (0 : Int) ≤ (i : Int) := by omega
          have t1 : (i : Int) < (n0 : Int) := by omega
          clear hcc hz
          go_wp2_with fail
          refine (hull_Over _ _ _ z0 z.x wr (H0.out.below HBr.out)).mono ?_
          rintro e w6 ⟨v, k, rfl, hO, -, hb6⟩
          have HO := Lib.hid hO
          have HB6 := Lib.hid (HBr.out.trans (hb6.mono hzr))
          have HM6 := Lib.hid (HMr.out.below hb6 HMr.out.lt)
          have hz6 := HB6.out.size
          obtain ⟨x2, -⟩ := HX.out w6 HB6.out
          obtain ⟨E1, hE1⟩ : ∃ E, errV k = E := ⟨_, rfl⟩
          rw [hE1]
          have HE1 := Lib.hid hE1
          clear hO hb6 HBr HMr x0 hzr hE1
          go_wp2_with fail
          refine (hull_Under _ _ _ z0 z.x w6 (H0.out.below HB6.out) (by omega)).mono ?_
          rintro e w7 ⟨u, j, rfl, hU, hb7⟩
          obtain ⟨rfl, rfl, hv, hu⟩ := point_in HC.out HZ.out HO.out hU
          have HB7 := Lib.hid (HB6.out.trans (hb7.mono hz6))
          have HM7 := Lib.hid (HM6.out.below hb7 HM6.out.lt)
          obtain ⟨x3, x4⟩ := HX.out w7 HB7.out
          have he1 : E1 = .nilIface := by rw [← HE1.out, errV_0]
          subst he1
          rw [errV_0]
          obtain ⟨U, hU'⟩ : ∃ U, -u = U := ⟨_, rfl⟩
          rw [hU'] at hu ⊢
          clear hU hb7 HO HB6 HM6 x2 hz6 HX HE1 hU'
          go_wp2_with fail
          go_roundw
          case rel => exact ⟨i + 1, by go_num, by omega, HM7.out, HB7.out⟩
          case measure => go_light; simp [intOf]; omega
        · obtain rfl : i = n0 := by omega
          go_wp2_with fail
          go_meet
          case rel => exact ⟨HMr.out, HBr.out⟩
    case rest =>
    obtain ⟨hM, hB⟩ := hcut
    obtain ⟨w6, hw6⟩ : ∃ x : World, x = wc := ⟨_, rfl⟩
    subst hw6
    have HM6 := Lib.hid hM
    have HB6 := Lib.hid hB
    have hz6 := hB.size
    clear hM hB HM5 HB5 hz5
    go_wp2_with fail
    refine (hull_Over _ _ _ z0 a2 w6 (H0.out.below HB6.out)).mono ?_
    rintro e w7 ⟨va, ka, rfl, hOa, -, hb7⟩
    have HOa := Lib.hid hOa
    have HB7 := Lib.hid (HB6.out.trans (hb7.mono hz6))
    have HM7 := Lib.hid (HM6.out.below hb7 HM6.out.lt)
    have hz7 := HB7.out.size
    obtain ⟨E1, hE1⟩ : ∃ E, errV ka = E := ⟨_, rfl⟩
    rw [hE1]
    have HE1 := Lib.hid hE1
    clear hOa hb7 hE1 HB6 HM6 hz6
    go_wp2_with fail
    refine (hull_Under _ _ _ z0 a2 w7 (H0.out.below HB7.out) (by omega)).mono ?_
    rintro e w8 ⟨vb, kb, rfl, hOb, hb8⟩
    have HOb := Lib.hid hOb
    have HB8 := Lib.hid (HB7.out.trans (hb8.mono hz7))
    have HM8 := Lib.hid (HM7.out.below hb8 HM7.out.lt)
    have hz8 := HB8.out.size
    clear hOb hb8 HB7 HM7 hz7
    by_cases ea : ka = 0
    · by_cases eb : kb = 0
      · subst ea
        subst eb
        have he1 : E1 = .nilIface := by rw [← HE1.out, errV_0]
        subst he1
        rw [errV_0]
        have hne := (over_ok HOa.out).2.1
        have hn0' : 0 < n0 := by
          rw [← H0.out.1]; exact List.length_pos_iff.2 hne
        obtain ⟨b, off, rfl, hb, hcc⟩ := H0.out.2.2.2.2 hn0'
        have HN := Lib.hid (recs_news (H0.out.below HB8.out))
        have hL := Lib.hid (show (z0.flatMap RPoint.cells).length = n0 * 2 by rw [flat_len RPoint.cells 2 (fun _ => rfl), H0.out.1])
        have HOne := Lib.hid (points_one z0)
        have HOn := Lib.hid (own_nil w8 w8.heap.size 24 2)
        obtain ⟨B, hBB⟩ : ∃ B, w8.heap.size = B := ⟨_, rfl⟩
        rw [hBB] at HOn
        have HBB := Lib.hid hBB
        clear hne hcc HE1 hBB
        go_upto_region 24 with (at_builtin; refine wpList_append_own _ rfl _ _ 22 rfl B 24 i0 (.agg #[.int .i64 0, .int .i64 0]) 2 16 Try.underlying22 hi hz0 hz1 hz2 rfl (by decide) _ _ _ rfl HOn.out ⟨b, off, none⟩ n0 c0 (z0.flatMap RPoint.cells) rfl (by rw [hL.out]) HN.out HOne.out (by unfold maxLen; omega) (by omega) (by have := HBB.out; omega) ?_; intro v' w9 ho9 hg9 _)
        have hgn : w8.grownBy w9 none := hg9
        have hb9 : Below w8.heap.size w8 w9 := (Below.refl _ _).grown hgn (Nat.le_refl _) (fun k hk => by cases hk)
        have hwB : w.heap.size ≤ B := by have := HBB.out; omega
        have HB9 := Lib.hid (HB8.out.trans (hb9.mono hz8))
        have HM9 := Lib.hid (HM8.out.below hb9 HM8.out.lt)
        have HO9 := Lib.hid ho9
        have y0 : w9.cell? ⟨w.heap.size, 0, none⟩ = some (.int .i64 a1.x) := HM9.out.cell 0
        have y1 : w9.cell? ⟨w.heap.size, 1, none⟩ = some (.int .i64 a1.y) := HM9.out.cell 1
        have yl := HM9.out.lt
        have hz9 := HB9.out.size
        have hBw : B ≤ w9.heap.size := by have := HBB.out; have := hb9.size; omega
        clear ho9 hg9 hgn hb9 HN HOn HB8 HM8 hz8
        go_wp2_with (at_builtin; refine wpList_append_own _ rfl _ _ 22 rfl B 24 i0 (.agg #[.int .i64 0, .int .i64 0]) 2 16 Try.underlying22 hi hz0 hz1 hz2 rfl (by decide) _ _ _ rfl (HO9.out.alloc _) ⟨w9.heap.size, 0, none⟩ 1 1 (RPoint.cells a1) rfl rfl (cell_newAt w9 (RPoint.cells a1) _ _ rfl) (point_one a1) (by unfold maxLen; omega) (by omega) (by simp; omega) ?_; intro v2 w10 ho10 hg10 _)
        have hb10 : Below w.heap.size w w10 := (HB9.out.alloc hz9 (.cells (RPoint.cells a1).toArray 24)).grown hg10 (by simp; omega) (fun k hk => by have := (HO9.out.lt k hk).1; omega)
        have HO10 := Lib.hid (show w10.ownsRow B 24 2 v2 (z0 ++ [a1]).length ((z0 ++ [a1]).flatMap RPoint.cells) by
          rw [List.length_append, H0.out.1]
          simpa using ho10)
        have HB10 := Lib.hid hb10
        have hz10 := HB10.out.size
        clear ho10 hg10 hb10 HO9 HB9 HM9 y0 y1 yl hz9
        obtain ⟨A9, n9, c9, rfl, hI⟩ := own_recs RPoint.cells RPoint.ok 2 (fun _ => rfl) HO10.out (fun z hz => by
          rcases List.mem_append.1 hz with hz | hz
          · exact H0.out.2.2.2.1 z hz
          · simp at hz; subst hz; exact HM.out)
        have HI := Lib.hid hI
        have hn9 : n9 ≤ 61 := by have := hI.1; rw [List.length_append, H0.out.1] at this; simp at this; omega
        clear hI HO10
        go_wp2_with fail
        refine (hull_Over _ _ _ (z0 ++ [a1]) a2 w10 HI.out).mono ?_
        rintro e w11 ⟨vp, kp, rfl, hOp, -, hb11⟩
        have HOp := Lib.hid hOp
        have HB11 := Lib.hid (HB10.out.trans (hb11.mono hz10))
        have HI11 := Lib.hid (HI.out.below hb11)
        have hz11 := HB11.out.size
        obtain ⟨E1, hE1⟩ : ∃ E, errV kp = E := ⟨_, rfl⟩
        rw [hE1]
        have HE1 := Lib.hid hE1
        clear hOp hb11 hE1 HB10 HI hz10
        go_wp2_with fail
        refine (hull_Under _ _ _ (z0 ++ [a1]) a2 w11 HI11.out (by omega)).mono ?_
        rintro e w12 ⟨vq, kq, rfl, hOq, hb12⟩
        have HOq := Lib.hid hOq
        have HB12 := Lib.hid (HB11.out.trans (hb12.mono hz11))
        clear hOq hb12 HB11 HI11 hz11
        by_cases ep : kp = 0
        · by_cases eq : kq = 0
          · subst ep
            subst eq
            have he1 : E1 = .nilIface := by rw [← HE1.out, errV_0]
            subst he1
            rw [errV_0]
            obtain ⟨g1, g2, g3⟩ := all_more (fun z hz => List.mem_append_left _ hz) HOa.out HOb.out HOp.out HOq.out
            obtain ⟨Q, hQ⟩ : ∃ Q, -vq = Q := ⟨_, rfl⟩
            obtain ⟨R, hR⟩ : ∃ R, -vb = R := ⟨_, rfl⟩
            rw [hQ, hR] at g2
            rw [hR] at g3
            rw [hQ, hR]
            clear HE1 HOa HOb HOp HOq hQ hR
            go_wp2_with fail
            go_ret
            exact ⟨rfl, HB12.out⟩
          · have he1 : E1 = .nilIface := by rw [← HE1.out, ep, errV_0]
            subst he1
            rw [errV_ne eq]
            clear ep HE1 HOa HOb HOp HOq
            go_wp2_with fail
            go_ret
            exact ⟨rfl, HB12.out⟩
        · have he1 : E1 = .iface 34 (.int .i64 kp) := by rw [← HE1.out, errV_ne ep]
          subst he1
          obtain ⟨E2, hE2⟩ : ∃ E, errV kq = E := ⟨_, rfl⟩
          rw [hE2]
          clear ep HE1 HOa HOb HOp HOq hE2
          go_wp2_with fail
          go_ret
          exact ⟨rfl, HB12.out⟩
      · have he1 : E1 = .nilIface := by rw [← HE1.out, ea, errV_0]
        subst he1
        rw [errV_ne eb]
        clear ea HE1 HOa HOb
        go_wp2_with fail
        go_ret
        exact ⟨rfl, HB8.out⟩
    · have he1 : E1 = .iface 34 (.int .i64 ka) := by rw [← HE1.out, errV_ne ea]
      subst he1
      obtain ⟨E2, hE2⟩ : ∃ E, errV kb = E := ⟨_, rfl⟩
      rw [hE2]
      clear ea HE1 HOa HOb hE2
      go_wp2_with fail
      go_ret
      exact ⟨rfl, HB8.out⟩

set_option maxRecDepth 100000 in
theorem lifted (os : Os) (started : os.Started) (H : Type) (enc : TypeId × Value → H) :
    ReturnsInHanded {} Try.checked os 3 .any (Rows.hullHoldsSpec.pre6 enc Try.prog Try.f3 Rows.hullHoldsRow.domain false) (Rows.hullHoldsSpec.post enc Try.prog Try.f3 false true false false) := by
  refine returnsInHanded_of_change (C := Try.checked) own started (by kernel_rfl) Try.func3
    (ChangeSpec.witness6 (enc := enc) (C := Try.checked) false ⟨#[], #[.slice none 0 0, .agg #[.int .i64 0, .int .i64 0], .int .i64 0], []⟩ 8 (by kernel_rfl) (by kernel_rfl) (by kernel_rfl) (by kernel_rfl)) ?_
  intro W base args ds gs before hval0 hW hcnd hreach
  have hval : ∀ (j : Nat) t v, Try.f3.params[j]? = some t → args[j]? = some v → Value.okWide Try.prog W .any base t v := hval0
  have hW' := hW
  obtain ⟨p, q, hA0, hV, rfl, hfz, hnd⟩ := hW
  have hA : DataW.TrodAll enc Try.prog W 0 (fun _ => true) true Try.f3.params.toList args.toList ds p := hA0
  rw [Try.params3] at hA hval
  obtain ⟨v0, vs0, d0, ds0, p0, q0, hargs, rfl, rfl, g0, r0⟩ := trodAll_cons hA
  obtain ⟨v1, vs1, d1, ds1, p1, q1, rfl, rfl, rfl, g1, r1⟩ := trodAll_cons r0
  obtain ⟨v2, vs2, d2, ds2, p2, q2, rfl, rfl, rfl, g2, r2⟩ := trodAll_cons r1
  obtain ⟨rfl, rfl, rfl⟩ := trodAll_nil r2
  obtain rfl : args = #[v0, v1, v2] := by cases args; simp_all
  obtain ⟨rfl, rfl⟩ := trodVars_none hV
  have k0 := g0
  have lt0 : ∀ x ∈ p0, x.block < W.heap.size := by obtain ⟨m, hm⟩ := k0; exact DataW.trod_lt m _ _ _ hm
  have rd0 : Try.prog.readableRec 22 = true := by kernel_rfl
  have ls0 : 22 < Try.prog.types.size := of_decide_eq_true (by kernel_rfl)
  obtain ⟨a0, n0, c0, z0, rfl, h0⟩ := open_RPoints (hval 0 22 v0 rfl rfl) g0
  have k1 := g1
  have lt1 : ∀ x ∈ p1, x.block < W.heap.size := by obtain ⟨m, hm⟩ := k1; exact DataW.trod_lt m _ _ _ hm
  have rd1 : Try.prog.readableRec 24 = true := by kernel_rfl
  have ls1 : 24 < Try.prog.types.size := of_decide_eq_true (by kernel_rfl)
  obtain ⟨a1, rfl, h1⟩ := open_RPoint (hval 1 24 v1 rfl rfl) g1
  obtain ⟨a2, rfl, rfl, rfl, u2⟩ := open_int Try.underlying3 (hval 2 3 v2 rfl rfl) g2
  have h2 := bounds_i64 u2
  clear hA0 hval0
  refine (walk a0 n0 c0 z0 a1 a2 W h0 h1 h2).mono fun e W' ⟨he, bel⟩ => ?_
  subst he
  exact ⟨_, rfl, _, _, _, [], _, [], hW', trodAll_mk1 (shut_bool Try.underlying4 _), (trodAll_cons_mk (Below.trod laidOut rd0 ls0 k0 bel lt0) (trodAll_cons_mk (Below.trod laidOut rd1 ls1 k1 bel lt1) (trodAll_cons_mk (shut_int Try.underlying3 u2) trodAll_mk0))), rfl, bel.frame _, fun h => by cases h⟩

theorem over : Rows.hullHoldsRow.holds Try.pinned (OpenSpec.ofChange Rows.hullHoldsSpec) :=
  OpenClaim.holds_of_wide 3 Try.f3 rfl rfl rfl rfl rfl rfl rfl ⟨rfl, rfl, rfl, rfl, rfl⟩ rfl rfl rfl rfl rfl (by kernel_rfl) Try.func3 (by kernel_rfl)
    (of_decide_eq_true (by kernel_rfl)) (by unfold Func.isWrapper; rw [if_neg (of_decide_eq_false (by kernel_rfl))]; exact ⟨rfl, rfl⟩)
    (fun os started H enc _ => lifted os started H enc)

/-- the statement -/
theorem proved : Rows.HullHoldsSaid := over

