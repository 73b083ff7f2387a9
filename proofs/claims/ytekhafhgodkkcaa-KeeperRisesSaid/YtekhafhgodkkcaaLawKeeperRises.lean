/- Proved: noonlaw3.KeeperRises answers true for every input and leaves its arguments as they were. No condition. -/
import Derived.Test.YtekhafhgodkkcaaOpen
import Derived.Test.YtekhafhgodkkcaaKeeper
namespace Go.Proofs.Ytekhafhgodkkcaa.lKeeperRises
open Go.ChangeShapes Go.WideShapes Go.ChangeAt Go.RowKit
set_option linter.unusedVariables false
set_option linter.unusedSimpArgs false
structure RInv (n : Nat) (L M ka ke kw : Int) (i : Nat) : Prop where
  a1 : i ≤ n
  a2 : i ≤ 80
  a3 : -1 ≤ ka
  a4 : ka ≤ ke - 1
  a5 : ke ≤ 1000001000000
  a6 : L ≤ ka
  a7 : 0 ≤ kw
  a8 : kw ≤ M
  a9 : M ≤ i
theorem i64_0 : i64B 0 := by unfold i64B; omega
structure VInv (zs : List Int) (n j : Nat) (x y : Int) : Prop where
  b1 : j ≤ n
  b2 : j ≤ 2
  x1 : i64B x
  y1 : i64B y
theorem VInv.one {zs : List Int} {n : Nat} {x y z : Int} {j : Nat} (h : VInv zs n j x y) (hj : j < n) (h2 : j < 2) (hz : i64B z) : VInv zs n (j + 1) (if j = 0 then z else x) (if j = 0 then y else z) := by
  obtain ⟨p1, p2, p3, p4⟩ := h
  refine ⟨by omega, by omega, ?_, ?_⟩ <;> split <;> assumption
set_option maxRecDepth 100000 in
set_option maxHeartbeats 4000000 in
theorem walk (a0 : Int) (a1 : Option Addr) (n1 c1 : Nat) (z1 : List RInts) (w : World) (h0 : -9223372036854775808 ≤ a0 ∧ a0 ≤ 9223372036854775807) (h1 : IsRecs w RInts.cells (RInts.ok w) 1 a1 n1 c1 z1) :
    Calls Try.prog 7 #[.int .i64 a0, .slice a1 n1 c1] w fun e w' => e = .returned (.bool true) ∧ Below w.heap.size w w' := by
  obtain ⟨l1, l2, l3, l4, l5⟩ := h1
  unfold maxLen at l3
  have L1 := Lib.hid l1
  have L4 := Lib.hid l4
  have L5 := Lib.hid l5
  clear l1 l4 l5
  go_enter Try.func7, Try.ntmps7
  go_wp2_with fail
  refine (keeper_New_ok _ _ (by omega) (by omega)).mono ?_
  rintro e w' ⟨rfl, rfl⟩
  go_wp2_with fail
  refine (keeper_Read_at _ _ _ _ _ _ 5 15 1 _ (KeepAt.new _ _ _ _ _) (by decide) (by decide) (by decide) (by omega) (by omega) (by omega) (by omega) (by omega) (by omega) (by omega) (by omega)).mono ?_
  rintro e w1 ⟨rfl, hk1, ht1⟩
  have hB1 := Lib.hid (Below.trans (show Below w.heap.size w _ from (by repeat (first | exact Below.refl _ _ | (refine Below.alloc ?_ (by first | omega | (simp; done) | (simp; omega)) _) | (refine Below.setCell ?_ (by first | omega | (simp; done) | (simp; omega)) _) | (refine Below.drew ?_) | (refine below_drewN ?_ _) | (exact (by assumption)) | (refine bel_step (by assumption) ?_ (by first | omega | (simp; done) | (simp; omega)))))) (ht1.below (Nat.le_refl _) (by simp)))
  have hK1 := Lib.hid hk1
  have hz1 := ht1.size
  simp at hz1
  clear hk1 ht1
  go_wp2_with fail
  refine (keeper_Crash _ _ _ _ _ _ hK1.out (by omega) (by omega)).mono ?_
  rintro e w2 ⟨rfl, hk2, ht2⟩
  have hB2 := Lib.hid (hB1.out.trans (ht2.below (Nat.le_refl _) hB1.out.size))
  have hK2 := Lib.hid hk2
  have hz2 := ht2.size
  clear hk2 ht2 hK1 hB1
  go_wp2_with fail
  refine (keeper_Read_at _ _ _ _ _ _ 15 25 2 _ hK2.out (by decide) (by decide) (by decide) (by omega) (by omega) (by omega) (by omega) (by omega) (by omega) (by omega) (by omega)).mono ?_
  rintro e w3 ⟨rfl, hk3, ht3⟩
  have hB3 := Lib.hid (hB2.out.trans (ht3.below (Nat.le_refl _) hB2.out.size))
  have hz3 := ht3.size
  clear hk3 ht3 hK2 hB2
  go_wp2_with fail
  by_cases c1 : a0 < 1
  · refine (keeper_New_no _ _ (by omega)).mono ?_
    rintro e w' ⟨rfl, rfl⟩
    go_wp2_with fail
    go_ret
    exact ⟨by first | rfl | simp, hB3.out⟩
  by_cases c2 : 1000000 < a0
  · refine (keeper_New_no _ _ (by omega)).mono ?_
    rintro e w' ⟨rfl, rfl⟩
    go_wp2_with fail
    go_ret
    exact ⟨by first | rfl | simp, hB3.out⟩
  have c3 : 1 ≤ a0 := by omega
  have c4 : a0 ≤ 1000000 := by omega
  clear h0 c1 c2
  refine (keeper_New_ok _ _ (by omega) (by omega)).mono ?_
  rintro e w' ⟨rfl, rfl⟩
  go_wp2_with fail
  go_loopw [13, 14, 15] (fun la mn iv wr => ∃ (L M ka ke kw : Int) (i : Nat), la = .int .i64 L ∧ mn = .int .i64 M ∧ iv = .int .i64 i ∧ RInv n1 L M ka ke kw i ∧ KeepAt wr w3.heap.size a0 ka ke kw ∧ Below w.heap.size w wr ∧ w3.heap.size < wr.heap.size)
    (fun _ _ iv _ => n1 - (intOf iv).toNat)
  case atStart =>
    exact ⟨-1, 0, -1, 0, 0, 0, rfl, rfl, rfl, ⟨by omega, by omega, by omega, by omega, by omega, by omega, by omega, by omega, by omega⟩, KeepAt.new _ _ _ _ _, hB3.out.alloc (by omega) _, by simp⟩
  case round =>
    obtain ⟨L, M, ka, ke, kw, i, rfl, rfl, rfl, hR, hK, hB, hlt3⟩ := hrel
    obtain ⟨r1, r2, r3, r4, r5, r6, r7, r8, r9⟩ := hR
    by_cases d1 : i < n1
    · by_cases d2 : i < 80
      · have d3 : decide ((i : Int) < 80) = true := by simp; omega
        have d4 : decide ((i : Int) < (n1 : Int)) = true := by simp; omega
        obtain ⟨b, off, rfl, hb, hc⟩ := L5.out (by omega)
        obtain ⟨row, hrow⟩ : ∃ row, z1[i]? = some row := ⟨_, List.getElem?_eq_getElem (by rw [L1.out]; omega)⟩
        have hok : RInts.ok w row := L4.out row (List.mem_of_getElem? hrow)
        have hcell : w.cell? ⟨b, off + i, none⟩ = some (.slice row.A row.n row.c) := by
          have := hc i row hrow 0 _ rfl
          simpa using this
        have hzw := hB.size
        have hcr : wr.cell? ⟨b, off + i, none⟩ = some (.slice row.A row.n row.c) := by rw [hB.cell hb]; exact hcell
        have hbr : b < wr.heap.size := by omega
        obtain ⟨A, rn, rc, rz⟩ := row
        obtain ⟨m1, m2, m3, m4, m5⟩ := hok
        dsimp only at m1 m2 m3 m4 m5 hcr
        unfold maxLen at m3
        have M1 := Lib.hid m1
        have M4 := Lib.hid m4
        have M5 := Lib.hid m5
        have HB := Lib.hid hB
        have HK := Lib.hid hK
        clear hc hrow hcell m1 m4 m5 hB hK
        go_wp2_with fail
        obtain ⟨wo, rfl⟩ : ∃ wo : World, wo = wr := ⟨_, rfl⟩
        go_loopw [17] (fun jv w2 => ∃ (j : Nat) (x y : Int), jv = .int .i64 j ∧ VInv rz rn j x y ∧ w2 = wo.alloc (.cells #[.int .i64 x, .int .i64 y] 45)) (fun jv _ => 2 - (intOf jv).toNat)
        case atStart => exact ⟨0, 0, 0, rfl, ⟨by omega, by omega, i64_0, i64_0⟩, rfl⟩
        case round =>
          obtain ⟨j, x, y, rfl, hV, rfl⟩ := hrel
          have v1 := hV.b1
          have v2 := hV.b2
          by_cases e1 : j < rn
          · by_cases e2 : j < 2
            · obtain ⟨b', off', rfl, hb', hc'⟩ := M5.out (by omega)
              obtain ⟨z, hz⟩ : ∃ z, rz[j]? = some z := ⟨_, List.getElem?_eq_getElem (by rw [M1.out]; omega)⟩
              have hzz : i64B z := M4.out z (List.mem_of_getElem? hz)
              have hcell2 : wo.cell? ⟨b', off' + j, none⟩ = some (.int .i64 z) := by
                rw [HB.out.cell hb']
                have := hc' j z hz 0 _ rfl
                simpa using this
              have hb2 : b' < wo.heap.size := by omega
              have HN := Lib.hid (hV.one e1 e2 hzz)
              clear hc' hz hV
              have hj : j = 0 ∨ j = 1 := by omega
              rcases hj with rfl | rfl
              all_goals
                (try simp only [Nat.add_zero] at hcell2)
                go_wp2_with fail
                go_roundw
                case rel => exact ⟨_, _, _, by go_num, HN.out, rfl⟩
                case measure => simp [intOf]
            · have xb := hV.x1
              have yb := hV.y1
              clear hV
              unfold i64B at xb yb
              have KE := HK.out.below ((Below.refl _ _).alloc (Nat.le_refl _) (.cells #[.int .i64 x, .int .i64 y] 45)) (by omega)
              by_cases f1 : x = 0
              · subst f1
                go_wp2_with fail
                refine (keeper_Crash _ _ _ _ _ _ KE (by omega) (by omega)).mono ?_
                rintro e w5 ⟨rfl, hk5, ht5⟩
                go_wp2_with fail
                go_roundw
                case rel => exact ⟨_, _, _, _, _, i + 1, rfl, rfl, by go_num, ⟨by omega, by omega, by omega, by omega, by omega, by omega, by omega, by omega, by omega⟩, hk5, (HB.out.alloc hzw _).trans (ht5.below (by omega) (by simp; omega)), by have := ht5.size; simp at this; omega⟩
                case measure => simp [intOf]; omega
              · by_cases f2 : y < 0 ∨ 1000000000000 < y
                · go_wp2_with fail
                  refine (keeper_Read_bad _ _ _ f2).mono ?_
                  rintro e w' ⟨rfl, rfl⟩
                  go_wp2_with fail
                  go_roundw
                  case rel => exact ⟨_, _, _, _, _, i + 1, rfl, rfl, by go_num, ⟨by omega, by omega, by omega, by omega, by omega, by omega, by omega, by omega, by omega⟩, KE, HB.out.alloc hzw _, by simp; omega⟩
                  case measure => simp [intOf]; omega
                · by_cases f3 : 1000000000000 < tellN ka y
                  · go_wp2_with fail
                    refine (keeper_Read_full _ _ _ _ _ _ _ KE (by omega) (by omega) (by omega) f3).mono ?_
                    rintro e w' ⟨rfl, rfl⟩
                    go_wp2_with fail
                    go_roundw
                    case rel => exact ⟨_, _, _, _, _, i + 1, rfl, rfl, by go_num, ⟨by omega, by omega, by omega, by omega, by omega, by omega, by omega, by omega, by omega⟩, KE, HB.out.alloc hzw _, by simp; omega⟩
                    case measure => simp [intOf]; omega
                  · have hn1 : tellN ka y = y ∨ tellN ka y = ka + 1 := by unfold tellN; omega
                    have hn2 : y ≤ tellN ka y := by unfold tellN; omega
                    have hn3 : ka + 1 ≤ tellN ka y := by unfold tellN; omega
                    have hkp : tellN ka y < keptN ka ke a0 y ∧ keptN ka ke a0 y ≤ 1000001000000 := by unfold keptN; split <;> omega
                    have hwr : wroteN ka ke kw y ≤ kw + 1 ∧ 0 ≤ wroteN ka ke kw y := by unfold wroteN; split <;> omega
                    obtain ⟨hk6, hk7⟩ := hkp
                    obtain ⟨hk8, hk9⟩ := hwr
                    clear hn1
                    go_wp2_with fail
                    refine (keeper_Read_ok _ _ _ _ _ _ _ KE (by omega) (by omega) (by omega) (by omega) (by omega) (by omega) (by omega) (by omega)).mono ?_
                    rintro e w5 ⟨rfl, hk5, ht5⟩
                    have HK5 := Lib.hid hk5
                    have HB5 := Lib.hid ((HB.out.alloc hzw _).trans (ht5.below (by omega) (by simp; omega)))
                    have hz5 := ht5.size
                    simp at hz5
                    have hv0 : w5.cell? ⟨wo.heap.size, 0, none⟩ = some (.int .i64 x) := by rw [ht5.cell (by simp) (by omega)]; simp
                    have hv1 : w5.cell? ⟨wo.heap.size, 1, none⟩ = some (.int .i64 y) := by rw [ht5.cell (by simp) (by omega)]; simp
                    clear hk5 ht5
                    go_wp2_with fail
                    refine (keeper_Kept _ _ _ _ _ _ HK5.out).mono ?_
                    rintro e w' ⟨rfl, rfl⟩
                    go_wp2_with fail
                    go_roundw
                    case rel => exact ⟨_, _, _, _, _, i + 1, rfl, rfl, by go_num, ⟨by omega, by omega, by omega, by omega, by omega, by omega, by omega, by omega, by omega⟩, HK5.out, HB5.out, by omega⟩
                    case measure => simp [intOf]; omega
          · have xb := hV.x1
            have yb := hV.y1
            clear hV
            unfold i64B at xb yb
            have KE := HK.out.below ((Below.refl _ _).alloc (Nat.le_refl _) (.cells #[.int .i64 x, .int .i64 y] 45)) (by omega)
            by_cases f1 : x = 0
            · subst f1
              go_wp2_with fail
              refine (keeper_Crash _ _ _ _ _ _ KE (by omega) (by omega)).mono ?_
              rintro e w5 ⟨rfl, hk5, ht5⟩
              go_wp2_with fail
              go_roundw
              case rel => exact ⟨_, _, _, _, _, i + 1, rfl, rfl, by go_num, ⟨by omega, by omega, by omega, by omega, by omega, by omega, by omega, by omega, by omega⟩, hk5, (HB.out.alloc hzw _).trans (ht5.below (by omega) (by simp; omega)), by have := ht5.size; simp at this; omega⟩
              case measure => simp [intOf]; omega
            · by_cases f2 : y < 0 ∨ 1000000000000 < y
              · go_wp2_with fail
                refine (keeper_Read_bad _ _ _ f2).mono ?_
                rintro e w' ⟨rfl, rfl⟩
                go_wp2_with fail
                go_roundw
                case rel => exact ⟨_, _, _, _, _, i + 1, rfl, rfl, by go_num, ⟨by omega, by omega, by omega, by omega, by omega, by omega, by omega, by omega, by omega⟩, KE, HB.out.alloc hzw _, by simp; omega⟩
                case measure => simp [intOf]; omega
              · by_cases f3 : 1000000000000 < tellN ka y
                · go_wp2_with fail
                  refine (keeper_Read_full _ _ _ _ _ _ _ KE (by omega) (by omega) (by omega) f3).mono ?_
                  rintro e w' ⟨rfl, rfl⟩
                  go_wp2_with fail
                  go_roundw
                  case rel => exact ⟨_, _, _, _, _, i + 1, rfl, rfl, by go_num, ⟨by omega, by omega, by omega, by omega, by omega, by omega, by omega, by omega, by omega⟩, KE, HB.out.alloc hzw _, by simp; omega⟩
                  case measure => simp [intOf]; omega
                · have hn1 : tellN ka y = y ∨ tellN ka y = ka + 1 := by unfold tellN; omega
                  have hn2 : y ≤ tellN ka y := by unfold tellN; omega
                  have hn3 : ka + 1 ≤ tellN ka y := by unfold tellN; omega
                  have hkp : tellN ka y < keptN ka ke a0 y ∧ keptN ka ke a0 y ≤ 1000001000000 := by unfold keptN; split <;> omega
                  have hwr : wroteN ka ke kw y ≤ kw + 1 ∧ 0 ≤ wroteN ka ke kw y := by unfold wroteN; split <;> omega
                  obtain ⟨hk6, hk7⟩ := hkp
                  obtain ⟨hk8, hk9⟩ := hwr
                  clear hn1
                  go_wp2_with fail
                  refine (keeper_Read_ok _ _ _ _ _ _ _ KE (by omega) (by omega) (by omega) (by omega) (by omega) (by omega) (by omega) (by omega)).mono ?_
                  rintro e w5 ⟨rfl, hk5, ht5⟩
                  have HK5 := Lib.hid hk5
                  have HB5 := Lib.hid ((HB.out.alloc hzw _).trans (ht5.below (by omega) (by simp; omega)))
                  have hz5 := ht5.size
                  simp at hz5
                  have hv0 : w5.cell? ⟨wo.heap.size, 0, none⟩ = some (.int .i64 x) := by rw [ht5.cell (by simp) (by omega)]; simp
                  have hv1 : w5.cell? ⟨wo.heap.size, 1, none⟩ = some (.int .i64 y) := by rw [ht5.cell (by simp) (by omega)]; simp
                  clear hk5 ht5
                  go_wp2_with fail
                  refine (keeper_Kept _ _ _ _ _ _ HK5.out).mono ?_
                  rintro e w' ⟨rfl, rfl⟩
                  go_wp2_with fail
                  go_roundw
                  case rel => exact ⟨_, _, _, _, _, i + 1, rfl, rfl, by go_num, ⟨by omega, by omega, by omega, by omega, by omega, by omega, by omega, by omega, by omega⟩, HK5.out, HB5.out, by omega⟩
                  case measure => simp [intOf]; omega
      · go_wp2_with fail
        refine (keeper_Writes _ _ _ _ _ _ hK).mono ?_; rintro e w' ⟨rfl, rfl⟩
        go_wp2_with fail
        go_ret
        exact ⟨by first | rfl | simp, hB⟩
    · go_wp2_with fail
      refine (keeper_Writes _ _ _ _ _ _ hK).mono ?_; rintro e w' ⟨rfl, rfl⟩
      go_wp2_with fail
      go_ret
      exact ⟨by first | rfl | simp, hB⟩

set_option maxRecDepth 100000 in
theorem lifted (os : Os) (started : os.Started) (H : Type) (enc : TypeId × Value → H) :
    ReturnsInHanded {} Try.checked os 7 .any (Rows.keeperRisesSpec.pre6 enc Try.prog Try.f7 Rows.keeperRisesRow.domain false) (Rows.keeperRisesSpec.post enc Try.prog Try.f7 false true false false) := by
  refine returnsInHanded_of_change (C := Try.checked) own started (by kernel_rfl) Try.func7
    (ChangeSpec.witness6 (enc := enc) (C := Try.checked) false ⟨#[], #[.int .i64 0, .slice none 0 0], []⟩ 8 (by kernel_rfl) (by kernel_rfl) (by kernel_rfl) (by kernel_rfl)) ?_
  intro W base args ds gs before hval0 hW hcnd hreach
  have hval : ∀ (j : Nat) t v, Try.f7.params[j]? = some t → args[j]? = some v → Value.okWide Try.prog W .any base t v := hval0
  have hW' := hW
  obtain ⟨p, q, hA0, hV, rfl, hfz, hnd⟩ := hW
  have hA : DataW.TrodAll enc Try.prog W 0 (fun _ => true) true Try.f7.params.toList args.toList ds p := hA0
  rw [Try.params7] at hA hval
  obtain ⟨v0, vs0, d0, ds0, p0, q0, hargs, rfl, rfl, g0, r0⟩ := trodAll_cons hA
  obtain ⟨v1, vs1, d1, ds1, p1, q1, rfl, rfl, rfl, g1, r1⟩ := trodAll_cons r0
  obtain ⟨rfl, rfl, rfl⟩ := trodAll_nil r1
  obtain rfl : args = #[v0, v1] := by cases args; simp_all
  obtain ⟨rfl, rfl⟩ := trodVars_none hV
  obtain ⟨a0, rfl, rfl, rfl, u0⟩ := open_int Try.underlying3 (hval 0 3 v0 rfl rfl) g0
  have h0 := bounds_i64 u0
  have k1 := g1
  have lt1 : ∀ x ∈ p1, x.block < W.heap.size := by obtain ⟨m, hm⟩ := k1; exact DataW.trod_lt m _ _ _ hm
  have rd1 : Try.prog.readableRec 44 = true := by kernel_rfl
  have ls1 : 44 < Try.prog.types.size := of_decide_eq_true (by kernel_rfl)
  obtain ⟨a1, n1, c1, z1, rfl, h1⟩ := open_IntRows (hval 1 44 v1 rfl rfl) g1
  clear hA0 hval0
  refine (walk a0 a1 n1 c1 z1 W h0 h1).mono fun e W' ⟨he, bel⟩ => ?_
  subst he
  exact ⟨_, rfl, _, _, _, [], _, [], hW', trodAll_mk1 (shut_bool Try.underlying4 _), (trodAll_cons_mk (shut_int Try.underlying3 u0) (trodAll_cons_mk (Below.trod laidOut rd1 ls1 k1 bel lt1) trodAll_mk0)), rfl, bel.frame _, fun h => by cases h⟩

theorem over : Rows.keeperRisesRow.holds Try.pinned (OpenSpec.ofChange Rows.keeperRisesSpec) :=
  OpenClaim.holds_of_wide 7 Try.f7 rfl rfl rfl rfl rfl rfl rfl ⟨rfl, rfl, rfl, rfl, rfl⟩ rfl rfl rfl rfl rfl (by kernel_rfl) Try.func7 (by kernel_rfl)
    (of_decide_eq_true (by kernel_rfl)) (by unfold Func.isWrapper; rw [if_neg (of_decide_eq_false (by kernel_rfl))]; exact ⟨rfl, rfl⟩)
    (fun os started H enc _ => lifted os started H enc)

/-- the statement -/
theorem proved : Rows.KeeperRisesSaid := over

#print axioms proved
end Go.Proofs.Ytekhafhgodkkcaa.lKeeperRises
