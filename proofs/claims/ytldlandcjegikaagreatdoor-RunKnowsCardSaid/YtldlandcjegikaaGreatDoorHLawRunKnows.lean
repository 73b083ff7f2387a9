/- Proved: the tied card of noonlaw3.RunKnows: it answers true for every input and leaves its arguments as they were. The card's own conditions: the listed variables hold what the program's text lays there. -/
import Derived.Test.YtldlandcjegikaaGreatDoorHK2
import Derived.Test.YtldlandcjegikaaGreatDoorHUptoR
import Derived.Test.YtldlandcjegikaaGreatDoorHRunG
import Derived.Test.YtldlandcjegikaaGreatDoorHRunK
import Derived.Test.YtldlandcjegikaaGreatDoorHRCutL
import Derived.Test.YtldlandcjegikaaGreatDoorHRSpanT
import Derived.Deep.DeepCutAuto
namespace Go.Proofs.YtldlandcjegikaaGreatDoor.lRunKnows
open Go.ChangeShapes Go.WideShapes Go.ChangeAt Go.RowKit
open Go.ChangeMaps (open_string)
set_option linter.unusedVariables false
set_option linter.unusedSimpArgs false
theorem printL_no (lo hi : Int) : (10 : UInt8) ∉ printL lo hi := by
  have h1 := itoa_no10 lo
  have h2 := itoa_no10 hi
  have h3 : (10 : UInt8) ∉ dots := by decide
  unfold printL
  simp [h1, h2, h3]
theorem num_known {x : Int} (h0 : 0 ≤ x) (h1 : x ≤ 1002000000) (w : World) : Calls Tryz.prog 11 #[.string ⟨(Lib.itoa x).toArray⟩, .int .i64 13] w fun e w' => e = .returned (.tuple #[.int .i64 x, .bool true]) ∧ Below w.heap.size w w' := by
  have hl := itoa_len x (by omega) (by omega)
  have hz := Lib.itoa_length_le x (by omega) (by omega)
  have h := r1_Number ⟨(Lib.itoa x).toArray⟩ w (by rw [str_len]; omega)
  obtain ⟨e1, e2⟩ := num_of (Lib.itoa x) (numOk_itoa_len x hl)
  have e3 : (⟨(Lib.itoa x).toArray⟩ : ByteArray).data.toList = Lib.itoa x := rfl
  rw [e3, e1, e2, atoV_itoa_len x hl] at h
  exact h
theorem parse_known {lo hi : Int} (hr : rightB lo hi = true) (w : World) (h : SpanW w) : Calls Tryz.prog 12 #[.string ⟨(printL lo hi).toArray⟩] w fun e w' => e = .returned (.tuple #[.agg #[.int .i64 lo, .int .i64 hi], .nilIface]) ∧ Below w.heap.size w w' := by
  have h4 := span_Parse (printL lo hi) w h (by
    obtain ⟨g1, g2, g3⟩ := rightB_iff.1 hr
    have l1 := Lib.itoa_length_le lo (by omega) (by omega)
    have l2 := Lib.itoa_length_le hi (by omega) (by omega)
    unfold printL dots
    simp only [List.length_append, List.length_cons, List.length_nil]
    omega)
  rw [parse_print lo hi hr] at h4
  exact h4
theorem has_known {lo hi n : Int} (hr : rightB lo hi = true) (hh : hasB lo hi n = true) (w : World) : Calls Tryz.prog 13 #[.agg #[.int .i64 lo, .int .i64 hi], .int .i64 n] w fun e w' => e = .returned (.tuple #[.bool true, .nilIface]) ∧ Below w.heap.size w w' := by
  have h1 := span_Has lo hi n w
  rw [hr, hh] at h1
  exact h1
theorem cut_known {os : List (List UInt8)} (hn : ∀ l ∈ os, (10 : UInt8) ∉ l) (hz : (outL os).length ≤ 1048576) (w : World) : Calls Tryz.prog 7 #[.string ⟨(outL os).toArray⟩, .int .u8 10] w fun e w' => (∃ A n c, e = .returned (.slice A n c) ∧ IsRecs w' strC (fun _ => True) 1 A n c (os ++ [[]])) ∧ Below w.heap.size w w' := by
  have h := r1_Cut ⟨(outL os).toArray⟩ 10 w (by rw [str_len]; exact hz)
  refine (show Calls _ _ _ _ _ from h).mono ?_
  rintro e w' ⟨v, rfl, ho, hb⟩
  have e3 : (⟨(outL os).toArray⟩ : ByteArray).data.toList = outL os := rfl
  rw [e3, pieces_outL os hn] at ho
  obtain ⟨A, n, c, rfl, hr⟩ := own_recs strC (fun _ => True) 1 strC_len ho (fun _ _ => trivial)
  exact ⟨⟨A, n, c, rfl, hr⟩, hb⟩
theorem knows_text (A B C : Int) : (⟨#[97, 115, 107, 32, 48, 32, 49, 10, 103, 111, 32]⟩ : ByteArray) ++ ⟨(Lib.itoa A).toArray⟩ ++ ⟨#[10, 100, 101, 108, 105, 118, 101, 114, 32, 48, 10, 103, 111, 32]⟩ ++ ⟨(Lib.itoa B).toArray⟩ ++ ⟨#[10, 100, 101, 108, 105, 118, 101, 114, 32, 48, 10, 103, 111, 32]⟩ ++ ⟨(Lib.itoa C).toArray⟩ ++ ⟨#[10, 115, 104, 111, 119, 32, 48, 10, 115, 104, 111, 119, 32, 49, 10, 111, 102, 102, 115, 101, 116, 32, 48, 32, 49, 10]⟩ = ⟨(outL (knowL A B C)).toArray⟩ := by
  apply ByteArray.ext
  apply Array.ext'
  simp [ByteArray.data_append, outL, knowL, lnAsk, lnGo, lnDel, lnS0, lnS1, lnOff, wGo]
set_option maxRecDepth 100000 in
set_option maxHeartbeats 8000000 in
theorem walk (a0 : Int) (a1 : Int) (a2 : Int) (w : World) (h0 : -9223372036854775808 ≤ a0 ∧ a0 ≤ 9223372036854775807) (h1 : -9223372036854775808 ≤ a1 ∧ a1 ≤ 9223372036854775807) (h2 : -9223372036854775808 ≤ a2 ∧ a2 ≤ 9223372036854775807) (HR : RunW w) :
    Calls Tryz.prog 5 #[.int .i64 a0, .int .i64 a1, .int .i64 a2] w fun e w' => e = .returned (.bool true) ∧ Below w.heap.size w w' := by
  have HW := Lib.hid HR
  clear HR
  by_cases i1 : a0 < 0
  · go_enter Tryz.func5, Tryz.ntmps5
    go_wp2_with fail
    go_ret
    exact ⟨rfl, (by repeat (first | with_reducible exact Below.refl _ _ | (with_reducible refine Below.alloc ?_ (by first | omega | (simp; done) | (simp; omega)) _) | (with_reducible refine Below.setCell ?_ (by first | omega | (simp; done) | (simp; omega)) _) | (with_reducible refine Below.drew ?_) | (with_reducible refine below_drewN ?_ _) | (with_reducible assumption) | (with_reducible refine bel_step (by with_reducible assumption) ?_ (by first | omega | (simp; done) | (simp; omega)))))⟩
  by_cases i2 : 999999 < a0
  · go_enter Tryz.func5, Tryz.ntmps5
    go_wp2_with fail
    go_ret
    exact ⟨rfl, (by repeat (first | with_reducible exact Below.refl _ _ | (with_reducible refine Below.alloc ?_ (by first | omega | (simp; done) | (simp; omega)) _) | (with_reducible refine Below.setCell ?_ (by first | omega | (simp; done) | (simp; omega)) _) | (with_reducible refine Below.drew ?_) | (with_reducible refine below_drewN ?_ _) | (with_reducible assumption) | (with_reducible refine bel_step (by with_reducible assumption) ?_ (by first | omega | (simp; done) | (simp; omega)))))⟩
  by_cases i3 : a1 < 0
  · go_enter Tryz.func5, Tryz.ntmps5
    go_wp2_with fail
    go_ret
    exact ⟨rfl, (by repeat (first | with_reducible exact Below.refl _ _ | (with_reducible refine Below.alloc ?_ (by first | omega | (simp; done) | (simp; omega)) _) | (with_reducible refine Below.setCell ?_ (by first | omega | (simp; done) | (simp; omega)) _) | (with_reducible refine Below.drew ?_) | (with_reducible refine below_drewN ?_ _) | (with_reducible assumption) | (with_reducible refine bel_step (by with_reducible assumption) ?_ (by first | omega | (simp; done) | (simp; omega)))))⟩
  by_cases i4 : 999999 < a1
  · go_enter Tryz.func5, Tryz.ntmps5
    go_wp2_with fail
    go_ret
    exact ⟨rfl, (by repeat (first | with_reducible exact Below.refl _ _ | (with_reducible refine Below.alloc ?_ (by first | omega | (simp; done) | (simp; omega)) _) | (with_reducible refine Below.setCell ?_ (by first | omega | (simp; done) | (simp; omega)) _) | (with_reducible refine Below.drew ?_) | (with_reducible refine below_drewN ?_ _) | (with_reducible assumption) | (with_reducible refine bel_step (by with_reducible assumption) ?_ (by first | omega | (simp; done) | (simp; omega)))))⟩
  by_cases i5 : a2 < 0
  · go_enter Tryz.func5, Tryz.ntmps5
    go_wp2_with fail
    go_ret
    exact ⟨rfl, (by repeat (first | with_reducible exact Below.refl _ _ | (with_reducible refine Below.alloc ?_ (by first | omega | (simp; done) | (simp; omega)) _) | (with_reducible refine Below.setCell ?_ (by first | omega | (simp; done) | (simp; omega)) _) | (with_reducible refine Below.drew ?_) | (with_reducible refine below_drewN ?_ _) | (with_reducible assumption) | (with_reducible refine bel_step (by with_reducible assumption) ?_ (by first | omega | (simp; done) | (simp; omega)))))⟩
  by_cases i6 : 999999 < a2
  · go_enter Tryz.func5, Tryz.ntmps5
    go_wp2_with fail
    go_ret
    exact ⟨rfl, (by repeat (first | with_reducible exact Below.refl _ _ | (with_reducible refine Below.alloc ?_ (by first | omega | (simp; done) | (simp; omega)) _) | (with_reducible refine Below.setCell ?_ (by first | omega | (simp; done) | (simp; omega)) _) | (with_reducible refine Below.drew ?_) | (with_reducible refine below_drewN ?_ _) | (with_reducible assumption) | (with_reducible refine bel_step (by with_reducible assumption) ?_ (by first | omega | (simp; done) | (simp; omega)))))⟩
  have D0 := Lib.hid (fun w => r1_Digits a0 w (by omega) (by omega))
  have D1 := Lib.hid (fun w => r1_Digits a1 w (by omega) (by omega))
  have D2 := Lib.hid (fun w => r1_Digits a2 w (by omega) (by omega))
  have KT := Lib.hid (knows_text a0 a1 a2)
  have z0 := Lib.itoa_length_le a0 (by omega) (by omega)
  have z1 := Lib.itoa_length_le a1 (by omega) (by omega)
  have z2 := Lib.itoa_length_le a2 (by omega) (by omega)
  have KO := Lib.hid (fun os t us S h => knows_out (A := a0) (B := a1) (C := a2) (by omega) (by omega) (by omega) (by omega) (by omega) (by omega) (os := os) (t := t) (us := us) (S := S) h)
  have KL := Lib.hid (knowL_no (A := a0) (B := a1) (C := a2) (by omega) (by omega) (by omega))
  rw [← str_len] at z0 z1 z2
  obtain ⟨s0, e0⟩ : ∃ s : ByteArray, (⟨(Lib.itoa a0).toArray⟩ : ByteArray) = s := ⟨_, rfl⟩
  obtain ⟨s1, e1⟩ : ∃ s : ByteArray, (⟨(Lib.itoa a1).toArray⟩ : ByteArray) = s := ⟨_, rfl⟩
  obtain ⟨s2, e2⟩ : ∃ s : ByteArray, (⟨(Lib.itoa a2).toArray⟩ : ByteArray) = s := ⟨_, rfl⟩
  rw [e0] at D0 KT z0
  rw [e1] at D1 KT z1
  rw [e2] at D2 KT z2
  clear e0 e1 e2
  go_enter Tryz.func5, Tryz.ntmps5
  go_wp2_with fail
  refine (D0.out _).mono ?_
  rintro e w1 ⟨rfl, hb1⟩
  have hz1 := hb1.size
  go_wp2_with fail
  refine (D1.out _).mono ?_
  rintro e w2 ⟨rfl, hb2⟩
  have HB2 : Below w.heap.size w w2 := hb1.trans (hb2.mono hz1)
  have hz2 := HB2.size
  clear hb1 hb2 hz1
  go_wp2_with fail
  refine (D2.out _).mono ?_
  rintro e w3 ⟨rfl, hb3⟩
  have HB3 : Below w.heap.size w w3 := HB2.trans (hb3.mono hz2)
  have hz3 := HB3.size
  clear HB2 hb3 hz2
  go_wp2_with fail
  have hsz : ((outL (knowL a0 a1 a2)).length) ≤ 3000 := by
    rw [← str_len, ← KT.out]
    simp only [ByteArray.size_append]
    have q1 : (⟨#[97, 115, 107, 32, 48, 32, 49, 10, 103, 111, 32]⟩ : ByteArray).size = 11 := rfl
    have q2 : (⟨#[10, 100, 101, 108, 105, 118, 101, 114, 32, 48, 10, 103, 111, 32]⟩ : ByteArray).size = 14 := rfl
    have q3 : (⟨#[10, 115, 104, 111, 119, 32, 48, 10, 115, 104, 111, 119, 32, 49, 10, 111, 102, 102, 115, 101, 116, 32, 48, 32, 49, 10]⟩ : ByteArray).size = 26 := rfl
    omega
  rw [KT.out]
  refine (run_Run _ (by rw [str_len]; exact hsz) w3 (HW.out.below HB3)).mono ?_
  rintro e w4 ⟨os, t, us, S, hT, rfl, hb4⟩
  have HB4 : Below w.heap.size w w4 := HB3.trans (hb4.mono hz3)
  have hz4 := HB4.size
  have e5 : (⟨(outL (knowL a0 a1 a2)).toArray⟩ : ByteArray).data.toList = outL (knowL a0 a1 a2) := rfl
  rw [e5, lines_outL _ KL.out] at hT
  have hos := hT.size TrueR.start
  obtain ⟨x, y, lo, hi, rfl, hr, hh, hx, hy⟩ := KO.out _ _ _ _ hT
  have hno : ∀ l ∈ [okB, okB, okB, okB, okB, okB, Lib.itoa x, Lib.itoa y, printL lo hi], (10 : UInt8) ∉ l := by
    have h1 : (10 : UInt8) ∉ okB := by decide
    intro l hl
    simp only [List.mem_cons, List.not_mem_nil, or_false] at hl
    rcases hl with rfl | rfl | rfl | rfl | rfl | rfl | rfl | rfl | rfl
    · exact h1
    · exact h1
    · exact h1
    · exact h1
    · exact h1
    · exact h1
    · exact itoa_no10 x
    · exact itoa_no10 y
    · exact printL_no lo hi
  have CC := Lib.hid (fun w => cut_known hno (by have : (knowL a0 a1 a2).length = 9 := rfl; omega) w)
  have NX := Lib.hid (fun w => num_known hx.1 hx.2 w)
  have NY := Lib.hid (fun w => num_known hy.1 hy.2 w)
  have PA := Lib.hid (fun w h => parse_known hr w h)
  have HA := Lib.hid (fun w => has_known hr hh w)
  have wy : IntKind.i64.wrap (y - x) = y - x := IntWalk.i64_in _ (by omega)
  obtain ⟨sx, ex⟩ : ∃ s : ByteArray, (⟨(Lib.itoa x).toArray⟩ : ByteArray) = s := ⟨_, rfl⟩
  obtain ⟨sy, ey⟩ : ∃ s : ByteArray, (⟨(Lib.itoa y).toArray⟩ : ByteArray) = s := ⟨_, rfl⟩
  obtain ⟨sp, ep⟩ : ∃ s : ByteArray, (⟨(printL lo hi).toArray⟩ : ByteArray) = s := ⟨_, rfl⟩
  rw [ex] at NX
  rw [ey] at NY
  rw [ep] at PA
  have EX := Lib.hid ex
  have EY := Lib.hid ey
  have EP := Lib.hid ep
  clear D0 D1 D2 KT KO KL hT hos hno hsz e5 hb4 hz3 HB3 hx hy hr hh ex ey ep
  obtain ⟨L, eL⟩ : ∃ L, outL [okB, okB, okB, okB, okB, okB, Lib.itoa x, Lib.itoa y, printL lo hi] = L := ⟨_, rfl⟩
  rw [eL] at CC ⊢
  clear eL
  go_wp2_with fail
  refine (CC.out _).mono ?_
  rintro e w5 ⟨⟨A, n, c, rfl, hn, hc1, hc2, _, hcell⟩, hb5⟩
  obtain rfl : 10 = n := hn
  obtain ⟨b, off, rfl, hb, hc⟩ := hcell (by omega)
  have HB5 : Below w.heap.size w w5 := HB4.trans (hb5.mono hz4)
  have hz5 := HB5.size
  have y6 : w5.cell? ⟨b, off + 6, none⟩ = some (.string sx) := by rw [← EX.out]; exact hc 6 _ rfl 0 _ rfl
  have y7 : w5.cell? ⟨b, off + 7, none⟩ = some (.string sy) := by rw [← EY.out]; exact hc 7 _ rfl 0 _ rfl
  have y8 : w5.cell? ⟨b, off + 8, none⟩ = some (.string sp) := by rw [← EP.out]; exact hc 8 _ rfl 0 _ rfl
  unfold maxLen at hc2
  clear hc HB4 hz4 CC hb5 EX EY EP hcell
  go_wp2_with fail
  refine (NX.out _).mono ?_
  rintro e w6 ⟨rfl, hb6⟩
  have y7' : w6.cell? ⟨b, off + 7, none⟩ = some (.string sy) := (hb6.cell (p := ⟨b, off + 7, none⟩) hb).trans y7
  have y8' : w6.cell? ⟨b, off + 8, none⟩ = some (.string sp) := (hb6.cell (p := ⟨b, off + 8, none⟩) hb).trans y8
  have hb' : b < w6.heap.size := Nat.lt_of_lt_of_le hb hb6.size
  have HB6 : Below w.heap.size w w6 := HB5.trans (hb6.mono hz5)
  have hz6 := HB6.size
  clear y6 y7 y8 hb hb6 HB5 hz5 NX
  go_wp2_with fail
  refine (NY.out _).mono ?_
  rintro e w7 ⟨rfl, hb7⟩
  have y8 : w7.cell? ⟨b, off + 8, none⟩ = some (.string sp) := (hb7.cell (p := ⟨b, off + 8, none⟩) hb').trans y8'
  have HB7 : Below w.heap.size w w7 := HB6.trans (hb7.mono hz6)
  have hz7 := HB7.size
  clear y7' y8' hb' hb7 HB6 hz6 NY
  go_wp2_with fail
  refine (PA.out _ (HW.out.below HB7).sp).mono ?_
  rintro e w8 ⟨rfl, hb8⟩
  have HB8 : Below w.heap.size w w8 := HB7.trans (hb8.mono hz7)
  have hz8 := HB8.size
  clear y8 hb8 HB7 hz7 PA
  go_wp2_with fail
  refine (HA.out _).mono ?_
  rintro e w9 ⟨rfl, hb9⟩
  go_wp2_with fail
  go_ret
  exact ⟨rfl, (by repeat (first | with_reducible exact Below.refl _ _ | (with_reducible refine Below.alloc ?_ (by first | omega | (simp; done) | (simp; omega)) _) | (with_reducible refine Below.setCell ?_ (by first | omega | (simp; done) | (simp; omega)) _) | (with_reducible refine Below.drew ?_) | (with_reducible refine below_drewN ?_ _) | (with_reducible assumption) | (with_reducible refine bel_step (by with_reducible assumption) ?_ (by first | omega | (simp; done) | (simp; omega)))))⟩

set_option maxRecDepth 100000 in
theorem reads (os : Os) {H : Type} (enc : TypeId × Value → H) : DataW.whole enc Tryz.prog ((laidWorldR os).forCall (fun _ _ => 0) ⟨#[], #[.int .i64 0, .int .i64 0, .int .i64 0], []⟩).memory Tryz.f5.params.toList Rows.runKnowsSpec.vars false (#[.int .i64 0, .int .i64 0, .int .i64 0] : Array Value).toList 8 = some ([.lit (.int .i64 0), .lit (.int .i64 0), .lit (.int .i64 0)], [], []) :=
  by kernel_rfl
set_option maxRecDepth 100000 in
theorem lifted (os : Os) (started : os.Started) (H : Type) (enc : TypeId × Value → H) (F : Stop.Interp) :
    ReturnsInHanded {} Tryz.checked os 5 .any ((OpenSpec.ofChange Rows.runKnowsSpec).preRow enc Tryz.prog Tryz.f5 Rows.runKnowsRow.domain false laidDataR) (((OpenSpec.ofChange Rows.runKnowsSpec).at F).post enc Tryz.prog Tryz.f5 false true false false) := by
  refine returnsInHanded_of_row (C := Tryz.checked) (s := OpenSpec.ofChange Rows.runKnowsSpec) own started (by kernel_rfl) Tryz.func5
    (witness_row_at (enc := enc) (C := Tryz.checked) false (laidWorldR os) #[.int .i64 0, .int .i64 0, .int .i64 0] rfl (by kernel_rfl) (by kernel_rfl) (by kernel_rfl)
      (OpenSpec.preRow_of_cond 8 (reads os enc) (by rfl) (fun k hk => by cases hk) (by kernel_rfl) (laidWorldR_met os _))) ?_
  intro W base args ds gs before hval0 hW hcnd hcond hreach hL hshape _
  have hval : ∀ (j : Nat) t v, Tryz.f5.params[j]? = some t → args[j]? = some v → Value.okWide Tryz.prog W .any base t v := hval0
  have hW' := hW
  obtain ⟨p, q, hA0, hV, rfl, hfz, hnd⟩ := hW
  have hA : DataW.TrodAll enc Tryz.prog W 0 (fun _ => true) true Tryz.f5.params.toList args.toList ds p := hA0
  rw [Tryz.params5] at hA hval
  obtain ⟨v0, vs0, d0, ds0, p0, q0, hargs, rfl, rfl, g0, r0⟩ := trodAll_cons hA
  obtain ⟨v1, vs1, d1, ds1, p1, q1, rfl, rfl, rfl, g1, r1⟩ := trodAll_cons r0
  obtain ⟨v2, vs2, d2, ds2, p2, q2, rfl, rfl, rfl, g2, r2⟩ := trodAll_cons r1
  obtain ⟨rfl, rfl, rfl⟩ := trodAll_nil r2
  obtain rfl : args = #[v0, v1, v2] := by cases args; simp_all
  have hV2 : DataW.TrodVars enc Tryz.prog W (fun _ => true) [] gs q := hV
  obtain ⟨rfl, rfl⟩ : gs = [] ∧ q = [] := by
    cases gs with
    | nil => exact ⟨rfl, hV2⟩
    | cons g r => exact absurd hV2 (by intro h; cases h)
  obtain ⟨a0, rfl, rfl, rfl, u0⟩ := open_int Tryz.underlying3 (hval 0 3 v0 rfl rfl) g0
  have h0 := bounds_i64 u0
  obtain ⟨a1, rfl, rfl, rfl, u1⟩ := open_int Tryz.underlying3 (hval 1 3 v1 rfl rfl) g1
  have h1 := bounds_i64 u1
  obtain ⟨a2, rfl, rfl, rfl, u2⟩ := open_int Tryz.underlying3 (hval 2 3 v2 rfl rfl) g2
  have h2 := bounds_i64 u2
  clear hA0 hval0
  have key : Calls Tryz.prog 5 #[.int .i64 a0, .int .i64 a1, .int .i64 a2] W fun e W' => ∃ v, e = .returned v ∧ Rows.runKnowsSpec.post enc Tryz.prog Tryz.f5 false true false false W #[.int .i64 a0, .int .i64 a1, .int .i64 a2] v W' := by
    refine (walk a0 a1 a2 W h0 h1 h2 (runW_of_laidR hL hshape)).mono fun e W' ⟨he, bel⟩ => ?_
    subst he
    exact ⟨_, rfl, _, _, _, [], _, [], hW', trodAll_mk1 (shut_bool Tryz.underlying4 _), (trodAll_cons_mk (shut_int Tryz.underlying3 u0) (trodAll_cons_mk (shut_int Tryz.underlying3 u1) (trodAll_cons_mk (shut_int Tryz.underlying3 u2) trodAll_mk0))), rfl, bel.frame _, fun h => by cases h⟩
  exact key

theorem over : Rows.runKnowsRow.holds Tryz.pinned (OpenSpec.ofChange Rows.runKnowsSpec) :=
  OpenClaim.holds_of_cond 5 Tryz.f5 rfl rfl rfl rfl rfl rfl rfl ⟨rfl, rfl, rfl, rfl, rfl⟩ rfl rfl rfl rfl rfl (by kernel_rfl) Tryz.func5 (by kernel_rfl)
    (of_decide_eq_true (by kernel_rfl)) (by unfold Func.isWrapper; rw [if_neg (of_decide_eq_false (by kernel_rfl))]; exact ⟨rfl, rfl⟩)
    (fun os started H enc _ F => by rw [OpenClaim.pre_eq_preRow]; exact lifted os started H enc F)

theorem card : Rows.RunKnowsCardSaid :=
  Claim7.holds_tied_plain_at .later [] [.data, .data, .data, .data, .data, .handle, .sentinel, .sentinel, .wider, .pinned] true (true, Rows.runKnowsCard.stood.harness.2) true
    over (fun _ h => by cases h) (by kernel_rfl) (fun _ h => by cases h) runKnows_row_tie rfl ⟨rfl, rfl⟩ (by kernel_rfl) rfl
    (fun f fn hf hfn => by
      obtain rfl : f = 5 := Option.some.inj ((show Tryz.prog.funcNamed "noonmark/noonlaw3.RunKnows" = some 5 by kernel_rfl).symm.trans hf) |>.symm
      obtain rfl : fn = Tryz.f5 := (Option.some.inj (Tryz.func5.symm.trans hfn)).symm
      exact ⟨by kernel_rfl, fun j t ht => by
        rw [Tryz.params5] at ht
        exact noStandIn (ps := #[3, 3, 3]) (by kernel_rfl) ht⟩)
    (by kernel_rfl)

#print axioms card
end Go.Proofs.YtldlandcjegikaaGreatDoor.lRunKnows
