/- Proved: noonlaw2.WorldGoes answers true for every input and leaves its arguments as they were. No condition. -/
import Derived.Test.YtloniibmmajlbaaOpen
import Derived.Test.YtloniibmmajlbaaWorldN
namespace Go.Proofs.Ytloniibmmajlbaa.lWorldGoes
open Go.ChangeShapes Go.WideShapes Go.ChangeAt Go.RowKit
set_option linter.unusedVariables false
set_option linter.unusedSimpArgs false
theorem pair_ints {w : World} {g : Nat} {T : TypeId} {a b : Int} (h : Blk w g T #[.int .i64 a, .int .i64 b]) (ha : i64B a) (hb : i64B b) : IsInts w (some ⟨g, 0, none⟩) 2 2 [a, b] := by
  refine ⟨rfl, by omega, by unfold maxLen; omega, ?_, fun _ => ⟨g, 0, rfl, h.lt, fun i z hz j u hj => ?_⟩⟩
  · intro z hz
    simp at hz
    rcases hz with rfl | rfl <;> assumption
  · have hj0 : j = 0 := by
      have := (List.getElem?_eq_some_iff.1 hj).1
      simp [intCells] at this; omega
    subst hj0
    simp [intCells] at hj
    subst hj
    have hi : i < 2 := (List.getElem?_eq_some_iff.1 hz).1
    have hc : i = 0 ∨ i = 1 := by omega
    rw [h.cell]
    rcases hc with rfl | rfl <;> simp at hz <;> subst hz <;> rfl
theorem row_shape {w : World} {B : Nat} {T : TypeId} {v : Value} {xs : List Int} (ho : w.ownsRow B T 1 v xs.length (xs.flatMap intCells)) (h0 : 0 < xs.length) : ∃ q cap, v = .slice (some ⟨q, 0, none⟩) xs.length cap ∧ B ≤ q ∧ q < w.heap.size ∧ xs.length ≤ cap ∧ cap ≤ maxLen ∧ ∀ (i : Nat) z, xs[i]? = some z → w.cell? ⟨q, i, none⟩ = some (.int .i64 z) := by
  have hc := fun {g : Nat} (hg : v.ownBlock = some g) => ho.cells hg
  rcases ho.2 with ⟨rfl, hn⟩ | ⟨g, cap, cur, rfl, hbb, hg, hn, hm, hs, ht⟩
  · omega
  · refine ⟨g, cap, rfl, hbb, (Array.getElem?_eq_some_iff.1 hg).1, hn, hm, fun i z hz => ?_⟩
    have hx := hc (g := g) rfl (i * 1 + 0) (.int .i64 z) (flat_get intCells 1 (fun _ => rfl) xs i 0 z _ hz rfl)
    rw [show (⟨g, 0, none⟩ : Addr).add (i * 1 + 0) = ⟨g, i, none⟩ by unfold Addr.add; split <;> simp_all] at hx
    exact hx
/-- what clocks showed. -/
def WasOk (ss rs : List Int) (t : Int) (xs : List Int) : Prop := ∀ (i : Nat) s r x, ss[i]? = some s → rs[i]? = some r → xs[i]? = some x → x = readV s r t
theorem WasOk.nil (ss rs : List Int) (t : Int) : WasOk ss rs t [] := fun i s r x _ _ h => by simp at h
theorem WasOk.snoc {ss rs : List Int} {t : Int} {xs : List Int} {j : Nat} {s r : Int} (h : WasOk ss rs t xs) (hl : xs.length = j) (hs : ss[j]? = some s) (hr : rs[j]? = some r) : WasOk ss rs t (xs ++ [readV s r t]) := by
  intro i s' r' x h1 h2 h3
  rcases Nat.lt_or_ge i j with hlt | hge
  · rw [List.getElem?_append_left (by omega)] at h3
    exact h i s' r' x h1 h2 h3
  · rw [List.getElem?_append_right (by omega)] at h3
    have : i = j := by
      have := (List.getElem?_eq_some_iff.1 h3).1
      simp at this; omega
    subst this
    rw [hs] at h1
    rw [hr] at h2
    cases h1; cases h2
    simp [hl] at h3
    exact h3.symm
theorem int_one (z : Int) : ∀ u ∈ intCells z, u.oneCell' = true := by intro u hu; simp [intCells] at hu; subst hu; rfl
set_option maxRecDepth 100000 in
set_option maxHeartbeats 8000000 in
theorem walk (a0 : Option Addr) (n0 c0 : Nat) (z0 : List Int) (a1 : Option Addr) (n1 c1 : Nat) (z1 : List Int) (a2 : Int) (a3 : Option Addr) (n3 c3 : Nat) (z3 : List Int) (w : World) (h0 : IsInts w a0 n0 c0 z0) (h1 : IsInts w a1 n1 c1 z1) (h2 : -9223372036854775808 ≤ a2 ∧ a2 ≤ 9223372036854775807) (h3 : IsInts w a3 n3 c3 z3) :
    Calls Try.prog 3 #[.slice a0 n0 c0, .slice a1 n1 c1, .int .i64 a2, .slice a3 n3 c3] w fun e w' => e = .returned (.bool true) ∧ Below w.heap.size w w' := by
  obtain ⟨i0, hi, hz0, hz1, hz2⟩ := info_parts infoI64
  have H0 := Lib.hid h0
  have H1 := Lib.hid h1
  have H3 := Lib.hid h3
  have hp := Lib.hid h2
  clear h0 h1 h3
  go_enter Try.func3, Try.ntmps3
  go_wp2_with fail
  have I0 : IsInts ((w.alloc (.cells #[.int .i64 5, .int .i64 7] 3)).alloc (.cells #[.int .i64 100, .int .i64 (-100)] 3)) (some ⟨w.heap.size, 0, none⟩) 2 2 [5, 7] := pair_ints ((Blk.new w _ _).alloc _) (by unfold i64B; omega) (by unfold i64B; omega)
  have I1 : IsInts ((w.alloc (.cells #[.int .i64 5, .int .i64 7] 3)).alloc (.cells #[.int .i64 100, .int .i64 (-100)] 3)) (some ⟨w.heap.size + 1, 0, none⟩) 2 2 [100, -100] := pair_ints (T := 3) (by have := Blk.new (w.alloc (.cells #[.int .i64 5, .int .i64 7] 3)) 3 #[.int .i64 100, .int .i64 (-100)]; simpa using this) (by unfold i64B; omega) (by unfold i64B; omega)
  refine (world_New_ok _ _ _ [5, 7] _ _ _ [100, -100] 100 _ I0 I1 (by decide)).mono ?_
  rintro e w1 ⟨g1, rfl, hg1, hw1, hb1⟩
  have v1 := hb1.size
  simp at hg1 v1
  have HW1 := Lib.hid hw1
  have HB1 := Lib.hid hb1
  have lw1 := hw1.lt
  clear hw1 hb1 I0 I1
  go_wp2_with fail
  refine (world_Do_go _ _ _ _ _ _ 100000 0 _ HW1.out (by omega) (by omega) (by omega)).mono ?_
  rintro e w2 ⟨rfl, hw2, ht2⟩
  have HB2 := Lib.hid (show Below w.heap.size w w2 by
    have hb := HB1.out
    have h1 : Below w.heap.size w w1 := (by repeat (first | with_reducible exact Below.refl _ _ | (with_reducible refine Below.alloc ?_ (by first | omega | (simp; done) | (simp; omega)) _) | (with_reducible refine Below.setCell ?_ (by first | omega | (simp; done) | (simp; omega)) _) | (with_reducible refine Below.drew ?_) | (with_reducible refine below_drewN ?_ _) | (with_reducible assumption) | (with_reducible refine bel_step (by with_reducible assumption) ?_ (by first | omega | (simp; done) | (simp; omega)))))
    exact h1.trans (ht2.below (B := w.heap.size) (by omega) (by omega)))
  have HW2 := Lib.hid hw2
  have v2 := ht2.size
  clear hw2 ht2
  go_wp2_with fail
  have C3 := world_Read g1 2 [5, 7] [100, -100] (0 + 100000) (.slice none 0 0) 1 7 (-100) w2 HW2.out rfl rfl
  rw [show readV 7 (-100) (0 + 100000) = 99997 from by decide] at C3
  refine (C3).mono ?_
  rintro e w3 ⟨rfl, hb3⟩
  have HB3 := Lib.hid (show Below w.heap.size w w3 by have := HB2.out; exact (by repeat (first | with_reducible exact Below.refl _ _ | (with_reducible refine Below.alloc ?_ (by first | omega | (simp; done) | (simp; omega)) _) | (with_reducible refine Below.setCell ?_ (by first | omega | (simp; done) | (simp; omega)) _) | (with_reducible refine Below.drew ?_) | (with_reducible refine below_drewN ?_ _) | (with_reducible assumption) | (with_reducible refine bel_step (by with_reducible assumption) ?_ (by first | omega | (simp; done) | (simp; omega))))))
  have v3 := hb3.size
  clear C3 hb3 HW1 HW2 HB1 HB2
  go_wp2_with fail
  have N0 := H0.out.below HB3.out
  have N1 := H1.out.below HB3.out
  by_cases hc : newC z0 z1 a2 = 0
  · skip
    have rb := (newC_0 hc).2.2
    obtain ⟨rb1, rb2, rb3⟩ := rb
    obtain ⟨p0, p1⟩ := rateB_iff.1 (newC_0 hc).1
    have RB := Lib.hid (clocksB_rate rb3 rb2)
    refine (world_New_ok _ _ _ z0 _ _ _ z1 a2 _ N0 N1 hc).mono ?_
    rintro e w4 ⟨g, rfl, hg, hw4, hb4⟩
    have v4 := hb4.size
    have HB4 := Lib.hid (show Below w.heap.size w w4 by have := HB3.out; exact (by repeat (first | with_reducible exact Below.refl _ _ | (with_reducible refine Below.alloc ?_ (by first | omega | (simp; done) | (simp; omega)) _) | (with_reducible refine Below.setCell ?_ (by first | omega | (simp; done) | (simp; omega)) _) | (with_reducible refine Below.drew ?_) | (with_reducible refine below_drewN ?_ _) | (with_reducible assumption) | (with_reducible refine bel_step (by with_reducible assumption) ?_ (by first | omega | (simp; done) | (simp; omega))))))
    have HW4 := Lib.hid hw4
    have L0 := Lib.hid hw4.ls
    have L1 := Lib.hid hw4.lr
    have n1 := hw4.n1
    have n6 := hw4.n6
    have lg : w.heap.size ≤ g := by omega
    have q3 := H3.out.2.1
    have q4 := H3.out.2.2.1
    have Q1 := Lib.hid H3.out.1
    have Q5 := Lib.hid H3.out.2.2.2.2
    unfold maxLen at q4
    clear hw4 hb4 hc N0 N1 rb1 rb2 rb3 HB3
    go_wp2_with fail
    go_loopw [8, 15] (fun _ iv wr => ∃ (k : Nat) (t : Int), iv = .int .i64 k ∧ k ≤ n3 ∧ WorldAt wr g n0 z0 z1 t (.slice none 0 0) ∧ Below w.heap.size w wr) (fun _ iv _ => n3 - (intOf iv).toNat)
    case atStart => exact ⟨0, 0, rfl, by omega, HW4.out, HB4.out⟩
    case round =>
      obtain ⟨k, t, rfl, hk, hW, hB⟩ := hrel
      have t0 := hW.t0
      have t1 := hW.t1
      have lgr := hW.lt
      have vr := hB.size
      have HW := Lib.hid hW
      have HB := Lib.hid hB
      obtain ⟨wo, rfl⟩ : ∃ wo : World, wo = wr := ⟨_, rfl⟩
      clear hW hB HW4 HB4
      by_cases d1 : k < n3 ∧ k < 20
      · obtain ⟨d1, d2⟩ := d1
        have d2b : decide ((k : Int) < 20) = true := by simp; omega
        obtain ⟨b, off, rfl, hbl, hcell⟩ := Q5.out (by omega)
        obtain ⟨a, ha⟩ : ∃ z, z3[k]? = some z := ⟨_, List.getElem?_eq_getElem (by rw [Q1.out]; omega)⟩
        have xa := (HB.out.cell (p := ⟨b, off + k * 1 + 0, none⟩) hbl).trans (hcell k a ha 0 _ rfl)
        simp only [Nat.mul_one, Nat.add_zero] at xa
        have XA := Lib.hid xa
        clear hcell ha xa
        go_wp2_with fail
        go_loopw [8, 16, 17, 18, 19] (fun _ lv jv _ _ wr => ∃ (j : Nat) (xs : List Int), jv = .int .i64 j ∧ j ≤ n0 ∧ xs.length = j ∧ WasOk z0 z1 t xs ∧ wr.ownsRow wo.heap.size 3 1 lv xs.length (xs.flatMap intCells) ∧ Below wo.heap.size wo wr) (fun _ _ jv _ _ _ => n0 - (intOf jv).toNat)
        case atStart => exact ⟨0, [], rfl, by omega, rfl, WasOk.nil _ _ _, own_nil _ _ _ _, Below.refl _ _⟩
        case round =>
          obtain ⟨j, xs, rfl, hj, hx, hwas, ho, hB2⟩ := hrel
          have v5 := hB2.size
          have HO := Lib.hid ho
          have HB2 := Lib.hid hB2
          have HWas := Lib.hid hwas
          have HX := Lib.hid hx
          clear ho hB2 hwas hx
          by_cases d3 : j < n0
          · obtain ⟨s, hs⟩ : ∃ z, z0[j]? = some z := ⟨_, List.getElem?_eq_getElem (by rw [L0.out]; omega)⟩
            obtain ⟨r, hr⟩ : ∃ z, z1[j]? = some z := ⟨_, List.getElem?_eq_getElem (by rw [L1.out]; omega)⟩
            have d4 : j < 6 := by omega
            have C5 := Lib.hid (world_Read g n0 z0 z1 t (.slice none 0 0) j s r wr (HW.out.below HB2.out) hs hr)
            have HWas2 := Lib.hid (HWas.out.snoc HX.out hs hr)
            obtain ⟨R, eR⟩ : ∃ R, readV s r t = R := ⟨_, rfl⟩
            rw [eR] at C5 HWas2
            clear hs hr eR
            go_wp2_with fail
            refine C5.out.mono ?_
            rintro e w5 ⟨rfl, hb5⟩
            have v6 := hb5.size
            have HB5 := Lib.hid hb5
            have HO5 := Lib.hid (own_below HO.out HB5.out)
            have hxl : xs.length ≤ 6 := by have := HX.out; omega
            have hxl := Lib.hid hxl
            clear hb5
            go_wp2_with (at_builtin; refine wpList_append_own _ rfl _ _ 22 rfl wo.heap.size 3 i0 (.int .i64 0) 1 8 Try.underlying22 hi hz0 hz1 hz2 rfl (by decide) _ _ _ rfl (HO5.out.alloc _) ⟨w5.heap.size, 0, none⟩ 1 1 _ rfl rfl (cell_new w5 (intCells R) _) (int_one R) (by have := hxl.out; unfold maxLen; omega) (by have := hxl.out; omega) (by simp; omega) ?_; intro v' w6 ho6 hg6 _)
            have HB6 := Lib.hid (show Below wo.heap.size wo w6 from
              (((HB2.out.trans (HB5.out.mono (by omega))).alloc (by omega) _).grown hg6 (by simp; omega) (fun k hk => (HO5.out.lt k hk).1)))
            have HO6 := Lib.hid (own_snoc intCells (z := R) ho6)
            clear ho6 hg6
            go_wp2_with fail
            go_roundw
            case rel => exact ⟨j + 1, _, by go_num, by omega, by simp [HX.out], HWas2.out, HO6.out, HB6.out⟩
            case measure => simp [intOf]; omega
          · obtain rfl : j = n0 := by omega
            obtain ⟨q, cap, rfl, hq1, hq2, hq3, hq4, hqc⟩ : ∃ q cap, u16 = .slice (some ⟨q, 0, none⟩) xs.length cap ∧ wo.heap.size ≤ q ∧ q < wr.heap.size ∧ xs.length ≤ cap ∧ cap ≤ maxLen ∧ ∀ (i : Nat) z, xs[i]? = some z → wr.cell? ⟨q, i, none⟩ = some (.int .i64 z) := row_shape HO.out (by rw [HX.out]; omega)
            have HQC := Lib.hid hqc
            have xr := (HB2.out.cell (p := ⟨b, off + k, none⟩) (by show b < _; omega)).trans XA.out
            have HWr := Lib.hid (HW.out.below HB2.out)
            have lgw := HWr.out.lt
            have bq : b < wr.heap.size := by omega
            have HBr := Lib.hid (show Below w.heap.size w wr by have h1 := HB.out; have h2 := HB2.out; exact (by repeat (first | with_reducible exact Below.refl _ _ | (with_reducible refine Below.alloc ?_ (by first | omega | (simp; done) | (simp; omega)) _) | (with_reducible refine Below.setCell ?_ (by first | omega | (simp; done) | (simp; omega)) _) | (with_reducible refine Below.drew ?_) | (with_reducible refine below_drewN ?_ _) | (with_reducible assumption) | (with_reducible refine bel_step (by with_reducible assumption) ?_ (by first | omega | (simp; done) | (simp; omega))))))
            rw [HX.out]
            have HX := HX
            unfold maxLen at hq4
            rw [HX.out] at hq3
            have CT := Lib.hid (fun w h => world_Time g j z0 z1 t (.slice none 0 0) w h)
            clear hqc HO d3 hj
            go_wp2_with fail
            refine (CT.out _ HWr.out).mono ?_
            rintro e w' ⟨rfl, rfl⟩
            by_cases c1 : (0 ≤ a ∧ a ≤ 1000000) ∧ t + a ≤ 1000000000
            · obtain ⟨⟨a0', a1'⟩, a2'⟩ := c1
              go_wp2_with fail
              refine (world_Do_go _ _ _ _ _ _ a 0 _ HWr.out a0' a1' a2').mono ?_
              rintro e w6 ⟨rfl, hw6, ht6⟩
              have v6 := ht6.size
              have x6 := (ht6.cell bq (by omega) (off + k)).trans xr
              have HW6 := Lib.hid hw6
              have HT6 := Lib.hid ht6
              have HB6 := Lib.hid (show Below w.heap.size w w6 from HBr.out.trans (ht6.below (by omega) (by omega)))
              have lg6 := hw6.lt
              have CT6 := Lib.hid (fun w h => world_Time g j z0 z1 (t + a) (.slice none 0 0) w h)
              have y1 := IntWalk.i64_in (t + a) (by omega)
              have y2 : (k : Int) < (n3 : Int) := by omega
              have y3 : (0 : Int) ≤ (k : Int) := by omega
              clear hw6 ht6 xr
              go_wp2_with fail
              go_quiet ((go_at_call 7; exact quiet_left (CT6.out _ (HW6.out.below (by repeat (first | with_reducible exact Below.refl _ _ | (with_reducible refine Below.alloc ?_ (by first | omega | (simp; done) | (simp; omega)) _) | (with_reducible refine Below.setCell ?_ (by first | omega | (simp; done) | (simp; omega)) _) | (with_reducible refine Below.drew ?_) | (with_reducible refine below_drewN ?_ _) | (with_reducible assumption) | (with_reducible refine bel_step (by with_reducible assumption) ?_ (by first | omega | (simp; done) | (simp; omega)))))))))
              go_wp2_with fail
              have CL := Lib.hid (fun w => Local_any a a2 w)
              have hl := local_ok (n := a) (p := a2) a0' a1' p0 p1
              rw [hl] at CL
              obtain ⟨LO, eLO⟩ : ∃ x, a * (1000000 - a2) / 1000000 = x := ⟨_, rfl⟩
              obtain ⟨HI, eHI⟩ : ∃ x, upD (a * (1000000 + a2)) 1000000 = x := ⟨_, rfl⟩
              rw [eLO, eHI] at CL
              have hLH : (0 ≤ LO ∧ LO ≤ 1001000) ∧ 0 ≤ HI ∧ HI ≤ 1001001 := by
                have e1 : a * (1000000 - a2) = a * 1000000 - a * a2 := Int.mul_sub _ _ _
                have e2 : a * (1000000 + a2) = a * 1000000 + a * a2 := Int.mul_add _ _ _
                have c := Int.mul_le_mul_of_nonneg_left p1 a0'
                have c0 := Int.mul_nonneg a0' p0
                have d := upD_spec (a := a * (1000000 + a2)) (b := 1000000) (by omega)
                rw [← eLO, ← eHI]
                rw [e1]
                rw [e2] at d ⊢
                generalize a * a2 = X at *
                generalize upD (a * 1000000 + X) 1000000 = U at *
                omega
              have ELO := Lib.hid eLO
              have EHI := Lib.hid eHI
              obtain ⟨⟨lo0, lo1⟩, hi0, hi1⟩ := hLH
              clear hl eLO eHI y1 y2 y3 CT6
              obtain ⟨wp, hwp⟩ : ∃ wp : World, wp = w6.drewN nq := ⟨_, rfl⟩
              rw [← hwp]
              have HWp := Lib.hid (show WorldAt wp g j z0 z1 (t + a) (.slice none 0 0) by rw [hwp]; exact HW6.out.below (below_drewN (Below.refl _ _) _))
              have HBp := Lib.hid (show Below w.heap.size w wp by rw [hwp]; have := HB6.out; exact (by repeat (first | with_reducible exact Below.refl _ _ | (with_reducible refine Below.alloc ?_ (by first | omega | (simp; done) | (simp; omega)) _) | (with_reducible refine Below.setCell ?_ (by first | omega | (simp; done) | (simp; omega)) _) | (with_reducible refine Below.drew ?_) | (with_reducible refine below_drewN ?_ _) | (with_reducible assumption) | (with_reducible refine bel_step (by with_reducible assumption) ?_ (by first | omega | (simp; done) | (simp; omega))))))
              have HQp := Lib.hid (show ∀ (i : Nat) z, xs[i]? = some z → wp.cell? ⟨q, i, none⟩ = some (.int .i64 z) by
                rw [hwp]; exact fun i z hz => (HT6.out.cell hq2 (by omega) i).trans (HQC.out i z hz))
              have x7 : wp.cell? ⟨b, off + k, none⟩ = some (.int .i64 a) := by rw [hwp]; exact x6
              have v7 : w6.heap.size = wp.heap.size := by rw [hwp]; rfl
              have lgp : g < wp.heap.size := by omega
              have qp : q < wp.heap.size := by omega
              have HV7 := Lib.hid v7
              have bp : b < wp.heap.size := by omega
              have v8 : w.heap.size ≤ wp.heap.size := by omega
              clear hwp x6 v7 HW6 HT6 HQC HBr HWr HB6 HB2 hq1
              refine (CL.out _).mono ?_
              rintro e w7 ⟨rfl, hb7⟩
              have HB7 := Lib.hid hb7
              have v9 := hb7.size
              clear hb7
              go_wp2_with fail
              obtain ⟨wl, hwl⟩ : ∃ wl : World, wl = w7.alloc (.cells #[.int .i64 LO, .int .i64 HI] 37) := ⟨_, rfl⟩
              rw [← hwl]
              have HBl := Lib.hid (show Below wp.heap.size wp wl by rw [hwl]; have := HB7.out; exact (by repeat (first | with_reducible exact Below.refl _ _ | (with_reducible refine Below.alloc ?_ (by first | omega | (simp; done) | (simp; omega)) _) | (with_reducible refine Below.setCell ?_ (by first | omega | (simp; done) | (simp; omega)) _) | (with_reducible refine Below.drew ?_) | (with_reducible refine below_drewN ?_ _) | (with_reducible assumption) | (with_reducible refine bel_step (by with_reducible assumption) ?_ (by first | omega | (simp; done) | (simp; omega))))))
              have s0 : wl.cell? ⟨w7.heap.size, 0, none⟩ = some (.int .i64 LO) := by rw [hwl]; simp
              have s1 : wl.cell? ⟨w7.heap.size, 1, none⟩ = some (.int .i64 HI) := by rw [hwl]; simp
              have v10 : w7.heap.size < wl.heap.size := by rw [hwl]; simp
              clear hwl
              obtain ⟨sg, esg⟩ : ∃ sg, w7.heap.size = sg := ⟨_, rfl⟩
              rw [esg] at s0 s1 v10 ⊢
              have v11 : wp.heap.size ≤ sg := by omega
              clear esg HB7 v9
              have S0 := Lib.hid s0
              have S1 := Lib.hid s1
              clear s0 s1
              go_loopw [8, 24, 25, 26] (fun _ iv _ _ wz => ∃ i : Nat, iv = .int .i64 i ∧ i ≤ j ∧ Below wl.heap.size wl wz) (fun _ iv _ _ _ => j - (intOf iv).toNat)
              case atStart => exact ⟨0, rfl, by omega, Below.refl _ _⟩
              case round =>
                obtain ⟨i, rfl, hij, hBz⟩ := hrel
                have HBz := Lib.hid hBz
                have vz := hBz.size
                clear hBz
                by_cases d4 : i < j
                · obtain ⟨s, hs⟩ : ∃ z, z0[i]? = some z := ⟨_, List.getElem?_eq_getElem (by rw [L0.out]; omega)⟩
                  obtain ⟨r, hr⟩ : ∃ z, z1[i]? = some z := ⟨_, List.getElem?_eq_getElem (by rw [L1.out]; omega)⟩
                  obtain ⟨X, hXs⟩ : ∃ z, xs[i]? = some z := ⟨_, List.getElem?_eq_getElem (by rw [HX.out]; omega)⟩
                  have eX := HWas.out i s r X hs hr hXs
                  obtain ⟨r0, r1⟩ := RB.out i r hr
                  obtain ⟨s0, s1⟩ := HWp.out.sb i s hs
                  have P := goes_plain (s := s) (t := t) a0' a1' p0 p1 r0 r1
                  have B1 := readV_bd s0 s1 t0 t1 (show (-1000 : Int) ≤ r by omega) (by omega)
                  have B2 := readV_bd s0 s1 (show 0 ≤ t + a by omega) a2' (show (-1000 : Int) ≤ r by omega) (by omega)
                  have CR := world_Read g j z0 z1 (t + a) (.slice none 0 0) i s r wr ((HWp.out.below HBl.out).below HBz.out) hs hr
                  rw [ELO.out, EHI.out, ← eX] at P
                  rw [← eX] at B1
                  obtain ⟨N, eN⟩ : ∃ N, readV s r (t + a) = N := ⟨_, rfl⟩
                  rw [eN] at P B2 CR
                  obtain ⟨P1, P2, P3⟩ := P
                  obtain ⟨B1a, B1b⟩ := B1
                  obtain ⟨B2a, B2b⟩ := B2
                  have xw := (HBz.out.cell (p := ⟨q, i, none⟩) (by show q < _; have := HBl.out.size; omega)).trans ((HBl.out.cell (p := ⟨q, i, none⟩) qp).trans (HQp.out i X hXs))
                  have sw0 := (HBz.out.cell (p := ⟨sg, 0, none⟩) v10).trans S0.out
                  have sw1 := (HBz.out.cell (p := ⟨sg, 1, none⟩) v10).trans S1.out
                  have CR := Lib.hid CR
                  clear hs hr hXs eX eN s0 s1 r0 r1
                  go_wp2_with fail
                  refine CR.out.mono ?_
                  rintro e w9 ⟨rfl, hb9⟩
                  have xw9 := (hb9.cell (p := ⟨q, i, none⟩) (by show q < _; have := HBl.out.size; omega)).trans xw
                  have sw90 := (hb9.cell (p := ⟨sg, 0, none⟩) (by show sg < _; omega)).trans sw0
                  have sw91 := (hb9.cell (p := ⟨sg, 1, none⟩) (by show sg < _; omega)).trans sw1
                  have HB9 := Lib.hid hb9
                  have y2 : (i : Int) < (j : Int) := by omega
                  have y3 : (0 : Int) ≤ (i : Int) := by omega
                  have y4 := IntWalk.i64_in (N - X) (by omega)
                  have y5 := IntWalk.i64_in (LO - 1) (by omega)
                  have y6 := IntWalk.i64_in (HI + 1) (by omega)
                  have y7 : decide (N < X) = false := by simp; omega
                  have y8 : decide (N - X < LO - 1) = false := by simp; omega
                  have y9 : decide (HI + 1 < N - X) = false := by simp; omega
                  clear xw sw0 sw1 hb9
                  go_wp2_with fail
                  go_quiet (fail)
                  go_wp2_with fail
                  go_roundw
                  case rel => exact ⟨i + 1, by go_num, by omega, by have h1 := HBz.out; have h2 := HB9.out; exact (by repeat (first | with_reducible exact Below.refl _ _ | (with_reducible refine Below.alloc ?_ (by first | omega | (simp; done) | (simp; omega)) _) | (with_reducible refine Below.setCell ?_ (by first | omega | (simp; done) | (simp; omega)) _) | (with_reducible refine Below.drew ?_) | (with_reducible refine below_drewN ?_ _) | (with_reducible assumption) | (with_reducible refine bel_step (by with_reducible assumption) ?_ (by first | omega | (simp; done) | (simp; omega)))))⟩
                  case measure => simp [intOf]; omega
                · obtain rfl : i = j := by omega
                  have HWe := Lib.hid ((HWp.out.below HBl.out).below HBz.out)
                  have HBe := Lib.hid (show Below w.heap.size w wr by
                    have h1 := HBp.out
                    have h2 := HBl.out
                    have h3 := HBz.out
                    have h4 := h2.size
                    exact h1.trans ((h2.trans (h3.mono h4)).mono (by omega)))
                  go_wp2_with fail
                  go_roundw
                  case rel => exact ⟨k + 1, t + a, by go_num, by omega, HWe.out, HBe.out⟩
                  case measure => simp [intOf]; omega
            · have c2 : a < 0 ∨ 1000000 < a ∨ 1000000000 < t + a := by omega
              clear c1
              have C6 := Lib.hid (world_Do_go_no g j z0 z1 t (.slice none 0 0) a 0 wr HWr.out c2)
              clear c2
              go_wp2_with fail
              refine C6.out.mono ?_
              rintro e w6 ⟨rfl, hb6⟩
              have HB6 := Lib.hid hb6
              clear hb6
              go_wp2_with fail
              go_roundw
              case rel => exact ⟨k + 1, t, by go_num, by omega, HWr.out.below HB6.out, by have h1 := HBr.out; have h2 := HB6.out; exact (by repeat (first | with_reducible exact Below.refl _ _ | (with_reducible refine Below.alloc ?_ (by first | omega | (simp; done) | (simp; omega)) _) | (with_reducible refine Below.setCell ?_ (by first | omega | (simp; done) | (simp; omega)) _) | (with_reducible refine Below.drew ?_) | (with_reducible refine below_drewN ?_ _) | (with_reducible assumption) | (with_reducible refine bel_step (by with_reducible assumption) ?_ (by first | omega | (simp; done) | (simp; omega)))))⟩
              case measure => simp [intOf]; omega
      · have hend : k < n3 ∧ ¬ k < 20 ∨ ¬ k < n3 := by omega
        clear d1
        rcases hend with ⟨d3, d4⟩ | d3
        all_goals
          go_wp2_with fail
          go_ret
          exact ⟨rfl, HB.out⟩
  · refine (world_New_no _ _ _ z0 _ _ _ z1 a2 _ N0 N1 hp.out hc).mono ?_
    rintro e w' ⟨rfl, rfl⟩
    clear hc N0 N1
    go_wp2_with fail
    go_ret
    exact ⟨rfl, HB3.out⟩

set_option maxRecDepth 100000 in
theorem lifted (os : Os) (started : os.Started) (H : Type) (enc : TypeId × Value → H) :
    ReturnsInHanded {} Try.checked os 3 .any (Rows.worldGoesSpec.pre6 enc Try.prog Try.f3 Rows.worldGoesRow.domain false) (Rows.worldGoesSpec.post enc Try.prog Try.f3 false true false false) := by
  refine returnsInHanded_of_change (C := Try.checked) own started (by kernel_rfl) Try.func3
    (ChangeSpec.witness6 (enc := enc) (C := Try.checked) false ⟨#[], #[.slice none 0 0, .slice none 0 0, .int .i64 0, .slice none 0 0], []⟩ 8 (by kernel_rfl) (by kernel_rfl) (by kernel_rfl) (by kernel_rfl)) ?_
  intro W base args ds gs before hval0 hW hcnd hreach
  have hval : ∀ (j : Nat) t v, Try.f3.params[j]? = some t → args[j]? = some v → Value.okWide Try.prog W .any base t v := hval0
  have hW' := hW
  obtain ⟨p, q, hA0, hV, rfl, hfz, hnd⟩ := hW
  have hA : DataW.TrodAll enc Try.prog W 0 (fun _ => true) true Try.f3.params.toList args.toList ds p := hA0
  rw [Try.params3] at hA hval
  obtain ⟨v0, vs0, d0, ds0, p0, q0, hargs, rfl, rfl, g0, r0⟩ := trodAll_cons hA
  obtain ⟨v1, vs1, d1, ds1, p1, q1, rfl, rfl, rfl, g1, r1⟩ := trodAll_cons r0
  obtain ⟨v2, vs2, d2, ds2, p2, q2, rfl, rfl, rfl, g2, r2⟩ := trodAll_cons r1
  obtain ⟨v3, vs3, d3, ds3, p3, q3, rfl, rfl, rfl, g3, r3⟩ := trodAll_cons r2
  obtain ⟨rfl, rfl, rfl⟩ := trodAll_nil r3
  obtain rfl : args = #[v0, v1, v2, v3] := by cases args; simp_all
  obtain ⟨rfl, rfl⟩ := trodVars_none hV
  have k0 := g0
  have lt0 : ∀ x ∈ p0, x.block < W.heap.size := by obtain ⟨m, hm⟩ := k0; exact DataW.trod_lt m _ _ _ hm
  have rd0 : Try.prog.readableRec 22 = true := by kernel_rfl
  have ls0 : 22 < Try.prog.types.size := of_decide_eq_true (by kernel_rfl)
  obtain ⟨a0, n0, c0, z0, rfl, h0⟩ := open_Ints (hval 0 22 v0 rfl rfl) g0
  have k1 := g1
  have lt1 : ∀ x ∈ p1, x.block < W.heap.size := by obtain ⟨m, hm⟩ := k1; exact DataW.trod_lt m _ _ _ hm
  have rd1 : Try.prog.readableRec 22 = true := by kernel_rfl
  have ls1 : 22 < Try.prog.types.size := of_decide_eq_true (by kernel_rfl)
  obtain ⟨a1, n1, c1, z1, rfl, h1⟩ := open_Ints (hval 1 22 v1 rfl rfl) g1
  obtain ⟨a2, rfl, rfl, rfl, u2⟩ := open_int Try.underlying3 (hval 2 3 v2 rfl rfl) g2
  have h2 := bounds_i64 u2
  have k3 := g3
  have lt3 : ∀ x ∈ p3, x.block < W.heap.size := by obtain ⟨m, hm⟩ := k3; exact DataW.trod_lt m _ _ _ hm
  have rd3 : Try.prog.readableRec 22 = true := by kernel_rfl
  have ls3 : 22 < Try.prog.types.size := of_decide_eq_true (by kernel_rfl)
  obtain ⟨a3, n3, c3, z3, rfl, h3⟩ := open_Ints (hval 3 22 v3 rfl rfl) g3
  clear hA0 hval0
  refine (walk a0 n0 c0 z0 a1 n1 c1 z1 a2 a3 n3 c3 z3 W h0 h1 h2 h3).mono fun e W' ⟨he, bel⟩ => ?_
  subst he
  exact ⟨_, rfl, _, _, _, [], _, [], hW', trodAll_mk1 (shut_bool Try.underlying4 _), (trodAll_cons_mk (Below.trod laidOut rd0 ls0 k0 bel lt0) (trodAll_cons_mk (Below.trod laidOut rd1 ls1 k1 bel lt1) (trodAll_cons_mk (shut_int Try.underlying3 u2) (trodAll_cons_mk (Below.trod laidOut rd3 ls3 k3 bel lt3) trodAll_mk0)))), rfl, bel.frame _, fun h => by cases h⟩

theorem over : Rows.worldGoesRow.holds Try.pinned (OpenSpec.ofChange Rows.worldGoesSpec) :=
  OpenClaim.holds_of_wide 3 Try.f3 rfl rfl rfl rfl rfl rfl rfl ⟨rfl, rfl, rfl, rfl, rfl⟩ rfl rfl rfl rfl rfl (by kernel_rfl) Try.func3 (by kernel_rfl)
    (of_decide_eq_true (by kernel_rfl)) (by unfold Func.isWrapper; rw [if_neg (of_decide_eq_false (by kernel_rfl))]; exact ⟨rfl, rfl⟩)
    (fun os started H enc _ => lifted os started H enc)

/-- the statement -/
theorem proved : Rows.WorldGoesSaid := over

#print axioms proved
end Go.Proofs.Ytloniibmmajlbaa.lWorldGoes
