/- Package leap, walked. -/
import Derived.Test.YtldlandcjegikaaGreatDoorHCivil
namespace Go.Proofs.YtldlandcjegikaaGreatDoor
open Go.RowKit
set_option linter.unusedVariables false
set_option linter.unusedSimpArgs false
theorem leap_by (x : RLeap) (w : World) : Calls Tryz.prog 166 #[.agg #[.int .i64 x.day, .bool x.up]] w fun e w' => e = .returned (.int .i64 (byL x)) ∧ Below w.heap.size w w' := by
 obtain ⟨day, up⟩ := x
 cases up
 all_goals
  go_enter Tryz.func166, Tryz.ntmps166
  go_wp2
  go_ret
  exact ⟨rfl, BeL⟩
set_option maxRecDepth 100000 in
set_option maxHeartbeats 1000000 in
theorem leap_more (A : Option Addr) (n c : Nat) (zs : List RLeap) (d : Int) (w : World) (h : IsRecs w RLeap.cells RLeap.ok 2 A n c zs) (hn : n ≤ 1000) :
  Calls Tryz.prog 141 #[.slice A n c, .int .i64 d] w fun e w' => e = .returned (.int .i64 (moreL zs d)) ∧ Below w.heap.size w w' := by
 obtain ⟨h1, h2, h3, h4, h5⟩ := h
 unfold maxLen at h3
 have H1 := Lib.hid h1
 have H5 := Lib.hid h5
 clear h1 h4 h5
 go_enter Tryz.func141, Tryz.ntmps141
 go_wp2_with fail
 go_loopw [5, 10] (fun nv iv wr => ∃ (i : Nat), i ≤ n ∧ iv = .int .i64 i ∧ nv = .int .i64 (moreL (zs.take i) d) ∧ Below w.heap.size w wr)
  (fun _ iv _ => n - (intOf iv).toNat)
 case atStart => exact ⟨0, by omega, rfl, by simp [moreL], Below.refl _ _⟩
 case round =>
  obtain ⟨i, hi, rfl, rfl, hB⟩ := hrel
  obtain ⟨q1, q2⟩ := moreL_take_bd zs i d (by rw [H1.out]; omega)
  by_cases d1 : i < n
  ·obtain ⟨b, off, rfl, hbl, hc⟩ := H5.out (by omega)
   obtain ⟨z, hz⟩ : ∃ z, zs[i]? = some z := ⟨_, List.getElem?_eq_getElem (by rw [H1.out]; omega)⟩
   have x0 := (hB.cell (p := ⟨b, off + i * 2, none⟩) hbl).trans (hc i z hz 0 _ rfl)
   have x1 := (hB.cell (p := ⟨b, off + i * 2 + 1, none⟩) hbl).trans (hc i z hz 1 _ rfl)
   have HS := Lib.hid (moreL_take_succ hz d)
   have hb1 := byL_bd z
   obtain ⟨m0, e0⟩ : ∃ m0, moreL (zs.take i) d = m0 := ⟨_, rfl⟩
   rw [e0] at q1 q2 HS ⊢
   obtain ⟨y, ey⟩ : ∃ y, byL z = y := ⟨_, rfl⟩
   have C1 := fun w => leap_by z w
   rw [ey] at hb1 C1
   obtain ⟨y1, y2⟩ := hb1
   have HB := Lib.hid hB
   have C1 := Lib.hid C1
   have HY := Lib.hid ey
   have hzz := hB.size
   clear hc hz hB e0 ey
   by_cases d2 : z.day < d
   ·go_wp2_with fail
    (try (go_at_call 166; refine (C1.out _).mono ?_; rintro e w1 ⟨rfl, hb1⟩; obtain ⟨hc1, hf1⟩ := bcell hb1; have hz1 := hb1.size; (try simp at hz1); (try have := q00_ w w1); (try have := q02_ w w1); (try have := q03_ w w1); (try have := q10_ w w1); (try have := q12_ w w1); (try have := q13_ w w1); (try have := q20_ w w1); (try have := q22_ w w1); (try have := q23_ w w1); (try have := q30_ w w1); (try have := q32_ w w1); (try have := q33_ w w1); (try go_wp2_with fail)))
    go_roundw
    case rel => exact ⟨i + 1, by omega, by go_num, by rw [HS.out, if_pos d2, HY.out], by have hB := HB.out; exact BeL⟩
    case measure => simp [intOf]; omega
   ·go_wp2_with fail
    go_roundw
    case rel => exact ⟨i + 1, by omega, by go_num, by rw [HS.out, if_neg d2, Int.add_zero], by have hB := HB.out; exact BeL⟩
    case measure => simp [intOf]; omega
  ·have : i = n := by omega
   subst this
   go_wp2_with fail
   go_ret
   exact ⟨ret_int (by rw [List.take_of_length_le (by rw [H1.out]; omega)]), hB⟩
set_option maxRecDepth 100000 in
theorem leap_begin (A : Option Addr) (n c : Nat) (zs : List RLeap) (d : Int) (w : World) (h : IsRecs w RLeap.cells RLeap.ok 2 A n c zs) (hn : n ≤ 1000) (h0 : -100000 ≤ d) (h1 : d ≤ 100000) :
  Calls Tryz.prog 102 #[.slice A n c, .int .i64 d] w fun e w' => e = .returned (.int .i64 (beginL zs d)) ∧ Below w.heap.size w w' := by
 have C1 := Lib.hid (fun w (h : IsRecs w RLeap.cells RLeap.ok 2 A n c zs) => leap_more A n c zs d w h hn)
 have hl := h.1
 have q := moreL_bd zs d
 rw [hl] at q
 have HL := Lib.hid h
 clear h hl
 unfold beginL
 obtain ⟨m, em⟩ : ∃ m, moreL zs d = m := ⟨_, rfl⟩
 rw [em] at q C1 ⊢
 obtain ⟨q0, q1⟩ := q
 have q2 : -1000 ≤ m := by omega
 have q3 : m ≤ 1000 := by omega
 clear em q0 q1
 go_enter Tryz.func102, Tryz.ntmps102
 go_wp2_with fail
 (try (go_at_call 141; refine (C1.out _ HL.out).mono ?_; rintro e w1 ⟨rfl, hb1⟩; obtain ⟨hc1, hf1⟩ := bcell hb1; have hz1 := hb1.size; (try simp at hz1); (try have := q00_ w w1); (try have := q02_ w w1); (try have := q03_ w w1); (try have := q10_ w w1); (try have := q12_ w w1); (try have := q13_ w w1); (try have := q20_ w w1); (try have := q22_ w w1); (try have := q23_ w w1); (try have := q30_ w w1); (try have := q32_ w w1); (try have := q33_ w w1); (try go_wp2_with fail)))
 go_ret
 exact ⟨rfl, BeL⟩
set_option maxRecDepth 100000 in
set_option maxHeartbeats 4000000 in
theorem leap_Check (A : Option Addr) (n c : Nat) (zs : List RLeap) (w : World) (h : IsRecs w RLeap.cells RLeap.ok 2 A n c zs) :
  Calls Tryz.prog 139 #[.slice A n c] w fun e w' => e = .returned (errV (leapsC zs)) ∧ Below w.heap.size w w' := by
 obtain ⟨h1, h2, h3, h4, h5⟩ := h
 unfold maxLen at h3
 by_cases c0 : 20 < n
 ·have hv := Lib.hid (show leapsC zs = 4 by unfold leapsC; rw [if_pos (by omega)])
  clear h1 h4 h5
  go_enter Tryz.func139, Tryz.ntmps139
  go_wp2_with fail
  go_ret
  exact ⟨by rw [hv.out]; rfl, BeL⟩
 have hv := Lib.hid (show leapsC zs = chkL (-1) zs by unfold leapsC; rw [if_neg (by omega)])
 have H1 := Lib.hid h1
 have H4 := Lib.hid h4
 have H5 := Lib.hid h5
 have CL := Lib.hid (fun w => lastDay_eq ▸ civil_Last w)
 clear h1 h4 h5
 go_enter Tryz.func139, Tryz.ntmps139
 go_wp2_with fail
 go_loopw [11] (fun iv wr => ∃ (i : Nat), i ≤ n ∧ iv = .int .i64 i ∧ chkL (prevL zs i) (zs.drop i) = chkL (-1) zs ∧ -1 ≤ prevL zs i ∧ prevL zs i ≤ 84005 ∧ Below w.heap.size w wr)
  (fun iv _ => n - (intOf iv).toNat)
 case atStart => exact ⟨0, by omega, rfl, rfl, by simp [prevL], by simp [prevL], Below.refl _ _⟩
 case round =>
  obtain ⟨i, hi, rfl, hI, hp0, hp1, hB⟩ := hrel
  by_cases d1 : i < n
  ·obtain ⟨b, off, rfl, hbl, hc⟩ := H5.out (by omega)
   obtain ⟨z, hz⟩ : ∃ z, zs[i]? = some z := ⟨_, List.getElem?_eq_getElem (by rw [H1.out]; omega)⟩
   have x0 := (hB.cell (p := ⟨b, off + i * 2, none⟩) hbl).trans (hc i z hz 0 _ rfl)
   have x1 := (hB.cell (p := ⟨b, off + i * 2 + 1, none⟩) hbl).trans (hc i z hz 1 _ rfl)
   have hs := chk_step hz
   rw [hI] at hs
   have HS := Lib.hid hs
   have HB := Lib.hid hB
   have hzz := hB.size
   have hpn : prevL zs (i + 1) = z.day := by simp [prevL, hz]
   have HPN := Lib.hid hpn
   clear hpn
   by_cases d2 : z.day < 1
   ·clear hc hz hB hI hs
    rw [if_pos (by omega)] at HS
    go_wp2_with fail
    go_quiet (fail)
    go_wp2_with fail
    go_ret
    exact ⟨by rw [hv.out, HS.out]; rfl, by have hB := HB.out; exact BeL⟩
   by_cases d3 : 84005 ≤ z.day
   ·clear hc hz hB hI hs
    rw [if_pos (by omega)] at HS
    go_wp2_with fail
    go_quiet ((go_at_call 140; exact quiet_left (CL.out _)))
    go_wp2_with fail
    go_ret
    exact ⟨by rw [hv.out, HS.out]; rfl, by have hB := HB.out; exact BeL⟩
   rw [if_neg (by omega)] at HS
   cases i with
   | zero =>
    rw [if_neg (by simp [prevL]; omega)] at HS
    simp only [Nat.zero_mul, Nat.add_zero] at x0 x1
    clear hc hz hB hI hs
    go_wp2_with fail
    go_quiet ((go_at_call 140; exact quiet_left (CL.out _)))
    go_wp2_with fail
    go_quiet (fail)
    go_wp2_with fail
    go_roundw
    case rel => exact ⟨1, by omega, by go_num, HS.out.symm, by rw [HPN.out]; omega, by rw [HPN.out]; omega, by have hB := HB.out; exact BeL⟩
    case measure => simp [intOf]; omega
   | succ j =>
    obtain ⟨y, hy⟩ : ∃ z, zs[j]? = some z := ⟨_, List.getElem?_eq_getElem (by rw [H1.out]; omega)⟩
    have y0 := (hB.cell (p := ⟨b, off + j * 2, none⟩) hbl).trans (hc j y hy 0 _ rfl)
    have hp : prevL zs (j + 1) = y.day := by simp [prevL, hy]
    have oky := H4.out y (List.mem_of_getElem? hy)
    rw [hp] at HS hp0 hp1
    have u1 := IntWalk.i64_in (j : Int) (by omega)
    have u3 := IntWalk.i64_in (y.day + 2) (by omega)
    have u4 : (j : Int) < (n : Int) := by omega
    have u5 : (0 : Int) ≤ (j : Int) := by omega
    have u6 : j < n := by omega
    have u7 : b < wr.heap.size := by omega
    have u2 : (j : Int) + 1 - 1 = j := by omega
    clear hc hz hB hI hs hp hy oky
    go_wp2_with fail
    go_quiet ((go_at_call 140; exact quiet_left (CL.out _)))
    go_wp2_with fail
    by_cases d4 : z.day < y.day + 2
    ·rw [if_pos d4] at HS
     go_quiet (fail)
     go_wp2_with fail
     go_ret
     exact ⟨by rw [hv.out, HS.out]; rfl, by have hB := HB.out; exact BeL⟩
    ·rw [if_neg d4] at HS
     go_quiet (fail)
     go_wp2_with fail
     go_roundw
     case rel => exact ⟨j + 1 + 1, by omega, by go_num, HS.out.symm, by rw [HPN.out]; omega, by rw [HPN.out]; omega, by have hB := HB.out; exact BeL⟩
     case measure => simp [intOf]; omega
  ·have : i = n := by omega
   subst this
   rw [List.drop_of_length_le (by rw [H1.out]; omega)] at hI
   have HI := Lib.hid hI
   clear hI
   go_wp2_with fail
   go_ret
   exact ⟨by rw [hv.out, ← HI.out]; rfl, hB⟩
set_option maxRecDepth 100000 in
set_option maxHeartbeats 4000000 in
theorem leap_dayOf (A : Option Addr) (n c : Nat) (zs : List RLeap) (t d : Int) (w : World) (h : IsRecs w RLeap.cells RLeap.ok 2 A n c zs) (hg : LeapGood zs) (h0 : 0 ≤ d) (h1 : d ≤ 84005) (k1 : beginL zs d ≤ t) (k2 : t < beginL zs (d + 1)) :
  Calls Tryz.prog 101 #[.slice A n c, .int .i64 t] w fun e w' => e = .returned (.int .i64 d) ∧ Below w.heap.size w w' := by
 have hn : n ≤ 20 := by have := h.1; have := hg.len; omega
 obtain ⟨t0, t1⟩ := n_bd hg h0 h1 k1 k2
 have q0 := day_guess hg h0 k2
 have CB : ∀ d' w', -100000 ≤ d' → d' ≤ 100000 → Below w.heap.size w w' → Calls Tryz.prog 102 #[.slice A n c, .int .i64 d'] w' fun e w'' => e = .returned (.int .i64 (beginL zs d')) ∧ Below w'.heap.size w' w'' :=
  fun d' w' a b hb => leap_begin A n c zs d' w' (h.below hb) (by omega) a b
 have HL := Lib.hid h
 have HG := Lib.hid hg
 have HC := Lib.hid CB
 have K1 := Lib.hid k1
 have K2 := Lib.hid k2
 clear h hg CB k1 k2
 go_enter Tryz.func101, Tryz.ntmps101
 go_wp2_with fail
 all_goals
  go_loopw [5] (fun tv wr => ∃ d' : Int, 0 ≤ d' ∧ d' ≤ d ∧ tv = .int .i64 d' ∧ Below w.heap.size w wr) (fun tv _ => (d - intOf tv).toNat)
  case atStart => exact ⟨_, by omega, by omega, rfl, Below.refl _ _⟩
  case round =>
   obtain ⟨d', r1, r2, rfl, hB⟩ := hrel
   obtain ⟨B1, e1⟩ : ∃ B, beginL zs (d' + 1) = B := ⟨_, rfl⟩
   have C1 := HC.out (d' + 1) wr (by omega) (by omega) hB
   rw [e1] at C1
   have C1 := Lib.hid C1
   have HB := Lib.hid hB
   have hzz := hB.size
   by_cases hlt : d' < d
   ·have hb : B1 ≤ t := by
     have := beginL_mono HG.out (show d' + 1 ≤ d by omega)
     have := K1.out
     omega
    clear e1 hB
    go_wp2_with fail
    (try (go_at_call 102; refine (C1.out).mono ?_; rintro e w1 ⟨rfl, hb1⟩; obtain ⟨hc1, hf1⟩ := bcell hb1; have hz1 := hb1.size; (try simp at hz1); (try have := q00_ w w1); (try have := q02_ w w1); (try have := q03_ w w1); (try have := q10_ w w1); (try have := q12_ w w1); (try have := q13_ w w1); (try have := q20_ w w1); (try have := q22_ w w1); (try have := q23_ w w1); (try have := q30_ w w1); (try have := q32_ w w1); (try have := q33_ w w1); (try go_wp2_with fail)))
    go_roundw
    case rel => exact ⟨d' + 1, by omega, by omega, rfl, by have hB := HB.out; exact BeL⟩
    case measure => simp [intOf]; omega
   ·obtain rfl : d' = d := by omega
    have hb : t < B1 := by rw [← e1]; exact K2.out
    clear e1 hB hlt
    go_wp2_with fail
    (try (go_at_call 102; refine (C1.out).mono ?_; rintro e w1 ⟨rfl, hb1⟩; obtain ⟨hc1, hf1⟩ := bcell hb1; have hz1 := hb1.size; (try simp at hz1); (try have := q00_ w w1); (try have := q02_ w w1); (try have := q03_ w w1); (try have := q10_ w w1); (try have := q12_ w w1); (try have := q13_ w w1); (try have := q20_ w w1); (try have := q22_ w w1); (try have := q23_ w w1); (try have := q30_ w w1); (try have := q32_ w w1); (try have := q33_ w w1); (try go_wp2_with fail)))
    obtain ⟨B2, e2⟩ : ∃ B, beginL zs d' = B := ⟨_, rfl⟩
    have hb2 : B2 ≤ t := by rw [← e2]; exact K1.out
    have hB2 : Below w.heap.size w w1 := by have hB := HB.out; exact BeL
    have C2 := HC.out d' w1 (by omega) (by omega) hB2
    rw [e2] at C2
    have HB2 := Lib.hid hB2
    have C2 := Lib.hid C2
    clear e2 hB2 hb1 hc1 hf1
    refine wp_loop_rounds 1 ?_
    rw [rounds_succ]
    go_wp2_with fail
    (try (go_at_call 102; refine (C2.out).mono ?_; rintro e w2 ⟨rfl, hb2⟩; obtain ⟨hc2, hf2⟩ := bcell hb2; have hz2 := hb2.size; (try simp at hz2); (try have := q00_ w w2); (try have := q02_ w w2); (try have := q03_ w w2); (try have := q10_ w w2); (try have := q12_ w w2); (try have := q13_ w w2); (try have := q20_ w w2); (try have := q22_ w w2); (try have := q23_ w w2); (try have := q30_ w w2); (try have := q32_ w w2); (try have := q33_ w w2); (try have := q00_ w1 w2); (try have := q02_ w1 w2); (try have := q10_ w1 w2); (try have := q12_ w1 w2); (try go_wp2_with fail)))
    go_ret
    exact ⟨rfl, by have hB2 := HB2.out; exact BeL⟩
set_option maxRecDepth 100000 in
theorem leap_ready (A : Option Addr) (n c : Nat) (zs : List RLeap) (t : Int) (w : World) (h : IsRecs w RLeap.cells RLeap.ok 2 A n c zs) :
  Calls Tryz.prog 100 #[.slice A n c, .int .i64 t] w fun e w' => e = .returned (errV (readyC zs t)) ∧ Below w.heap.size w w' := by
 have C0 := Lib.hid (leap_Check A n c zs w h)
 by_cases g : leapsC zs = 0
 ·have hg := leapsC_0 g
  have hn : n ≤ 20 := by have := h.1; have := hg.len; omega
  have C1 := Lib.hid (fun w' (hb : Below w.heap.size w w') => leap_begin A n c zs 84006 w' (h.below hb) (by omega) (by omega) (by omega))
  have C2 := Lib.hid (fun w => lastDay_eq ▸ civil_Last w)
  obtain ⟨B, eB⟩ : ∃ B, beginL zs 84006 = B := ⟨_, rfl⟩
  have HV := Lib.hid (show readyC zs t = if t < 0 ∨ B ≤ t then 1 else 0 by unfold readyC; rw [if_pos g, eB])
  rw [eB] at C1
  rw [g] at C0
  clear h hg eB g
  by_cases t0 : t < 0
  ·go_enter Tryz.func100, Tryz.ntmps100
   go_wp2_with fail
   (try (go_at_call 139; refine (C0.out).mono ?_; rintro e w1 ⟨rfl, hb1⟩; obtain ⟨hc1, hf1⟩ := bcell hb1; have hz1 := hb1.size; (try simp at hz1); (try have := q00_ w w1); (try have := q02_ w w1); (try have := q03_ w w1); (try have := q10_ w w1); (try have := q12_ w w1); (try have := q13_ w w1); (try have := q20_ w w1); (try have := q22_ w w1); (try have := q23_ w w1); (try have := q30_ w w1); (try have := q32_ w w1); (try have := q33_ w w1); (try go_wp2_with fail)))
   go_ret
   exact ⟨by rw [HV.out, if_pos (by omega)]; rfl, BeL⟩
  ·by_cases t1 : B ≤ t
   ·have hv := Lib.hid (show readyC zs t = 1 by rw [HV.out, if_pos (by omega)])
    go_enter Tryz.func100, Tryz.ntmps100
    go_wp2_with fail
    (try (go_at_call 139; refine (C0.out).mono ?_; rintro e w1 ⟨rfl, hb1⟩; obtain ⟨hc1, hf1⟩ := bcell hb1; have hz1 := hb1.size; (try simp at hz1); (try have := q00_ w w1); (try have := q02_ w w1); (try have := q03_ w w1); (try have := q10_ w w1); (try have := q12_ w w1); (try have := q13_ w w1); (try have := q20_ w w1); (try have := q22_ w w1); (try have := q23_ w w1); (try have := q30_ w w1); (try have := q32_ w w1); (try have := q33_ w w1); (try go_wp2_with fail)))
    refine (C2.out _).mono ?_
    rintro e w' ⟨rfl, rfl⟩
    go_wp2_with fail
    (try (go_at_call 102; refine (C1.out _ BeL).mono ?_; rintro e w2 ⟨rfl, hb2⟩; obtain ⟨hc2, hf2⟩ := bcell hb2; have hz2 := hb2.size; (try simp at hz2); (try have := q00_ w w2); (try have := q02_ w w2); (try have := q03_ w w2); (try have := q10_ w w2); (try have := q12_ w w2); (try have := q13_ w w2); (try have := q20_ w w2); (try have := q22_ w w2); (try have := q23_ w w2); (try have := q30_ w w2); (try have := q32_ w w2); (try have := q33_ w w2); (try have := q00_ w1 w2); (try have := q02_ w1 w2); (try have := q10_ w1 w2); (try have := q12_ w1 w2); (try go_wp2_with fail)))
    go_ret
    exact ⟨by rw [hv.out]; rfl, BeL⟩
   ·have hv := Lib.hid (show readyC zs t = 0 by rw [HV.out, if_neg (by omega)])
    go_enter Tryz.func100, Tryz.ntmps100
    go_wp2_with fail
    (try (go_at_call 139; refine (C0.out).mono ?_; rintro e w1 ⟨rfl, hb1⟩; obtain ⟨hc1, hf1⟩ := bcell hb1; have hz1 := hb1.size; (try simp at hz1); (try have := q00_ w w1); (try have := q02_ w w1); (try have := q03_ w w1); (try have := q10_ w w1); (try have := q12_ w w1); (try have := q13_ w w1); (try have := q20_ w w1); (try have := q22_ w w1); (try have := q23_ w w1); (try have := q30_ w w1); (try have := q32_ w w1); (try have := q33_ w w1); (try go_wp2_with fail)))
    refine (C2.out _).mono ?_
    rintro e w' ⟨rfl, rfl⟩
    go_wp2_with fail
    (try (go_at_call 102; refine (C1.out _ BeL).mono ?_; rintro e w2 ⟨rfl, hb2⟩; obtain ⟨hc2, hf2⟩ := bcell hb2; have hz2 := hb2.size; (try simp at hz2); (try have := q00_ w w2); (try have := q02_ w w2); (try have := q03_ w w2); (try have := q10_ w w2); (try have := q12_ w w2); (try have := q13_ w w2); (try have := q20_ w w2); (try have := q22_ w w2); (try have := q23_ w w2); (try have := q30_ w w2); (try have := q32_ w w2); (try have := q33_ w w2); (try have := q00_ w1 w2); (try have := q02_ w1 w2); (try have := q10_ w1 w2); (try have := q12_ w1 w2); (try go_wp2_with fail)))
    go_ret
    exact ⟨by rw [hv.out]; rfl, BeL⟩
 ·have he := errV_ne g
  have HV := Lib.hid (show readyC zs t = leapsC zs by unfold readyC; rw [if_neg g])
  rw [he] at C0
  clear h
  go_enter Tryz.func100, Tryz.ntmps100
  go_wp2_with fail
  (try (go_at_call 139; refine (C0.out).mono ?_; rintro e w1 ⟨rfl, hb1⟩; obtain ⟨hc1, hf1⟩ := bcell hb1; have hz1 := hb1.size; (try simp at hz1); (try have := q00_ w w1); (try have := q02_ w w1); (try have := q03_ w w1); (try have := q10_ w w1); (try have := q12_ w w1); (try have := q13_ w w1); (try have := q20_ w w1); (try have := q22_ w w1); (try have := q23_ w w1); (try have := q30_ w w1); (try have := q32_ w w1); (try have := q33_ w w1); (try go_wp2_with fail)))
  go_ret
  exact ⟨by rw [HV.out, he]; rfl, BeL⟩
end Go.Proofs.YtldlandcjegikaaGreatDoor
