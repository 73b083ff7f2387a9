/- The reference's leaps, walked. -/
import Derived.Test.YtcigoleplhdlaaaDoorLabel
import Derived.Test.YtcigoleplhdlaaaDoorRCivil2
namespace Go.Proofs.YtcigoleplhdlaaaDoor
open Go.RowKit
set_option linter.unusedVariables false
set_option linter.unusedSimpArgs false
theorem longL_at (l : List RLeap) (d : Int) : longL l d = 86400 + atL l d := by unfold longL; have := beginL_succ l d; omega
set_option maxRecDepth 100000 in
set_option maxHeartbeats 4000000 in
theorem r_Long (A : Option Addr) (n c : Nat) (zs : List RLeap) (d : Int) (w : World) (h : IsRecs w RLeap.cells RLeap.ok 2 A n c zs) (hg : LeapGood zs) :
    Calls Tryd.prog 59 #[.slice A n c, .int .i64 d] w fun e w' => e = .returned (.int .i64 (longL zs d)) ∧ w = w' := by
  obtain ⟨h1, h2, h3, h4, h5⟩ := h
  unfold maxLen at h3
  have hn : n ≤ 20 := by have := hg.len; omega
  have H1 := Lib.hid h1
  have H5 := Lib.hid h5
  have HG := Lib.hid hg
  clear h1 h4 h5 hg
  go_enter Tryd.func59, Tryd.ntmps59
  go_wp2_with fail
  go_loop [5] (fun iv => ∃ i : Nat, i ≤ n ∧ iv = .int .i64 i ∧ ∀ (j : Nat) x, j < i → zs[j]? = some x → x.day ≠ d) (fun iv => n - (intOf iv).toNat)
  case atStart => exact ⟨0, by omega, rfl, fun j x hj => by omega⟩
  case round =>
    obtain ⟨i, hi, rfl, hI⟩ := hrel
    have HI := Lib.hid hI
    clear hI
    by_cases d1 : i < n
    · obtain ⟨b, off, rfl, hbl, hc⟩ := H5.out (by omega)
      obtain ⟨z, hz⟩ : ∃ z, zs[i]? = some z := ⟨_, List.getElem?_eq_getElem (by rw [H1.out]; omega)⟩
      have x0 := hc i z hz 0 _ rfl
      have x1 := hc i z hz 1 _ rfl
      simp only [Nat.add_zero] at x0
      have HZ := Lib.hid hz
      by_cases d2 : z.day = d
      · have hv : longL zs d = 86400 + byL z := by rw [longL_at, ← d2, atL_mem HG.out (List.mem_of_getElem? HZ.out)]
        obtain ⟨day, up⟩ := z
        dsimp only at *
        subst d2
        cases up
        · have HV := Lib.hid (show longL zs day = 86399 from hv)
          clear hv hz hc
          go_wp2_with fail
          go_ret
          exact ⟨by rw [HV.out]; rfl, rfl⟩
        · have HV := Lib.hid (show longL zs day = 86401 from hv)
          clear hv hz hc
          go_wp2_with fail
          go_ret
          exact ⟨by rw [HV.out]; rfl, rfl⟩
      · have d3 : (z.day == d) = false := by simpa using d2
        have HD := Lib.hid d2
        clear hz hc d2
        go_wp2_with fail
        go_round
        case rel => exact ⟨i + 1, by omega, by go_num, fun j x hj hx => by
          rcases Nat.lt_or_ge j i with hlt | hge
          · exact HI.out j x hlt hx
          · obtain rfl : j = i := by omega
            rw [HZ.out] at hx; cases hx; exact HD.out⟩
        case measure => simp [intOf]; omega
    · obtain rfl : i = n := by omega
      have HV := Lib.hid (show longL zs d = 86400 by
        rw [longL_at, atL_none HG.out (fun x hx => ?_)]; rfl
        obtain ⟨j, hj⟩ := List.mem_iff_getElem?.1 hx
        exact HI.out j x (by rw [← H1.out]; exact (List.getElem?_eq_some_iff.1 hj).1) hj)
      go_wp2_with fail
      go_ret
      exact ⟨by rw [HV.out]; rfl, rfl⟩
set_option maxRecDepth 100000 in
set_option maxHeartbeats 4000000 in
theorem r_More (A : Option Addr) (n c : Nat) (zs : List RLeap) (d : Int) (w : World) (h : IsRecs w RLeap.cells RLeap.ok 2 A n c zs) (hg : LeapGood zs) :
    Calls Tryd.prog 34 #[.slice A n c, .int .i64 d] w fun e w' => e = .returned (.int .i64 (moreL zs d)) ∧ w = w' := by
  have C1 := Lib.hid (fun d => r_Long A n c zs d w h hg)
  obtain ⟨h1, h2, h3, h4, h5⟩ := h
  unfold maxLen at h3
  have hn : n ≤ 20 := by have := hg.len; omega
  have H1 := Lib.hid h1
  have H5 := Lib.hid h5
  have HG := Lib.hid hg
  clear h1 h4 h5 hg
  go_enter Tryd.func34, Tryd.ntmps34
  go_wp2_with fail
  go_loop [5, 6] (fun nv iv => ∃ (i : Nat), i ≤ n ∧ iv = .int .i64 i ∧ nv = .int .i64 (moreL (zs.take i) d)) (fun _ iv => n - (intOf iv).toNat)
  case atStart => exact ⟨0, by omega, rfl, by simp [moreL]⟩
  case round =>
    obtain ⟨i, hi, rfl, rfl⟩ := hrel
    obtain ⟨q1, q2⟩ := moreL_take_bd zs i d (by rw [H1.out]; omega)
    by_cases d1 : i < n
    · obtain ⟨b, off, rfl, hbl, hc⟩ := H5.out (by omega)
      obtain ⟨z, hz⟩ : ∃ z, zs[i]? = some z := ⟨_, List.getElem?_eq_getElem (by rw [H1.out]; omega)⟩
      have x0 := hc i z hz 0 _ rfl
      simp only [Nat.add_zero] at x0
      have HS := Lib.hid (moreL_take_succ hz d)
      have hb1 := byL_bd z
      obtain ⟨m0, e0⟩ : ∃ m0, moreL (zs.take i) d = m0 := ⟨_, rfl⟩
      rw [e0] at q1 q2 HS ⊢
      have C2 := C1.out z.day
      rw [longL_at, atL_mem HG.out (List.mem_of_getElem? hz)] at C2
      obtain ⟨y, ey⟩ : ∃ y, byL z = y := ⟨_, rfl⟩
      rw [ey] at hb1 C2
      obtain ⟨y1, y2⟩ := hb1
      have C2 := Lib.hid C2
      have HY := Lib.hid ey
      obtain ⟨D, eD⟩ : ∃ D, z.day = D := ⟨_, rfl⟩
      rw [eD] at x0 C2 HS
      clear hc hz e0 ey eD
      by_cases d2 : D < d
      · go_wp2_with (go_at_call 59; refine C2.out.mono ?_; rintro e w' ⟨rfl, rfl⟩)
        go_round
        case rel => exact ⟨i + 1, by omega, by go_num, by rw [HS.out, if_pos d2, HY.out]; congr 1; omega⟩
        case measure => simp [intOf]; omega
      · go_wp2_with fail
        go_round
        case rel => exact ⟨i + 1, by omega, by go_num, by rw [HS.out, if_neg d2, Int.add_zero]⟩
        case measure => simp [intOf]; omega
    · have : i = n := by omega
      subst this
      go_wp2_with fail
      go_ret
      exact ⟨ret_int (by rw [List.take_of_length_le (by rw [H1.out]; omega)]), rfl⟩
set_option maxRecDepth 100000 in
theorem r_Begin (A : Option Addr) (n c : Nat) (zs : List RLeap) (d : Int) (w : World) (h : IsRecs w RLeap.cells RLeap.ok 2 A n c zs) (hg : LeapGood zs) (h0 : -100000 ≤ d) (h1 : d ≤ 100000) :
    Calls Tryd.prog 60 #[.slice A n c, .int .i64 d] w fun e w' => e = .returned (.int .i64 (beginL zs d)) ∧ w = w' := by
  have C1 := r_More A n c zs d w h hg
  have q := moreL_bd zs d
  have hl := hg.len
  unfold beginL
  obtain ⟨m, em⟩ : ∃ m, moreL zs d = m := ⟨_, rfl⟩
  rw [em] at q C1 ⊢
  obtain ⟨q0, q1⟩ := q
  have q2 : -1000 ≤ m := by omega
  have q3 : m ≤ 1000 := by omega
  have C1 := Lib.hid C1
  clear em q0 q1 hl h hg
  go_enter Tryd.func60, Tryd.ntmps60
  go_wp2_with (go_at_call 34; refine C1.out.mono ?_; rintro e w' ⟨rfl, rfl⟩)
  go_ret
  exact ⟨rfl, rfl⟩
theorem begin_guess {l : List RLeap} (h : LeapGood l) {n : Int} (h0 : 0 ≤ n) : beginL l (n / 86401) ≤ n := by
  have key : ∀ k : Nat, moreL l k ≤ k := by
    intro k
    induction k with
    | zero => have := beginL_0 h; unfold beginL at this; simp at this ⊢; omega
    | succ k ih =>
      have := moreL_succ l k
      have := atL_bd h k
      rw [show ((k + 1 : Nat) : Int) = (k : Int) + 1 by omega]
      omega
  have := key (n / 86401).toNat
  rw [show (((n / 86401).toNat : Nat) : Int) = n / 86401 by omega] at this
  unfold beginL; omega
set_option maxRecDepth 100000 in
set_option maxHeartbeats 4000000 in
theorem r_DayOf (A : Option Addr) (n c : Nat) (zs : List RLeap) (t d : Int) (w : World) (h : IsRecs w RLeap.cells RLeap.ok 2 A n c zs) (hg : LeapGood zs) (h0 : 0 ≤ d) (h1 : d ≤ 84005) (k1 : beginL zs d ≤ t) (k2 : t < beginL zs (d + 1)) :
    Calls Tryd.prog 35 #[.slice A n c, .int .i64 t] w fun e w' => e = .returned (.int .i64 d) ∧ w = w' := by
  obtain ⟨t0, t1⟩ := n_bd hg h0 h1 k1 k2
  have q0 : t / 86401 ≤ d := by
    have := begin_guess hg t0
    rcases Int.lt_or_le d (t / 86401) with hlt | hle
    · have := beginL_mono hg (show d + 1 ≤ t / 86401 by omega); omega
    · exact hle
  have CB := Lib.hid (fun d' a b => r_Begin A n c zs d' w h hg a b)
  have HG := Lib.hid hg
  have K1 := Lib.hid k1
  have K2 := Lib.hid k2
  clear h hg k1 k2
  go_enter Tryd.func35, Tryd.ntmps35
  go_wp2_with fail
  go_loop [5] (fun tv => ∃ d' : Int, 0 ≤ d' ∧ d' ≤ d ∧ tv = .int .i64 d') (fun tv => (d - intOf tv).toNat)
  case atStart => exact ⟨_, by omega, by omega, rfl⟩
  case round =>
    obtain ⟨d', r1, r2, rfl⟩ := hrel
    have C1 := CB.out (d' + 1) (by omega) (by omega)
    obtain ⟨B1, e1⟩ : ∃ B, beginL zs (d' + 1) = B := ⟨_, rfl⟩
    rw [e1] at C1
    have C1 := Lib.hid C1
    by_cases hlt : d' < d
    · have hb : B1 ≤ t := by
        have := beginL_mono HG.out (show d' + 1 ≤ d by omega)
        have := K1.out
        omega
      clear e1
      go_wp2_with (go_at_call 60; refine C1.out.mono ?_; rintro e w' ⟨rfl, rfl⟩)
      go_round
      case rel => exact ⟨d' + 1, by omega, by omega, rfl⟩
      case measure => simp [intOf]; omega
    · obtain rfl : d' = d := by omega
      have hb : t < B1 := by rw [← e1]; exact K2.out
      clear e1 hlt
      go_wp2_with (go_at_call 60; refine C1.out.mono ?_; rintro e w' ⟨rfl, rfl⟩)
      go_ret
      exact ⟨rfl, rfl⟩
set_option maxRecDepth 100000 in
theorem r_Second (A : Option Addr) (n c : Nat) (zs : List RLeap) (t : Int) (w : World) (h : IsRecs w RLeap.cells RLeap.ok 2 A n c zs) (hg : LeapGood zs) :
    Calls Tryd.prog 32 #[.slice A n c, .int .i64 t] w fun e w' => e = .returned (.bool (decide (0 ≤ t) && decide (t < beginL zs 84006))) ∧ Below w.heap.size w w' := by
  have C1 := fun w' (hb : Below w.heap.size w w') => r_Begin A n c zs 84006 w' (h.below hb) hg (by omega) (by omega)
  obtain ⟨B, eB⟩ : ∃ B, beginL zs 84006 = B := ⟨_, rfl⟩
  rw [eB] at C1 ⊢
  have C1 := Lib.hid C1
  clear h hg eB
  by_cases t0 : 0 ≤ t
  · rw [decide_eq_true t0]
    go_enter Tryd.func32, Tryd.ntmps32
    go_wp2_with fail
    (try (go_at_call 25; refine (r_Last _).mono ?_; rintro e w1 ⟨rfl, hb1⟩; obtain ⟨hc1, hf1⟩ := bcell hb1; have hz1 := hb1.size; (try simp at hz1); (try have q1_0_0_0 : w.heap.size < w1.heap.size := by omega); (try have q1_0_0_2 : w.heap.size < w1.heap.size + 1 + 1 := by omega); (try have q1_0_0_3 : w.heap.size < w1.heap.size + 1 + 1 + 1 := by omega); (try have q1_0_1_0 : w.heap.size + 1 < w1.heap.size := by omega); (try have q1_0_1_2 : w.heap.size + 1 < w1.heap.size + 1 + 1 := by omega); (try have q1_0_1_3 : w.heap.size + 1 < w1.heap.size + 1 + 1 + 1 := by omega); (try have q1_0_2_0 : w.heap.size + 1 + 1 < w1.heap.size := by omega); (try have q1_0_2_2 : w.heap.size + 1 + 1 < w1.heap.size + 1 + 1 := by omega); (try have q1_0_2_3 : w.heap.size + 1 + 1 < w1.heap.size + 1 + 1 + 1 := by omega); (try have q1_0_3_0 : w.heap.size + 1 + 1 + 1 < w1.heap.size := by omega); (try have q1_0_3_2 : w.heap.size + 1 + 1 + 1 < w1.heap.size + 1 + 1 := by omega); (try have q1_0_3_3 : w.heap.size + 1 + 1 + 1 < w1.heap.size + 1 + 1 + 1 := by omega); (try go_wp2_with fail)))
    refine (C1.out _ (by repeat (first | with_reducible exact Below.refl _ _ | (with_reducible refine Below.alloc ?_ (by first | omega | (simp; done) | (simp; omega)) _) | (with_reducible refine Below.setCell ?_ (by first | omega | (simp; done) | (simp; omega)) _) | (with_reducible refine Below.drew ?_) | (with_reducible refine below_drewN ?_ _) | (with_reducible assumption) | (with_reducible refine bel_step (by with_reducible assumption) ?_ (by first | omega | (simp; done) | (simp; omega)))))).mono ?_
    rintro e w' ⟨rfl, rfl⟩
    go_wp2_with fail
    go_ret
    exact ⟨ret_bool (by simp), (by repeat (first | with_reducible exact Below.refl _ _ | (with_reducible refine Below.alloc ?_ (by first | omega | (simp; done) | (simp; omega)) _) | (with_reducible refine Below.setCell ?_ (by first | omega | (simp; done) | (simp; omega)) _) | (with_reducible refine Below.drew ?_) | (with_reducible refine below_drewN ?_ _) | (with_reducible assumption) | (with_reducible refine bel_step (by with_reducible assumption) ?_ (by first | omega | (simp; done) | (simp; omega)))))⟩
  · rw [decide_eq_false t0]
    go_enter Tryd.func32, Tryd.ntmps32
    go_wp2_with fail
    go_ret
    exact ⟨rfl, (by repeat (first | with_reducible exact Below.refl _ _ | (with_reducible refine Below.alloc ?_ (by first | omega | (simp; done) | (simp; omega)) _) | (with_reducible refine Below.setCell ?_ (by first | omega | (simp; done) | (simp; omega)) _) | (with_reducible refine Below.drew ?_) | (with_reducible refine below_drewN ?_ _) | (with_reducible assumption) | (with_reducible refine bel_step (by with_reducible assumption) ?_ (by first | omega | (simp; done) | (simp; omega)))))⟩
set_option maxRecDepth 100000 in
set_option maxHeartbeats 4000000 in
theorem r_Utc (A : Option Addr) (n c : Nat) (zs : List RLeap) (t d y m dd : Int) (w : World) (h : IsRecs w RLeap.cells RLeap.ok 2 A n c zs) (hg : LeapGood zs) (h0 : 0 ≤ d) (h1 : d ≤ 84005) (k1 : beginL zs d ≤ t) (k2 : t < beginL zs (d + 1)) (hd : dateB y m dd = true) (hn : numD y m dd = d) :
    Calls Tryd.prog 33 #[.slice A n c, .int .i64 t] w fun e w' => e = .returned (.agg #[.int .i64 y, .int .i64 m, .int .i64 dd, .int .i64 (labH (t - beginL zs d)), .int .i64 (labM (t - beginL zs d)), .int .i64 (labS (t - beginL zs d))]) ∧ Below w.heap.size w w' := by
  have C1 := Lib.hid (fun w' (hb : Below w.heap.size w w') => r_DayOf A n c zs t d w' (h.below hb) hg h0 h1 k1 k2)
  have C2 := fun w' (hb : Below w.heap.size w w') => r_Begin A n c zs d w' (h.below hb) hg (by omega) (by omega)
  have C3 := Lib.hid (fun w => r_DateOf d y m dd w hd hn)
  obtain ⟨t0, t1⟩ := n_bd hg h0 h1 k1 k2
  obtain ⟨s0, s1, _⟩ := sec_bd hg k1 k2
  obtain ⟨B, eB⟩ : ∃ B, beginL zs d = B := ⟨_, rfl⟩
  rw [eB] at C2 s0 s1 k1 ⊢
  have C2 := Lib.hid C2
  obtain ⟨s, es⟩ : ∃ s, t - B = s := ⟨_, rfl⟩
  rw [es] at s0 s1
  have ES := Lib.hid es
  have b0 : B ≤ t := k1
  have b1 : -100 ≤ B := by have := beginL_bd hg d; omega
  have u1 : t - B = s := es
  clear h hg k1 k2 hd hn eB es
  by_cases c0 : s = 86400
  · have v1 : labH s = 23 := if_pos (by omega)
    have v2 : labM s = 59 := if_pos (by omega)
    have v3 : labS s = 60 := if_pos (by omega)
    rw [ES.out, v1, v2, v3]
    have c1 : (s == 86400) = true := by simpa using c0
    clear v1 v2 v3 c0
    go_enter Tryd.func33, Tryd.ntmps33
    go_wp2_with fail
    refine (C1.out _ (by repeat (first | with_reducible exact Below.refl _ _ | (with_reducible refine Below.alloc ?_ (by first | omega | (simp; done) | (simp; omega)) _) | (with_reducible refine Below.setCell ?_ (by first | omega | (simp; done) | (simp; omega)) _) | (with_reducible refine Below.drew ?_) | (with_reducible refine below_drewN ?_ _) | (with_reducible assumption) | (with_reducible refine bel_step (by with_reducible assumption) ?_ (by first | omega | (simp; done) | (simp; omega)))))).mono ?_
    rintro e w' ⟨rfl, rfl⟩
    go_wp2_with fail
    refine (C2.out _ (by repeat (first | with_reducible exact Below.refl _ _ | (with_reducible refine Below.alloc ?_ (by first | omega | (simp; done) | (simp; omega)) _) | (with_reducible refine Below.setCell ?_ (by first | omega | (simp; done) | (simp; omega)) _) | (with_reducible refine Below.drew ?_) | (with_reducible refine below_drewN ?_ _) | (with_reducible assumption) | (with_reducible refine bel_step (by with_reducible assumption) ?_ (by first | omega | (simp; done) | (simp; omega)))))).mono ?_
    rintro e w' ⟨rfl, rfl⟩
    go_wp2_with fail
    (try (go_at_call 26; refine (C3.out _).mono ?_; rintro e w4 ⟨rfl, hb4⟩; obtain ⟨hc4, hf4⟩ := bcell hb4; have hz4 := hb4.size; (try simp at hz4); (try have q4_0_0_0 : w.heap.size < w4.heap.size := by omega); (try have q4_0_0_2 : w.heap.size < w4.heap.size + 1 + 1 := by omega); (try have q4_0_0_3 : w.heap.size < w4.heap.size + 1 + 1 + 1 := by omega); (try have q4_0_1_0 : w.heap.size + 1 < w4.heap.size := by omega); (try have q4_0_1_2 : w.heap.size + 1 < w4.heap.size + 1 + 1 := by omega); (try have q4_0_1_3 : w.heap.size + 1 < w4.heap.size + 1 + 1 + 1 := by omega); (try have q4_0_2_0 : w.heap.size + 1 + 1 < w4.heap.size := by omega); (try have q4_0_2_2 : w.heap.size + 1 + 1 < w4.heap.size + 1 + 1 := by omega); (try have q4_0_2_3 : w.heap.size + 1 + 1 < w4.heap.size + 1 + 1 + 1 := by omega); (try have q4_0_3_0 : w.heap.size + 1 + 1 + 1 < w4.heap.size := by omega); (try have q4_0_3_2 : w.heap.size + 1 + 1 + 1 < w4.heap.size + 1 + 1 := by omega); (try have q4_0_3_3 : w.heap.size + 1 + 1 + 1 < w4.heap.size + 1 + 1 + 1 := by omega); (try have q4_1_0_0 : w1.heap.size < w4.heap.size := by omega); (try have q4_1_0_2 : w1.heap.size < w4.heap.size + 1 + 1 := by omega); (try have q4_1_1_0 : w1.heap.size + 1 < w4.heap.size := by omega); (try have q4_1_1_2 : w1.heap.size + 1 < w4.heap.size + 1 + 1 := by omega); (try have q4_2_0_0 : w2.heap.size < w4.heap.size := by omega); (try have q4_2_0_2 : w2.heap.size < w4.heap.size + 1 + 1 := by omega); (try have q4_2_1_0 : w2.heap.size + 1 < w4.heap.size := by omega); (try have q4_2_1_2 : w2.heap.size + 1 < w4.heap.size + 1 + 1 := by omega); (try have q4_3_0_0 : w3.heap.size < w4.heap.size := by omega); (try have q4_3_0_2 : w3.heap.size < w4.heap.size + 1 + 1 := by omega); (try have q4_3_1_0 : w3.heap.size + 1 < w4.heap.size := by omega); (try have q4_3_1_2 : w3.heap.size + 1 < w4.heap.size + 1 + 1 := by omega); (try go_wp2_with fail)))
    have r0 : w4.cell? ⟨w.heap.size, 0, none⟩ = some (.int .i64 0) := (Below.cell (B := (w.alloc (.cells #[.int .i64 0, .int .i64 0, .int .i64 0, .int .i64 0, .int .i64 0, .int .i64 0] 37)).heap.size) (w := w.alloc (.cells #[.int .i64 0, .int .i64 0, .int .i64 0, .int .i64 0, .int .i64 0, .int .i64 0] 37)) (by repeat (first | with_reducible exact Below.refl _ _ | (with_reducible refine Below.alloc ?_ (by first | omega | (simp; done) | (simp; omega)) _) | (with_reducible refine Below.setCell ?_ (by first | omega | (simp; done) | (simp; omega)) _) | (with_reducible refine Below.drew ?_) | (with_reducible refine below_drewN ?_ _) | (with_reducible assumption) | (with_reducible refine bel_step (by with_reducible assumption) ?_ (by first | omega | (simp; done) | (simp; omega))))) (by simp)).trans (by simp); have r1 : w4.cell? ⟨w.heap.size, 1, none⟩ = some (.int .i64 0) := (Below.cell (B := (w.alloc (.cells #[.int .i64 0, .int .i64 0, .int .i64 0, .int .i64 0, .int .i64 0, .int .i64 0] 37)).heap.size) (w := w.alloc (.cells #[.int .i64 0, .int .i64 0, .int .i64 0, .int .i64 0, .int .i64 0, .int .i64 0] 37)) (by repeat (first | with_reducible exact Below.refl _ _ | (with_reducible refine Below.alloc ?_ (by first | omega | (simp; done) | (simp; omega)) _) | (with_reducible refine Below.setCell ?_ (by first | omega | (simp; done) | (simp; omega)) _) | (with_reducible refine Below.drew ?_) | (with_reducible refine below_drewN ?_ _) | (with_reducible assumption) | (with_reducible refine bel_step (by with_reducible assumption) ?_ (by first | omega | (simp; done) | (simp; omega))))) (by simp)).trans (by simp); have r2 : w4.cell? ⟨w.heap.size, 2, none⟩ = some (.int .i64 0) := (Below.cell (B := (w.alloc (.cells #[.int .i64 0, .int .i64 0, .int .i64 0, .int .i64 0, .int .i64 0, .int .i64 0] 37)).heap.size) (w := w.alloc (.cells #[.int .i64 0, .int .i64 0, .int .i64 0, .int .i64 0, .int .i64 0, .int .i64 0] 37)) (by repeat (first | with_reducible exact Below.refl _ _ | (with_reducible refine Below.alloc ?_ (by first | omega | (simp; done) | (simp; omega)) _) | (with_reducible refine Below.setCell ?_ (by first | omega | (simp; done) | (simp; omega)) _) | (with_reducible refine Below.drew ?_) | (with_reducible refine below_drewN ?_ _) | (with_reducible assumption) | (with_reducible refine bel_step (by with_reducible assumption) ?_ (by first | omega | (simp; done) | (simp; omega))))) (by simp)).trans (by simp); have r3 : w4.cell? ⟨w.heap.size, 3, none⟩ = some (.int .i64 0) := (Below.cell (B := (w.alloc (.cells #[.int .i64 0, .int .i64 0, .int .i64 0, .int .i64 0, .int .i64 0, .int .i64 0] 37)).heap.size) (w := w.alloc (.cells #[.int .i64 0, .int .i64 0, .int .i64 0, .int .i64 0, .int .i64 0, .int .i64 0] 37)) (by repeat (first | with_reducible exact Below.refl _ _ | (with_reducible refine Below.alloc ?_ (by first | omega | (simp; done) | (simp; omega)) _) | (with_reducible refine Below.setCell ?_ (by first | omega | (simp; done) | (simp; omega)) _) | (with_reducible refine Below.drew ?_) | (with_reducible refine below_drewN ?_ _) | (with_reducible assumption) | (with_reducible refine bel_step (by with_reducible assumption) ?_ (by first | omega | (simp; done) | (simp; omega))))) (by simp)).trans (by simp); have r4 : w4.cell? ⟨w.heap.size, 4, none⟩ = some (.int .i64 0) := (Below.cell (B := (w.alloc (.cells #[.int .i64 0, .int .i64 0, .int .i64 0, .int .i64 0, .int .i64 0, .int .i64 0] 37)).heap.size) (w := w.alloc (.cells #[.int .i64 0, .int .i64 0, .int .i64 0, .int .i64 0, .int .i64 0, .int .i64 0] 37)) (by repeat (first | with_reducible exact Below.refl _ _ | (with_reducible refine Below.alloc ?_ (by first | omega | (simp; done) | (simp; omega)) _) | (with_reducible refine Below.setCell ?_ (by first | omega | (simp; done) | (simp; omega)) _) | (with_reducible refine Below.drew ?_) | (with_reducible refine below_drewN ?_ _) | (with_reducible assumption) | (with_reducible refine bel_step (by with_reducible assumption) ?_ (by first | omega | (simp; done) | (simp; omega))))) (by simp)).trans (by simp); have r5 : w4.cell? ⟨w.heap.size, 5, none⟩ = some (.int .i64 0) := (Below.cell (B := (w.alloc (.cells #[.int .i64 0, .int .i64 0, .int .i64 0, .int .i64 0, .int .i64 0, .int .i64 0] 37)).heap.size) (w := w.alloc (.cells #[.int .i64 0, .int .i64 0, .int .i64 0, .int .i64 0, .int .i64 0, .int .i64 0] 37)) (by repeat (first | with_reducible exact Below.refl _ _ | (with_reducible refine Below.alloc ?_ (by first | omega | (simp; done) | (simp; omega)) _) | (with_reducible refine Below.setCell ?_ (by first | omega | (simp; done) | (simp; omega)) _) | (with_reducible refine Below.drew ?_) | (with_reducible refine below_drewN ?_ _) | (with_reducible assumption) | (with_reducible refine bel_step (by with_reducible assumption) ?_ (by first | omega | (simp; done) | (simp; omega))))) (by simp)).trans (by simp)
    refine bodyPost_ret (v := (.agg #[.int .i64 y, .int .i64 m, .int .i64 dd, .int .i64 23, .int .i64 59, .int .i64 60])) (by simp [results, Tryd.results33, go_sem, errV, okC, *]) rfl ⟨rfl, ?_⟩; exact (by repeat (first | with_reducible exact Below.refl _ _ | (with_reducible refine Below.alloc ?_ (by first | omega | (simp; done) | (simp; omega)) _) | (with_reducible refine Below.setCell ?_ (by first | omega | (simp; done) | (simp; omega)) _) | (with_reducible refine Below.drew ?_) | (with_reducible refine below_drewN ?_ _) | (with_reducible assumption) | (with_reducible refine bel_step (by with_reducible assumption) ?_ (by first | omega | (simp; done) | (simp; omega)))))
  · have v1 : labH s = s / 3600 := if_neg (by omega)
    have v2 : labM s = s % 3600 / 60 := by unfold labM; rw [if_neg (by omega)]; omega
    have v3 : labS s = s % 60 := if_neg (by omega)
    rw [ES.out, v1, v2, v3]
    have c1 : (s == 86400) = false := by simpa using c0
    clear v1 v2 v3 c0
    go_enter Tryd.func33, Tryd.ntmps33
    go_wp2_with fail
    refine (C1.out _ (by repeat (first | with_reducible exact Below.refl _ _ | (with_reducible refine Below.alloc ?_ (by first | omega | (simp; done) | (simp; omega)) _) | (with_reducible refine Below.setCell ?_ (by first | omega | (simp; done) | (simp; omega)) _) | (with_reducible refine Below.drew ?_) | (with_reducible refine below_drewN ?_ _) | (with_reducible assumption) | (with_reducible refine bel_step (by with_reducible assumption) ?_ (by first | omega | (simp; done) | (simp; omega)))))).mono ?_
    rintro e w' ⟨rfl, rfl⟩
    go_wp2_with fail
    refine (C2.out _ (by repeat (first | with_reducible exact Below.refl _ _ | (with_reducible refine Below.alloc ?_ (by first | omega | (simp; done) | (simp; omega)) _) | (with_reducible refine Below.setCell ?_ (by first | omega | (simp; done) | (simp; omega)) _) | (with_reducible refine Below.drew ?_) | (with_reducible refine below_drewN ?_ _) | (with_reducible assumption) | (with_reducible refine bel_step (by with_reducible assumption) ?_ (by first | omega | (simp; done) | (simp; omega)))))).mono ?_
    rintro e w' ⟨rfl, rfl⟩
    go_wp2_with fail
    (try (go_at_call 26; refine (C3.out _).mono ?_; rintro e w4 ⟨rfl, hb4⟩; obtain ⟨hc4, hf4⟩ := bcell hb4; have hz4 := hb4.size; (try simp at hz4); (try have q4_0_0_0 : w.heap.size < w4.heap.size := by omega); (try have q4_0_0_2 : w.heap.size < w4.heap.size + 1 + 1 := by omega); (try have q4_0_0_3 : w.heap.size < w4.heap.size + 1 + 1 + 1 := by omega); (try have q4_0_1_0 : w.heap.size + 1 < w4.heap.size := by omega); (try have q4_0_1_2 : w.heap.size + 1 < w4.heap.size + 1 + 1 := by omega); (try have q4_0_1_3 : w.heap.size + 1 < w4.heap.size + 1 + 1 + 1 := by omega); (try have q4_0_2_0 : w.heap.size + 1 + 1 < w4.heap.size := by omega); (try have q4_0_2_2 : w.heap.size + 1 + 1 < w4.heap.size + 1 + 1 := by omega); (try have q4_0_2_3 : w.heap.size + 1 + 1 < w4.heap.size + 1 + 1 + 1 := by omega); (try have q4_0_3_0 : w.heap.size + 1 + 1 + 1 < w4.heap.size := by omega); (try have q4_0_3_2 : w.heap.size + 1 + 1 + 1 < w4.heap.size + 1 + 1 := by omega); (try have q4_0_3_3 : w.heap.size + 1 + 1 + 1 < w4.heap.size + 1 + 1 + 1 := by omega); (try have q4_1_0_0 : w1.heap.size < w4.heap.size := by omega); (try have q4_1_0_2 : w1.heap.size < w4.heap.size + 1 + 1 := by omega); (try have q4_1_1_0 : w1.heap.size + 1 < w4.heap.size := by omega); (try have q4_1_1_2 : w1.heap.size + 1 < w4.heap.size + 1 + 1 := by omega); (try have q4_2_0_0 : w2.heap.size < w4.heap.size := by omega); (try have q4_2_0_2 : w2.heap.size < w4.heap.size + 1 + 1 := by omega); (try have q4_2_1_0 : w2.heap.size + 1 < w4.heap.size := by omega); (try have q4_2_1_2 : w2.heap.size + 1 < w4.heap.size + 1 + 1 := by omega); (try have q4_3_0_0 : w3.heap.size < w4.heap.size := by omega); (try have q4_3_0_2 : w3.heap.size < w4.heap.size + 1 + 1 := by omega); (try have q4_3_1_0 : w3.heap.size + 1 < w4.heap.size := by omega); (try have q4_3_1_2 : w3.heap.size + 1 < w4.heap.size + 1 + 1 := by omega); (try go_wp2_with fail)))
    have r0 : w4.cell? ⟨w.heap.size, 0, none⟩ = some (.int .i64 0) := (Below.cell (B := (w.alloc (.cells #[.int .i64 0, .int .i64 0, .int .i64 0, .int .i64 0, .int .i64 0, .int .i64 0] 37)).heap.size) (w := w.alloc (.cells #[.int .i64 0, .int .i64 0, .int .i64 0, .int .i64 0, .int .i64 0, .int .i64 0] 37)) (by repeat (first | with_reducible exact Below.refl _ _ | (with_reducible refine Below.alloc ?_ (by first | omega | (simp; done) | (simp; omega)) _) | (with_reducible refine Below.setCell ?_ (by first | omega | (simp; done) | (simp; omega)) _) | (with_reducible refine Below.drew ?_) | (with_reducible refine below_drewN ?_ _) | (with_reducible assumption) | (with_reducible refine bel_step (by with_reducible assumption) ?_ (by first | omega | (simp; done) | (simp; omega))))) (by simp)).trans (by simp); have r1 : w4.cell? ⟨w.heap.size, 1, none⟩ = some (.int .i64 0) := (Below.cell (B := (w.alloc (.cells #[.int .i64 0, .int .i64 0, .int .i64 0, .int .i64 0, .int .i64 0, .int .i64 0] 37)).heap.size) (w := w.alloc (.cells #[.int .i64 0, .int .i64 0, .int .i64 0, .int .i64 0, .int .i64 0, .int .i64 0] 37)) (by repeat (first | with_reducible exact Below.refl _ _ | (with_reducible refine Below.alloc ?_ (by first | omega | (simp; done) | (simp; omega)) _) | (with_reducible refine Below.setCell ?_ (by first | omega | (simp; done) | (simp; omega)) _) | (with_reducible refine Below.drew ?_) | (with_reducible refine below_drewN ?_ _) | (with_reducible assumption) | (with_reducible refine bel_step (by with_reducible assumption) ?_ (by first | omega | (simp; done) | (simp; omega))))) (by simp)).trans (by simp); have r2 : w4.cell? ⟨w.heap.size, 2, none⟩ = some (.int .i64 0) := (Below.cell (B := (w.alloc (.cells #[.int .i64 0, .int .i64 0, .int .i64 0, .int .i64 0, .int .i64 0, .int .i64 0] 37)).heap.size) (w := w.alloc (.cells #[.int .i64 0, .int .i64 0, .int .i64 0, .int .i64 0, .int .i64 0, .int .i64 0] 37)) (by repeat (first | with_reducible exact Below.refl _ _ | (with_reducible refine Below.alloc ?_ (by first | omega | (simp; done) | (simp; omega)) _) | (with_reducible refine Below.setCell ?_ (by first | omega | (simp; done) | (simp; omega)) _) | (with_reducible refine Below.drew ?_) | (with_reducible refine below_drewN ?_ _) | (with_reducible assumption) | (with_reducible refine bel_step (by with_reducible assumption) ?_ (by first | omega | (simp; done) | (simp; omega))))) (by simp)).trans (by simp); have r3 : w4.cell? ⟨w.heap.size, 3, none⟩ = some (.int .i64 0) := (Below.cell (B := (w.alloc (.cells #[.int .i64 0, .int .i64 0, .int .i64 0, .int .i64 0, .int .i64 0, .int .i64 0] 37)).heap.size) (w := w.alloc (.cells #[.int .i64 0, .int .i64 0, .int .i64 0, .int .i64 0, .int .i64 0, .int .i64 0] 37)) (by repeat (first | with_reducible exact Below.refl _ _ | (with_reducible refine Below.alloc ?_ (by first | omega | (simp; done) | (simp; omega)) _) | (with_reducible refine Below.setCell ?_ (by first | omega | (simp; done) | (simp; omega)) _) | (with_reducible refine Below.drew ?_) | (with_reducible refine below_drewN ?_ _) | (with_reducible assumption) | (with_reducible refine bel_step (by with_reducible assumption) ?_ (by first | omega | (simp; done) | (simp; omega))))) (by simp)).trans (by simp); have r4 : w4.cell? ⟨w.heap.size, 4, none⟩ = some (.int .i64 0) := (Below.cell (B := (w.alloc (.cells #[.int .i64 0, .int .i64 0, .int .i64 0, .int .i64 0, .int .i64 0, .int .i64 0] 37)).heap.size) (w := w.alloc (.cells #[.int .i64 0, .int .i64 0, .int .i64 0, .int .i64 0, .int .i64 0, .int .i64 0] 37)) (by repeat (first | with_reducible exact Below.refl _ _ | (with_reducible refine Below.alloc ?_ (by first | omega | (simp; done) | (simp; omega)) _) | (with_reducible refine Below.setCell ?_ (by first | omega | (simp; done) | (simp; omega)) _) | (with_reducible refine Below.drew ?_) | (with_reducible refine below_drewN ?_ _) | (with_reducible assumption) | (with_reducible refine bel_step (by with_reducible assumption) ?_ (by first | omega | (simp; done) | (simp; omega))))) (by simp)).trans (by simp); have r5 : w4.cell? ⟨w.heap.size, 5, none⟩ = some (.int .i64 0) := (Below.cell (B := (w.alloc (.cells #[.int .i64 0, .int .i64 0, .int .i64 0, .int .i64 0, .int .i64 0, .int .i64 0] 37)).heap.size) (w := w.alloc (.cells #[.int .i64 0, .int .i64 0, .int .i64 0, .int .i64 0, .int .i64 0, .int .i64 0] 37)) (by repeat (first | with_reducible exact Below.refl _ _ | (with_reducible refine Below.alloc ?_ (by first | omega | (simp; done) | (simp; omega)) _) | (with_reducible refine Below.setCell ?_ (by first | omega | (simp; done) | (simp; omega)) _) | (with_reducible refine Below.drew ?_) | (with_reducible refine below_drewN ?_ _) | (with_reducible assumption) | (with_reducible refine bel_step (by with_reducible assumption) ?_ (by first | omega | (simp; done) | (simp; omega))))) (by simp)).trans (by simp)
    refine bodyPost_ret (v := (.agg #[.int .i64 y, .int .i64 m, .int .i64 dd, .int .i64 (s / 3600), .int .i64 (s % 3600 / 60), .int .i64 (s % 60)])) (by simp [results, Tryd.results33, go_sem, errV, okC, *]) rfl ⟨rfl, ?_⟩; exact (by repeat (first | with_reducible exact Below.refl _ _ | (with_reducible refine Below.alloc ?_ (by first | omega | (simp; done) | (simp; omega)) _) | (with_reducible refine Below.setCell ?_ (by first | omega | (simp; done) | (simp; omega)) _) | (with_reducible refine Below.drew ?_) | (with_reducible refine below_drewN ?_ _) | (with_reducible assumption) | (with_reducible refine bel_step (by with_reducible assumption) ?_ (by first | omega | (simp; done) | (simp; omega)))))
end Go.Proofs.YtcigoleplhdlaaaDoor
