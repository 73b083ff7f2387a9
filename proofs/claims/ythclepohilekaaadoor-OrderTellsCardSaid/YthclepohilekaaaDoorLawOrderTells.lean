/- Proved: noonlaw2.OrderTells answers true for every input and leaves its arguments as they were. Its conditions: none beyond the tied card's own. -/
import Derived.Test.YthclepohilekaaaDoorOrderTellsB
import Derived.Test.YthclepohilekaaaDoorTake
namespace Go.Proofs.YthclepohilekaaaDoor.lOrderTells
open Go.ChangeShapes Go.WideShapes Go.ChangeAt Go.RowKit
set_option linter.unusedVariables false
set_option linter.unusedSimpArgs false
set_option maxRecDepth 100000 in
set_option maxHeartbeats 32000000 in
theorem good (a0 : Option Addr) (n0 c0 : Nat) (z0 : List REvent) (a1 a2 : Int) (a3 : Option Addr) (n3 c3 : Nat) (z3 : List Int) (w : World) (h0 : IsRecs w REvent.cells REvent.ok 3 a0 n0 c0 z0) (h3 : IsInts w a3 n3 c3 z3) (hg : HandleAt w) (hr3 : n3 * 8 ≤ 140737488351232) (e0 : evC z0 = 0) :
    Calls Tryd.prog 4 #[.slice a0 n0 c0, .int .i64 a1, .int .i64 a2, .slice a3 n3 c3] w fun e w' => e = .returned (.bool true) ∧ Below w.heap.size w w' := by
  obtain ⟨i0, hi0, hz0, hz1, hz2⟩ := info_parts infoI
  obtain ⟨p1, p2⟩ := evC_0 e0
  have hl0 := h0.1
  have hn1 := h0.2.1
  have hn2 := h0.2.2.1
  have hm1 := h3.2.1
  have hm2 := h3.2.2.1
  unfold maxLen at hn2 hm2
  rw [hl0] at p1
  have CE0 := Lib.hid (fun w' (hb : Below w.heap.size w w') => show Calls Tryd.prog 9 #[.nilIface, .int .i64 0] w' fun e w'' => e = .returned (.bool true) ∧ Below w'.heap.size w' w'' by have := Error_nil 0 w' (hg.below hb); simpa using this)
  have CEn := Lib.hid (fun (E : Int) (hE : E ≠ 0) w' (hb : Below w.heap.size w w') => show Calls Tryd.prog 9 #[.iface 54 (.int .i64 E), .int .i64 E] w' fun e w'' => e = .returned (.bool true) ∧ Below w'.heap.size w' w'' by have := Error_n E E hE w' (hg.below hb); simpa using this)
  have CK := Lib.hid (fun w' (hb : Below w.heap.size w w') => by have CK := order_Check a0 n0 c0 z0 w' (h0.below hb); rw [e0, errV_0] at CK; exact CK)
  have CV := Lib.hid (fun w' (hb : Below w.heap.size w w') => by have CK := r2_Events a0 n0 c0 z0 w' (h0.below hb); rw [e0] at CK; exact CK)
  have CSU : ∃ (r1 : Bool) (f1 : Int) (q1 : Bool), ((r1 = false ∧ f1 = 0 ∧ ∃ i k : Nat, a1 = (i : Int) ∧ a2 = (k : Int) ∧ i < n0 ∧ k < n0 ∧ q1 = decide ((z0.getD i default).hi < (z0.getD k default).lo)) ∨ (r1 = true ∧ f1 = 1 ∧ q1 = false ∧ (a1 < 0 ∨ (¬ a1 < 0 ∧ (n0 : Int) ≤ a1) ∨ (¬ a1 < 0 ∧ ¬ (n0 : Int) ≤ a1 ∧ a2 < 0) ∨ (¬ a1 < 0 ∧ ¬ (n0 : Int) ≤ a1 ∧ ¬ a2 < 0 ∧ (n0 : Int) ≤ a2)))) ∧
      ∀ w', Below w.heap.size w w' → Calls Tryd.prog 7 #[.slice a0 n0 c0, .int .i64 a1, .int .i64 a2] w' fun e w'' => e = .returned (.tuple #[.bool q1, errV f1]) ∧ Below w'.heap.size w' w'' := by
    by_cases hin : (0 ≤ a1 ∧ a1 < n0) ∧ (0 ≤ a2 ∧ a2 < n0)
    · obtain ⟨i, rfl⟩ : ∃ i : Nat, a1 = (i : Int) := ⟨a1.toNat, by omega⟩
      obtain ⟨k, rfl⟩ : ∃ k : Nat, a2 = (k : Int) := ⟨a2.toNat, by omega⟩
      refine ⟨false, 0, _, .inl ⟨rfl, rfl, i, k, rfl, rfl, by omega, by omega, rfl⟩, fun w' hb => ?_⟩
      exact order_Surely_ok a0 n0 c0 i k z0 (z0.getD i default) (z0.getD k default) w' (h0.below hb) e0 (by rw [List.getD_eq_getElem?_getD, List.getElem?_eq_getElem (by omega : i < z0.length)]; rfl) (by rw [List.getD_eq_getElem?_getD, List.getElem?_eq_getElem (by omega : k < z0.length)]; rfl)
    · refine ⟨true, 1, false, .inr ⟨rfl, rfl, rfl, by omega⟩, fun w' hb => ?_⟩
      exact order_Surely_rng a0 n0 c0 a1 a2 z0 w' (h0.below hb) e0 (by omega)
  obtain ⟨r1, f1, q1, hSD, hSC⟩ := CSU
  have HSD := Lib.hid hSD
  have HSC := Lib.hid hSC
  have CTU : ∃ (r3 ea : Bool) (f3 : Int) (cb : Bool) (f5 : Int) (TL : List Int), ((r3 = false ∧ ea = false ∧ f3 = 3 ∧ cb = false ∧ f5 = 3 ∧ TL = []) ∨ (r3 = true ∧ ea = true ∧ f3 = 0 ∧ cb = false ∧ f5 = 5 ∧ TL = []) ∨ (r3 = false ∧ ea = true ∧ f3 = 0 ∧ cb = true ∧ f5 = 0)) ∧
      (∀ w', Below w.heap.size w w' → Calls Tryd.prog 13 #[.int .i64 n0, .slice a3 n3 c3] w' fun e w'' => e = .returned (.bool ea) ∧ Below w'.heap.size w' w'') ∧
      (∀ w', Below w.heap.size w w' → Calls Tryd.prog 5 #[.slice a0 n0 c0, .slice a3 n3 c3] w' fun e w'' => e = .returned (.tuple #[.bool cb, errV f3]) ∧ Below w'.heap.size w' w'') ∧
      (∀ w', Below w.heap.size w w' → Calls Tryd.prog 8 #[.slice a0 n0 c0, .slice a3 n3 c3] w' fun e w'' => ∃ B m d, e = .returned (.tuple #[.slice B m d, errV f5]) ∧ IsInts w'' B m d TL ∧ Below w'.heap.size w' w'') ∧
      (f3 = 0 → ∀ w', Below w.heap.size w w' → Calls Tryd.prog 14 #[.slice a0 n0 c0, .slice a3 n3 c3] w' fun e w'' => ∃ B m d, e = .returned (.tuple #[.slice B m d, .bool cb]) ∧ IsInts w'' B m d TL ∧ Below w'.heap.size w' w'') := by
    cases hea : eachB n0 z3
    · have hre : readyC z0 z3 = 3 := by unfold readyC; rw [if_pos e0, hl0, if_neg (by rw [hea]; simp)]
      refine ⟨false, false, 3, false, 3, [], .inl ⟨rfl, rfl, rfl, rfl, rfl, rfl⟩, fun w' hb => ?_, fun w' hb => ?_, fun w' hb => ?_, fun h => absurd h (by decide)⟩
      · have := r2_Each n0 a3 n3 c3 z3 w' (IsRecs.below h3 hb) p1; rw [hea] at this; exact this
      · exact order_Could_bad a0 n0 c0 z0 a3 n3 c3 z3 w' (h0.below hb) (IsRecs.below h3 hb) hr3 3 hre (by decide)
      · exact (order_Times_bad a0 n0 c0 z0 a3 n3 c3 z3 w' (h0.below hb) (IsRecs.below h3 hb) hr3 3 hre (by decide)).mono fun e w'' ⟨he, hb⟩ => ⟨none, 0, 0, he, ints_nil _, hb⟩
    · have hre : readyC z0 z3 = 0 := by unfold readyC; rw [if_pos e0, hl0, if_pos hea]
      have hq := readyC_0 hre
      have hm3 : n3 ≤ 12 := by have := hq.2.1; rw [hl0, h3.1] at this; omega
      have hin : ∀ x ∈ z3, 0 ≤ x ∧ x < (n0 : Int) := by have := hq.2.2.1; rw [hl0] at this; exact this
      refine ⟨!couldB z0 z3, true, 0, couldB z0 z3, (if couldB z0 z3 = true then 0 else 5), (if couldB z0 z3 = true then tmL z0 z3 z3.length else []), ?_, fun w' hb => ?_, fun w' hb => ?_, fun w' hb => ?_, fun _ w' hb => ?_⟩
      · cases couldB z0 z3
        · exact .inr (.inl ⟨rfl, rfl, rfl, rfl, rfl, rfl⟩)
        · exact .inr (.inr ⟨rfl, rfl, rfl, rfl, rfl⟩)
      · have := r2_Each n0 a3 n3 c3 z3 w' (IsRecs.below h3 hb) p1; rw [hea] at this; exact this
      · exact order_Could_ok a0 n0 c0 z0 a3 n3 c3 z3 w' (h0.below hb) (IsRecs.below h3 hb) hr3 hre
      · exact order_Times_ok a0 n0 c0 z0 a3 n3 c3 z3 w' (h0.below hb) (IsRecs.below h3 hb) hr3 hre
      · exact r2_Times a0 n0 c0 z0 a3 n3 c3 z3 w' (h0.below hb) (IsRecs.below h3 hb) p2 hin hm3
  obtain ⟨r3, ea, f3, cb, f5, TL, hTD, hEA, hCC, hCT, hTM⟩ := CTU
  have HTD := Lib.hid hTD
  have HEA := Lib.hid hEA
  have HCC := Lib.hid hCC
  have HCT := Lib.hid hCT
  have HTM := Lib.hid hTM
  have HEv := Lib.hid (fun (hp : 0 < n0) => evsAt h0 hp)
  have CEs := Lib.hid (fun (E : Int) w' (hb : Below w.heap.size w w') => show Calls Tryd.prog 9 #[errV E, .int .i64 E] w' fun e w'' => e = .returned (.bool true) ∧ Below w'.heap.size w' w'' by have := Error_any E E w' (hg.below hb); simpa using this)
  have HRa := Lib.hid (fun w' (hb : Below w.heap.size w w') i (hi : i < n0) => r2_Rank a0 n0 c0 z0 p2 p1 (mu z0 i + 1) i w' (h0.below hb) (by omega) hi)
  have HWa := Lib.hid (fun w' (hb : Below w.heap.size w w') => r2_Ways a0 n0 c0 z0 w' (h0.below hb) p1)
  have HRk := Lib.hid (fun w' (hb : Below w.heap.size w w') => order_Ranks_ok a0 n0 c0 z0 w' (h0.below hb) e0)
  have HMy := Lib.hid (fun w' (hb : Below w.heap.size w w') => order_Many_ok a0 n0 c0 z0 w' (h0.below hb) e0)
  have HLe := Lib.hid (fun k => rankV_le (zs := z0) (by rw [hl0]; exact p1) k)
  have HLl := Lib.hid (fun k => rankL_len z0 k)
  clear h0 h3 hg hl0 p2 e0 hSD hSC hTD hEA hCC hCT hTM hr3
  go_enter Tryd.func4, Tryd.ntmps4
  go_wp2_with fail
  refine (CV.out _ (Below.refl _ w)).mono ?_
  rintro e w1 ⟨rfl, hb1⟩
  have hz1 := hb1.size
  (try simp at hz1)
  have HB1 : Below w.heap.size w w1 := (by repeat (first | with_reducible exact Below.refl _ _ | (with_reducible refine Below.alloc ?_ (by first | omega | (simp; done) | (simp; omega)) _) | (with_reducible refine Below.setCell ?_ (by first | omega | (simp; done) | (simp; omega)) _) | (with_reducible refine Below.drew ?_) | (with_reducible refine below_drewN ?_ _) | (with_reducible assumption) | (with_reducible refine bel_step (by with_reducible assumption) ?_ (by first | omega | (simp; done) | (simp; omega)))))
  have HZ1 := HB1.size
  clear hb1 hz1
  go_wp2_with fail
  refine (CK.out _ (by repeat (first | with_reducible exact Below.refl _ _ | (with_reducible refine Below.alloc ?_ (by first | omega | (simp; done) | (simp; omega)) _) | (with_reducible refine Below.setCell ?_ (by first | omega | (simp; done) | (simp; omega)) _) | (with_reducible refine Below.drew ?_) | (with_reducible refine below_drewN ?_ _) | (with_reducible assumption) | (with_reducible refine bel_step (by with_reducible assumption) ?_ (by first | omega | (simp; done) | (simp; omega)))))).mono ?_
  rintro e w2 ⟨rfl, hb2⟩
  have hz2 := hb2.size
  (try simp at hz2)
  have HB2 : Below w.heap.size w w2 := (by repeat (first | with_reducible exact Below.refl _ _ | (with_reducible refine Below.alloc ?_ (by first | omega | (simp; done) | (simp; omega)) _) | (with_reducible refine Below.setCell ?_ (by first | omega | (simp; done) | (simp; omega)) _) | (with_reducible refine Below.drew ?_) | (with_reducible refine below_drewN ?_ _) | (with_reducible assumption) | (with_reducible refine bel_step (by with_reducible assumption) ?_ (by first | omega | (simp; done) | (simp; omega)))))
  have HZ2 := HB2.size
  clear hb2 hz2 HB1 HZ1 
  go_wp2_with fail
  refine (CE0.out _ (by repeat (first | with_reducible exact Below.refl _ _ | (with_reducible refine Below.alloc ?_ (by first | omega | (simp; done) | (simp; omega)) _) | (with_reducible refine Below.setCell ?_ (by first | omega | (simp; done) | (simp; omega)) _) | (with_reducible refine Below.drew ?_) | (with_reducible refine below_drewN ?_ _) | (with_reducible assumption) | (with_reducible refine bel_step (by with_reducible assumption) ?_ (by first | omega | (simp; done) | (simp; omega)))))).mono ?_
  rintro e w3 ⟨rfl, hb3⟩
  have hz3 := hb3.size
  (try simp at hz3)
  have HB3 : Below w.heap.size w w3 := (by repeat (first | with_reducible exact Below.refl _ _ | (with_reducible refine Below.alloc ?_ (by first | omega | (simp; done) | (simp; omega)) _) | (with_reducible refine Below.setCell ?_ (by first | omega | (simp; done) | (simp; omega)) _) | (with_reducible refine Below.drew ?_) | (with_reducible refine below_drewN ?_ _) | (with_reducible assumption) | (with_reducible refine bel_step (by with_reducible assumption) ?_ (by first | omega | (simp; done) | (simp; omega)))))
  have HZ3 := HB3.size
  clear hb3 hz3 HB2 HZ2 
  clear CV CK
  go_upto_region 4 with (fail)
  go_cut [59] (fun fv wx => fv = .bool r1 ∧ Below w.heap.size w wx)
  case first =>
    rcases HSD.out with ⟨rfl, rfl, i, k, rfl, rfl, hi, hk, _⟩ | ⟨rfl, rfl, _, hin⟩
    · have g1 : ¬ (i : Int) < 0 := by omega
      have g2 : ¬ (n0 : Int) ≤ (i : Int) := by omega
      have g3 : ¬ (k : Int) < 0 := by omega
      have g4 : ¬ (n0 : Int) ≤ (k : Int) := by omega
      as_aux_lemma =>
        go_wp2_with fail
        go_meet
        case rel => exact ⟨rfl, HB3⟩
    · rcases hin with g1 | ⟨g1, g2⟩ | ⟨g1, g2, g3⟩ | ⟨g1, g2, g3, g4⟩
      all_goals
        as_aux_lemma =>
          go_wp2_with fail
          go_meet
          case rel => exact ⟨rfl, HB3⟩
  case rest =>
   obtain ⟨rfl, HBa⟩ := hcut
   obtain ⟨w3, rfl⟩ : ∃ w3 : World, w3 = wc := ⟨_, rfl⟩
   have HB3 : Below w.heap.size w w3 := HBa
   have HZ3 := HB3.size
   clear HBa
   go_upto_if 59 with (fail)
   go_cut [11] (fun fv wx => fv = .int .i64 f1 ∧ Below w.heap.size w wx)
   case first =>
    rcases HSD.out with ⟨rfl, rfl, _⟩ | ⟨rfl, rfl, _⟩
    all_goals
      as_aux_lemma =>
        go_wp2_with fail
        go_meet
        case rel => exact ⟨rfl, HB3⟩
   case rest =>
    obtain ⟨rfl, HBa⟩ := hcut
    obtain ⟨w4, rfl⟩ : ∃ w4 : World, w4 = wc := ⟨_, rfl⟩
    have HB4 : Below w.heap.size w w4 := HBa
    have HZ4 := HB4.size
    clear HB3 HZ3 HBa
    go_wp2_with fail
    refine (HSC.out _ (by repeat (first | with_reducible exact Below.refl _ _ | (with_reducible refine Below.alloc ?_ (by first | omega | (simp; done) | (simp; omega)) _) | (with_reducible refine Below.setCell ?_ (by first | omega | (simp; done) | (simp; omega)) _) | (with_reducible refine Below.drew ?_) | (with_reducible refine below_drewN ?_ _) | (with_reducible assumption) | (with_reducible refine bel_step (by with_reducible assumption) ?_ (by first | omega | (simp; done) | (simp; omega)))))).mono ?_
    rintro e w5 ⟨rfl, hb5⟩
    have hz5 := hb5.size
    (try simp at hz5)
    have HB5 : Below w.heap.size w w5 := (by repeat (first | with_reducible exact Below.refl _ _ | (with_reducible refine Below.alloc ?_ (by first | omega | (simp; done) | (simp; omega)) _) | (with_reducible refine Below.setCell ?_ (by first | omega | (simp; done) | (simp; omega)) _) | (with_reducible refine Below.drew ?_) | (with_reducible refine below_drewN ?_ _) | (with_reducible assumption) | (with_reducible refine bel_step (by with_reducible assumption) ?_ (by first | omega | (simp; done) | (simp; omega)))))
    have HZ5 := HB5.size
    clear hb5 hz5 HB4 HZ4 
    clear HSC
    go_upto_region 7 with (fail)
    go_cut [12, 13, 14] (fun qv ev tv wx => tv = .bool true ∧ Below w.heap.size w wx)
    case first =>
      rcases HSD.out with ⟨rfl, rfl, i, k, rfl, rfl, hi, hk, rfl⟩ | ⟨rfl, hf, rfl, _⟩
      · obtain ⟨b, off, rfl, hb, hc⟩ := HEv.out (by omega)
        obtain ⟨HI, hHI⟩ : ∃ H, (z0.getD i default).hi = H := ⟨_, rfl⟩
        obtain ⟨LO, hLO⟩ : ∃ L, (z0.getD k default).lo = L := ⟨_, rfl⟩
        have y0 : w5.cell? ⟨b, off + i * 3 + 1 + 1, none⟩ = some (.int .i64 HI) := by rw [← hHI]; exact (hc w5 HB5 i hi).2.2
        have y1 : w5.cell? ⟨b, off + k * 3 + 1, none⟩ = some (.int .i64 LO) := by rw [← hLO]; exact (hc w5 HB5 k hk).2.1
        rw [hHI, hLO]
        have q0 : (0 : Int) ≤ (i : Int) := by omega
        have q1 : (i : Int) < (n0 : Int) := by omega
        have q2 : (0 : Int) ≤ (k : Int) := by omega
        have q3 : (k : Int) < (n0 : Int) := by omega
        simp only [errV_0]
        clear hc hHI hLO HEv HSD
        by_cases hq : HI < LO
        · have bq : decide (HI < LO) = true := decide_eq_true hq
          as_aux_lemma =>
            go_quiet ((go_at_call 9; exact quiet_left (Error_still _)))
            go_wp2_with fail
            go_meet
            case rel => exact ⟨rfl, below_drewN HB5 _⟩
        · have bq : decide (HI < LO) = false := decide_eq_false hq
          as_aux_lemma =>
            go_quiet ((go_at_call 9; exact quiet_left (Error_still _)))
            go_wp2_with fail
            go_meet
            case rel => exact ⟨rfl, below_drewN HB5 _⟩
      · have be : (f1 == 0) = false := by simp; omega
        clear hf HSD HTD HEv
        as_aux_lemma =>
          refine wp_region_held_drew (S := fun w9 => True) (by kernel_rfl) (trivial) (fun hHeld => ?_)
          refine wpAnyH_take (i := 0) (v := (errV f1)) rfl (by kernel_rfl) (by kernel_rfl) (by kernel_rfl) (fun _ _ _ h => h) (Or.inl ⟨by kernel_rfl, fun _ _ => by kernel_rfl⟩) hHeld ?_
          refine wpAnyH_take (i := 1) (v := (.int .i64 f1)) rfl (by kernel_rfl) (by kernel_rfl) (by kernel_rfl) (fun _ _ _ h => h) (Or.inl ⟨by kernel_rfl, fun _ _ => by kernel_rfl⟩) hHeld ?_
          try simp only [Act.put, List.setIfInBounds_toArray, List.set_cons_zero, List.set_cons_succ]
          refine wpAnyH_ready (rs := [2]) (by kernel_rfl) (by simp) ?_
          refine AllReadyH.cons rfl (fun K hK => ?_) AllReadyH.nil
          go_simp
          (refine (CEs.out f1 _ HB5.drew).mono ?_; rintro e w6 ⟨rfl, hb6⟩; have HB6 : Below w.heap.size w w6 := HB5.drew.trans (hb6.mono HB5.size))
          refine hK.out _ _ (trivial) (fun hHeld2 => ?_)
          clear hK K hHeld
          have hHeld := hHeld2
          try simp only [Act.put, List.setIfInBounds_toArray, List.set_cons_zero, List.set_cons_succ]
          refine take_d (i := 3) (v := (.bool true)) (d := some 70) rfl (by kernel_rfl) (by kernel_rfl) (by kernel_rfl) (by kernel_rfl) (fun _ _ _ h => h) (Or.inl ⟨by kernel_rfl, fun _ _ => by kernel_rfl⟩) hHeld ?_
          try simp only [Act.put, List.setIfInBounds_toArray, List.set_cons_zero, List.set_cons_succ]
          refine take_d (i := 4) (v := (.bool false)) (d := some 71) rfl (by kernel_rfl) (by kernel_rfl) (by kernel_rfl) (by kernel_rfl) (fun _ _ _ h => h) (Or.inl ⟨by kernel_rfl, fun _ _ => by kernel_rfl⟩) hHeld ?_
          try simp only [Act.put, List.setIfInBounds_toArray, List.set_cons_zero, List.set_cons_succ]
          refine take_d (i := 5) (v := (.int .i64 f1)) (d := some 72) rfl (by kernel_rfl) (by kernel_rfl) (by kernel_rfl) (by kernel_rfl) (fun _ _ _ h => h) (Or.inl ⟨by kernel_rfl, fun _ _ => by kernel_rfl⟩) hHeld ?_
          try simp only [Act.put, List.setIfInBounds_toArray, List.set_cons_zero, List.set_cons_succ]
          refine take_d (i := 6) (v := (.bool false)) (d := some 73) rfl (by kernel_rfl) (by kernel_rfl) (by kernel_rfl) (by kernel_rfl) (fun _ _ _ h => h) (Or.inl ⟨by kernel_rfl, fun w9 hw9 => by (go_simp)⟩) hHeld ?_
          try simp only [Act.put, List.setIfInBounds_toArray, List.set_cons_zero, List.set_cons_succ]
          refine take_d (i := 7) (v := (.bool false)) (d := some 74) rfl (by kernel_rfl) (by kernel_rfl) (by kernel_rfl) (by kernel_rfl) (fun _ _ _ h => h) (Or.inl ⟨by kernel_rfl, fun _ _ => by kernel_rfl⟩) hHeld ?_
          try simp only [Act.put, List.setIfInBounds_toArray, List.set_cons_zero, List.set_cons_succ]
          refine take_d (i := 8) (v := undef) (d := some 75) rfl (by kernel_rfl) (by kernel_rfl) (by kernel_rfl) (by kernel_rfl) (fun _ _ _ h => h) (Or.inr ⟨by kernel_rfl, rfl⟩) hHeld ?_
          try simp only [Act.put, List.setIfInBounds_toArray, List.set_cons_zero, List.set_cons_succ]
          refine take_d (i := 9) (v := undef) (d := some 76) rfl (by kernel_rfl) (by kernel_rfl) (by kernel_rfl) (by kernel_rfl) (fun _ _ _ h => h) (Or.inr ⟨by kernel_rfl, rfl⟩) hHeld ?_
          try simp only [Act.put, List.setIfInBounds_toArray, List.set_cons_zero, List.set_cons_succ]
          refine take_d (i := 10) (v := undef) (d := some 77) rfl (by kernel_rfl) (by kernel_rfl) (by kernel_rfl) (by kernel_rfl) (fun _ _ _ h => h) (Or.inr ⟨by kernel_rfl, rfl⟩) hHeld ?_
          try simp only [Act.put, List.setIfInBounds_toArray, List.set_cons_zero, List.set_cons_succ]
          refine take_d (i := 11) (v := undef) (d := some 78) rfl (by kernel_rfl) (by kernel_rfl) (by kernel_rfl) (by kernel_rfl) (fun _ _ _ h => h) (Or.inr ⟨by kernel_rfl, rfl⟩) hHeld ?_
          try simp only [Act.put, List.setIfInBounds_toArray, List.set_cons_zero, List.set_cons_succ]
          refine take_d (i := 12) (v := undef) (d := some 79) rfl (by kernel_rfl) (by kernel_rfl) (by kernel_rfl) (by kernel_rfl) (fun _ _ _ h => h) (Or.inr ⟨by kernel_rfl, rfl⟩) hHeld ?_
          try simp only [Act.put, List.setIfInBounds_toArray, List.set_cons_zero, List.set_cons_succ]
          refine take_d (i := 13) (v := undef) (d := some 80) rfl (by kernel_rfl) (by kernel_rfl) (by kernel_rfl) (by kernel_rfl) (fun _ _ _ h => h) (Or.inr ⟨by kernel_rfl, rfl⟩) hHeld ?_
          try simp only [Act.put, List.setIfInBounds_toArray, List.set_cons_zero, List.set_cons_succ]
          refine take_d (i := 14) (v := undef) (d := some 81) rfl (by kernel_rfl) (by kernel_rfl) (by kernel_rfl) (by kernel_rfl) (fun _ _ _ h => h) (Or.inr ⟨by kernel_rfl, rfl⟩) hHeld ?_
          try simp only [Act.put, List.setIfInBounds_toArray, List.set_cons_zero, List.set_cons_succ]
          refine take_d (i := 15) (v := undef) (d := some 82) rfl (by kernel_rfl) (by kernel_rfl) (by kernel_rfl) (by kernel_rfl) (fun _ _ _ h => h) (Or.inr ⟨by kernel_rfl, rfl⟩) hHeld ?_
          try simp only [Act.put, List.setIfInBounds_toArray, List.set_cons_zero, List.set_cons_succ]
          refine take_d (i := 16) (v := undef) (d := some 83) rfl (by kernel_rfl) (by kernel_rfl) (by kernel_rfl) (by kernel_rfl) (fun _ _ _ h => h) (Or.inr ⟨by kernel_rfl, rfl⟩) hHeld ?_
          try simp only [Act.put, List.setIfInBounds_toArray, List.set_cons_zero, List.set_cons_succ]
          refine take_d (i := 17) (v := undef) (d := some 84) rfl (by kernel_rfl) (by kernel_rfl) (by kernel_rfl) (by kernel_rfl) (fun _ _ _ h => h) (Or.inr ⟨by kernel_rfl, rfl⟩) hHeld ?_
          try simp only [Act.put, List.setIfInBounds_toArray, List.set_cons_zero, List.set_cons_succ]
          refine take_d (i := 18) (v := undef) (d := some 85) rfl (by kernel_rfl) (by kernel_rfl) (by kernel_rfl) (by kernel_rfl) (fun _ _ _ h => h) (Or.inr ⟨by kernel_rfl, rfl⟩) hHeld ?_
          try simp only [Act.put, List.setIfInBounds_toArray, List.set_cons_zero, List.set_cons_succ]
          refine take_d (i := 19) (v := undef) (d := some 86) rfl (by kernel_rfl) (by kernel_rfl) (by kernel_rfl) (by kernel_rfl) (fun _ _ _ h => h) (Or.inr ⟨by kernel_rfl, rfl⟩) hHeld ?_
          try simp only [Act.put, List.setIfInBounds_toArray, List.set_cons_zero, List.set_cons_succ]
          refine take_d (i := 20) (v := undef) (d := some 87) rfl (by kernel_rfl) (by kernel_rfl) (by kernel_rfl) (by kernel_rfl) (fun _ _ _ h => h) (Or.inr ⟨by kernel_rfl, rfl⟩) hHeld ?_
          try simp only [Act.put, List.setIfInBounds_toArray, List.set_cons_zero, List.set_cons_succ]
          refine take_d (i := 21) (v := (.bool false)) (d := some 88) rfl (by kernel_rfl) (by kernel_rfl) (by kernel_rfl) (by kernel_rfl) (fun _ _ _ h => h) (Or.inl ⟨by kernel_rfl, fun _ _ => by kernel_rfl⟩) hHeld ?_
          try simp only [Act.put, List.setIfInBounds_toArray, List.set_cons_zero, List.set_cons_succ]
          refine take_d (i := 22) (v := (.bool true)) (d := some 89) rfl (by kernel_rfl) (by kernel_rfl) (by kernel_rfl) (by kernel_rfl) (fun _ _ _ h => h) (Or.inl ⟨by kernel_rfl, fun w9 hw9 => by (go_simp)⟩) hHeld ?_
          try simp only [Act.put, List.setIfInBounds_toArray, List.set_cons_zero, List.set_cons_succ]
          refine take_d (i := 23) (v := (.bool true)) (d := some 90) rfl (by kernel_rfl) (by kernel_rfl) (by kernel_rfl) (by kernel_rfl) (fun _ _ _ h => h) (Or.inl ⟨by kernel_rfl, fun _ _ => by kernel_rfl⟩) hHeld ?_
          try simp only [Act.put, List.setIfInBounds_toArray, List.set_cons_zero, List.set_cons_succ]
          refine take_d (i := 24) (v := (.bool true)) (d := some 14) rfl (by kernel_rfl) (by kernel_rfl) (by kernel_rfl) (by kernel_rfl) (fun _ _ _ h => h) (Or.inl ⟨by kernel_rfl, fun _ _ => by kernel_rfl⟩) hHeld ?_
          try simp only [Act.put, List.setIfInBounds_toArray, List.set_cons_zero, List.set_cons_succ]
          refine wpAnyH_done (by kernel_rfl) ?_ _
          try simp only [Act.put, List.setIfInBounds_toArray, List.set_cons_zero, List.set_cons_succ]
          go_wp2_with fail
          go_meet
          case rel => exact ⟨rfl, HB6⟩
    case rest =>
      obtain ⟨rfl, HBa⟩ := hcut
      obtain ⟨w6, rfl⟩ : ∃ w6 : World, w6 = wc := ⟨_, rfl⟩
      have HB6 : Below w.heap.size w w6 := HBa
      have HZ6 := HB6.size
      clear HB5 HZ5 HBa HSD HEv
      go_wp2_with fail
      refine (HEA.out _ (by repeat (first | with_reducible exact Below.refl _ _ | (with_reducible refine Below.alloc ?_ (by first | omega | (simp; done) | (simp; omega)) _) | (with_reducible refine Below.setCell ?_ (by first | omega | (simp; done) | (simp; omega)) _) | (with_reducible refine Below.drew ?_) | (with_reducible refine below_drewN ?_ _) | (with_reducible assumption) | (with_reducible refine bel_step (by with_reducible assumption) ?_ (by first | omega | (simp; done) | (simp; omega)))))).mono ?_
      rintro e w7 ⟨rfl, hb7⟩
      have hz7 := hb7.size
      (try simp at hz7)
      have HB7 : Below w.heap.size w w7 := (by repeat (first | with_reducible exact Below.refl _ _ | (with_reducible refine Below.alloc ?_ (by first | omega | (simp; done) | (simp; omega)) _) | (with_reducible refine Below.setCell ?_ (by first | omega | (simp; done) | (simp; omega)) _) | (with_reducible refine Below.drew ?_) | (with_reducible refine below_drewN ?_ _) | (with_reducible assumption) | (with_reducible refine bel_step (by with_reducible assumption) ?_ (by first | omega | (simp; done) | (simp; omega)))))
      have HZ7 := HB7.size
      clear hb7 hz7 HB6 HZ6 
      clear HEA
      go_upto_if 105 with (fail)
      go_cut [11] (fun fv wx => fv = .int .i64 f3 ∧ Below w.heap.size w wx)
      case first =>
        rcases HTD.out with ⟨rfl, rfl, rfl, rfl, rfl, rfl⟩ | ⟨rfl, rfl, rfl, rfl, rfl, rfl⟩ | ⟨rfl, rfl, rfl, rfl, rfl⟩
        all_goals
          as_aux_lemma =>
            go_wp2_with fail
            go_meet
            case rel => exact ⟨rfl, HB7⟩
      case rest =>
        obtain ⟨rfl, HBa⟩ := hcut
        obtain ⟨w8, rfl⟩ : ∃ w8 : World, w8 = wc := ⟨_, rfl⟩
        have HB8 : Below w.heap.size w w8 := HBa
        have HZ8 := HB8.size
        clear HB7 HZ7 HBa
        go_upto_if 107 with (fail)
        go_cut [16, 17] (fun tv cv wx => ∃ B m d, tv = .slice B m d ∧ cv = .bool cb ∧ IsInts wx B m d TL ∧ Below w.heap.size w wx)
        case first =>
          rcases HTD.out with ⟨rfl, rfl, rfl, rfl, rfl, rfl⟩ | ⟨rfl, rfl, rfl, rfl, rfl, rfl⟩ | ⟨rfl, rfl, rfl, rfl, rfl⟩
          · as_aux_lemma =>
              go_wp2_with fail
              go_meet
              case rel => exact ⟨none, 0, 0, rfl, rfl, ints_nil _, HB8⟩
          all_goals
            have HTN := Lib.hid (HTM.out (by first | rfl | trivial))
            clear HTM
            as_aux_lemma =>
              go_wp2_with fail
              refine (HTN.out _ HB8).mono ?_
              rintro e w9 ⟨B, m, d, rfl, hI, hb9⟩
              have HB9 : Below w.heap.size w w9 := HB8.trans (hb9.mono HZ8)
              go_wp2_with fail
              go_meet
              case rel => exact ⟨B, m, d, rfl, rfl, hI, HB9⟩
        case rest =>
          obtain ⟨B, m, d, rfl, rfl, hIa, HBa⟩ := hcut
          obtain ⟨w9, rfl⟩ : ∃ w9 : World, w9 = wc := ⟨_, rfl⟩
          have HB9 : Below w.heap.size w w9 := HBa
          have HZ9 := HB9.size
          have HI9 : IsInts w9 B m d TL := hIa
          clear HB8 HZ8 HBa hIa HTM
          go_wp2_with fail
          refine (HCC.out _ (by repeat (first | with_reducible exact Below.refl _ _ | (with_reducible refine Below.alloc ?_ (by first | omega | (simp; done) | (simp; omega)) _) | (with_reducible refine Below.setCell ?_ (by first | omega | (simp; done) | (simp; omega)) _) | (with_reducible refine Below.drew ?_) | (with_reducible refine below_drewN ?_ _) | (with_reducible assumption) | (with_reducible refine bel_step (by with_reducible assumption) ?_ (by first | omega | (simp; done) | (simp; omega)))))).mono ?_
          rintro e w10 ⟨rfl, hb10⟩
          have hz10 := hb10.size
          (try simp at hz10)
          have HI10 : IsInts w10 B m d TL := IsRecs.below HI9 (show Below w9.heap.size w9 w10 from (by repeat (first | with_reducible exact Below.refl _ _ | (with_reducible refine Below.alloc ?_ (by first | omega | (simp; done) | (simp; omega)) _) | (with_reducible refine Below.setCell ?_ (by first | omega | (simp; done) | (simp; omega)) _) | (with_reducible refine Below.drew ?_) | (with_reducible refine below_drewN ?_ _) | (with_reducible assumption) | (with_reducible refine bel_step (by with_reducible assumption) ?_ (by first | omega | (simp; done) | (simp; omega))))))
          have HB10 : Below w.heap.size w w10 := (by repeat (first | with_reducible exact Below.refl _ _ | (with_reducible refine Below.alloc ?_ (by first | omega | (simp; done) | (simp; omega)) _) | (with_reducible refine Below.setCell ?_ (by first | omega | (simp; done) | (simp; omega)) _) | (with_reducible refine Below.drew ?_) | (with_reducible refine below_drewN ?_ _) | (with_reducible assumption) | (with_reducible refine bel_step (by with_reducible assumption) ?_ (by first | omega | (simp; done) | (simp; omega)))))
          have HZ10 := HB10.size
          clear hb10 hz10 HB9 HZ9  HI9
          go_wp2_with fail
          refine (CEs.out f3 _ (by repeat (first | with_reducible exact Below.refl _ _ | (with_reducible refine Below.alloc ?_ (by first | omega | (simp; done) | (simp; omega)) _) | (with_reducible refine Below.setCell ?_ (by first | omega | (simp; done) | (simp; omega)) _) | (with_reducible refine Below.drew ?_) | (with_reducible refine below_drewN ?_ _) | (with_reducible assumption) | (with_reducible refine bel_step (by with_reducible assumption) ?_ (by first | omega | (simp; done) | (simp; omega)))))).mono ?_
          rintro e w11 ⟨rfl, hb11⟩
          have hz11 := hb11.size
          (try simp at hz11)
          have HI11 : IsInts w11 B m d TL := IsRecs.below HI10 (show Below w10.heap.size w10 w11 from (by repeat (first | with_reducible exact Below.refl _ _ | (with_reducible refine Below.alloc ?_ (by first | omega | (simp; done) | (simp; omega)) _) | (with_reducible refine Below.setCell ?_ (by first | omega | (simp; done) | (simp; omega)) _) | (with_reducible refine Below.drew ?_) | (with_reducible refine below_drewN ?_ _) | (with_reducible assumption) | (with_reducible refine bel_step (by with_reducible assumption) ?_ (by first | omega | (simp; done) | (simp; omega))))))
          have HB11 : Below w.heap.size w w11 := (by repeat (first | with_reducible exact Below.refl _ _ | (with_reducible refine Below.alloc ?_ (by first | omega | (simp; done) | (simp; omega)) _) | (with_reducible refine Below.setCell ?_ (by first | omega | (simp; done) | (simp; omega)) _) | (with_reducible refine Below.drew ?_) | (with_reducible refine below_drewN ?_ _) | (with_reducible assumption) | (with_reducible refine bel_step (by with_reducible assumption) ?_ (by first | omega | (simp; done) | (simp; omega)))))
          have HZ11 := HB11.size
          clear hb11 hz11 HB10 HZ10  HI10
          clear HCC
          go_upto_region 18 with (fail)
          go_cut [133] (fun rv wx => rv = .bool r3 ∧ IsInts wx B m d TL ∧ Below w.heap.size w wx)
          case first =>
            rcases HTD.out with ⟨rfl, rfl, rfl, rfl, rfl, rfl⟩ | ⟨rfl, rfl, rfl, rfl, rfl, rfl⟩ | ⟨rfl, rfl, rfl, rfl, rfl⟩
            all_goals
              as_aux_lemma =>
                go_wp2_with fail
                go_meet
                case rel => exact ⟨rfl, HI11, HB11⟩
          case rest =>
           obtain ⟨rfl, hIa, HBa⟩ := hcut
           obtain ⟨w12, rfl⟩ : ∃ w12 : World, w12 = wc := ⟨_, rfl⟩
           have HB12 : Below w.heap.size w w12 := HBa
           have HI12 : IsInts w12 B m d TL := hIa
           clear HI11 HB11 HZ11 HBa hIa
           go_upto_if 133 with (fail)
           go_cut [11, 16] (fun fv tv wx => ∃ B m d, fv = .int .i64 f5 ∧ tv = .slice B m d ∧ IsInts wx B m d TL ∧ Below w.heap.size w wx)
           case first =>
            rcases HTD.out with ⟨rfl, rfl, rfl, rfl, rfl, rfl⟩ | ⟨rfl, rfl, rfl, rfl, rfl, rfl⟩ | ⟨rfl, rfl, rfl, rfl, rfl⟩
            · as_aux_lemma =>
                go_wp2_with fail
                go_meet
                case rel => exact ⟨_, _, _, rfl, rfl, HI12, HB12⟩
            · as_aux_lemma =>
                go_wp2_with fail
                go_meet
                case rel => exact ⟨_, _, _, rfl, rfl, ints_nil _, HB12⟩
            · as_aux_lemma =>
                go_wp2_with fail
                go_meet
                case rel => exact ⟨_, _, _, rfl, rfl, HI12, HB12⟩
           case rest =>
            clear HI12 HB12
            obtain ⟨B', m', d', rfl, rfl, hIa, HBa⟩ := hcut
            obtain ⟨w12, rfl⟩ : ∃ w12 : World, w12 = wc := ⟨_, rfl⟩
            have HB12 : Below w.heap.size w w12 := HBa
            have HZ12 := HB12.size
            have HI12 : IsInts w12 B' m' d' TL := hIa
            clear HBa hIa HTD
            go_wp2_with fail
            refine (HCT.out _ (by repeat (first | with_reducible exact Below.refl _ _ | (with_reducible refine Below.alloc ?_ (by first | omega | (simp; done) | (simp; omega)) _) | (with_reducible refine Below.setCell ?_ (by first | omega | (simp; done) | (simp; omega)) _) | (with_reducible refine Below.drew ?_) | (with_reducible refine below_drewN ?_ _) | (with_reducible assumption) | (with_reducible refine bel_step (by with_reducible assumption) ?_ (by first | omega | (simp; done) | (simp; omega)))))).mono ?_
            rintro e w13 ⟨B2, m2, d2, rfl, hI2, hb13⟩
            have hz13 := hb13.size
            (try simp at hz13)
            have HI13 : IsInts w13 B' m' d' TL := IsRecs.below HI12 (show Below w12.heap.size w12 w13 from (by repeat (first | with_reducible exact Below.refl _ _ | (with_reducible refine Below.alloc ?_ (by first | omega | (simp; done) | (simp; omega)) _) | (with_reducible refine Below.setCell ?_ (by first | omega | (simp; done) | (simp; omega)) _) | (with_reducible refine Below.drew ?_) | (with_reducible refine below_drewN ?_ _) | (with_reducible assumption) | (with_reducible refine bel_step (by with_reducible assumption) ?_ (by first | omega | (simp; done) | (simp; omega))))))
            have HB13 : Below w.heap.size w w13 := (by repeat (first | with_reducible exact Below.refl _ _ | (with_reducible refine Below.alloc ?_ (by first | omega | (simp; done) | (simp; omega)) _) | (with_reducible refine Below.setCell ?_ (by first | omega | (simp; done) | (simp; omega)) _) | (with_reducible refine Below.drew ?_) | (with_reducible refine below_drewN ?_ _) | (with_reducible assumption) | (with_reducible refine bel_step (by with_reducible assumption) ?_ (by first | omega | (simp; done) | (simp; omega)))))
            have HZ13 := HB13.size
            clear hb13 hz13 HB12 HZ12  HI12
            have HJ13 : IsInts w13 B2 m2 d2 TL := hI2
            clear hI2
            go_wp2_with fail
            refine (CEs.out f5 _ (by repeat (first | with_reducible exact Below.refl _ _ | (with_reducible refine Below.alloc ?_ (by first | omega | (simp; done) | (simp; omega)) _) | (with_reducible refine Below.setCell ?_ (by first | omega | (simp; done) | (simp; omega)) _) | (with_reducible refine Below.drew ?_) | (with_reducible refine below_drewN ?_ _) | (with_reducible assumption) | (with_reducible refine bel_step (by with_reducible assumption) ?_ (by first | omega | (simp; done) | (simp; omega)))))).mono ?_
            rintro e w14 ⟨rfl, hb14⟩
            have hz14 := hb14.size
            (try simp at hz14)
            have HI14 : IsInts w14 B' m' d' TL := IsRecs.below HI13 (show Below w13.heap.size w13 w14 from (by repeat (first | with_reducible exact Below.refl _ _ | (with_reducible refine Below.alloc ?_ (by first | omega | (simp; done) | (simp; omega)) _) | (with_reducible refine Below.setCell ?_ (by first | omega | (simp; done) | (simp; omega)) _) | (with_reducible refine Below.drew ?_) | (with_reducible refine below_drewN ?_ _) | (with_reducible assumption) | (with_reducible refine bel_step (by with_reducible assumption) ?_ (by first | omega | (simp; done) | (simp; omega))))))
            have HJ14 : IsInts w14 B2 m2 d2 TL := IsRecs.below HJ13 (show Below w13.heap.size w13 w14 from (by repeat (first | with_reducible exact Below.refl _ _ | (with_reducible refine Below.alloc ?_ (by first | omega | (simp; done) | (simp; omega)) _) | (with_reducible refine Below.setCell ?_ (by first | omega | (simp; done) | (simp; omega)) _) | (with_reducible refine Below.drew ?_) | (with_reducible refine below_drewN ?_ _) | (with_reducible assumption) | (with_reducible refine bel_step (by with_reducible assumption) ?_ (by first | omega | (simp; done) | (simp; omega))))))
            have HB14 : Below w.heap.size w w14 := (by repeat (first | with_reducible exact Below.refl _ _ | (with_reducible refine Below.alloc ?_ (by first | omega | (simp; done) | (simp; omega)) _) | (with_reducible refine Below.setCell ?_ (by first | omega | (simp; done) | (simp; omega)) _) | (with_reducible refine Below.drew ?_) | (with_reducible refine below_drewN ?_ _) | (with_reducible assumption) | (with_reducible refine bel_step (by with_reducible assumption) ?_ (by first | omega | (simp; done) | (simp; omega)))))
            have HZ14 := HB14.size
            clear hb14 hz14 HB13 HZ13  HI13 HJ13
            have CI := Lib.hid (same_Ints _ _ _ _ _ _ TL w14 HJ14 HI14)
            clear HJ14 HI14 HCT CEs
            go_wp2_with fail
            refine (CI.out).mono ?_
            rintro e w15 ⟨rfl, hb15⟩
            have hz15 := hb15.size
            (try simp at hz15)
            have HB15 : Below w.heap.size w w15 := (by repeat (first | with_reducible exact Below.refl _ _ | (with_reducible refine Below.alloc ?_ (by first | omega | (simp; done) | (simp; omega)) _) | (with_reducible refine Below.setCell ?_ (by first | omega | (simp; done) | (simp; omega)) _) | (with_reducible refine Below.drew ?_) | (with_reducible refine below_drewN ?_ _) | (with_reducible assumption) | (with_reducible refine bel_step (by with_reducible assumption) ?_ (by first | omega | (simp; done) | (simp; omega)))))
            have HZ15 := HB15.size
            clear hb15 hz15 HB14 HZ14 
            clear CI
            go_wp2_with fail
            go_loopw [22, 24] (fun ov jv wr => ∃ (k : Nat) (ys : List Int), jv = .int .i64 k ∧ k ≤ n0 ∧ ys = rankL z0 k ∧ wr.ownsRow w.heap.size 3 1 ov ys.length (ys.flatMap intCells) ∧ Below w.heap.size w wr) (fun _ jv _ => n0 - (intOf jv).toNat)
            case atStart => exact ⟨0, [], rfl, by omega, rfl, own_nil _ _ _ _, HB15⟩
            case round =>
              obtain ⟨k, ys, rfl, hk, hys, ho, hB⟩ := hrel
              have HO := Lib.hid ho
              have HY := Lib.hid hys
              have HB := Lib.hid hB
              have hlen : ys.length = k := by rw [hys]; exact rankL_len z0 k
              have hzw := hB.size
              clear ho hys HB15 HZ15
              by_cases d1 : k < n0
              · have CRk := Lib.hid (HRa.out _ hB k d1)
                have hrk := HLe.out k
                have HN := Lib.hid (show rankL z0 (k + 1) = rankL z0 k ++ [rankV z0 k] from rfl)
                obtain ⟨R, hR⟩ : ∃ R, rankV z0 k = R := ⟨_, rfl⟩
                rw [hR] at CRk hrk HN
                clear hR hB
                as_aux_lemma =>
                  go_wp2_with fail
                  refine CRk.out.mono ?_
                  rintro e w16 ⟨rfl, hb16⟩
                  have HO6 := Lib.hid (own_below HO.out hb16)
                  have HB6 : Below w.heap.size w w16 := HB.out.trans (hb16.mono hzw)
                  have hz6 := HB6.size
                  clear hb16 CRk HO HB
                  go_wp2_with (at_builtin; refine wpList_append_own _ rfl _ _ 23 rfl w.heap.size 3 i0 (.int .i64 0) 1 8 Tryd.underlying23 hi0 hz0 hz1 hz2 rfl (by decide) _ _ _ rfl (HO6.out.alloc _) ⟨w16.heap.size, 0, none⟩ 1 1 _ rfl rfl (cell_newAt w16 (intCells R) _ _ rfl) (int_one _) (by unfold maxLen; omega) (by omega) (by simp; omega) ?_; intro v' w7 ho7 hg7 _)
                  have HB7 : Below w.heap.size w w7 := (HB6.alloc (by omega) _).grown hg7 (by simp; omega) (fun q hq => (HO6.out.lt q hq).1)
                  have HO7 := Lib.hid (own_snoc intCells (z := R) ho7)
                  clear ho7 hg7
                  go_wp2_with fail
                  go_roundw
                  case rel => exact ⟨k + 1, ys ++ [R], by go_num, by omega, by rw [HN.out, HY.out], HO7.out, HB7⟩
                  case measure => go_light; simp [intOf]; omega
              · obtain rfl : k = n0 := by omega
                have hy : ys = rankL z0 k := HY.out
                subst hy
                obtain ⟨B1, m1, d1', rfl, hI⟩ := own_recs intCells i64B 1 (fun _ => rfl) HO.out (fun x hx => by
                  obtain ⟨i, hi, rfl⟩ := List.getElem_of_mem hx
                  have h1 := rankL_get z0 k i (by rw [hlen] at hi; exact hi)
                  rw [List.getElem?_eq_getElem hi] at h1
                  rw [Option.some.inj h1]
                  have := HLe.out i; unfold i64B; omega)
                obtain ⟨w15, rfl⟩ : ∃ w15 : World, w15 = wr := ⟨_, rfl⟩
                have HI15 : IsInts w15 B1 m1 d1' (rankL z0 k) := hI
                have HB15 : Below w.heap.size w w15 := HB.out
                have HZ15 := HB15.size
                clear HO HY HB hB hI hlen hzw HLe HLl HRa
                obtain ⟨V, hV⟩ : ∃ V, wN z0 (2 ^ k - 1) = V := ⟨_, rfl⟩
                rw [hV] at HWa HMy
                clear hV
                as_aux_lemma =>
                  go_wp2_with fail
                  refine (HWa.out _ (by repeat (first | with_reducible exact Below.refl _ _ | (with_reducible refine Below.alloc ?_ (by first | omega | (simp; done) | (simp; omega)) _) | (with_reducible refine Below.setCell ?_ (by first | omega | (simp; done) | (simp; omega)) _) | (with_reducible refine Below.drew ?_) | (with_reducible refine below_drewN ?_ _) | (with_reducible assumption) | (with_reducible refine bel_step (by with_reducible assumption) ?_ (by first | omega | (simp; done) | (simp; omega)))))).mono ?_
                  rintro e w16 ⟨rfl, hb16⟩
                  have hz16 := hb16.size
                  (try simp at hz16)
                  have HI16 : IsInts w16 B1 m1 d1' (rankL z0 k) := IsRecs.below HI15 (show Below w15.heap.size w15 w16 from (by repeat (first | with_reducible exact Below.refl _ _ | (with_reducible refine Below.alloc ?_ (by first | omega | (simp; done) | (simp; omega)) _) | (with_reducible refine Below.setCell ?_ (by first | omega | (simp; done) | (simp; omega)) _) | (with_reducible refine Below.drew ?_) | (with_reducible refine below_drewN ?_ _) | (with_reducible assumption) | (with_reducible refine bel_step (by with_reducible assumption) ?_ (by first | omega | (simp; done) | (simp; omega))))))
                  have HB16 : Below w.heap.size w w16 := (by repeat (first | with_reducible exact Below.refl _ _ | (with_reducible refine Below.alloc ?_ (by first | omega | (simp; done) | (simp; omega)) _) | (with_reducible refine Below.setCell ?_ (by first | omega | (simp; done) | (simp; omega)) _) | (with_reducible refine Below.drew ?_) | (with_reducible refine below_drewN ?_ _) | (with_reducible assumption) | (with_reducible refine bel_step (by with_reducible assumption) ?_ (by first | omega | (simp; done) | (simp; omega)))))
                  have HZ16 := HB16.size
                  clear hb16 hz16 HB15 HZ15  HI15
                  go_wp2_with fail
                  refine (HRk.out _ (by repeat (first | with_reducible exact Below.refl _ _ | (with_reducible refine Below.alloc ?_ (by first | omega | (simp; done) | (simp; omega)) _) | (with_reducible refine Below.setCell ?_ (by first | omega | (simp; done) | (simp; omega)) _) | (with_reducible refine Below.drew ?_) | (with_reducible refine below_drewN ?_ _) | (with_reducible assumption) | (with_reducible refine bel_step (by with_reducible assumption) ?_ (by first | omega | (simp; done) | (simp; omega)))))).mono ?_
                  rintro e w17 ⟨B2, m2, d2, rfl, hI2, hb17⟩
                  have hz17 := hb17.size
                  (try simp at hz17)
                  have HI17 : IsInts w17 B1 m1 d1' (rankL z0 k) := IsRecs.below HI16 (show Below w16.heap.size w16 w17 from (by repeat (first | with_reducible exact Below.refl _ _ | (with_reducible refine Below.alloc ?_ (by first | omega | (simp; done) | (simp; omega)) _) | (with_reducible refine Below.setCell ?_ (by first | omega | (simp; done) | (simp; omega)) _) | (with_reducible refine Below.drew ?_) | (with_reducible refine below_drewN ?_ _) | (with_reducible assumption) | (with_reducible refine bel_step (by with_reducible assumption) ?_ (by first | omega | (simp; done) | (simp; omega))))))
                  have HB17 : Below w.heap.size w w17 := (by repeat (first | with_reducible exact Below.refl _ _ | (with_reducible refine Below.alloc ?_ (by first | omega | (simp; done) | (simp; omega)) _) | (with_reducible refine Below.setCell ?_ (by first | omega | (simp; done) | (simp; omega)) _) | (with_reducible refine Below.drew ?_) | (with_reducible refine below_drewN ?_ _) | (with_reducible assumption) | (with_reducible refine bel_step (by with_reducible assumption) ?_ (by first | omega | (simp; done) | (simp; omega)))))
                  have HZ17 := HB17.size
                  clear hb17 hz17 HB16 HZ16  HI16
                  have HJ17 : IsInts w17 B2 m2 d2 (rankL z0 k) := hI2
                  clear hI2
                  go_wp2_with fail
                  refine (CE0.out _ (by repeat (first | with_reducible exact Below.refl _ _ | (with_reducible refine Below.alloc ?_ (by first | omega | (simp; done) | (simp; omega)) _) | (with_reducible refine Below.setCell ?_ (by first | omega | (simp; done) | (simp; omega)) _) | (with_reducible refine Below.drew ?_) | (with_reducible refine below_drewN ?_ _) | (with_reducible assumption) | (with_reducible refine bel_step (by with_reducible assumption) ?_ (by first | omega | (simp; done) | (simp; omega)))))).mono ?_
                  rintro e w18 ⟨rfl, hb18⟩
                  have hz18 := hb18.size
                  (try simp at hz18)
                  have HI18 : IsInts w18 B1 m1 d1' (rankL z0 k) := IsRecs.below HI17 (show Below w17.heap.size w17 w18 from (by repeat (first | with_reducible exact Below.refl _ _ | (with_reducible refine Below.alloc ?_ (by first | omega | (simp; done) | (simp; omega)) _) | (with_reducible refine Below.setCell ?_ (by first | omega | (simp; done) | (simp; omega)) _) | (with_reducible refine Below.drew ?_) | (with_reducible refine below_drewN ?_ _) | (with_reducible assumption) | (with_reducible refine bel_step (by with_reducible assumption) ?_ (by first | omega | (simp; done) | (simp; omega))))))
                  have HJ18 : IsInts w18 B2 m2 d2 (rankL z0 k) := IsRecs.below HJ17 (show Below w17.heap.size w17 w18 from (by repeat (first | with_reducible exact Below.refl _ _ | (with_reducible refine Below.alloc ?_ (by first | omega | (simp; done) | (simp; omega)) _) | (with_reducible refine Below.setCell ?_ (by first | omega | (simp; done) | (simp; omega)) _) | (with_reducible refine Below.drew ?_) | (with_reducible refine below_drewN ?_ _) | (with_reducible assumption) | (with_reducible refine bel_step (by with_reducible assumption) ?_ (by first | omega | (simp; done) | (simp; omega))))))
                  have HB18 : Below w.heap.size w w18 := (by repeat (first | with_reducible exact Below.refl _ _ | (with_reducible refine Below.alloc ?_ (by first | omega | (simp; done) | (simp; omega)) _) | (with_reducible refine Below.setCell ?_ (by first | omega | (simp; done) | (simp; omega)) _) | (with_reducible refine Below.drew ?_) | (with_reducible refine below_drewN ?_ _) | (with_reducible assumption) | (with_reducible refine bel_step (by with_reducible assumption) ?_ (by first | omega | (simp; done) | (simp; omega)))))
                  have HZ18 := HB18.size
                  clear hb18 hz18 HB17 HZ17  HI17 HJ17
                  have CI := Lib.hid (same_Ints _ _ _ _ _ _ (rankL z0 k) w18 HJ18 HI18)
                  clear HJ18 HI18
                  go_wp2_with fail
                  refine (CI.out).mono ?_
                  rintro e w19 ⟨rfl, hb19⟩
                  have hz19 := hb19.size
                  (try simp at hz19)
                  have HB19 : Below w.heap.size w w19 := (by repeat (first | with_reducible exact Below.refl _ _ | (with_reducible refine Below.alloc ?_ (by first | omega | (simp; done) | (simp; omega)) _) | (with_reducible refine Below.setCell ?_ (by first | omega | (simp; done) | (simp; omega)) _) | (with_reducible refine Below.drew ?_) | (with_reducible refine below_drewN ?_ _) | (with_reducible assumption) | (with_reducible refine bel_step (by with_reducible assumption) ?_ (by first | omega | (simp; done) | (simp; omega)))))
                  have HZ19 := HB19.size
                  clear hb19 hz19 HB18 HZ18 
                  clear CI
                  go_wp2_with fail
                  refine (HMy.out _ (by repeat (first | with_reducible exact Below.refl _ _ | (with_reducible refine Below.alloc ?_ (by first | omega | (simp; done) | (simp; omega)) _) | (with_reducible refine Below.setCell ?_ (by first | omega | (simp; done) | (simp; omega)) _) | (with_reducible refine Below.drew ?_) | (with_reducible refine below_drewN ?_ _) | (with_reducible assumption) | (with_reducible refine bel_step (by with_reducible assumption) ?_ (by first | omega | (simp; done) | (simp; omega)))))).mono ?_
                  rintro e w20 ⟨rfl, hb20⟩
                  have hz20 := hb20.size
                  (try simp at hz20)
                  have HB20 : Below w.heap.size w w20 := (by repeat (first | with_reducible exact Below.refl _ _ | (with_reducible refine Below.alloc ?_ (by first | omega | (simp; done) | (simp; omega)) _) | (with_reducible refine Below.setCell ?_ (by first | omega | (simp; done) | (simp; omega)) _) | (with_reducible refine Below.drew ?_) | (with_reducible refine below_drewN ?_ _) | (with_reducible assumption) | (with_reducible refine bel_step (by with_reducible assumption) ?_ (by first | omega | (simp; done) | (simp; omega)))))
                  have HZ20 := HB20.size
                  clear hb20 hz20 HB19 HZ19 
                  go_wp2_with fail
                  refine (CE0.out _ (by repeat (first | with_reducible exact Below.refl _ _ | (with_reducible refine Below.alloc ?_ (by first | omega | (simp; done) | (simp; omega)) _) | (with_reducible refine Below.setCell ?_ (by first | omega | (simp; done) | (simp; omega)) _) | (with_reducible refine Below.drew ?_) | (with_reducible refine below_drewN ?_ _) | (with_reducible assumption) | (with_reducible refine bel_step (by with_reducible assumption) ?_ (by first | omega | (simp; done) | (simp; omega)))))).mono ?_
                  rintro e w21 ⟨rfl, hb21⟩
                  have hz21 := hb21.size
                  (try simp at hz21)
                  have HB21 : Below w.heap.size w w21 := (by repeat (first | with_reducible exact Below.refl _ _ | (with_reducible refine Below.alloc ?_ (by first | omega | (simp; done) | (simp; omega)) _) | (with_reducible refine Below.setCell ?_ (by first | omega | (simp; done) | (simp; omega)) _) | (with_reducible refine Below.drew ?_) | (with_reducible refine below_drewN ?_ _) | (with_reducible assumption) | (with_reducible refine bel_step (by with_reducible assumption) ?_ (by first | omega | (simp; done) | (simp; omega)))))
                  have HZ21 := HB21.size
                  clear hb21 hz21 HB20 HZ20 
                  go_wp2_with fail
                  go_ret
                  exact ⟨by simp, HB21⟩
set_option maxRecDepth 100000 in
theorem walk (a0 : Option Addr) (n0 c0 : Nat) (z0 : List REvent) (a1 : Int) (a2 : Int) (a3 : Option Addr) (n3 c3 : Nat) (z3 : List Int) (w : World) (h0 : IsRecs w REvent.cells REvent.ok 3 a0 n0 c0 z0) (h1 : -9223372036854775808 ≤ a1 ∧ a1 ≤ 9223372036854775807) (h2 : -9223372036854775808 ≤ a2 ∧ a2 ≤ 9223372036854775807) (h3 : IsInts w a3 n3 c3 z3) (hg : HandleAt w) (hr3 : n3 * 8 ≤ 140737488351232) :
    Calls Tryd.prog 4 #[.slice a0 n0 c0, .int .i64 a1, .int .i64 a2, .slice a3 n3 c3] w fun e w' => e = .returned (.bool true) ∧ Below w.heap.size w w' := by
  by_cases e0 : evC z0 = 0
  · exact good a0 n0 c0 z0 a1 a2 a3 n3 c3 z3 w h0 h3 hg hr3 e0
  · exact bad a0 n0 c0 z0 a1 a2 a3 n3 c3 z3 w h0 h3 hg hr3 e0

set_option maxRecDepth 100000 in
theorem lifted (os : Os) (started : os.Started) (H : Type) (enc : TypeId × Value → H) :
    ReturnsInHanded {} Tryd.checked os 4 .any (fun w args => (Rows.orderTellsSpec.pre enc Tryd.prog Tryd.f4 [] false w args ∧ laidMetH Tryd.prog laidList w) ∧ sizedMet enc Tryd.prog Tryd.f4 (OpenSpec.ofChange Rows.orderTellsSpec) false w args)
      (Rows.orderTellsSpec.post enc Tryd.prog Tryd.f4 false true false false) := by
  refine returnsInHanded_of_change_and (C := Tryd.checked) (X := fun w _ => laidMetH Tryd.prog laidList w) (fun _ _ _ hh h => h.of_heap hh) own started (by kernel_rfl) Tryd.func4
    (ChangeSpec.witness_at (enc := enc) (C := Tryd.checked) (os := os) (X := fun w _ => laidMetH Tryd.prog laidList w) false (laidWorld os) #[.slice none 0 0, .int .i64 0, .int .i64 0, .slice none 0 0] 8 rfl (by kernel_rfl) (by kernel_rfl) (by kernel_rfl) (by kernel_rfl) (by kernel_rfl) (laidWorld_met os _)) ?_
  intro W base args ds gs before hval0 hW hcnd hsz0 hL _
  have hval : ∀ (j : Nat) t v, Tryd.f4.params[j]? = some t → args[j]? = some v → Value.okWide Tryd.prog W .any base t v := hval0
  have hW' := hW
  obtain ⟨p, q, hA0, hV, rfl, hfz, hnd⟩ := hW
  have hA : DataW.TrodAll enc Tryd.prog W 0 (fun _ => true) true Tryd.f4.params.toList args.toList ds p := hA0
  rw [Tryd.params4] at hA hval
  obtain ⟨v0, vs0, d0, ds0, p0, q0, hargs, rfl, rfl, g0, r0⟩ := trodAll_cons hA
  obtain ⟨v1, vs1, d1, ds1, p1, q1, rfl, rfl, rfl, g1, r1⟩ := trodAll_cons r0
  obtain ⟨v2, vs2, d2, ds2, p2, q2, rfl, rfl, rfl, g2, r2⟩ := trodAll_cons r1
  obtain ⟨v3, vs3, d3, ds3, p3, q3, rfl, rfl, rfl, g3, r3⟩ := trodAll_cons r2
  obtain ⟨rfl, rfl, rfl⟩ := trodAll_nil r3
  obtain rfl : args = #[v0, v1, v2, v3] := by cases args; simp_all
  have hV2 : DataW.TrodVars enc Tryd.prog W (fun _ => true) [] gs q := hV
  obtain ⟨rfl, rfl⟩ : gs = [] ∧ q = [] := by
    cases gs with
    | nil => exact ⟨rfl, hV2⟩
    | cons g r => exact absurd hV2 (by intro h; cases h)
  have k0 := g0
  have lt0 : ∀ x ∈ p0, x.block < W.heap.size := by obtain ⟨m, hm⟩ := k0; exact DataW.trod_lt m _ _ _ hm
  have rd0 : Tryd.prog.readableRec 22 = true := by kernel_rfl
  have ls0 : 22 < Tryd.prog.types.size := of_decide_eq_true (by kernel_rfl)
  obtain ⟨a0, n0, c0, z0, rfl, h0⟩ := open_REvents (hval 0 22 v0 rfl rfl) g0
  obtain ⟨a1, rfl, rfl, rfl, u1⟩ := open_int Tryd.underlying3 (hval 1 3 v1 rfl rfl) g1
  have h1 := bounds_i64 u1
  obtain ⟨a2, rfl, rfl, rfl, u2⟩ := open_int Tryd.underlying3 (hval 2 3 v2 rfl rfl) g2
  have h2 := bounds_i64 u2
  have k3 := g3
  have lt3 : ∀ x ∈ p3, x.block < W.heap.size := by obtain ⟨m, hm⟩ := k3; exact DataW.trod_lt m _ _ _ hm
  have rd3 : Tryd.prog.readableRec 23 = true := by kernel_rfl
  have ls3 : 23 < Tryd.prog.types.size := of_decide_eq_true (by kernel_rfl)
  obtain ⟨a3, n3, c3, z3, rfl, h3⟩ := open_Ints (hval 3 23 v3 rfl rfl) g3
  have hsz : (DataW.weightsEach Tryd.prog (Tryd.f4.params.toList ++ []) (_ ++ [])).all (fun x => decide (x ≤ reachBytes)) = true := hsz0
  rw [Tryd.params4] at hsz
  have hr3 : n3 * 8 ≤ 140737488351232 := by
    rcases slice_data Tryd.underlying23 g3 with ⟨_, h⟩ | ⟨el, sp, hd, hl⟩
    · rw [h]; omega
    · have := sized_slice hsz (j := 3) (t := 23) (e := 3) rfl (by rw [hd]; rfl) Tryd.underlying23
      rw [show Tryd.prog.bytesOf 3 = 8 by kernel_rfl] at this
      simp only [reachBytes] at this
      omega
  clear hA0 hval0
  refine (walk a0 n0 c0 z0 a1 a2 a3 n3 c3 z3 W h0 h1 h2 h3 (handle_of_laid hL) hr3).mono fun e W' ⟨he, bel⟩ => ?_
  subst he
  exact ⟨_, rfl, _, _, _, [], _, [], hW', trodAll_mk1 (shut_bool Tryd.underlying4 _), (trodAll_cons_mk (Below.trod laidOut rd0 ls0 k0 bel lt0) (trodAll_cons_mk (shut_int Tryd.underlying3 u1) (trodAll_cons_mk (shut_int Tryd.underlying3 u2) (trodAll_cons_mk (Below.trod laidOut rd3 ls3 k3 bel lt3) trodAll_mk0)))), rfl, bel.frame _, fun h => by cases h⟩

theorem over : Rows.orderTellsRow.holds Tryd.pinned (OpenSpec.ofChange Rows.orderTellsSpec) :=
  OpenClaim.holds_of_wide 4 Tryd.f4 rfl rfl rfl rfl rfl rfl rfl ⟨rfl, rfl, rfl, rfl, rfl⟩ rfl rfl rfl rfl rfl (by kernel_rfl) Tryd.func4 (by kernel_rfl)
    (of_decide_eq_true (by kernel_rfl)) (by unfold Func.isWrapper; rw [if_neg (of_decide_eq_false (by kernel_rfl))]; exact ⟨rfl, rfl⟩)
    (fun os started H enc _ => lifted os started H enc)

theorem card : Rows.OrderTellsCardSaid :=
  Claim7.holds_tied_plain_at .later [] [.handle] true (true, Rows.orderTellsCard.stood.harness.2) true
    over (fun _ h => by cases h) (by kernel_rfl) (fun _ h => by cases h) orderTells_row_tie rfl ⟨rfl, rfl⟩ (by kernel_rfl) rfl
    (fun f fn hf hfn => by
      obtain rfl : f = 4 := Option.some.inj ((show Tryd.prog.funcNamed "noonmark/noonlaw2.OrderTells" = some 4 by kernel_rfl).symm.trans hf) |>.symm
      obtain rfl : fn = Tryd.f4 := (Option.some.inj (Tryd.func4.symm.trans hfn)).symm
      exact ⟨by kernel_rfl, fun j t ht => by
        rw [Tryd.params4] at ht
        exact noStandIn (ps := #[22, 3, 3, 23]) (by kernel_rfl) ht⟩)
    (by kernel_rfl)

end Go.Proofs.YthclepohilekaaaDoor.lOrderTells
