/- A letter read from bytes, walked (all orders of one region: minutes). -/
import Derived.Test.YtfjpfkejajgkbaaHWireR
namespace Go.Proofs.Ytfjpfkejajgkbaa
open Go.RowKit
set_option linter.unusedVariables false
set_option linter.unusedSimpArgs false
set_option maxRecDepth 100000 in
set_option maxHeartbeats 8000000 in
theorem wire_ReadLetter_l (s : ByteArray) (w : World) (hs : s.size = 10 ∨ s.size = 22) :
    Calls Try.prog 14 #[.string s] w fun e w' => e = .returned (.tuple #[.agg #[.int .i64 (readL s.data.toList).src, .int .i64 (readL s.data.toList).dst, .bool (readL s.data.toList).answer, .int .i64 (readL s.data.toList).t1, .int .i64 (readL s.data.toList).t2, .int .i64 (readL s.data.toList).t], errV (readC s.data.toList)]) ∧ Below w.heap.size w w' := by
  have h1 : 10 ≤ s.size := by omega
  have h2 : s.size ≤ 22 := by omega
  have h4 : (3 : Int) ≤ (s.size : Int) := by omega
  have q0 : 0 < s.size := by omega
  have q1 : 1 < s.size := by omega
  have q2 : 2 < s.size := by omega
  obtain ⟨l, hl⟩ : ∃ l, s.data.toList = l := ⟨_, rfl⟩
  have hll : l.length = s.size := by rw [← hl]; rfl
  have x0 := fun w => idx_str s 0 q0 0 rfl w
  have x1 := fun w => idx_str s 1 q1 1 rfl w
  have x2 := fun w => idx_str s 2 q2 2 rfl w
  simp only [hl] at x0 x1 x2
  obtain ⟨y0, z0⟩ := byte_bd l 0
  obtain ⟨y1, z1⟩ := byte_bd l 1
  obtain ⟨y2, z2⟩ := byte_bd l 2
  have bq := byte_one l 2
  obtain ⟨c0, e0⟩ : ∃ c : Int, ((l.getD 0 0).toNat : Int) = c := ⟨_, rfl⟩
  obtain ⟨c1, e1⟩ : ∃ c : Int, ((l.getD 1 0).toNat : Int) = c := ⟨_, rfl⟩
  obtain ⟨c2, e2⟩ : ∃ c : Int, ((l.getD 2 0).toNat : Int) = c := ⟨_, rfl⟩
  obtain ⟨q, eq⟩ : ∃ q : Bool, (l.getD 2 0 == 1) = q := ⟨_, rfl⟩
  obtain ⟨T, eT⟩ : ∃ T : Int, getB ((l.drop 3).take 6) = T := ⟨_, rfl⟩
  obtain ⟨T1, eT1⟩ : ∃ T : Int, getB ((l.drop 9).take 6) = T := ⟨_, rfl⟩
  obtain ⟨T2, eT2⟩ : ∃ T : Int, getB ((l.drop 15).take 6) = T := ⟨_, rfl⟩
  simp only [e0] at x0
  simp only [e1] at x1
  simp only [e2] at x2
  rw [e0] at y0 z0
  rw [e1] at y1 z1
  rw [e2] at y2 z2 bq
  rw [eq] at bq
  have P10 : Hid (s.size = 10 → parB l = ⟨c0, c1, q, 0, 0, T⟩) := Lib.hid (fun h => by unfold parB; rw [e0, e1, eq, eT, if_neg (by omega), if_neg (by omega)])
  have P22 : Hid (s.size = 22 → parB l = ⟨c0, c1, q, T1, T2, T⟩) := Lib.hid (fun h => by unfold parB; rw [e0, e1, eq, eT, eT1, eT2, if_pos (by omega), if_pos (by omega)])
  have g0 : ∀ W : World, Calls Try.prog 30 #[.string (s.extract 3 s.size)] W fun e w' => e = .returned (.int .i64 T) ∧ Below W.heap.size W w' := fun W => by
    have := wire_get (s.extract 3 s.size) W (by rw [strSub_size _ _ _ (Nat.le_refl _)]; omega) (by rw [strSub_size _ _ _ (Nat.le_refl _)]; unfold maxLen; omega)
    rwa [strSub_take _ _ _ (Nat.le_refl _) (by omega), hl, eT] at this
  have g1 : s.size = 22 → ∀ W : World, Calls Try.prog 30 #[.string (s.extract 9 s.size)] W fun e w' => e = .returned (.int .i64 T1) ∧ Below W.heap.size W w' := fun hh W => by
    have := wire_get (s.extract 9 s.size) W (by rw [strSub_size _ _ _ (Nat.le_refl _)]; omega) (by rw [strSub_size _ _ _ (Nat.le_refl _)]; unfold maxLen; omega)
    rwa [strSub_take _ _ _ (Nat.le_refl _) (by omega), hl, eT1] at this
  have g2 : s.size = 22 → ∀ W : World, Calls Try.prog 30 #[.string (s.extract 15 s.size)] W fun e w' => e = .returned (.int .i64 T2) ∧ Below W.heap.size W w' := fun hh W => by
    have := wire_get (s.extract 15 s.size) W (by rw [strSub_size _ _ _ (Nat.le_refl _)]; omega) (by rw [strSub_size _ _ _ (Nat.le_refl _)]; unfold maxLen; omega)
    rwa [strSub_take _ _ _ (Nat.le_refl _) (by omega), hl, eT2] at this
  have u0 := IntWalk.i64_in c0 (by omega)
  have u1 := IntWalk.i64_in c1 (by omega)
  have HS := Lib.hid hs
  have G0 := Lib.hid g0
  have G1 := Lib.hid g1
  have G2 := Lib.hid g2
  have HL := Lib.hid hl
  have HLL := Lib.hid hll
  rw [hl]
  clear g0 g1 g2 hs hl hll e0 e1 e2 eq eT eT1 eT2
  go_enter Try.func14, Try.ntmps14
  go_upto_region 1 with (fail)
  go_cut [14] (fun s14 wx => s14 = .bool false ∧ wx = (w.alloc (.cells #[.int .i64 0, .int .i64 0, .bool false, .int .i64 0, .int .i64 0, .int .i64 0] 48)))
  case first =>
    clear x0 x1 x2
    rcases HS.out with hh | hh
    · have h3 : ((s.size : Int) != 10) = false := by simp; omega
      have HH := Lib.hid hh
      clear hh
      go_wp2_with fail
      go_meet
      case rel => exact ⟨rfl, rfl⟩
    · have h3 : ((s.size : Int) != 10) = true := by simp; omega
      have h5 : ((s.size : Int) != 22) = false := by simp; omega
      have HH := Lib.hid hh
      clear hh
      go_wp2_with fail
      go_meet
      case rel => exact ⟨rfl, rfl⟩
  case rest =>
  obtain ⟨rfl, rfl⟩ := hcut
  go_upto_region 3 with (fail)
  go_cut [4] (fun s4 wx => ∃ g, s4 = .pointer (some ⟨g, 0, none⟩) ∧ Blk wx g 48 #[.int .i64 c0, .int .i64 c1, .bool q, .int .i64 0, .int .i64 0, .int .i64 T] ∧ Blk wx w.heap.size 48 #[.int .i64 0, .int .i64 0, .bool false, .int .i64 0, .int .i64 0, .int .i64 0] ∧ w.heap.size < g ∧ Below w.heap.size w wx)
  case first =>
    go_region_held3 (fun _ => True) (exact trivial)
      (first | (go_at_call 30; (with_reducible refine (G0.out _).mono ?_); rintro e w1 ⟨rfl, hb1⟩; obtain ⟨hc1, hf1⟩ := bcell hb1; have hz1 := hb1.size; (try simp at hz1); (try have q1_0_0_0 : w.heap.size < w1.heap.size := by omega); (try have q1_0_0_2 : w.heap.size < w1.heap.size + 1 + 1 := by omega); (try have q1_0_0_3 : w.heap.size < w1.heap.size + 1 + 1 + 1 := by omega); (try have q1_0_1_0 : w.heap.size + 1 < w1.heap.size := by omega); (try have q1_0_1_2 : w.heap.size + 1 < w1.heap.size + 1 + 1 := by omega); (try have q1_0_1_3 : w.heap.size + 1 < w1.heap.size + 1 + 1 + 1 := by omega); (try have q1_0_2_0 : w.heap.size + 1 + 1 < w1.heap.size := by omega); (try have q1_0_2_2 : w.heap.size + 1 + 1 < w1.heap.size + 1 + 1 := by omega); (try have q1_0_2_3 : w.heap.size + 1 + 1 < w1.heap.size + 1 + 1 + 1 := by omega); (try have q1_0_3_0 : w.heap.size + 1 + 1 + 1 < w1.heap.size := by omega); (try have q1_0_3_2 : w.heap.size + 1 + 1 + 1 < w1.heap.size + 1 + 1 := by omega); (try have q1_0_3_3 : w.heap.size + 1 + 1 + 1 < w1.heap.size + 1 + 1 + 1 := by omega)))
    all_goals
      go_wp2_with fail
      go_meet
    all_goals
      case rel => exact ⟨_, rfl, (by apply Blk.conv; (focus (repeat (first | (with_reducible assumption) | ((with_reducible apply Blk.newAt); first | (with_reducible rfl) | (simp; done) | omega) | (with_reducible apply Blk.drew) | (with_reducible apply Blk.drewN) | (with_reducible apply Blk.set) | ((with_reducible apply Blk.far); rotate_left 1; focus (first | omega | (simp; done) | (simp; omega))) | (with_reducible apply Blk.alloc) | ((with_reducible apply blk_bel (by with_reducible assumption)); focus (first | omega | (simp; done) | (simp; omega)))))); exact rfl), (by apply Blk.conv; (focus (repeat (first | (with_reducible assumption) | ((with_reducible apply Blk.newAt); first | (with_reducible rfl) | (simp; done) | omega) | (with_reducible apply Blk.drew) | (with_reducible apply Blk.drewN) | (with_reducible apply Blk.set) | ((with_reducible apply Blk.far); rotate_left 1; focus (first | omega | (simp; done) | (simp; omega))) | (with_reducible apply Blk.alloc) | ((with_reducible apply blk_bel (by with_reducible assumption)); focus (first | omega | (simp; done) | (simp; omega)))))); exact rfl), by first | omega | (simp; done) | (simp; omega), (by repeat (first | with_reducible exact Below.refl _ _ | (with_reducible refine Below.alloc ?_ (by first | omega | (simp; done) | (simp; omega)) _) | (with_reducible refine Below.setCell ?_ (by first | omega | (simp; done) | (simp; omega)) _) | (with_reducible refine Below.drew ?_) | (with_reducible refine below_drewN ?_ _) | (with_reducible assumption) | (with_reducible refine bel_step (by with_reducible assumption) ?_ (by first | omega | (simp; done) | (simp; omega)))))⟩
  case rest =>
    obtain ⟨g, rfl, hK, hR, hg, hB⟩ := hcut
    clear u0 u1 x0 x1 x2
    rcases HS.out with hh | hh
    · have P := Lib.hid (P10.out hh)
      have hx : (s.size : Int) ≤ 10 := by omega
      have HS := Lib.hid hh
      clear hh P10 P22 G1 G2 G0
      have K0 := hK.cell 0
      have K1 := hK.cell 1
      have K2 := hK.cell 2
      have K3 := hK.cell 3
      have K4 := hK.cell 4
      have K5 := hK.cell 5
      have kf := fun o => hK.fz o
      have kl := hK.lt
      have R0 := hR.cell 0
      have R1 := hR.cell 1
      have R2 := hR.cell 2
      have R3 := hR.cell 3
      have R4 := hR.cell 4
      have R5 := hR.cell 5
      have rf := fun o => hR.fz o
      have rl := hR.lt
      simp at K0 K1 K2 K3 K4 K5 R0 R1 R2 R3 R4 R5
      have HB := Lib.hid hB
      clear hK hR hB  bq
      go_wp2_with fail
      refine (wire_Letter ⟨_, _, _, _, _, _⟩ _).mono ?_
      rintro e w5 ⟨rfl, hb5⟩
      rw [← P.out]
      obtain ⟨hc5, hf5⟩ := bcell hb5
      have hz5 := hb5.size
      (try simp at hz5)
      have rl5 : w.heap.size < w5.heap.size := by omega
      have kl5 : g < w5.heap.size := by omega
      have hB0 := HB.out
      have hB5 : Below w.heap.size w w5 := (by repeat (first | with_reducible exact Below.refl _ _ | (with_reducible refine Below.alloc ?_ (by first | omega | (simp; done) | (simp; omega)) _) | (with_reducible refine Below.setCell ?_ (by first | omega | (simp; done) | (simp; omega)) _) | (with_reducible refine Below.drew ?_) | (with_reducible refine below_drewN ?_ _) | (with_reducible assumption) | (with_reducible refine bel_step (by with_reducible assumption) ?_ (by first | omega | (simp; done) | (simp; omega)))))
      by_cases d1 : letC (parB l) = 0
      · by_cases d2 : letB (parB l) = l
        · have HO : readOk l = true := by unfold readOk; rw [HLL.out]; simp [HS.out, d1, d2]
          have HV := Lib.hid (show readC l = 0 by unfold readC; rw [if_pos HO])
          have HV3 := Lib.hid (show readL l = ⟨c0, c1, q, 0, 0, T⟩ by unfold readL; rw [if_pos HO]; exact P.out)
          have d4 : letS (parB l) = s := by
            have d3 : s.data.toList = letB (parB l) := by rw [d2]; exact HL.out
            unfold letS
            rw [if_pos d1, ← d3]
          rw [d1, d4]
          clear d4 d2 HO
          go_wp2_with fail
          rw [HV3.out, HV.out]
          refine bodyPost_ret (v := (.tuple #[.agg #[.int .i64 c0, .int .i64 c1, .bool q, .int .i64 0, .int .i64 0, .int .i64 T], errV 0])) (by simp [results, Try.results14, go_sem, errV, okC, *]) rfl ⟨rfl, ?_⟩; exact (by repeat (first | with_reducible exact Below.refl _ _ | (with_reducible refine Below.alloc ?_ (by first | omega | (simp; done) | (simp; omega)) _) | (with_reducible refine Below.setCell ?_ (by first | omega | (simp; done) | (simp; omega)) _) | (with_reducible refine Below.drew ?_) | (with_reducible refine below_drewN ?_ _) | (with_reducible assumption) | (with_reducible refine bel_step (by with_reducible assumption) ?_ (by first | omega | (simp; done) | (simp; omega)))))
        · have HO : readOk l = false := by unfold readOk; simp [d2]
          have HV := Lib.hid (show readC l = 2 by unfold readC; rw [if_neg (by rw [HO]; simp)])
          have HV3 := Lib.hid (show readL l = ⟨0, 0, false, 0, 0, 0⟩ by unfold readL; rw [if_neg (by rw [HO]; simp)]; rfl)
          have d3 : (letB (parB l) == s.toList) = false := by rw [beq_eq_false_iff_ne, show s.toList = s.data.toList from ByteArray.toList_eq s, HL.out]; exact d2
          have d4 : letS (parB l) = ⟨(letB (parB l)).toArray⟩ := by unfold letS; rw [if_pos d1]
          rw [d1, d4]
          clear d4 HO
          go_wp2_with fail
          rw [HV3.out, HV.out]
          refine bodyPost_ret (v := (.tuple #[.agg #[.int .i64 0, .int .i64 0, .bool false, .int .i64 0, .int .i64 0, .int .i64 0], errV 2])) (by simp [results, Try.results14, go_sem, errV, okC, *]) rfl ⟨rfl, ?_⟩; exact (by repeat (first | with_reducible exact Below.refl _ _ | (with_reducible refine Below.alloc ?_ (by first | omega | (simp; done) | (simp; omega)) _) | (with_reducible refine Below.setCell ?_ (by first | omega | (simp; done) | (simp; omega)) _) | (with_reducible refine Below.drew ?_) | (with_reducible refine below_drewN ?_ _) | (with_reducible assumption) | (with_reducible refine bel_step (by with_reducible assumption) ?_ (by first | omega | (simp; done) | (simp; omega)))))
      · have HO : readOk l = false := by unfold readOk; simp [d1]
        have HV := Lib.hid (show readC l = 2 by unfold readC; rw [if_neg (by rw [HO]; simp)])
        have HV3 := Lib.hid (show readL l = ⟨0, 0, false, 0, 0, 0⟩ by unfold readL; rw [if_neg (by rw [HO]; simp)]; rfl)
        have he := errV_13 (show letC (parB l) = 1 ∨ letC (parB l) = 3 by have := letC_013 (parB l); omega)
        rw [he]
        clear he HO
        go_wp2_with fail
        rw [HV3.out, HV.out]
        refine bodyPost_ret (v := (.tuple #[.agg #[.int .i64 0, .int .i64 0, .bool false, .int .i64 0, .int .i64 0, .int .i64 0], errV 2])) (by simp [results, Try.results14, go_sem, errV, okC, *]) rfl ⟨rfl, ?_⟩; exact (by repeat (first | with_reducible exact Below.refl _ _ | (with_reducible refine Below.alloc ?_ (by first | omega | (simp; done) | (simp; omega)) _) | (with_reducible refine Below.setCell ?_ (by first | omega | (simp; done) | (simp; omega)) _) | (with_reducible refine Below.drew ?_) | (with_reducible refine below_drewN ?_ _) | (with_reducible assumption) | (with_reducible refine bel_step (by with_reducible assumption) ?_ (by first | omega | (simp; done) | (simp; omega)))))
    · have P := Lib.hid (P22.out hh)
      have hx : (10 : Int) < (s.size : Int) := by omega
      have h6 : (9 : Int) ≤ (s.size : Int) := by omega
      have h7 : (15 : Int) ≤ (s.size : Int) := by omega
      have HS := Lib.hid hh
      have G1 := Lib.hid (G1.out hh)
      have G2 := Lib.hid (G2.out hh)
      clear hh P10 P22 G0
      obtain ⟨wo, hwo⟩ : ∃ wo : World, wo = wc := ⟨_, rfl⟩
      subst hwo
      go_upto_region 5 with (fail)
      go_cut [33] (fun s33 wx => Blk wx g 48 #[.int .i64 c0, .int .i64 c1, .bool q, .int .i64 T1, .int .i64 T2, .int .i64 T] ∧ Blk wx w.heap.size 48 #[.int .i64 0, .int .i64 0, .bool false, .int .i64 0, .int .i64 0, .int .i64 0] ∧ Below w.heap.size w wx)
      case first =>
        have gl := hK.lt
        have rl := hR.lt
        have kf := fun o => hK.fz o
        have K3 := hK.cell 3
        have K4 := hK.cell 4
        simp at K3 K4
        go_region_held3 (fun _ => True) (exact trivial)
          (first | ((go_at_call 30; (with_reducible refine (G1.out _).mono ?_); rintro e w1 ⟨rfl, hb1⟩; obtain ⟨hc1, hf1⟩ := bcell hb1; have hz1 := hb1.size; (try simp at hz1); (try have q1_0_0_0 : w.heap.size < w1.heap.size := by omega); (try have q1_0_0_2 : w.heap.size < w1.heap.size + 1 + 1 := by omega); (try have q1_0_0_3 : w.heap.size < w1.heap.size + 1 + 1 + 1 := by omega); (try have q1_0_1_0 : w.heap.size + 1 < w1.heap.size := by omega); (try have q1_0_1_2 : w.heap.size + 1 < w1.heap.size + 1 + 1 := by omega); (try have q1_0_1_3 : w.heap.size + 1 < w1.heap.size + 1 + 1 + 1 := by omega); (try have q1_0_2_0 : w.heap.size + 1 + 1 < w1.heap.size := by omega); (try have q1_0_2_2 : w.heap.size + 1 + 1 < w1.heap.size + 1 + 1 := by omega); (try have q1_0_2_3 : w.heap.size + 1 + 1 < w1.heap.size + 1 + 1 + 1 := by omega); (try have q1_0_3_0 : w.heap.size + 1 + 1 + 1 < w1.heap.size := by omega); (try have q1_0_3_2 : w.heap.size + 1 + 1 + 1 < w1.heap.size + 1 + 1 := by omega); (try have q1_0_3_3 : w.heap.size + 1 + 1 + 1 < w1.heap.size + 1 + 1 + 1 := by omega)); have gl1 : g < w1.heap.size := (by first | omega | (simp at *; omega)); have z31 : ∃ v, w1.cell? ⟨g, 3, none⟩ = some v := ⟨_, (hb1.cell (p := ⟨g, 3, none⟩) (by first | omega | (simp; omega))).trans (by first | assumption | (simp [*]; done))⟩; have z41 : ∃ v, w1.cell? ⟨g, 4, none⟩ = some v := ⟨_, (hb1.cell (p := ⟨g, 4, none⟩) (by first | omega | (simp; omega))).trans (by first | assumption | (simp [*]; done))⟩; have zf1 : ∀ o, w1.frozen? ⟨g, o, none⟩ = false := fun o => (hb1.frozen (p := ⟨g, o, none⟩) (by first | omega | (simp; omega))).trans (by first | exact kf o | exact zf1 o); obtain ⟨y31, z31⟩ := z31; obtain ⟨y41, z41⟩ := z41) | ((go_at_call 30; (with_reducible refine (G2.out _).mono ?_); rintro e w2 ⟨rfl, hb2⟩; obtain ⟨hc2, hf2⟩ := bcell hb2; have hz2 := hb2.size; (try simp at hz2); (try have q2_0_0_0 : w.heap.size < w2.heap.size := by omega); (try have q2_0_0_2 : w.heap.size < w2.heap.size + 1 + 1 := by omega); (try have q2_0_0_3 : w.heap.size < w2.heap.size + 1 + 1 + 1 := by omega); (try have q2_0_1_0 : w.heap.size + 1 < w2.heap.size := by omega); (try have q2_0_1_2 : w.heap.size + 1 < w2.heap.size + 1 + 1 := by omega); (try have q2_0_1_3 : w.heap.size + 1 < w2.heap.size + 1 + 1 + 1 := by omega); (try have q2_0_2_0 : w.heap.size + 1 + 1 < w2.heap.size := by omega); (try have q2_0_2_2 : w.heap.size + 1 + 1 < w2.heap.size + 1 + 1 := by omega); (try have q2_0_2_3 : w.heap.size + 1 + 1 < w2.heap.size + 1 + 1 + 1 := by omega); (try have q2_0_3_0 : w.heap.size + 1 + 1 + 1 < w2.heap.size := by omega); (try have q2_0_3_2 : w.heap.size + 1 + 1 + 1 < w2.heap.size + 1 + 1 := by omega); (try have q2_0_3_3 : w.heap.size + 1 + 1 + 1 < w2.heap.size + 1 + 1 + 1 := by omega); (try have q2_1_0_0 : w1.heap.size < w2.heap.size := by omega); (try have q2_1_0_2 : w1.heap.size < w2.heap.size + 1 + 1 := by omega); (try have q2_1_1_0 : w1.heap.size + 1 < w2.heap.size := by omega); (try have q2_1_1_2 : w1.heap.size + 1 < w2.heap.size + 1 + 1 := by omega)); have gl2 : g < w2.heap.size := (by first | omega | (simp at *; omega)); have z32 : ∃ v, w2.cell? ⟨g, 3, none⟩ = some v := ⟨_, (hb2.cell (p := ⟨g, 3, none⟩) (by first | omega | (simp; omega))).trans (by first | assumption | (simp [*]; done))⟩; have z42 : ∃ v, w2.cell? ⟨g, 4, none⟩ = some v := ⟨_, (hb2.cell (p := ⟨g, 4, none⟩) (by first | omega | (simp; omega))).trans (by first | assumption | (simp [*]; done))⟩; have zf2 : ∀ o, w2.frozen? ⟨g, o, none⟩ = false := fun o => (hb2.frozen (p := ⟨g, o, none⟩) (by first | omega | (simp; omega))).trans (by first | exact kf o | exact zf1 o); obtain ⟨y32, z32⟩ := z32; obtain ⟨y42, z42⟩ := z42))
        all_goals
          go_wp2_with fail
          go_meet
        all_goals
          case rel => exact ⟨(by apply Blk.conv; (focus (repeat (first | (with_reducible assumption) | ((with_reducible apply Blk.newAt); first | (with_reducible rfl) | (simp; done) | omega) | (with_reducible apply Blk.drew) | (with_reducible apply Blk.drewN) | (with_reducible apply Blk.set) | ((with_reducible apply Blk.far); rotate_left 1; focus (first | omega | (simp; done) | (simp; omega))) | (with_reducible apply Blk.alloc) | ((with_reducible apply blk_bel (by with_reducible assumption)); focus (first | omega | (simp; done) | (simp; omega)))))); exact rfl), (by apply Blk.conv; (focus (repeat (first | (with_reducible assumption) | ((with_reducible apply Blk.newAt); first | (with_reducible rfl) | (simp; done) | omega) | (with_reducible apply Blk.drew) | (with_reducible apply Blk.drewN) | (with_reducible apply Blk.set) | ((with_reducible apply Blk.far); rotate_left 1; focus (first | omega | (simp; done) | (simp; omega))) | (with_reducible apply Blk.alloc) | ((with_reducible apply blk_bel (by with_reducible assumption)); focus (first | omega | (simp; done) | (simp; omega)))))); exact rfl), (by repeat (first | with_reducible exact Below.refl _ _ | (with_reducible refine Below.alloc ?_ (by first | omega | (simp; done) | (simp; omega)) _) | (with_reducible refine Below.setCell ?_ (by first | omega | (simp; done) | (simp; omega)) _) | (with_reducible refine Below.drew ?_) | (with_reducible refine below_drewN ?_ _) | (with_reducible assumption) | (with_reducible refine bel_step (by with_reducible assumption) ?_ (by first | omega | (simp; done) | (simp; omega)))))⟩
      case rest =>
        obtain ⟨hK, hR, hB⟩ := hcut
        have K0 := hK.cell 0
        have K1 := hK.cell 1
        have K2 := hK.cell 2
        have K3 := hK.cell 3
        have K4 := hK.cell 4
        have K5 := hK.cell 5
        have kf := fun o => hK.fz o
        have kl := hK.lt
        have R0 := hR.cell 0
        have R1 := hR.cell 1
        have R2 := hR.cell 2
        have R3 := hR.cell 3
        have R4 := hR.cell 4
        have R5 := hR.cell 5
        have rf := fun o => hR.fz o
        have rl := hR.lt
        simp at K0 K1 K2 K3 K4 K5 R0 R1 R2 R3 R4 R5
        have HB := Lib.hid hB
        clear hK hR hB  bq
        go_wp2_with fail
        refine (wire_Letter ⟨_, _, _, _, _, _⟩ _).mono ?_
        rintro e w5 ⟨rfl, hb5⟩
        rw [← P.out]
        obtain ⟨hc5, hf5⟩ := bcell hb5
        have hz5 := hb5.size
        (try simp at hz5)
        have rl5 : w.heap.size < w5.heap.size := by omega
        have kl5 : g < w5.heap.size := by omega
        have hB0 := HB.out
        have hB5 : Below w.heap.size w w5 := (by repeat (first | with_reducible exact Below.refl _ _ | (with_reducible refine Below.alloc ?_ (by first | omega | (simp; done) | (simp; omega)) _) | (with_reducible refine Below.setCell ?_ (by first | omega | (simp; done) | (simp; omega)) _) | (with_reducible refine Below.drew ?_) | (with_reducible refine below_drewN ?_ _) | (with_reducible assumption) | (with_reducible refine bel_step (by with_reducible assumption) ?_ (by first | omega | (simp; done) | (simp; omega)))))
        by_cases d1 : letC (parB l) = 0
        · by_cases d2 : letB (parB l) = l
          · have HO : readOk l = true := by unfold readOk; rw [HLL.out]; simp [HS.out, d1, d2]
            have HV := Lib.hid (show readC l = 0 by unfold readC; rw [if_pos HO])
            have HV3 := Lib.hid (show readL l = ⟨c0, c1, q, T1, T2, T⟩ by unfold readL; rw [if_pos HO]; exact P.out)
            have d4 : letS (parB l) = s := by
              have d3 : s.data.toList = letB (parB l) := by rw [d2]; exact HL.out
              unfold letS
              rw [if_pos d1, ← d3]
            rw [d1, d4]
            clear d4 d2 HO
            go_wp2_with fail
            rw [HV3.out, HV.out]
            refine bodyPost_ret (v := (.tuple #[.agg #[.int .i64 c0, .int .i64 c1, .bool q, .int .i64 T1, .int .i64 T2, .int .i64 T], errV 0])) (by simp [results, Try.results14, go_sem, errV, okC, *]) rfl ⟨rfl, ?_⟩; exact (by repeat (first | with_reducible exact Below.refl _ _ | (with_reducible refine Below.alloc ?_ (by first | omega | (simp; done) | (simp; omega)) _) | (with_reducible refine Below.setCell ?_ (by first | omega | (simp; done) | (simp; omega)) _) | (with_reducible refine Below.drew ?_) | (with_reducible refine below_drewN ?_ _) | (with_reducible assumption) | (with_reducible refine bel_step (by with_reducible assumption) ?_ (by first | omega | (simp; done) | (simp; omega)))))
          · have HO : readOk l = false := by unfold readOk; simp [d2]
            have HV := Lib.hid (show readC l = 2 by unfold readC; rw [if_neg (by rw [HO]; simp)])
            have HV3 := Lib.hid (show readL l = ⟨0, 0, false, 0, 0, 0⟩ by unfold readL; rw [if_neg (by rw [HO]; simp)]; rfl)
            have d3 : (letB (parB l) == s.toList) = false := by rw [beq_eq_false_iff_ne, show s.toList = s.data.toList from ByteArray.toList_eq s, HL.out]; exact d2
            have d4 : letS (parB l) = ⟨(letB (parB l)).toArray⟩ := by unfold letS; rw [if_pos d1]
            rw [d1, d4]
            clear d4 HO
            go_wp2_with fail
            rw [HV3.out, HV.out]
            refine bodyPost_ret (v := (.tuple #[.agg #[.int .i64 0, .int .i64 0, .bool false, .int .i64 0, .int .i64 0, .int .i64 0], errV 2])) (by simp [results, Try.results14, go_sem, errV, okC, *]) rfl ⟨rfl, ?_⟩; exact (by repeat (first | with_reducible exact Below.refl _ _ | (with_reducible refine Below.alloc ?_ (by first | omega | (simp; done) | (simp; omega)) _) | (with_reducible refine Below.setCell ?_ (by first | omega | (simp; done) | (simp; omega)) _) | (with_reducible refine Below.drew ?_) | (with_reducible refine below_drewN ?_ _) | (with_reducible assumption) | (with_reducible refine bel_step (by with_reducible assumption) ?_ (by first | omega | (simp; done) | (simp; omega)))))
        · have HO : readOk l = false := by unfold readOk; simp [d1]
          have HV := Lib.hid (show readC l = 2 by unfold readC; rw [if_neg (by rw [HO]; simp)])
          have HV3 := Lib.hid (show readL l = ⟨0, 0, false, 0, 0, 0⟩ by unfold readL; rw [if_neg (by rw [HO]; simp)]; rfl)
          have he := errV_13 (show letC (parB l) = 1 ∨ letC (parB l) = 3 by have := letC_013 (parB l); omega)
          rw [he]
          clear he HO
          go_wp2_with fail
          rw [HV3.out, HV.out]
          refine bodyPost_ret (v := (.tuple #[.agg #[.int .i64 0, .int .i64 0, .bool false, .int .i64 0, .int .i64 0, .int .i64 0], errV 2])) (by simp [results, Try.results14, go_sem, errV, okC, *]) rfl ⟨rfl, ?_⟩; exact (by repeat (first | with_reducible exact Below.refl _ _ | (with_reducible refine Below.alloc ?_ (by first | omega | (simp; done) | (simp; omega)) _) | (with_reducible refine Below.setCell ?_ (by first | omega | (simp; done) | (simp; omega)) _) | (with_reducible refine Below.drew ?_) | (with_reducible refine below_drewN ?_ _) | (with_reducible assumption) | (with_reducible refine bel_step (by with_reducible assumption) ?_ (by first | omega | (simp; done) | (simp; omega)))))
set_option maxHeartbeats 1000000 in
theorem wire_ReadLetter_n (s : ByteArray) (w : World) (h1 : s.size ≠ 10) (h2 : s.size ≠ 22) :
    Calls Try.prog 14 #[.string s] w fun e w' => e = .returned (.tuple #[.agg #[.int .i64 (readL s.data.toList).src, .int .i64 (readL s.data.toList).dst, .bool (readL s.data.toList).answer, .int .i64 (readL s.data.toList).t1, .int .i64 (readL s.data.toList).t2, .int .i64 (readL s.data.toList).t], errV (readC s.data.toList)]) ∧ Below w.heap.size w w' := by
  have HO : readOk s.data.toList = false := by
    unfold readOk
    have : s.data.toList.length = s.size := rfl
    rw [this]; simp [h1, h2]
  have HV := Lib.hid (show readC s.data.toList = 2 by first | exact HO | (unfold readC; rw [if_neg (by rw [HO]; simp)]))
  have HV3 := Lib.hid (show readL s.data.toList = ⟨0, 0, false, 0, 0, 0⟩ by unfold readL; rw [if_neg (by rw [HO]; simp)]; rfl)
  rw [HV3.out, HV.out]
  have h3 : ((s.size : Int) != 10) = true := by simp; omega
  have h4 : ((s.size : Int) != 22) = true := by simp; omega
  clear h1 h2 HO
  go_enter Try.func14, Try.ntmps14
  go_wp2_with fail
  refine bodyPost_ret (v := (.tuple #[.agg #[.int .i64 0, .int .i64 0, .bool false, .int .i64 0, .int .i64 0, .int .i64 0], errV 2])) (by simp [results, Try.results14, go_sem, errV, okC, *]) rfl ⟨rfl, ?_⟩; exact (by repeat (first | with_reducible exact Below.refl _ _ | (with_reducible refine Below.alloc ?_ (by first | omega | (simp; done) | (simp; omega)) _) | (with_reducible refine Below.setCell ?_ (by first | omega | (simp; done) | (simp; omega)) _) | (with_reducible refine Below.drew ?_) | (with_reducible refine below_drewN ?_ _) | (with_reducible assumption) | (with_reducible refine bel_step (by with_reducible assumption) ?_ (by first | omega | (simp; done) | (simp; omega)))))
theorem wire_ReadLetter (s : ByteArray) (w : World) :
    Calls Try.prog 14 #[.string s] w fun e w' => e = .returned (.tuple #[.agg #[.int .i64 (readL s.data.toList).src, .int .i64 (readL s.data.toList).dst, .bool (readL s.data.toList).answer, .int .i64 (readL s.data.toList).t1, .int .i64 (readL s.data.toList).t2, .int .i64 (readL s.data.toList).t], errV (readC s.data.toList)]) ∧ Below w.heap.size w w' := by
  by_cases h1 : s.size = 10
  · exact wire_ReadLetter_l s w (.inl h1)
  · by_cases h2 : s.size = 22
    · exact wire_ReadLetter_l s w (.inr h2)
    · exact wire_ReadLetter_n s w h1 h2
end Go.Proofs.Ytfjpfkejajgkbaa
