/- The reference's letter read from bytes, walked. -/
import Derived.Test.YtkejdfpdehchcaaDoorWireR
namespace Go.Proofs.YtkejdfpdehchcaaDoor
open Go.RowKit
set_option linter.unusedVariables false
set_option linter.unusedSimpArgs false
set_option maxRecDepth 100000 in
set_option maxHeartbeats 8000000 in
theorem r2_ReadBytes_10 (s : ByteArray) (w : World) (hs : s.size = 10) :
    Calls Tryd.prog 50 #[.string s] w fun e w' => e = .returned (.tuple #[.agg #[.int .i64 (readL s.data.toList).src, .int .i64 (readL s.data.toList).dst, .bool (readL s.data.toList).answer, .int .i64 (readL s.data.toList).t1, .int .i64 (readL s.data.toList).t2, .int .i64 (readL s.data.toList).t], .bool (readOk s.data.toList)]) ∧ Below w.heap.size w w' := by
  have h1 : 10 ≤ s.size := by omega
  have h2 : s.size ≤ 10 := by omega
  have k1 : (3 : Int) ≤ (s.size : Int) := by omega
  have k2 : (9 : Int) ≤ (s.size : Int) := by omega
  have k3 : (10 : Int) ≤ (s.size : Int) := by omega
  have h3 : ((s.size : Int) != 10) = false := by simp; omega
  have h5 : ((s.size : Int) == 22) = false := by simp; omega
  have q0 : 0 < s.size := by omega
  have q1 : 1 < s.size := by omega
  have x0 := fun w => idx_str s 0 q0 0 rfl w
  have x1 := fun w => idx_str s 1 q1 1 rfl w
  obtain ⟨l, hl⟩ : ∃ l, s.data.toList = l := ⟨_, rfl⟩
  have hll : l.length = s.size := by rw [← hl]; rfl
  simp only [hl] at x0 x1
  obtain ⟨y0, z0⟩ := byte_bd l 0
  obtain ⟨y1, z1⟩ := byte_bd l 1
  obtain ⟨c0, e0⟩ : ∃ c : Int, ((l.getD 0 0).toNat : Int) = c := ⟨_, rfl⟩
  obtain ⟨c1, e1⟩ : ∃ c : Int, ((l.getD 1 0).toNat : Int) = c := ⟨_, rfl⟩
  obtain ⟨T, eT⟩ : ∃ T : Int, getB ((l.drop 3).take 6) = T := ⟨_, rfl⟩
  obtain ⟨T1, eT1⟩ : ∃ T : Int, getB ((l.drop 9).take 6) = T := ⟨_, rfl⟩
  obtain ⟨T2, eT2⟩ : ∃ T : Int, getB ((l.drop 15).take 6) = T := ⟨_, rfl⟩
  simp only [e0] at x0
  simp only [e1] at x1
  rw [e0] at y0 z0
  rw [e1] at y1 z1
  have P := Lib.hid (show parR l = ⟨c0, c1, false, 0, 0, T⟩ by unfold parR parB; rw [e0, e1, eT, eT1, eT2]; simp [hll, hs])
  have g0 : ∀ W : World, Calls Tryd.prog 96 #[.string (s.extract 3 9)] W fun e w' => e = .returned (.int .i64 T) ∧ W = w' := fun W => by
    have := r2_time (s.extract 3 9) W (by rw [strSub_size _ _ _ (by omega)]; omega) (by rw [strSub_size _ _ _ (by omega)]; unfold maxLen; omega)
    rw [strSub_take _ _ _ (by omega) (by omega), hl, eT] at this
    exact this
  have u0 := IntWalk.i64_in c0 (by omega)
  have u1 := IntWalk.i64_in c1 (by omega)
  have G0 := Lib.hid g0
  have HL := Lib.hid hl
  have HLL := Lib.hid hll
  have HS := Lib.hid hs
  rw [hl]
  clear g0 hs hl hll e0 e1 eT eT1 eT2
  go_enter Tryd.func50, Tryd.ntmps50
  go_upto_region 3 with (fail)
  go_cut [4] (fun s4 wx => ∃ g, s4 = .pointer (some ⟨g, 0, none⟩) ∧ Blk wx g 77 #[.int .i64 c0, .int .i64 c1, .bool false, .int .i64 0, .int .i64 0, .int .i64 T] ∧ Blk wx w.heap.size 77 #[.int .i64 0, .int .i64 0, .bool false, .int .i64 0, .int .i64 0, .int .i64 0] ∧ w.heap.size < g ∧ Below w.heap.size w wx)
  case first =>
    go_region_held3 (fun _ => True) (exact trivial)
      (first | (go_at_call 96; (with_reducible refine (G0.out _).mono ?_); rintro e w' ⟨rfl, rfl⟩))
    all_goals
      go_wp2_with fail
      go_meet
    all_goals
      case rel => exact ⟨_, rfl, (by apply Blk.conv; (focus (repeat (first | (with_reducible assumption) | ((with_reducible apply Blk.newAt); first | (with_reducible rfl) | (simp; done) | omega) | (with_reducible apply Blk.drew) | (with_reducible apply Blk.drewN) | (with_reducible apply Blk.set) | ((with_reducible apply Blk.far); rotate_left 1; focus (first | omega | (simp; done) | (simp; omega))) | (with_reducible apply Blk.alloc) | ((with_reducible apply blk_bel (by with_reducible assumption)); focus (first | omega | (simp; done) | (simp; omega)))))); exact rfl), (by apply Blk.conv; (focus (repeat (first | (with_reducible assumption) | ((with_reducible apply Blk.newAt); first | (with_reducible rfl) | (simp; done) | omega) | (with_reducible apply Blk.drew) | (with_reducible apply Blk.drewN) | (with_reducible apply Blk.set) | ((with_reducible apply Blk.far); rotate_left 1; focus (first | omega | (simp; done) | (simp; omega))) | (with_reducible apply Blk.alloc) | ((with_reducible apply blk_bel (by with_reducible assumption)); focus (first | omega | (simp; done) | (simp; omega)))))); exact rfl), by first | omega | (simp; done) | (simp; omega), (by repeat (first | with_reducible exact Below.refl _ _ | (with_reducible refine Below.alloc ?_ (by first | omega | (simp; done) | (simp; omega)) _) | (with_reducible refine Below.setCell ?_ (by first | omega | (simp; done) | (simp; omega)) _) | (with_reducible refine Below.drew ?_) | (with_reducible refine below_drewN ?_ _) | (with_reducible assumption) | (with_reducible refine bel_step (by with_reducible assumption) ?_ (by first | omega | (simp; done) | (simp; omega)))))⟩
  case rest =>
    obtain ⟨g, rfl, hK, hR, hg, hB⟩ := hcut
    have K0 := hK.cell 0
    have K1 := hK.cell 1
    have K2 := hK.cell 2
    have K3 := hK.cell 3
    have K4 := hK.cell 4
    have K5 := hK.cell 5
    have kf := fun o => hK.fz o
    have kl := hK.lt
    have R0 := hR.cell 0
    have R1 := hR.cell 1
    have R2 := hR.cell 2
    have R3 := hR.cell 3
    have R4 := hR.cell 4
    have R5 := hR.cell 5
    have rf := fun o => hR.fz o
    have rl := hR.lt
    simp at K0 K1 K2 K3 K4 K5 R0 R1 R2 R3 R4 R5
    have HB := Lib.hid hB
    clear hK hR hB u0 u1 x0 x1
    go_wp2_with fail
    refine (r2_Letter ⟨_, _, _, _, _, _⟩ _).mono ?_
    rintro e w5 ⟨rfl, hb5⟩
    rw [← P.out]
    obtain ⟨hc5, hf5⟩ := bcell hb5
    have hz5 := hb5.size
    (try simp at hz5)
    have rl5 : w.heap.size < w5.heap.size := by omega
    have kl5 : g < w5.heap.size := by omega
    have hB0 := HB.out
    have hB5 : Below w.heap.size w w5 := (by repeat (first | with_reducible exact Below.refl _ _ | (with_reducible refine Below.alloc ?_ (by first | omega | (simp; done) | (simp; omega)) _) | (with_reducible refine Below.setCell ?_ (by first | omega | (simp; done) | (simp; omega)) _) | (with_reducible refine Below.drew ?_) | (with_reducible refine below_drewN ?_ _) | (with_reducible assumption) | (with_reducible refine bel_step (by with_reducible assumption) ?_ (by first | omega | (simp; done) | (simp; omega)))))
    by_cases d1 : letC (parR l) = 0
    · rw [d1]
      go_wp2_with fail
      refine (r2_Bytes ⟨_, _, _, _, _, _⟩ _ (by rw [← P.out]; exact d1)).mono ?_
      rintro e w6 ⟨rfl, hb6⟩
      rw [← P.out]
      obtain ⟨hc6, hf6⟩ := bcell hb6
      have hz6 := hb6.size
      have hB6 : Below w.heap.size w w6 := hB5.trans (hb6.mono (by omega))
      have rl6 : w.heap.size < w6.heap.size := by omega
      have kl6 : g < w6.heap.size := by omega
      by_cases d2 : letB (parR l) = l
      · have HV := Lib.hid (show readOkR l = true by unfold readOkR; rw [HLL.out]; simp [HS.out, d1, d2])
        have HV2 := Lib.hid (show readOk l = true by rw [← readOkR_eq]; exact HV.out)
        have HV3 := Lib.hid (show readL l = ⟨c0, c1, false, 0, 0, T⟩ by unfold readL; rw [if_pos HV2.out, ← (readOk_parR HV2.out).1]; exact P.out)
        have d3 : s.data.toList = letB (parR l) := by rw [d2]; exact HL.out
        have d4 : (⟨(letB (parR l)).toArray⟩ : ByteArray) = s := by rw [← d3]
        rw [d4]
        clear d3 d4 d2
        go_wp2_with fail
        rw [HV3.out, HV2.out]
        refine bodyPost_ret (v := (.tuple #[.agg #[.int .i64 c0, .int .i64 c1, .bool false, .int .i64 0, .int .i64 0, .int .i64 T], .bool true])) (by simp [results, Tryd.results50, go_sem, errV, okC, *]) rfl ⟨rfl, ?_⟩; exact (by repeat (first | with_reducible exact Below.refl _ _ | (with_reducible refine Below.alloc ?_ (by first | omega | (simp; done) | (simp; omega)) _) | (with_reducible refine Below.setCell ?_ (by first | omega | (simp; done) | (simp; omega)) _) | (with_reducible refine Below.drew ?_) | (with_reducible refine below_drewN ?_ _) | (with_reducible assumption) | (with_reducible refine bel_step (by with_reducible assumption) ?_ (by first | omega | (simp; done) | (simp; omega)))))
      · have HV := Lib.hid (show readOkR l = false by unfold readOkR; simp [d2])
        have HV2 := Lib.hid (show readOk l = false by rw [← readOkR_eq]; exact HV.out)
        have HV3 := Lib.hid (show readL l = ⟨0, 0, false, 0, 0, 0⟩ by unfold readL; rw [if_neg (by rw [HV2.out]; simp)]; rfl)
        have d3 : (letB (parR l) == s.toList) = false := by rw [beq_eq_false_iff_ne, show s.toList = s.data.toList from ByteArray.toList_eq s, HL.out]; exact d2
        go_wp2_with fail
        rw [HV3.out, HV2.out]
        refine bodyPost_ret (v := (.tuple #[.agg #[.int .i64 0, .int .i64 0, .bool false, .int .i64 0, .int .i64 0, .int .i64 0], .bool false])) (by simp [results, Tryd.results50, go_sem, errV, okC, *]) rfl ⟨rfl, ?_⟩; exact (by repeat (first | with_reducible exact Below.refl _ _ | (with_reducible refine Below.alloc ?_ (by first | omega | (simp; done) | (simp; omega)) _) | (with_reducible refine Below.setCell ?_ (by first | omega | (simp; done) | (simp; omega)) _) | (with_reducible refine Below.drew ?_) | (with_reducible refine below_drewN ?_ _) | (with_reducible assumption) | (with_reducible refine bel_step (by with_reducible assumption) ?_ (by first | omega | (simp; done) | (simp; omega)))))
    · have HV := Lib.hid (show readOkR l = false by unfold readOkR; simp [d1])
      have HV2 := Lib.hid (show readOk l = false by rw [← readOkR_eq]; exact HV.out)
      have HV3 := Lib.hid (show readL l = ⟨0, 0, false, 0, 0, 0⟩ by unfold readL; rw [if_neg (by rw [HV2.out]; simp)]; rfl)
      have d3 : (letC (parR l) != 0) = true := by simpa using d1
      go_wp2_with fail
      rw [HV3.out, HV2.out]
      refine bodyPost_ret (v := (.tuple #[.agg #[.int .i64 0, .int .i64 0, .bool false, .int .i64 0, .int .i64 0, .int .i64 0], .bool false])) (by simp [results, Tryd.results50, go_sem, errV, okC, *]) rfl ⟨rfl, ?_⟩; exact (by repeat (first | with_reducible exact Below.refl _ _ | (with_reducible refine Below.alloc ?_ (by first | omega | (simp; done) | (simp; omega)) _) | (with_reducible refine Below.setCell ?_ (by first | omega | (simp; done) | (simp; omega)) _) | (with_reducible refine Below.drew ?_) | (with_reducible refine below_drewN ?_ _) | (with_reducible assumption) | (with_reducible refine bel_step (by with_reducible assumption) ?_ (by first | omega | (simp; done) | (simp; omega)))))
set_option maxRecDepth 100000 in
set_option maxHeartbeats 8000000 in
theorem r2_ReadBytes_22 (s : ByteArray) (w : World) (hs : s.size = 22) :
    Calls Tryd.prog 50 #[.string s] w fun e w' => e = .returned (.tuple #[.agg #[.int .i64 (readL s.data.toList).src, .int .i64 (readL s.data.toList).dst, .bool (readL s.data.toList).answer, .int .i64 (readL s.data.toList).t1, .int .i64 (readL s.data.toList).t2, .int .i64 (readL s.data.toList).t], .bool (readOk s.data.toList)]) ∧ Below w.heap.size w w' := by
  have h1 : 22 ≤ s.size := by omega
  have h2 : s.size ≤ 22 := by omega
  have k1 : (3 : Int) ≤ (s.size : Int) := by omega
  have k2 : (9 : Int) ≤ (s.size : Int) := by omega
  have k3 : (22 : Int) ≤ (s.size : Int) := by omega
  have h3 : ((s.size : Int) != 10) = true := by simp; omega
  have h4 : ((s.size : Int) != 22) = false := by simp; omega
  have h5 : ((s.size : Int) == 22) = true := by simp; omega
  have k4 : (15 : Int) ≤ (s.size : Int) := by omega
  have k5 : (21 : Int) ≤ (s.size : Int) := by omega
  have q0 : 0 < s.size := by omega
  have q1 : 1 < s.size := by omega
  have x0 := fun w => idx_str s 0 q0 0 rfl w
  have x1 := fun w => idx_str s 1 q1 1 rfl w
  obtain ⟨l, hl⟩ : ∃ l, s.data.toList = l := ⟨_, rfl⟩
  have hll : l.length = s.size := by rw [← hl]; rfl
  simp only [hl] at x0 x1
  obtain ⟨y0, z0⟩ := byte_bd l 0
  obtain ⟨y1, z1⟩ := byte_bd l 1
  obtain ⟨c0, e0⟩ : ∃ c : Int, ((l.getD 0 0).toNat : Int) = c := ⟨_, rfl⟩
  obtain ⟨c1, e1⟩ : ∃ c : Int, ((l.getD 1 0).toNat : Int) = c := ⟨_, rfl⟩
  obtain ⟨T, eT⟩ : ∃ T : Int, getB ((l.drop 3).take 6) = T := ⟨_, rfl⟩
  obtain ⟨T1, eT1⟩ : ∃ T : Int, getB ((l.drop 9).take 6) = T := ⟨_, rfl⟩
  obtain ⟨T2, eT2⟩ : ∃ T : Int, getB ((l.drop 15).take 6) = T := ⟨_, rfl⟩
  simp only [e0] at x0
  simp only [e1] at x1
  rw [e0] at y0 z0
  rw [e1] at y1 z1
  have P := Lib.hid (show parR l = ⟨c0, c1, true, T1, T2, T⟩ by unfold parR parB; rw [e0, e1, eT, eT1, eT2]; simp [hll, hs])
  have g0 : ∀ W : World, Calls Tryd.prog 96 #[.string (s.extract 3 9)] W fun e w' => e = .returned (.int .i64 T) ∧ W = w' := fun W => by
    have := r2_time (s.extract 3 9) W (by rw [strSub_size _ _ _ (by omega)]; omega) (by rw [strSub_size _ _ _ (by omega)]; unfold maxLen; omega)
    rw [strSub_take _ _ _ (by omega) (by omega), hl, eT] at this
    exact this
  have g1 : ∀ W : World, Calls Tryd.prog 96 #[.string (s.extract 9 15)] W fun e w' => e = .returned (.int .i64 T1) ∧ W = w' := fun W => by
    have := r2_time (s.extract 9 15) W (by rw [strSub_size _ _ _ (by omega)]; omega) (by rw [strSub_size _ _ _ (by omega)]; unfold maxLen; omega)
    rwa [strSub_take _ _ _ (by omega) (by omega), hl, eT1] at this
  have g2 : ∀ W : World, Calls Tryd.prog 96 #[.string (s.extract 15 21)] W fun e w' => e = .returned (.int .i64 T2) ∧ W = w' := fun W => by
    have := r2_time (s.extract 15 21) W (by rw [strSub_size _ _ _ (by omega)]; omega) (by rw [strSub_size _ _ _ (by omega)]; unfold maxLen; omega)
    rwa [strSub_take _ _ _ (by omega) (by omega), hl, eT2] at this
  have u0 := IntWalk.i64_in c0 (by omega)
  have u1 := IntWalk.i64_in c1 (by omega)
  have G0 := Lib.hid g0
  have G1 := Lib.hid g1
  have G2 := Lib.hid g2
  have HL := Lib.hid hl
  have HLL := Lib.hid hll
  have HS := Lib.hid hs
  rw [hl]
  clear g0 g1 g2 hs hl hll e0 e1 eT eT1 eT2
  go_enter Tryd.func50, Tryd.ntmps50
  go_upto_region 3 with (fail)
  go_cut [4] (fun s4 wx => ∃ g, s4 = .pointer (some ⟨g, 0, none⟩) ∧ Blk wx g 77 #[.int .i64 c0, .int .i64 c1, .bool true, .int .i64 0, .int .i64 0, .int .i64 T] ∧ Blk wx w.heap.size 77 #[.int .i64 0, .int .i64 0, .bool false, .int .i64 0, .int .i64 0, .int .i64 0] ∧ w.heap.size < g ∧ Below w.heap.size w wx)
  case first =>
    go_region_held3 (fun _ => True) (exact trivial)
      (first | (go_at_call 96; (with_reducible refine (G0.out _).mono ?_); rintro e w' ⟨rfl, rfl⟩))
    all_goals
      go_wp2_with fail
      go_meet
    all_goals
      case rel => exact ⟨_, rfl, (by apply Blk.conv; (focus (repeat (first | (with_reducible assumption) | ((with_reducible apply Blk.newAt); first | (with_reducible rfl) | (simp; done) | omega) | (with_reducible apply Blk.drew) | (with_reducible apply Blk.drewN) | (with_reducible apply Blk.set) | ((with_reducible apply Blk.far); rotate_left 1; focus (first | omega | (simp; done) | (simp; omega))) | (with_reducible apply Blk.alloc) | ((with_reducible apply blk_bel (by with_reducible assumption)); focus (first | omega | (simp; done) | (simp; omega)))))); exact rfl), (by apply Blk.conv; (focus (repeat (first | (with_reducible assumption) | ((with_reducible apply Blk.newAt); first | (with_reducible rfl) | (simp; done) | omega) | (with_reducible apply Blk.drew) | (with_reducible apply Blk.drewN) | (with_reducible apply Blk.set) | ((with_reducible apply Blk.far); rotate_left 1; focus (first | omega | (simp; done) | (simp; omega))) | (with_reducible apply Blk.alloc) | ((with_reducible apply blk_bel (by with_reducible assumption)); focus (first | omega | (simp; done) | (simp; omega)))))); exact rfl), by first | omega | (simp; done) | (simp; omega), (by repeat (first | with_reducible exact Below.refl _ _ | (with_reducible refine Below.alloc ?_ (by first | omega | (simp; done) | (simp; omega)) _) | (with_reducible refine Below.setCell ?_ (by first | omega | (simp; done) | (simp; omega)) _) | (with_reducible refine Below.drew ?_) | (with_reducible refine below_drewN ?_ _) | (with_reducible assumption) | (with_reducible refine bel_step (by with_reducible assumption) ?_ (by first | omega | (simp; done) | (simp; omega)))))⟩
  case rest =>
    obtain ⟨g, rfl, hK, hR, hg, hB⟩ := hcut
    have K0 := hK.cell 0
    have K1 := hK.cell 1
    have K2 := hK.cell 2
    have K3 := hK.cell 3
    have K4 := hK.cell 4
    have K5 := hK.cell 5
    have kf := fun o => hK.fz o
    have kl := hK.lt
    have R0 := hR.cell 0
    have R1 := hR.cell 1
    have R2 := hR.cell 2
    have R3 := hR.cell 3
    have R4 := hR.cell 4
    have R5 := hR.cell 5
    have rf := fun o => hR.fz o
    have rl := hR.lt
    simp at K0 K1 K2 K3 K4 K5 R0 R1 R2 R3 R4 R5
    have HB := Lib.hid hB
    clear hK hR hB u0 u1 x0 x1
    go_wp2_with fail
    refine (G1.out _).mono ?_
    rintro e w' ⟨rfl, rfl⟩
    go_wp2_with fail
    refine (G2.out _).mono ?_
    rintro e w' ⟨rfl, rfl⟩
    go_wp2_with fail
    refine (r2_Letter ⟨_, _, _, _, _, _⟩ _).mono ?_
    rintro e w5 ⟨rfl, hb5⟩
    rw [← P.out]
    obtain ⟨hc5, hf5⟩ := bcell hb5
    have hz5 := hb5.size
    (try simp at hz5)
    have rl5 : w.heap.size < w5.heap.size := by omega
    have kl5 : g < w5.heap.size := by omega
    have hB0 := HB.out
    have hB5 : Below w.heap.size w w5 := (by repeat (first | with_reducible exact Below.refl _ _ | (with_reducible refine Below.alloc ?_ (by first | omega | (simp; done) | (simp; omega)) _) | (with_reducible refine Below.setCell ?_ (by first | omega | (simp; done) | (simp; omega)) _) | (with_reducible refine Below.drew ?_) | (with_reducible refine below_drewN ?_ _) | (with_reducible assumption) | (with_reducible refine bel_step (by with_reducible assumption) ?_ (by first | omega | (simp; done) | (simp; omega)))))
    by_cases d1 : letC (parR l) = 0
    · rw [d1]
      go_wp2_with fail
      refine (r2_Bytes ⟨_, _, _, _, _, _⟩ _ (by rw [← P.out]; exact d1)).mono ?_
      rintro e w6 ⟨rfl, hb6⟩
      rw [← P.out]
      obtain ⟨hc6, hf6⟩ := bcell hb6
      have hz6 := hb6.size
      have hB6 : Below w.heap.size w w6 := hB5.trans (hb6.mono (by omega))
      have rl6 : w.heap.size < w6.heap.size := by omega
      have kl6 : g < w6.heap.size := by omega
      by_cases d2 : letB (parR l) = l
      · have HV := Lib.hid (show readOkR l = true by unfold readOkR; rw [HLL.out]; simp [HS.out, d1, d2])
        have HV2 := Lib.hid (show readOk l = true by rw [← readOkR_eq]; exact HV.out)
        have HV3 := Lib.hid (show readL l = ⟨c0, c1, true, T1, T2, T⟩ by unfold readL; rw [if_pos HV2.out, ← (readOk_parR HV2.out).1]; exact P.out)
        have d3 : s.data.toList = letB (parR l) := by rw [d2]; exact HL.out
        have d4 : (⟨(letB (parR l)).toArray⟩ : ByteArray) = s := by rw [← d3]
        rw [d4]
        clear d3 d4 d2
        go_wp2_with fail
        rw [HV3.out, HV2.out]
        refine bodyPost_ret (v := (.tuple #[.agg #[.int .i64 c0, .int .i64 c1, .bool true, .int .i64 T1, .int .i64 T2, .int .i64 T], .bool true])) (by simp [results, Tryd.results50, go_sem, errV, okC, *]) rfl ⟨rfl, ?_⟩; exact (by repeat (first | with_reducible exact Below.refl _ _ | (with_reducible refine Below.alloc ?_ (by first | omega | (simp; done) | (simp; omega)) _) | (with_reducible refine Below.setCell ?_ (by first | omega | (simp; done) | (simp; omega)) _) | (with_reducible refine Below.drew ?_) | (with_reducible refine below_drewN ?_ _) | (with_reducible assumption) | (with_reducible refine bel_step (by with_reducible assumption) ?_ (by first | omega | (simp; done) | (simp; omega)))))
      · have HV := Lib.hid (show readOkR l = false by unfold readOkR; simp [d2])
        have HV2 := Lib.hid (show readOk l = false by rw [← readOkR_eq]; exact HV.out)
        have HV3 := Lib.hid (show readL l = ⟨0, 0, false, 0, 0, 0⟩ by unfold readL; rw [if_neg (by rw [HV2.out]; simp)]; rfl)
        have d3 : (letB (parR l) == s.toList) = false := by rw [beq_eq_false_iff_ne, show s.toList = s.data.toList from ByteArray.toList_eq s, HL.out]; exact d2
        go_wp2_with fail
        rw [HV3.out, HV2.out]
        refine bodyPost_ret (v := (.tuple #[.agg #[.int .i64 0, .int .i64 0, .bool false, .int .i64 0, .int .i64 0, .int .i64 0], .bool false])) (by simp [results, Tryd.results50, go_sem, errV, okC, *]) rfl ⟨rfl, ?_⟩; exact (by repeat (first | with_reducible exact Below.refl _ _ | (with_reducible refine Below.alloc ?_ (by first | omega | (simp; done) | (simp; omega)) _) | (with_reducible refine Below.setCell ?_ (by first | omega | (simp; done) | (simp; omega)) _) | (with_reducible refine Below.drew ?_) | (with_reducible refine below_drewN ?_ _) | (with_reducible assumption) | (with_reducible refine bel_step (by with_reducible assumption) ?_ (by first | omega | (simp; done) | (simp; omega)))))
    · have HV := Lib.hid (show readOkR l = false by unfold readOkR; simp [d1])
      have HV2 := Lib.hid (show readOk l = false by rw [← readOkR_eq]; exact HV.out)
      have HV3 := Lib.hid (show readL l = ⟨0, 0, false, 0, 0, 0⟩ by unfold readL; rw [if_neg (by rw [HV2.out]; simp)]; rfl)
      have d3 : (letC (parR l) != 0) = true := by simpa using d1
      go_wp2_with fail
      rw [HV3.out, HV2.out]
      refine bodyPost_ret (v := (.tuple #[.agg #[.int .i64 0, .int .i64 0, .bool false, .int .i64 0, .int .i64 0, .int .i64 0], .bool false])) (by simp [results, Tryd.results50, go_sem, errV, okC, *]) rfl ⟨rfl, ?_⟩; exact (by repeat (first | with_reducible exact Below.refl _ _ | (with_reducible refine Below.alloc ?_ (by first | omega | (simp; done) | (simp; omega)) _) | (with_reducible refine Below.setCell ?_ (by first | omega | (simp; done) | (simp; omega)) _) | (with_reducible refine Below.drew ?_) | (with_reducible refine below_drewN ?_ _) | (with_reducible assumption) | (with_reducible refine bel_step (by with_reducible assumption) ?_ (by first | omega | (simp; done) | (simp; omega)))))
set_option maxHeartbeats 1000000 in
theorem r2_ReadBytes_n (s : ByteArray) (w : World) (h1 : s.size ≠ 10) (h2 : s.size ≠ 22) :
    Calls Tryd.prog 50 #[.string s] w fun e w' => e = .returned (.tuple #[.agg #[.int .i64 (readL s.data.toList).src, .int .i64 (readL s.data.toList).dst, .bool (readL s.data.toList).answer, .int .i64 (readL s.data.toList).t1, .int .i64 (readL s.data.toList).t2, .int .i64 (readL s.data.toList).t], .bool (readOk s.data.toList)]) ∧ Below w.heap.size w w' := by
  have HO : readOk s.data.toList = false := by
    unfold readOk
    have : s.data.toList.length = s.size := rfl
    rw [this]; simp [h1, h2]
  have HV := Lib.hid (show readOk s.data.toList = false by first | exact HO | (unfold readC; rw [if_neg (by rw [HO]; simp)]))
  have HV3 := Lib.hid (show readL s.data.toList = ⟨0, 0, false, 0, 0, 0⟩ by unfold readL; rw [if_neg (by rw [HO]; simp)]; rfl)
  rw [HV3.out, HV.out]
  have h3 : ((s.size : Int) != 10) = true := by simp; omega
  have h4 : ((s.size : Int) != 22) = true := by simp; omega
  clear h1 h2 HO
  go_enter Tryd.func50, Tryd.ntmps50
  go_wp2_with fail
  refine bodyPost_ret (v := (.tuple #[.agg #[.int .i64 0, .int .i64 0, .bool false, .int .i64 0, .int .i64 0, .int .i64 0], .bool false])) (by simp [results, Tryd.results50, go_sem, errV, okC, *]) rfl ⟨rfl, ?_⟩; exact (by repeat (first | with_reducible exact Below.refl _ _ | (with_reducible refine Below.alloc ?_ (by first | omega | (simp; done) | (simp; omega)) _) | (with_reducible refine Below.setCell ?_ (by first | omega | (simp; done) | (simp; omega)) _) | (with_reducible refine Below.drew ?_) | (with_reducible refine below_drewN ?_ _) | (with_reducible assumption) | (with_reducible refine bel_step (by with_reducible assumption) ?_ (by first | omega | (simp; done) | (simp; omega)))))
theorem r2_ReadBytes (s : ByteArray) (w : World) :
    Calls Tryd.prog 50 #[.string s] w fun e w' => e = .returned (.tuple #[.agg #[.int .i64 (readL s.data.toList).src, .int .i64 (readL s.data.toList).dst, .bool (readL s.data.toList).answer, .int .i64 (readL s.data.toList).t1, .int .i64 (readL s.data.toList).t2, .int .i64 (readL s.data.toList).t], .bool (readOk s.data.toList)]) ∧ Below w.heap.size w w' := by
  by_cases h1 : s.size = 10
  · exact r2_ReadBytes_10 s w h1
  · by_cases h2 : s.size = 22
    · exact r2_ReadBytes_22 s w h2
    · exact r2_ReadBytes_n s w h1 h2
end Go.Proofs.YtkejdfpdehchcaaDoor
