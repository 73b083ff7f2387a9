/- Letters and spans as bytes: the two texts' writers, walked. -/
import Derived.Test.YtfjpfkejajgkbaaHWire
import Derived.Test.YtfjpfkejajgkbaaHG1
namespace Go.Proofs.Ytfjpfkejajgkbaa
open Go.RowKit
set_option linter.unusedVariables false
set_option linter.unusedSimpArgs false
set_option maxRecDepth 100000 in
set_option maxHeartbeats 4000000 in
theorem wire_Letter_q (src dst t : Int) (w : World) (h : letC ⟨src, dst, false, 0, 0, t⟩ = 0) :
    Calls Try.prog 13 #[.agg #[.int .i64 src, .int .i64 dst, .bool false, .int .i64 0, .int .i64 0, .int .i64 t]] w fun e w' => e = .returned (.tuple #[.string ⟨(letB ⟨src, dst, false, 0, 0, t⟩).toArray⟩, .nilIface]) ∧ Below w.heap.size w w' := by
  obtain ⟨g1, g2, g3, g4, g5, g6, g7⟩ := letC_0 h
  dsimp only at g1 g2 g3 g4 g5 g6
  obtain ⟨s0, s1⟩ := nodeW_iff.1 g1
  obtain ⟨d0, d1⟩ := nodeW_iff.1 g2
  obtain ⟨x0, x1⟩ := timeW_iff.1 g3
  have HQ := Lib.hid (show bodyB ⟨src, dst, false, 0, 0, t⟩ = [byteOf src 0, byteOf dst 0, 0] ++ sixB t by simp [bodyB])
  have HB := Lib.hid (show letB ⟨src, dst, false, 0, 0, t⟩ = bodyB ⟨src, dst, false, 0, 0, t⟩ ++ [lastB (bodyB ⟨src, dst, false, 0, 0, t⟩)] from rfl)
  obtain ⟨i0, ii, iz0, iz1, iz2⟩ := info_parts Try.infoU8
  clear g1 g2 g3 g4 g5 g6 g7
  go_enter Try.func13, Try.ntmps13
  go_wp2_with fail
  (try (go_at_call 33; refine (wire_Check ⟨_, _, _, _, _, _⟩ _).mono ?_; rintro e w1 ⟨rfl, hb1⟩; obtain ⟨hc1, hf1⟩ := bcell hb1; have hz1 := hb1.size; (try simp at hz1); (try have q1_0_0_0 : w.heap.size < w1.heap.size := by omega); (try have q1_0_0_2 : w.heap.size < w1.heap.size + 1 + 1 := by omega); (try have q1_0_0_3 : w.heap.size < w1.heap.size + 1 + 1 + 1 := by omega); (try have q1_0_1_0 : w.heap.size + 1 < w1.heap.size := by omega); (try have q1_0_1_2 : w.heap.size + 1 < w1.heap.size + 1 + 1 := by omega); (try have q1_0_1_3 : w.heap.size + 1 < w1.heap.size + 1 + 1 + 1 := by omega); (try have q1_0_2_0 : w.heap.size + 1 + 1 < w1.heap.size := by omega); (try have q1_0_2_2 : w.heap.size + 1 + 1 < w1.heap.size + 1 + 1 := by omega); (try have q1_0_2_3 : w.heap.size + 1 + 1 < w1.heap.size + 1 + 1 + 1 := by omega); (try have q1_0_3_0 : w.heap.size + 1 + 1 + 1 < w1.heap.size := by omega); (try have q1_0_3_2 : w.heap.size + 1 + 1 + 1 < w1.heap.size + 1 + 1 := by omega); (try have q1_0_3_3 : w.heap.size + 1 + 1 + 1 < w1.heap.size + 1 + 1 + 1 := by omega); (try go_wp2_with fail)))
  have ho := own3 w1 src dst 0 (by omega) (by omega) (by omega) (by omega)
  refine (wire_put _ _ t w1.heap.size _ x0 (by omega) (by simp) (by simp) ho).mono ?_
  rintro e w2 ⟨v2, rfl, ho2, hb2⟩
  have p2 : w2.cell? ⟨w.heap.size, 2, none⟩ = some (.bool false) := (hb2.cell (p := ⟨w.heap.size, 2, none⟩) (by simp; omega)).trans (by rw [World.cell?_alloc_lt _ _ _ (by simp; omega), hc1 _ _ (by simp)]; simp)
  have hsz := hb2.size
  simp at hsz
  have HBL := Lib.hid (show Below w.heap.size w w2 from ((by repeat (first | with_reducible exact Below.refl _ _ | (with_reducible refine Below.alloc ?_ (by first | omega | (simp; done) | (simp; omega)) _) | (with_reducible refine Below.setCell ?_ (by first | omega | (simp; done) | (simp; omega)) _) | (with_reducible refine Below.drew ?_) | (with_reducible refine below_drewN ?_ _) | (with_reducible assumption) | (with_reducible refine bel_step (by with_reducible assumption) ?_ (by first | omega | (simp; done) | (simp; omega))))) : Below w.heap.size w _).trans (hb2.mono (by omega)))
  rw [← HQ.out] at ho2
  have hl := bodyB_len ⟨src, dst, false, 0, 0, t⟩
  obtain ⟨b, hb⟩ : ∃ b, bodyB ⟨src, dst, false, 0, 0, t⟩ = b := ⟨_, rfl⟩
  rw [hb] at ho2 hl
  simp only [Bool.false_eq_true, if_false] at hl
  have HB2 := Lib.hid (show letB ⟨src, dst, false, 0, 0, t⟩ = b ++ [lastB b] by rw [HB.out, hb])
  clear hb HB HQ
  obtain ⟨g, cap, rfl, hg0, hg1, hg2, hg3, hcell⟩ := own_shape ho2 (by omega)
  have HC := Lib.hid hcell
  rw [hl] at ho2
  have HO := Lib.hid ho2
  have HL := Lib.hid hl
  clear hcell ho2 h
  rw [hl]
  clear hl
  go_wp2_with fail
  go_loop [6, 40] (fun n i => ∃ k : Nat, k ≤ 9 ∧ i = .int .i64 k ∧ n = .int .i64 (sumB (b.take k))) (fun _ i => 9 - (intOf i).toNat)
  case atStart => exact ⟨0, by omega, rfl, rfl⟩
  case round =>
    obtain ⟨k, hk, rfl, rfl⟩ := hrel
    have hs := sumB_bd (b.take k)
    have hs1 : (b.take k).length ≤ 9 := by rw [List.length_take]; omega
    obtain ⟨hs2, hs3⟩ := hs
    by_cases hlt : k < 9
    · have hc := HC.out k (by rw [HL.out]; exact hlt)
      have HS := Lib.hid (show sumB (b.take (k + 1)) = sumB (b.take k) + ((b.getD k 0).toNat : Int) by rw [List.take_succ_eq_append_getElem (by rw [HL.out]; exact hlt), sumB_snoc, List.getD_eq_getElem?_getD, List.getElem?_eq_getElem (by rw [HL.out]; exact hlt)]; rfl)
      have hc0 : ((b.getD k 0).toNat : Int) < 256 := by have := (b.getD k 0).toNat_lt; omega
      obtain ⟨c, ec⟩ : ∃ c : Int, ((b.getD k 0).toNat : Int) = c := ⟨_, rfl⟩
      have hc1 : 0 ≤ c := by omega
      rw [ec] at hc hc0 HS
      clear ec
      go_wp2_with fail
      go_round
      case rel => exact ⟨k + 1, by omega, by go_num, by rw [HS.out]⟩
      case measure => simp [intOf]; omega
    · have : k = 9 := by omega
      subst this
      have ht : b.take 9 = b := List.take_of_length_le (by rw [HL.out]; omega)
      rw [ht] at hs2 hs3 ⊢
      clear ht hs1
      obtain ⟨N, eN⟩ : ∃ N, sumB b = N := ⟨_, rfl⟩
      rw [eN] at hs2 hs3 ⊢
      have hx := Lib.hid (show [Value.int .u8 (N % 251)] = byteVs [lastB b] by simp only [byteVs, lastB, List.map_cons, List.map_nil, byteOf_toNat, eN, Int.pow_zero]; congr 2; omega)
      clear eN
      go_wp2_with (at_builtin; refine wpList_append_own _ rfl _ _ 84 rfl w1.heap.size 5 i0 (.int .u8 0) 1 1 Try.underlying84 ii iz0 iz1 iz2 rfl (by decide) _ _ _ rfl (HO.out.alloc _) ⟨w2.heap.size, 0, none⟩ 1 1 _ rfl rfl (cell_one_byte _ _ _) (one_cell_byte _) (by unfold maxLen; omega) (by omega) (by simp; omega) ?_; intro v5 w5 ho5 hg5 _)
      have ho6 : w5.ownsRow w1.heap.size 5 1 v5 (b ++ [lastB b]).length (byteVs (b ++ [lastB b])) := by rw [byteVs_app, ← hx.out, List.length_append, HL.out]; exact ho5
      obtain ⟨g5, cap5, rfl, k1, k2, k3, k4, hc5⟩ := own_shape ho6 (by simp)
      have hcv := bytes_string (cap := cap5) hc5
      have hB5 : Below w.heap.size w w5 := ((HBL.out.alloc HBL.out.size _).grown hg5 (by simp; omega) (fun k hk => (by have := (HO.out.lt k hk).1; omega)))
      have hlen : (b ++ [lastB b]).length = 10 := by rw [List.length_append, HL.out]; rfl
      rw [hlen] at hcv ⊢
      clear hc5 ho6 ho5 hg5 hlen
      go_wp2_with fail
      simp only [hcv]
      go_wp2_with fail
      go_ret2
      exact ⟨ret_v (by rw [HB2.out]; rfl), hB5⟩
set_option maxRecDepth 100000 in
set_option maxHeartbeats 4000000 in
theorem wire_Letter_a (src dst t t1 t2 : Int) (w : World) (h : letC ⟨src, dst, true, t1, t2, t⟩ = 0) :
    Calls Try.prog 13 #[.agg #[.int .i64 src, .int .i64 dst, .bool true, .int .i64 t1, .int .i64 t2, .int .i64 t]] w fun e w' => e = .returned (.tuple #[.string ⟨(letB ⟨src, dst, true, t1, t2, t⟩).toArray⟩, .nilIface]) ∧ Below w.heap.size w w' := by
  obtain ⟨g1, g2, g3, g4, g5, g6, g7⟩ := letC_0 h
  dsimp only at g1 g2 g3 g4 g5 g6
  obtain ⟨s0, s1⟩ := nodeW_iff.1 g1
  obtain ⟨d0, d1⟩ := nodeW_iff.1 g2
  obtain ⟨x0, x1⟩ := timeW_iff.1 g3
  obtain ⟨y0, y1⟩ := timeW_iff.1 g4
  obtain ⟨z0, z1⟩ := timeW_iff.1 g5
  have HQ := Lib.hid (show bodyB ⟨src, dst, true, t1, t2, t⟩ = [byteOf src 0, byteOf dst 0, 1] ++ sixB t ++ sixB t1 ++ sixB t2 by simp [bodyB])
  have HB := Lib.hid (show letB ⟨src, dst, true, t1, t2, t⟩ = bodyB ⟨src, dst, true, t1, t2, t⟩ ++ [lastB (bodyB ⟨src, dst, true, t1, t2, t⟩)] from rfl)
  obtain ⟨i0, ii, iz0, iz1, iz2⟩ := info_parts Try.infoU8
  clear g1 g2 g3 g4 g5 g6 g7
  go_enter Try.func13, Try.ntmps13
  go_wp2_with fail
  (try (go_at_call 33; refine (wire_Check ⟨_, _, _, _, _, _⟩ _).mono ?_; rintro e w1 ⟨rfl, hb1⟩; obtain ⟨hc1, hf1⟩ := bcell hb1; have hz1 := hb1.size; (try simp at hz1); (try have q1_0_0_0 : w.heap.size < w1.heap.size := by omega); (try have q1_0_0_2 : w.heap.size < w1.heap.size + 1 + 1 := by omega); (try have q1_0_0_3 : w.heap.size < w1.heap.size + 1 + 1 + 1 := by omega); (try have q1_0_1_0 : w.heap.size + 1 < w1.heap.size := by omega); (try have q1_0_1_2 : w.heap.size + 1 < w1.heap.size + 1 + 1 := by omega); (try have q1_0_1_3 : w.heap.size + 1 < w1.heap.size + 1 + 1 + 1 := by omega); (try have q1_0_2_0 : w.heap.size + 1 + 1 < w1.heap.size := by omega); (try have q1_0_2_2 : w.heap.size + 1 + 1 < w1.heap.size + 1 + 1 := by omega); (try have q1_0_2_3 : w.heap.size + 1 + 1 < w1.heap.size + 1 + 1 + 1 := by omega); (try have q1_0_3_0 : w.heap.size + 1 + 1 + 1 < w1.heap.size := by omega); (try have q1_0_3_2 : w.heap.size + 1 + 1 + 1 < w1.heap.size + 1 + 1 := by omega); (try have q1_0_3_3 : w.heap.size + 1 + 1 + 1 < w1.heap.size + 1 + 1 + 1 := by omega); (try go_wp2_with fail)))
  have ho := own3 w1 src dst 1 (by omega) (by omega) (by omega) (by omega)
  refine (wire_put _ _ t w1.heap.size _ x0 (by omega) (by simp) (by simp) ho).mono ?_
  rintro e w2 ⟨v2, rfl, ho2, hb2⟩
  have p2 : w2.cell? ⟨w.heap.size, 2, none⟩ = some (.bool true) := (hb2.cell (p := ⟨w.heap.size, 2, none⟩) (by simp; omega)).trans (by rw [World.cell?_alloc_lt _ _ _ (by simp; omega), hc1 _ _ (by simp)]; simp)
  have p3 : w2.cell? ⟨w.heap.size, 3, none⟩ = some (.int .i64 t1) := (hb2.cell (p := ⟨w.heap.size, 3, none⟩) (by simp; omega)).trans (by rw [World.cell?_alloc_lt _ _ _ (by simp; omega), hc1 _ _ (by simp)]; simp)
  have p4 : w2.cell? ⟨w.heap.size, 4, none⟩ = some (.int .i64 t2) := (hb2.cell (p := ⟨w.heap.size, 4, none⟩) (by simp; omega)).trans (by rw [World.cell?_alloc_lt _ _ _ (by simp; omega), hc1 _ _ (by simp)]; simp)
  have hsz := hb2.size
  simp at hsz
  have HBL := Lib.hid (show Below w.heap.size w w2 from ((by repeat (first | with_reducible exact Below.refl _ _ | (with_reducible refine Below.alloc ?_ (by first | omega | (simp; done) | (simp; omega)) _) | (with_reducible refine Below.setCell ?_ (by first | omega | (simp; done) | (simp; omega)) _) | (with_reducible refine Below.drew ?_) | (with_reducible refine below_drewN ?_ _) | (with_reducible assumption) | (with_reducible refine bel_step (by with_reducible assumption) ?_ (by first | omega | (simp; done) | (simp; omega))))) : Below w.heap.size w _).trans (hb2.mono (by omega)))
  clear hb1 hc1 hf1 ho hb2
  go_upto_region 9 with (fail)
  go_cut [5] (fun s5 wx => wx.ownsRow w1.heap.size 5 1 s5 ([byteOf src 0, byteOf dst 0, 1] ++ sixB t ++ sixB t1 ++ sixB t2).length (byteVs ([byteOf src 0, byteOf dst 0, 1] ++ sixB t ++ sixB t1 ++ sixB t2)) ∧ Below w1.heap.size w2 wx)
  case first =>
    go_region_held3 (fun w' => w'.cell? ⟨w.heap.size, 3, none⟩ = some (.int .i64 t1) ∧ w'.cell? ⟨w.heap.size, 4, none⟩ = some (.int .i64 t2)) ((repeat' apply And.intro) <;> first | assumption | exact (hb3.cell (by first | omega | (simp; omega))).trans (by assumption) | exact (hb4.cell (by first | omega | (simp; omega))).trans ((hb3.cell (by first | omega | (simp; omega))).trans (by assumption)))
      (first | (go_at_call 29; (with_reducible refine (wire_put v3 _ t2 w1.heap.size _ z0 (by omega) (by simp [sixB]) (by omega) ho3).mono ?_); rintro e w4 ⟨v4, rfl, ho4, hb4⟩; have hz4 := hb4.size) | (go_at_call 29; refine (wire_put v2 _ t1 w1.heap.size _ y0 (by omega) (by simp [sixB]) (by first | omega | (simp; omega)) ho2.drew).mono ?_; rintro e w3 ⟨v3, rfl, ho3, hb3⟩; have hz3 := hb3.size; simp at hz3))
    go_wp2_with fail
    go_meet
    case rel => exact ⟨ho4, (((Below.refl _ _).drew).trans hb3).trans hb4⟩
  case rest =>
    obtain ⟨ho4, hb4⟩ := hcut
    obtain ⟨w4, rfl⟩ : ∃ x : World, x = wc := ⟨_, rfl⟩
    have hz4 := hb4.size
    have HBL4 := Lib.hid (HBL.out.trans (hb4.mono (by omega)))
    clear ho2 hb4 HBL
    rw [← HQ.out] at ho4
    have hl := bodyB_len ⟨src, dst, true, t1, t2, t⟩
    obtain ⟨b, hb⟩ : ∃ b, bodyB ⟨src, dst, true, t1, t2, t⟩ = b := ⟨_, rfl⟩
    rw [hb] at ho4 hl
    simp only [if_true] at hl
    have HB2 := Lib.hid (show letB ⟨src, dst, true, t1, t2, t⟩ = b ++ [lastB b] by rw [HB.out, hb])
    clear hb HB HQ
    obtain ⟨g, cap, rfl, hg0, hg1, hg2, hg3, hcell⟩ := own_shape ho4 (by omega)
    have HC := Lib.hid hcell
    rw [hl] at ho4
    have HO := Lib.hid ho4
    have HL := Lib.hid hl
    clear hcell ho4 h
    rw [hl]
    clear hl
    go_wp2_with fail
    go_loop [6, 40] (fun n i => ∃ k : Nat, k ≤ 21 ∧ i = .int .i64 k ∧ n = .int .i64 (sumB (b.take k))) (fun _ i => 21 - (intOf i).toNat)
    case atStart => exact ⟨0, by omega, rfl, rfl⟩
    case round =>
      obtain ⟨k, hk, rfl, rfl⟩ := hrel
      have hs := sumB_bd (b.take k)
      have hs1 : (b.take k).length ≤ 21 := by rw [List.length_take]; omega
      obtain ⟨hs2, hs3⟩ := hs
      by_cases hlt : k < 21
      · have hc := HC.out k (by rw [HL.out]; exact hlt)
        have HS := Lib.hid (show sumB (b.take (k + 1)) = sumB (b.take k) + ((b.getD k 0).toNat : Int) by rw [List.take_succ_eq_append_getElem (by rw [HL.out]; exact hlt), sumB_snoc, List.getD_eq_getElem?_getD, List.getElem?_eq_getElem (by rw [HL.out]; exact hlt)]; rfl)
        have hc0 : ((b.getD k 0).toNat : Int) < 256 := by have := (b.getD k 0).toNat_lt; omega
        obtain ⟨c, ec⟩ : ∃ c : Int, ((b.getD k 0).toNat : Int) = c := ⟨_, rfl⟩
        have hc1 : 0 ≤ c := by omega
        rw [ec] at hc hc0 HS
        clear ec
        go_wp2_with fail
        go_round
        case rel => exact ⟨k + 1, by omega, by go_num, by rw [HS.out]⟩
        case measure => simp [intOf]; omega
      · have : k = 21 := by omega
        subst this
        have ht : b.take 21 = b := List.take_of_length_le (by rw [HL.out]; omega)
        rw [ht] at hs2 hs3 ⊢
        clear ht hs1
        obtain ⟨N, eN⟩ : ∃ N, sumB b = N := ⟨_, rfl⟩
        rw [eN] at hs2 hs3 ⊢
        have hx := Lib.hid (show [Value.int .u8 (N % 251)] = byteVs [lastB b] by simp only [byteVs, lastB, List.map_cons, List.map_nil, byteOf_toNat, eN, Int.pow_zero]; congr 2; omega)
        clear eN
        go_wp2_with (at_builtin; refine wpList_append_own _ rfl _ _ 84 rfl w1.heap.size 5 i0 (.int .u8 0) 1 1 Try.underlying84 ii iz0 iz1 iz2 rfl (by decide) _ _ _ rfl (HO.out.alloc _) ⟨w4.heap.size, 0, none⟩ 1 1 _ rfl rfl (cell_one_byte _ _ _) (one_cell_byte _) (by unfold maxLen; omega) (by omega) (by simp; omega) ?_; intro v5 w5 ho5 hg5 _)
        have ho6 : w5.ownsRow w1.heap.size 5 1 v5 (b ++ [lastB b]).length (byteVs (b ++ [lastB b])) := by rw [byteVs_app, ← hx.out, List.length_append, HL.out]; exact ho5
        obtain ⟨g5, cap5, rfl, k1, k2, k3, k4, hc5⟩ := own_shape ho6 (by simp)
        have hcv := bytes_string (cap := cap5) hc5
        have hB5 : Below w.heap.size w w5 := ((HBL4.out.alloc HBL4.out.size _).grown hg5 (by simp; omega) (fun k hk => (by have := (HO.out.lt k hk).1; omega)))
        have hlen : (b ++ [lastB b]).length = 22 := by rw [List.length_append, HL.out]; rfl
        rw [hlen] at hcv ⊢
        clear hc5 ho6 ho5 hg5 hlen
        go_wp2_with fail
        simp only [hcv]
        go_wp2_with fail
        go_ret2
        exact ⟨ret_v (by rw [HB2.out]; rfl), hB5⟩
set_option maxRecDepth 100000 in
set_option maxHeartbeats 4000000 in
theorem wire_Span_ok (a b : Int) (w : World) (h : rightB a b = true) :
    Calls Try.prog 9 #[.agg #[.int .i64 a, .int .i64 b]] w fun e w' => e = .returned (.tuple #[.string ⟨(spanB a b).toArray⟩, .nilIface]) ∧ Below w.heap.size w w' := by
  obtain ⟨g1, g2, g3⟩ := rightB_iff.1 h
  have HQ := Lib.hid (show spanB a b = [] ++ sixB (a + 1000000000000) ++ sixB (b + 1000000000000) from rfl)
  obtain ⟨i0, ii, iz0, iz1, iz2⟩ := info_parts Try.infoU8
  go_enter Try.func9, Try.ntmps9
  go_wp2_with fail
  (try (go_at_call 28; refine (span_Check _ _ _).mono ?_; rintro e w1 ⟨rfl, hb1⟩; obtain ⟨hc1, hf1⟩ := bcell hb1; have hz1 := hb1.size; (try simp at hz1); (try have q1_0_0_0 : w.heap.size < w1.heap.size := by omega); (try have q1_0_0_2 : w.heap.size < w1.heap.size + 1 + 1 := by omega); (try have q1_0_0_3 : w.heap.size < w1.heap.size + 1 + 1 + 1 := by omega); (try have q1_0_1_0 : w.heap.size + 1 < w1.heap.size := by omega); (try have q1_0_1_2 : w.heap.size + 1 < w1.heap.size + 1 + 1 := by omega); (try have q1_0_1_3 : w.heap.size + 1 < w1.heap.size + 1 + 1 + 1 := by omega); (try have q1_0_2_0 : w.heap.size + 1 + 1 < w1.heap.size := by omega); (try have q1_0_2_2 : w.heap.size + 1 + 1 < w1.heap.size + 1 + 1 := by omega); (try have q1_0_2_3 : w.heap.size + 1 + 1 < w1.heap.size + 1 + 1 + 1 := by omega); (try have q1_0_3_0 : w.heap.size + 1 + 1 + 1 < w1.heap.size := by omega); (try have q1_0_3_2 : w.heap.size + 1 + 1 + 1 < w1.heap.size + 1 + 1 := by omega); (try have q1_0_3_3 : w.heap.size + 1 + 1 + 1 < w1.heap.size + 1 + 1 + 1 := by omega); (try go_wp2_with fail)))
  have p0 : w1.cell? ⟨w.heap.size, 0, none⟩ = some (.int .i64 a) := by rw [hc1 _ _ (by simp)]; simp
  have p1 : w1.cell? ⟨w.heap.size, 1, none⟩ = some (.int .i64 b) := by rw [hc1 _ _ (by simp)]; simp
  have HB1 := Lib.hid (show Below w.heap.size w w1 from (by repeat (first | with_reducible exact Below.refl _ _ | (with_reducible refine Below.alloc ?_ (by first | omega | (simp; done) | (simp; omega)) _) | (with_reducible refine Below.setCell ?_ (by first | omega | (simp; done) | (simp; omega)) _) | (with_reducible refine Below.drew ?_) | (with_reducible refine below_drewN ?_ _) | (with_reducible assumption) | (with_reducible refine bel_step (by with_reducible assumption) ?_ (by first | omega | (simp; done) | (simp; omega))))))
  have s0 : 0 ≤ a + 1000000000000 := by omega
  have s1 : a + 1000000000000 ≤ 2000000000000 := by omega
  have s2 : 0 ≤ b + 1000000000000 := by omega
  have s3 : b + 1000000000000 ≤ 2000000000000 := by omega
  have e1 := IntWalk.i64_in (a + 1000000000000) (by omega)
  have e2 := IntWalk.i64_in (b + 1000000000000) (by omega)
  have hsl := sixB_len
  have ho : w1.ownsRow w1.heap.size 5 1 (.slice none 0 0) ([] : List UInt8).length (byteVs []) := World.ownsRow_nil _ _ _ _
  clear hb1 hc1 hf1 g1 g2 g3 h
  go_region_with (first | (go_at_call 29; (with_reducible refine (wire_put (.slice none 0 0) [] (a + 1000000000000) w1.heap.size _ s0 s1 (by simp) (by simp) ho.drew).mono ?_); rintro e w3 ⟨v3, rfl, ho3, hb3⟩; have p5 : w3.cell? ⟨w.heap.size, 1, none⟩ = some (.int .i64 b) := (hb3.cell (by first | omega | (simp; omega))).trans p1; have hz3 := hb3.size; simp at hz3) | (go_at_call 29; (with_reducible refine (wire_put v3 _ (b + 1000000000000) w1.heap.size _ s2 s3 (by simp [sixB]) (by first | omega | (simp; omega)) ho3).mono ?_); rintro e w4 ⟨v4, rfl, ho4, hb4⟩; have hz4 := hb4.size; obtain ⟨g5, cap5, rfl, k1, k2, k3, k4, hc5⟩ := own_shape ho4 (by simp [sixB]); have hcv := bytes_string (cap := cap5) hc5; have hlen : (([] : List UInt8) ++ sixB (a + 1000000000000) ++ sixB (b + 1000000000000)).length = 12 := rfl; rw [hlen] at hcv ⊢; clear hlen))
  all_goals
    go_wp2_with fail
    go_ret2
    exact ⟨rfl, ((HB1.out.trans ((((Below.refl _ _).drew).trans hb3).mono (by omega))).trans (hb4.mono (by omega)))⟩
theorem errV_13 {c : Int} (h : c = 1 ∨ c = 3) : errV c = .iface 81 (.int .i64 c) := by rcases h with rfl | rfl <;> rfl
set_option maxRecDepth 100000 in
set_option maxHeartbeats 4000000 in
theorem wire_Letter_n (l : RLetter) (w : World) (h : letC l ≠ 0) :
    Calls Try.prog 13 #[.agg #[.int .i64 l.src, .int .i64 l.dst, .bool l.answer, .int .i64 l.t1, .int .i64 l.t2, .int .i64 l.t]] w fun e w' => e = .returned (.tuple #[.string ⟨#[]⟩, errV (letC l)]) ∧ Below w.heap.size w w' := by
  have he := errV_13 (show letC l = 1 ∨ letC l = 3 by have := letC_013 l; omega)
  obtain ⟨c, hc⟩ : ∃ c, letC l = c := ⟨_, rfl⟩
  rw [hc] at he ⊢
  have HE := Lib.hid he
  rw [he]
  have HC := Lib.hid hc
  clear he hc
  go_enter Try.func13, Try.ntmps13
  go_wp2_with fail
  refine (wire_Check l _).mono ?_
  rintro e w1 ⟨rfl, hb1⟩
  rw [HC.out, HE.out]
  go_wp2_with fail
  go_ret2
  exact ⟨rfl, (by repeat (first | with_reducible exact Below.refl _ _ | (with_reducible refine Below.alloc ?_ (by first | omega | (simp; done) | (simp; omega)) _) | (with_reducible refine Below.setCell ?_ (by first | omega | (simp; done) | (simp; omega)) _) | (with_reducible refine Below.drew ?_) | (with_reducible refine below_drewN ?_ _) | (with_reducible assumption) | (with_reducible refine bel_step (by with_reducible assumption) ?_ (by first | omega | (simp; done) | (simp; omega)))))⟩
theorem wire_Letter (l : RLetter) (w : World) :
    Calls Try.prog 13 #[.agg #[.int .i64 l.src, .int .i64 l.dst, .bool l.answer, .int .i64 l.t1, .int .i64 l.t2, .int .i64 l.t]] w fun e w' => e = .returned (.tuple #[.string (letS l), errV (letC l)]) ∧ Below w.heap.size w w' := by
  by_cases h : letC l = 0
  · have hs : letS l = ⟨(letB l).toArray⟩ := by unfold letS; rw [if_pos h]
    rw [hs, h]
    obtain ⟨src, dst, ans, t1, t2, t⟩ := l
    cases ans
    · obtain ⟨g1, g2, g3, g4, g5, g6, g7⟩ := letC_0 h
      obtain ⟨e1, e2⟩ := g7 rfl
      dsimp only at e1 e2
      subst e1 e2
      exact wire_Letter_q src dst t w h
    · exact wire_Letter_a src dst t t1 t2 w h
  · have hs : letS l = ⟨#[]⟩ := by unfold letS; rw [if_neg h]
    rw [hs]
    exact wire_Letter_n l w h
set_option maxHeartbeats 1000000 in
theorem wire_Span (a b : Int) (w : World) :
    Calls Try.prog 9 #[.agg #[.int .i64 a, .int .i64 b]] w fun e w' => e = .returned (.tuple #[.string (spanS a b), errV (okC (rightB a b))]) ∧ Below w.heap.size w w' := by
  by_cases h : rightB a b = true
  · have hs : spanS a b = ⟨(spanB a b).toArray⟩ := by unfold spanS; rw [if_pos h]
    rw [hs, h]
    exact wire_Span_ok a b w h
  · have hs : spanS a b = ⟨#[]⟩ := by unfold spanS; rw [if_neg h]
    have hf : rightB a b = false := by simpa using h
    rw [hs]
    go_enter Try.func9, Try.ntmps9
    go_wp2_with fail
    (try (go_at_call 28; refine (span_Check _ _ _).mono ?_; rintro e w1 ⟨rfl, hb1⟩; obtain ⟨hc1, hf1⟩ := bcell hb1; have hz1 := hb1.size; (try simp at hz1); (try have q1_0_0_0 : w.heap.size < w1.heap.size := by omega); (try have q1_0_0_2 : w.heap.size < w1.heap.size + 1 + 1 := by omega); (try have q1_0_0_3 : w.heap.size < w1.heap.size + 1 + 1 + 1 := by omega); (try have q1_0_1_0 : w.heap.size + 1 < w1.heap.size := by omega); (try have q1_0_1_2 : w.heap.size + 1 < w1.heap.size + 1 + 1 := by omega); (try have q1_0_1_3 : w.heap.size + 1 < w1.heap.size + 1 + 1 + 1 := by omega); (try have q1_0_2_0 : w.heap.size + 1 + 1 < w1.heap.size := by omega); (try have q1_0_2_2 : w.heap.size + 1 + 1 < w1.heap.size + 1 + 1 := by omega); (try have q1_0_2_3 : w.heap.size + 1 + 1 < w1.heap.size + 1 + 1 + 1 := by omega); (try have q1_0_3_0 : w.heap.size + 1 + 1 + 1 < w1.heap.size := by omega); (try have q1_0_3_2 : w.heap.size + 1 + 1 + 1 < w1.heap.size + 1 + 1 := by omega); (try have q1_0_3_3 : w.heap.size + 1 + 1 + 1 < w1.heap.size + 1 + 1 + 1 := by omega); (try go_wp2_with fail)))
    go_ret2
    exact ⟨by rw [hf]; rfl, (by repeat (first | with_reducible exact Below.refl _ _ | (with_reducible refine Below.alloc ?_ (by first | omega | (simp; done) | (simp; omega)) _) | (with_reducible refine Below.setCell ?_ (by first | omega | (simp; done) | (simp; omega)) _) | (with_reducible refine Below.drew ?_) | (with_reducible refine below_drewN ?_ _) | (with_reducible assumption) | (with_reducible refine bel_step (by with_reducible assumption) ?_ (by first | omega | (simp; done) | (simp; omega)))))⟩
end Go.Proofs.Ytfjpfkejajgkbaa
