/- Proved: noonlaw2.NodePlays answers true for every input and leaves its arguments as they were. Its conditions: none beyond the tied card's own. -/
import Derived.Test.YtlkekkpknmbobaaDoorDoor
import Derived.Test.YtlkekkpknmbobaaDoorNodeE
import Derived.Test.YtlkekkpknmbobaaDoorRNodeE
import Derived.Test.YtlkekkpknmbobaaDoorNodeF
import Derived.Test.YtlkekkpknmbobaaDoorRNodeF
import Derived.Test.YtlkekkpknmbobaaDoorSame
import Derived.Test.YtlkekkpknmbobaaDoorSameL
namespace Go.Proofs.YtlkekkpknmbobaaDoor.lNodePlays
open Go.ChangeShapes Go.WideShapes Go.ChangeAt Go.RowKit
set_option linter.unusedVariables false
set_option linter.unusedSimpArgs false
set_option maxRecDepth 100000 in
set_option maxHeartbeats 32000000 in
theorem good (id N : Nat) (p : Int) (a3 : Option Addr) (n3 c3 : Nat) (z3 : List RLetter) (a4 : Option Addr) (n4 c4 : Nat) (z4 : List Int) (w : World)
    (h3 : IsRecs w RLetter.cells RLetter.ok 6 a3 n3 c3 z3) (h4 : IsInts w a4 n4 c4 z4) (hg : HandleAt w) (N1 : 1 ≤ N) (N6 : N ≤ 6) (hid : id < N) (p0 : 0 ≤ p) (p1 : p ≤ 1000) :
    Calls Tryd.prog 4 #[.int .i64 id, .int .i64 N, .int .i64 p, .slice a3 n3 c3, .slice a4 n4 c4] w fun e w' => e = .returned (.bool true) ∧ Below w.heap.size w w' := by
  have CN := Lib.hid (fun w => node_New N id p w N1 N6 hid p0 p1)
  have CE := Lib.hid (fun c w' (hb : Below w.heap.size w w') => show Calls Tryd.prog 8 #[errV c, .int .i64 c] w' fun e w'' => e = .returned (.bool true) ∧ Below w'.heap.size w' w'' by have := Error_any c c w' (hg.below hb); simpa using this)
  have CE0 := Lib.hid (CE.out 0)
  have HOk := Lib.hid (NSt.start_ok N1 N6 hid p0 p1)
  obtain ⟨l1, l2, l3, l4, l5⟩ := h3
  obtain ⟨l6, l8, l9, l10, l7⟩ := h4
  unfold maxLen at l3 l9
  have L1 := Lib.hid l1
  have L5 := Lib.hid l5
  have L6 := Lib.hid l6
  have L7 := Lib.hid l7
  have d1 : ¬ (N : Int) < 1 := by omega
  have d2 : ¬ (6 : Int) < (N : Int) := by omega
  have d3 : ¬ (id : Int) < 0 := by omega
  have d4 : ¬ (N : Int) ≤ (id : Int) := by omega
  have d5 : ¬ p < 0 := by omega
  have d6 : ¬ 1000 < p := by omega
  clear hg l1 l4 l5 l6 l10 l7
  go_enter Tryd.func4, Tryd.ntmps4
  go_wp2_with fail
  refine (CN.out w).mono ?_
  rintro e wa ⟨g, mb, rfl, hg1, hg2, hN1, hb1⟩
  have HN1 := Lib.hid hN1
  have HB1 := Lib.hid hb1
  clear hN1 hb1 CN
  go_wp2_with fail
  refine (CE0.out wa HB1.out).mono ?_
  rintro e wb ⟨rfl, hb2⟩
  have HB2 := Lib.hid (HB1.out.trans (hb2.mono HB1.out.size))
  have HN2 := Lib.hid (HN1.out.below hb2)
  clear hb2 HN1 HB1
  go_wp2_with fail
  obtain ⟨M, hM⟩ : ∃ M, wb.heap.size = M := ⟨_, rfl⟩
  obtain ⟨w4, hw4⟩ : ∃ W, (wb.alloc (.cells (rcells (NSt.start N id p)) 46)) = W := ⟨_, rfl⟩
  have hcs : rcells (NSt.start N id p) = #[.int .i64 id, .int .i64 N, .int .i64 p, .int .i64 (-1), .bool false, .bool false, .bool false, .bool false, .bool false, .bool false, .int .i64 0, .int .i64 0, .int .i64 0, .int .i64 0, .int .i64 0, .int .i64 0, .int .i64 0, .int .i64 0, .int .i64 0, .int .i64 0, .int .i64 0, .int .i64 0, .int .i64 0, .int .i64 0, .int .i64 0, .int .i64 0, .int .i64 0, .int .i64 0] := rfl
  have hal : Below wb.heap.size wb w4 := by rw [← hw4]; exact (Below.refl _ _).alloc (Nat.le_refl _) _
  have HX := Lib.hid (HN2.out.below hal)
  have HY : Hid (RNodeAt w4 M (NSt.start N id p)) := Lib.hid (by rw [← hw4, ← hM]; exact ⟨Blk.new wb _ _, HOk.out⟩)
  have HB4 := Lib.hid (HB2.out.trans (hal.mono HB2.out.size))
  have hgM : g < M ∧ mb < M := ⟨by rw [← hM]; exact HN2.out.blk.lt, by rw [← hM]; exact HN2.out.mp.lt⟩
  have hMw : w.heap.size ≤ M := by rw [← hM]; exact HB2.out.size
  rw [hcs] at hw4
  rw [hw4, hM]
  clear hw4 hM hal hcs HN2 HB2
  obtain ⟨hgM, hmM⟩ := hgM
  go_loopw [16] (fun iv wr => ∃ (k : Nat) (s : NSt), iv = .int .i64 k ∧ k ≤ n3 ∧ k ≤ 40 ∧ NodeAt wr g mb k s ∧ RNodeAt wr M s ∧ Below w.heap.size w wr) (fun iv _ => n3 - (intOf iv).toNat)
  case atStart => exact ⟨0, _, rfl, by omega, by omega, HX.out, HY.out, HB4.out⟩
  case round =>
    obtain ⟨k, s, rfl, hk, hk40, hX, hY, hB⟩ := hrel
    have HX := Lib.hid hX
    have HY := Lib.hid hY
    have HBr := Lib.hid hB
    clear hX hY hB HB4 HOk
    by_cases d7 : k < n3 ∧ k < 40 ∧ k < n4
    · obtain ⟨d7, d8, d9⟩ := d7
      obtain ⟨z, hz⟩ : ∃ z, z3[k]? = some z := ⟨_, List.getElem?_eq_getElem (by rw [L1.out]; omega)⟩
      obtain ⟨hr, hhr⟩ : ∃ z, z4[k]? = some z := ⟨_, List.getElem?_eq_getElem (by rw [L6.out]; omega)⟩
      obtain ⟨bl, offl, rfl, hbl, hcl⟩ := L5.out (by omega)
      obtain ⟨bh, offh, rfl, hbh, hch⟩ := L7.out (by omega)
      have HS := Lib.hid (fun W (hb : Below w.heap.size w W) => show W.cell? ⟨bl, offl + k * 6, none⟩ = some (.int .i64 z.src) ∧ W.cell? ⟨bl, offl + k * 6 + 1, none⟩ = some (.int .i64 z.dst) ∧ W.cell? ⟨bl, offl + k * 6 + 2, none⟩ = some (.bool z.answer) ∧ W.cell? ⟨bl, offl + k * 6 + 3, none⟩ = some (.int .i64 z.t1) ∧ W.cell? ⟨bl, offl + k * 6 + 4, none⟩ = some (.int .i64 z.t2) ∧ W.cell? ⟨bl, offl + k * 6 + 5, none⟩ = some (.int .i64 z.t) ∧ W.cell? ⟨bh, offh + k, none⟩ = some (.int .i64 hr) from
        ⟨(hb.cell (p := ⟨bl, offl + k * 6, none⟩) hbl).trans (hcl k z hz 0 _ rfl), (hb.cell (p := ⟨bl, offl + k * 6 + 1, none⟩) hbl).trans (hcl k z hz 1 _ rfl), (hb.cell (p := ⟨bl, offl + k * 6 + 2, none⟩) hbl).trans (hcl k z hz 2 _ rfl), (hb.cell (p := ⟨bl, offl + k * 6 + 3, none⟩) hbl).trans (hcl k z hz 3 _ rfl), (hb.cell (p := ⟨bl, offl + k * 6 + 4, none⟩) hbl).trans (hcl k z hz 4 _ rfl), (hb.cell (p := ⟨bl, offl + k * 6 + 5, none⟩) hbl).trans (hcl k z hz 5 _ rfl), by have := (hb.cell (p := ⟨bh, offh + k * 1 + 0, none⟩) hbh).trans (hch k hr hhr 0 _ rfl); simpa using this⟩)
      obtain ⟨bv, c, s', hH⟩ := hears_total s z hr
      have HH := Lib.hid hH
      have q0 : (0 : Int) ≤ (k : Int) := by omega
      have q1 : (k : Int) < (n3 : Int) := by omega
      have q2 : (k : Int) < 40 := by omega
      have q3 : (k : Int) < (n4 : Int) := by omega
      have CR := Lib.hid (fun W (hb : Below wr.heap.size wr W) => r2_Hear M s s' z hr bv c W (HY.out.below hb) HH.out)
      have CP := Lib.hid (fun W (h : NodeAt W g mb k s) => node_Hear g mb k s s' z hr bv c W h (by omega) HH.out)
      have ml := HY.out.blk.lt
      have gl := HX.out.blk.lt
      have mbl := HX.out.mp.lt
      have HBX := HBr.out
      clear hz hhr hcl hch hH
      go_wp2_with fail
      refine wp_region_held_drew (S := fun w9 => w9.cell? ⟨bl, offl + k * 6, none⟩ = some (.int .i64 z.src) ∧ w9.cell? ⟨bl, offl + k * 6 + 1, none⟩ = some (.int .i64 z.dst) ∧ w9.cell? ⟨bl, offl + k * 6 + 2, none⟩ = some (.bool z.answer) ∧ w9.cell? ⟨bl, offl + k * 6 + 3, none⟩ = some (.int .i64 z.t1) ∧ w9.cell? ⟨bl, offl + k * 6 + 4, none⟩ = some (.int .i64 z.t2) ∧ w9.cell? ⟨bl, offl + k * 6 + 5, none⟩ = some (.int .i64 z.t) ∧ w9.cell? ⟨bh, offh + k, none⟩ = some (.int .i64 hr)) (by kernel_rfl) (HS.out _ HBX.drew) (fun hHeld => ?_)
      refine take_d (i := 0) (v := (.pointer (some ⟨M, 0, none⟩))) (d := some 94) rfl (by kernel_rfl) (by kernel_rfl) (by kernel_rfl) (by kernel_rfl) (fun _ _ _ h => h) (Or.inl ⟨by kernel_rfl, fun w9 hw9 => by (go_simp)⟩) hHeld ?_
      try simp only [Act.put, List.setIfInBounds_toArray, List.set_cons_zero, List.set_cons_succ]
      refine take_d (i := 1) (v := (.slice (some ⟨bl, offl, none⟩) n3 c3)) (d := some 95) rfl (by kernel_rfl) (by kernel_rfl) (by kernel_rfl) (by kernel_rfl) (fun _ _ _ h => h) (Or.inl ⟨by kernel_rfl, fun w9 hw9 => by (go_simp)⟩) hHeld ?_
      try simp only [Act.put, List.setIfInBounds_toArray, List.set_cons_zero, List.set_cons_succ]
      refine take_d (i := 2) (v := (.int .i64 k)) (d := some 96) rfl (by kernel_rfl) (by kernel_rfl) (by kernel_rfl) (by kernel_rfl) (fun _ _ _ h => h) (Or.inl ⟨by kernel_rfl, fun w9 hw9 => by (go_simp)⟩) hHeld ?_
      try simp only [Act.put, List.setIfInBounds_toArray, List.set_cons_zero, List.set_cons_succ]
      refine take_d (i := 3) (v := (.pointer (some ⟨bl, offl + k * 6, none⟩))) (d := some 97) rfl (by kernel_rfl) (by kernel_rfl) (by kernel_rfl) (by kernel_rfl) (fun _ _ _ h => h) (Or.inl ⟨by kernel_rfl, fun w9 hw9 => by (go_simp)⟩) hHeld ?_
      try simp only [Act.put, List.setIfInBounds_toArray, List.set_cons_zero, List.set_cons_succ]
      refine take_d (i := 4) (v := (.agg #[.int .i64 z.src, .int .i64 z.dst, .bool z.answer, .int .i64 z.t1, .int .i64 z.t2, .int .i64 z.t])) (d := some 98) rfl (by kernel_rfl) (by kernel_rfl) (by kernel_rfl) (by kernel_rfl) (fun _ _ _ h => h) (Or.inl ⟨by kernel_rfl, fun w9 hw9 => by (obtain ⟨u0, u1, u2, u3, u4, u5, u6⟩ := hw9; go_simp)⟩) hHeld ?_
      try simp only [Act.put, List.setIfInBounds_toArray, List.set_cons_zero, List.set_cons_succ]
      refine take_d (i := 5) (v := (.slice (some ⟨bh, offh, none⟩) n4 c4)) (d := some 99) rfl (by kernel_rfl) (by kernel_rfl) (by kernel_rfl) (by kernel_rfl) (fun _ _ _ h => h) (Or.inl ⟨by kernel_rfl, fun w9 hw9 => by (go_simp)⟩) hHeld ?_
      try simp only [Act.put, List.setIfInBounds_toArray, List.set_cons_zero, List.set_cons_succ]
      refine take_d (i := 6) (v := (.int .i64 k)) (d := some 100) rfl (by kernel_rfl) (by kernel_rfl) (by kernel_rfl) (by kernel_rfl) (fun _ _ _ h => h) (Or.inl ⟨by kernel_rfl, fun w9 hw9 => by (go_simp)⟩) hHeld ?_
      try simp only [Act.put, List.setIfInBounds_toArray, List.set_cons_zero, List.set_cons_succ]
      refine take_d (i := 7) (v := (.pointer (some ⟨bh, offh + k, none⟩))) (d := some 101) rfl (by kernel_rfl) (by kernel_rfl) (by kernel_rfl) (by kernel_rfl) (fun _ _ _ h => h) (Or.inl ⟨by kernel_rfl, fun w9 hw9 => by (go_simp)⟩) hHeld ?_
      try simp only [Act.put, List.setIfInBounds_toArray, List.set_cons_zero, List.set_cons_succ]
      refine take_d (i := 8) (v := (.int .i64 hr)) (d := some 102) rfl (by kernel_rfl) (by kernel_rfl) (by kernel_rfl) (by kernel_rfl) (fun _ _ _ h => h) (Or.inl ⟨by kernel_rfl, fun w9 hw9 => by (obtain ⟨u0, u1, u2, u3, u4, u5, u6⟩ := hw9; go_simp)⟩) hHeld ?_
      try simp only [Act.put, List.setIfInBounds_toArray, List.set_cons_zero, List.set_cons_succ]
      try simp only [Act.put, List.setIfInBounds_toArray, List.set_cons_zero, List.set_cons_succ]
      refine wpAnyH_ready (rs := [9]) (by kernel_rfl) (by simp) ?_
      refine AllReadyH.cons rfl (fun K hK => ?_) AllReadyH.nil
      go_simp
      refine (CR.out _ (by exact (by repeat (first | with_reducible exact Below.refl _ _ | (with_reducible refine Below.alloc ?_ (by first | omega | (simp; done) | (simp; omega)) _) | (with_reducible refine Below.setCell ?_ (by first | omega | (simp; done) | (simp; omega)) _) | (with_reducible refine Below.drew ?_) | (with_reducible refine below_drewN ?_ _) | (with_reducible assumption) | (with_reducible refine bel_step (by with_reducible assumption) ?_ (by first | omega | (simp; done) | (simp; omega))))))).mono ?_
      rintro e w1 ⟨rfl, hY1, hK1⟩
      have hKd : Kept (fun k => k = M) wr w1 := ((Kept.refl _ wr).drew).trans hK1 (fun k e => .inl e)
      have HB1 : Below w.heap.size w w1 := HBX.trans (hKd.toBelow HBX.size (fun k e => by omega))
      have HX1 := Lib.hid (HX.out.other hKd (by omega) (by omega))
      have HY1 := Lib.hid hY1
      clear hY1 hK1 hKd
      refine hK.out _ _ (HS.out _ HB1) (fun hHeld2 => ?_)
      clear hK K hHeld
      have hHeld := hHeld2
      try simp only [Act.put, List.setIfInBounds_toArray, List.set_cons_zero, List.set_cons_succ]
      refine take_d (i := 10) (v := (.tuple #[.bool bv, .int .i64 c])) (d := some 93) rfl (by kernel_rfl) (by kernel_rfl) (by kernel_rfl) (by kernel_rfl) (fun _ _ _ h => h) (Or.inl ⟨by kernel_rfl, fun w9 hw9 => by (go_simp)⟩) hHeld ?_
      try simp only [Act.put, List.setIfInBounds_toArray, List.set_cons_zero, List.set_cons_succ]
      refine take_d (i := 11) (v := (.bool bv)) (d := some 104) rfl (by kernel_rfl) (by kernel_rfl) (by kernel_rfl) (by kernel_rfl) (fun _ _ _ h => h) (Or.inl ⟨by kernel_rfl, fun w9 hw9 => by (go_simp)⟩) hHeld ?_
      try simp only [Act.put, List.setIfInBounds_toArray, List.set_cons_zero, List.set_cons_succ]
      refine take_d (i := 12) (v := (.int .i64 c)) (d := some 105) rfl (by kernel_rfl) (by kernel_rfl) (by kernel_rfl) (by kernel_rfl) (fun _ _ _ h => h) (Or.inl ⟨by kernel_rfl, fun w9 hw9 => by (go_simp)⟩) hHeld ?_
      try simp only [Act.put, List.setIfInBounds_toArray, List.set_cons_zero, List.set_cons_succ]
      refine take_d (i := 13) (v := (.bool bv)) (d := some 17) rfl (by kernel_rfl) (by kernel_rfl) (by kernel_rfl) (by kernel_rfl) (fun _ _ _ h => h) (Or.inl ⟨by kernel_rfl, fun w9 hw9 => by (go_simp)⟩) hHeld ?_
      try simp only [Act.put, List.setIfInBounds_toArray, List.set_cons_zero, List.set_cons_succ]
      refine take_d (i := 14) (v := (.int .i64 c)) (d := some 18) rfl (by kernel_rfl) (by kernel_rfl) (by kernel_rfl) (by kernel_rfl) (fun _ _ _ h => h) (Or.inl ⟨by kernel_rfl, fun w9 hw9 => by (go_simp)⟩) hHeld ?_
      try simp only [Act.put, List.setIfInBounds_toArray, List.set_cons_zero, List.set_cons_succ]
      refine wpAnyH_done (by kernel_rfl) ?_ _
      try simp only [Act.put, List.setIfInBounds_toArray, List.set_cons_zero, List.set_cons_succ]
      have ml1 := HY1.out.blk.lt
      clear CR HX HY HBX
      have HBX := HB1
      go_wp2_with fail
      refine wp_region_held_drew (S := fun w9 => w9.cell? ⟨bl, offl + k * 6, none⟩ = some (.int .i64 z.src) ∧ w9.cell? ⟨bl, offl + k * 6 + 1, none⟩ = some (.int .i64 z.dst) ∧ w9.cell? ⟨bl, offl + k * 6 + 2, none⟩ = some (.bool z.answer) ∧ w9.cell? ⟨bl, offl + k * 6 + 3, none⟩ = some (.int .i64 z.t1) ∧ w9.cell? ⟨bl, offl + k * 6 + 4, none⟩ = some (.int .i64 z.t2) ∧ w9.cell? ⟨bl, offl + k * 6 + 5, none⟩ = some (.int .i64 z.t) ∧ w9.cell? ⟨bh, offh + k, none⟩ = some (.int .i64 hr)) (by kernel_rfl) (HS.out _ HBX.drew) (fun hHeld => ?_)
      refine take_d (i := 0) (v := (.pointer (some ⟨g, 0, none⟩))) (d := some 107) rfl (by kernel_rfl) (by kernel_rfl) (by kernel_rfl) (by kernel_rfl) (fun _ _ _ h => h) (Or.inl ⟨by kernel_rfl, fun w9 hw9 => by (go_simp)⟩) hHeld ?_
      try simp only [Act.put, List.setIfInBounds_toArray, List.set_cons_zero, List.set_cons_succ]
      refine take_d (i := 1) (v := (.slice (some ⟨bl, offl, none⟩) n3 c3)) (d := some 108) rfl (by kernel_rfl) (by kernel_rfl) (by kernel_rfl) (by kernel_rfl) (fun _ _ _ h => h) (Or.inl ⟨by kernel_rfl, fun w9 hw9 => by (go_simp)⟩) hHeld ?_
      try simp only [Act.put, List.setIfInBounds_toArray, List.set_cons_zero, List.set_cons_succ]
      refine take_d (i := 2) (v := (.int .i64 k)) (d := some 109) rfl (by kernel_rfl) (by kernel_rfl) (by kernel_rfl) (by kernel_rfl) (fun _ _ _ h => h) (Or.inl ⟨by kernel_rfl, fun w9 hw9 => by (go_simp)⟩) hHeld ?_
      try simp only [Act.put, List.setIfInBounds_toArray, List.set_cons_zero, List.set_cons_succ]
      refine take_d (i := 3) (v := (.pointer (some ⟨bl, offl + k * 6, none⟩))) (d := some 110) rfl (by kernel_rfl) (by kernel_rfl) (by kernel_rfl) (by kernel_rfl) (fun _ _ _ h => h) (Or.inl ⟨by kernel_rfl, fun w9 hw9 => by (go_simp)⟩) hHeld ?_
      try simp only [Act.put, List.setIfInBounds_toArray, List.set_cons_zero, List.set_cons_succ]
      refine take_d (i := 4) (v := (.agg #[.int .i64 z.src, .int .i64 z.dst, .bool z.answer, .int .i64 z.t1, .int .i64 z.t2, .int .i64 z.t])) (d := some 111) rfl (by kernel_rfl) (by kernel_rfl) (by kernel_rfl) (by kernel_rfl) (fun _ _ _ h => h) (Or.inl ⟨by kernel_rfl, fun w9 hw9 => by (obtain ⟨u0, u1, u2, u3, u4, u5, u6⟩ := hw9; go_simp)⟩) hHeld ?_
      try simp only [Act.put, List.setIfInBounds_toArray, List.set_cons_zero, List.set_cons_succ]
      refine take_d (i := 5) (v := (.slice (some ⟨bh, offh, none⟩) n4 c4)) (d := some 112) rfl (by kernel_rfl) (by kernel_rfl) (by kernel_rfl) (by kernel_rfl) (fun _ _ _ h => h) (Or.inl ⟨by kernel_rfl, fun w9 hw9 => by (go_simp)⟩) hHeld ?_
      try simp only [Act.put, List.setIfInBounds_toArray, List.set_cons_zero, List.set_cons_succ]
      refine take_d (i := 6) (v := (.int .i64 k)) (d := some 113) rfl (by kernel_rfl) (by kernel_rfl) (by kernel_rfl) (by kernel_rfl) (fun _ _ _ h => h) (Or.inl ⟨by kernel_rfl, fun w9 hw9 => by (go_simp)⟩) hHeld ?_
      try simp only [Act.put, List.setIfInBounds_toArray, List.set_cons_zero, List.set_cons_succ]
      refine take_d (i := 7) (v := (.pointer (some ⟨bh, offh + k, none⟩))) (d := some 114) rfl (by kernel_rfl) (by kernel_rfl) (by kernel_rfl) (by kernel_rfl) (fun _ _ _ h => h) (Or.inl ⟨by kernel_rfl, fun w9 hw9 => by (go_simp)⟩) hHeld ?_
      try simp only [Act.put, List.setIfInBounds_toArray, List.set_cons_zero, List.set_cons_succ]
      refine take_d (i := 8) (v := (.int .i64 hr)) (d := some 115) rfl (by kernel_rfl) (by kernel_rfl) (by kernel_rfl) (by kernel_rfl) (fun _ _ _ h => h) (Or.inl ⟨by kernel_rfl, fun w9 hw9 => by (obtain ⟨u0, u1, u2, u3, u4, u5, u6⟩ := hw9; go_simp)⟩) hHeld ?_
      try simp only [Act.put, List.setIfInBounds_toArray, List.set_cons_zero, List.set_cons_succ]
      try simp only [Act.put, List.setIfInBounds_toArray, List.set_cons_zero, List.set_cons_succ]
      refine wpAnyH_ready (rs := [9]) (by kernel_rfl) (by simp) ?_
      refine AllReadyH.cons rfl (fun K hK => ?_) AllReadyH.nil
      go_simp
      refine (CP.out _ (show NodeAt (w1.drew) g mb k s from HX1.out.below (by exact (by repeat (first | with_reducible exact Below.refl _ _ | (with_reducible refine Below.alloc ?_ (by first | omega | (simp; done) | (simp; omega)) _) | (with_reducible refine Below.setCell ?_ (by first | omega | (simp; done) | (simp; omega)) _) | (with_reducible refine Below.drew ?_) | (with_reducible refine below_drewN ?_ _) | (with_reducible assumption) | (with_reducible refine bel_step (by with_reducible assumption) ?_ (by first | omega | (simp; done) | (simp; omega)))))))).mono ?_
      rintro e w2 ⟨rfl, hX2, hK2⟩
      have hKd : Kept (NMine g mb) w1 w2 := ((Kept.refl _ w1).drew).trans hK2 (fun k e => .inl e)
      have HB2 : Below w.heap.size w w2 := HBX.trans (hKd.toBelow HBX.size (fun k e => by rcases e with e | e <;> omega))
      have HX2 := Lib.hid hX2
      have HY2 := Lib.hid (HY1.out.other hKd (fun e => by rcases e with e | e <;> omega))
      clear hX2 hK2 hKd
      refine hK.out _ _ (HS.out _ HB2) (fun hHeld2 => ?_)
      clear hK K hHeld
      have hHeld := hHeld2
      try simp only [Act.put, List.setIfInBounds_toArray, List.set_cons_zero, List.set_cons_succ]
      refine take_d (i := 10) (v := (.tuple #[.bool bv, errV c])) (d := some 106) rfl (by kernel_rfl) (by kernel_rfl) (by kernel_rfl) (by kernel_rfl) (fun _ _ _ h => h) (Or.inl ⟨by kernel_rfl, fun w9 hw9 => by (go_simp)⟩) hHeld ?_
      try simp only [Act.put, List.setIfInBounds_toArray, List.set_cons_zero, List.set_cons_succ]
      refine take_d (i := 11) (v := (.bool bv)) (d := some 117) rfl (by kernel_rfl) (by kernel_rfl) (by kernel_rfl) (by kernel_rfl) (fun _ _ _ h => h) (Or.inl ⟨by kernel_rfl, fun w9 hw9 => by (go_simp)⟩) hHeld ?_
      try simp only [Act.put, List.setIfInBounds_toArray, List.set_cons_zero, List.set_cons_succ]
      refine take_d (i := 12) (v := (errV c)) (d := some 118) rfl (by kernel_rfl) (by kernel_rfl) (by kernel_rfl) (by kernel_rfl) (fun _ _ _ h => h) (Or.inl ⟨by kernel_rfl, fun w9 hw9 => by (go_simp)⟩) hHeld ?_
      try simp only [Act.put, List.setIfInBounds_toArray, List.set_cons_zero, List.set_cons_succ]
      refine take_d (i := 13) (v := (.bool bv)) (d := some 19) rfl (by kernel_rfl) (by kernel_rfl) (by kernel_rfl) (by kernel_rfl) (fun _ _ _ h => h) (Or.inl ⟨by kernel_rfl, fun w9 hw9 => by (go_simp)⟩) hHeld ?_
      try simp only [Act.put, List.setIfInBounds_toArray, List.set_cons_zero, List.set_cons_succ]
      refine take_d (i := 14) (v := (errV c)) (d := some 20) rfl (by kernel_rfl) (by kernel_rfl) (by kernel_rfl) (by kernel_rfl) (fun _ _ _ h => h) (Or.inl ⟨by kernel_rfl, fun w9 hw9 => by (go_simp)⟩) hHeld ?_
      try simp only [Act.put, List.setIfInBounds_toArray, List.set_cons_zero, List.set_cons_succ]
      refine wpAnyH_done (by kernel_rfl) ?_ _
      try simp only [Act.put, List.setIfInBounds_toArray, List.set_cons_zero, List.set_cons_succ]
      clear CP HX1 HY1 HBX
      go_wp2_with fail
      refine (CE.out c w2 HB2).mono ?_
      rintro e w3 ⟨rfl, hb3⟩
      have HB3 : Below w.heap.size w w3 := HB2.trans (hb3.mono HB2.size)
      have HX3 := Lib.hid (HX2.out.below hb3)
      have HY3 := Lib.hid (HY2.out.below hb3)
      obtain ⟨u0, u1, u2, u3, u4, u5, u6⟩ := HS.out w3 HB3
      have lb3 : bh < w3.heap.size := Nat.lt_of_lt_of_le hbh HB3.size
      clear hb3 HX2 HY2
      go_wp2_with fail
      refine (r2_Spans M s' hr w3 HY3.out).mono ?_
      rintro e w4 ⟨A4, n4a, k4, B4, m4, d4, rfl, hS4, hT4, hb4, _, _⟩
      have HB4 : Below w.heap.size w w4 := HB3.trans (hb4.mono HB3.size)
      have HX4 := Lib.hid (HX3.out.below hb4)
      have HY4 := Lib.hid (HY3.out.below hb4)
      obtain ⟨u0, u1, u2, u3, u4, u5, u6⟩ := HS.out w4 HB4
      have lb4 : bh < w4.heap.size := Nat.lt_of_lt_of_le hbh HB4.size
      have HS4 := Lib.hid hS4
      have HT4 := Lib.hid hT4
      clear hS4 hT4
      clear hb4 HX3 HY3
      go_wp2_with fail
      refine (node_Spans g mb (k + 1) s' hr w4 HX4.out).mono ?_
      rintro e w5 ⟨A5, n5a, k5, B5, m5, d5, rfl, hS5, hT5, hb5, _, _⟩
      have HB5 : Below w.heap.size w w5 := HB4.trans (hb5.mono HB4.size)
      have HX5 := Lib.hid (HX4.out.below hb5)
      have HY5 := Lib.hid (HY4.out.below hb5)
      obtain ⟨u0, u1, u2, u3, u4, u5, u6⟩ := HS.out w5 HB5
      have lb5 : bh < w5.heap.size := Nat.lt_of_lt_of_le hbh HB5.size
      have HS5 := Lib.hid hS5
      have HT5 := Lib.hid hT5
      have HS4' := Lib.hid (HS4.out.below hb5)
      have HT4' := Lib.hid (HT4.out.below hb5)
      clear hS5 hT5 HS4 HT4
      clear hb5 HX4 HY4
      go_wp2_with fail
      refine (CE.out (tellC s' hr) w5 HB5).mono ?_
      rintro e w6 ⟨rfl, hb6⟩
      have HB6 : Below w.heap.size w w6 := HB5.trans (hb6.mono HB5.size)
      have HX6 := Lib.hid (HX5.out.below hb6)
      have HY6 := Lib.hid (HY5.out.below hb6)
      obtain ⟨u0, u1, u2, u3, u4, u5, u6⟩ := HS.out w6 HB6
      have lb6 : bh < w6.heap.size := Nat.lt_of_lt_of_le hbh HB6.size
      have HS4 := Lib.hid (HS4'.out.below hb6)
      have HT4 := Lib.hid (HT4'.out.below hb6)
      have HS6 := Lib.hid (HS5.out.below hb6)
      have HT6 := Lib.hid (HT5.out.below hb6)
      clear HS4' HT4' HS5 HT5
      clear hb6 HX5 HY5
      go_wp2_with fail
      refine (same_Spans _ _ _ _ _ _ _ w6 HS6.out HS4.out).mono ?_
      rintro e w7 ⟨rfl, hb7⟩
      have HB7 : Below w.heap.size w w7 := HB6.trans (hb7.mono HB6.size)
      have HX7 := Lib.hid (HX6.out.below hb7)
      have HY7 := Lib.hid (HY6.out.below hb7)
      obtain ⟨u0, u1, u2, u3, u4, u5, u6⟩ := HS.out w7 HB7
      have lb7 : bh < w7.heap.size := Nat.lt_of_lt_of_le hbh HB7.size
      have HT7 := Lib.hid (HT6.out.below hb7)
      have HT4' := Lib.hid (HT4.out.below hb7)
      clear HS4 HS6 HT6 HT4
      clear hb7 HX6 HY6
      go_wp2_with fail
      refine (same_Bools _ _ _ _ _ _ _ w7 HT7.out HT4'.out).mono ?_
      rintro e w8 ⟨rfl, hb8⟩
      have HB8 : Below w.heap.size w w8 := HB7.trans (hb8.mono HB7.size)
      have HX8 := Lib.hid (HX7.out.below hb8)
      have HY8 := Lib.hid (HY7.out.below hb8)
      obtain ⟨u0, u1, u2, u3, u4, u5, u6⟩ := HS.out w8 HB8
      have lb8 : bh < w8.heap.size := Nat.lt_of_lt_of_le hbh HB8.size
      clear HT7 HT4'
      clear hb8 HX7 HY7
      go_wp2_with fail
      refine (r2_Edges M s' hr w8 HY8.out).mono ?_
      rintro e w9 ⟨A9, n9, k9, rfl, hE9, hb9⟩
      have HB9 : Below w.heap.size w w9 := HB8.trans (hb9.mono HB8.size)
      have HX9 := Lib.hid (HX8.out.below hb9)
      have HY9 := Lib.hid (HY8.out.below hb9)
      obtain ⟨u0, u1, u2, u3, u4, u5, u6⟩ := HS.out w9 HB9
      have lb9 : bh < w9.heap.size := Nat.lt_of_lt_of_le hbh HB9.size
      have HE9 := Lib.hid hE9
      clear hE9
      clear hb9 HX8 HY8
      go_wp2_with fail
      refine (node_Edges g mb (k + 1) s' hr w9 HX9.out).mono ?_
      rintro e w10 ⟨A10, n10, k10, rfl, hE10, hb10⟩
      have HB10 : Below w.heap.size w w10 := HB9.trans (hb10.mono HB9.size)
      have HX10 := Lib.hid (HX9.out.below hb10)
      have HY10 := Lib.hid (HY9.out.below hb10)
      obtain ⟨u0, u1, u2, u3, u4, u5, u6⟩ := HS.out w10 HB10
      have lb10 : bh < w10.heap.size := Nat.lt_of_lt_of_le hbh HB10.size
      have HE10 := Lib.hid hE10
      have HE9' := Lib.hid (HE9.out.below hb10)
      clear hE10 HE9
      clear hb10 HX9 HY9
      go_wp2_with fail
      refine (CE.out (tellC s' hr) w10 HB10).mono ?_
      rintro e w11 ⟨rfl, hb11⟩
      have HB11 : Below w.heap.size w w11 := HB10.trans (hb11.mono HB10.size)
      have HX11 := Lib.hid (HX10.out.below hb11)
      have HY11 := Lib.hid (HY10.out.below hb11)
      obtain ⟨u0, u1, u2, u3, u4, u5, u6⟩ := HS.out w11 HB11
      have lb11 : bh < w11.heap.size := Nat.lt_of_lt_of_le hbh HB11.size
      have HE11 := Lib.hid (HE10.out.below hb11)
      have HE9 := Lib.hid (HE9'.out.below hb11)
      clear HE10 HE9'
      clear hb11 HX10 HY10
      go_wp2_with fail
      refine (same_Edges _ _ _ _ _ _ _ w11 HE11.out HE9.out).mono ?_
      rintro e w12 ⟨rfl, hb12⟩
      have HB12 : Below w.heap.size w w12 := HB11.trans (hb12.mono HB11.size)
      have HX12 := Lib.hid (HX11.out.below hb12)
      have HY12 := Lib.hid (HY11.out.below hb12)
      obtain ⟨u0, u1, u2, u3, u4, u5, u6⟩ := HS.out w12 HB12
      have lb12 : bh < w12.heap.size := Nat.lt_of_lt_of_le hbh HB12.size
      clear HE11 HE9
      clear hb12 HX11 HY11
      go_wp2_with fail
      go_roundw
      case rel => exact ⟨k + 1, s', by go_num, by omega, by omega, HX12.out, HY12.out, HB12⟩
      case measure => go_light; simp [intOf]; omega
    · have hd : ¬ (k : Int) < (n3 : Int) ∨ ((k : Int) < (n3 : Int) ∧ ¬ (k : Int) < 40) ∨ ((k : Int) < (n3 : Int) ∧ (k : Int) < 40 ∧ ¬ (k : Int) < (n4 : Int)) := by omega
      clear d7 HX HY
      rcases hd with e1 | ⟨e1, e2⟩ | ⟨e1, e2, e3⟩
      all_goals
        go_wp2_with fail
        go_ret
        exact ⟨rfl, HBr.out⟩
set_option maxRecDepth 100000 in
set_option maxHeartbeats 8000000 in
theorem walk (a0 : Int) (a1 : Int) (a2 : Int) (a3 : Option Addr) (n3 c3 : Nat) (z3 : List RLetter) (a4 : Option Addr) (n4 c4 : Nat) (z4 : List Int) (w : World) (h0 : -9223372036854775808 ≤ a0 ∧ a0 ≤ 9223372036854775807) (h1 : -9223372036854775808 ≤ a1 ∧ a1 ≤ 9223372036854775807) (h2 : -9223372036854775808 ≤ a2 ∧ a2 ≤ 9223372036854775807) (h3 : IsRecs w RLetter.cells RLetter.ok 6 a3 n3 c3 z3) (h4 : IsInts w a4 n4 c4 z4) (hg : HandleAt w) :
    Calls Tryd.prog 4 #[.int .i64 a0, .int .i64 a1, .int .i64 a2, .slice a3 n3 c3, .slice a4 n4 c4] w fun e w' => e = .returned (.bool true) ∧ Below w.heap.size w w' := by
  by_cases hc : 1 ≤ a1 ∧ a1 ≤ 6 ∧ 0 ≤ a0 ∧ a0 < a1 ∧ 0 ≤ a2 ∧ a2 ≤ 1000
  · obtain ⟨i1, i2, i3, i4, i5, i6⟩ := hc
    obtain ⟨N, rfl⟩ : ∃ N : Nat, a1 = (N : Int) := ⟨a1.toNat, by omega⟩
    obtain ⟨id, rfl⟩ : ∃ N : Nat, a0 = (N : Int) := ⟨a0.toNat, by omega⟩
    exact good id N a2 a3 n3 c3 z3 a4 n4 c4 z4 w h3 h4 hg (by omega) (by omega) (by omega) i5 i6
  · have CN := Lib.hid (fun w => node_New_no a0 a1 a2 w (by
      by_cases e1 : a1 < 1
      · exact .inl e1
      · by_cases e2 : 6 < a1
        · exact .inr (.inl e2)
        · by_cases e3 : nodeB a1 a0 = true
          · right; right; right
            rw [nodeB_iff] at e3
            cases hh : rateB a2
            · rfl
            · rw [rateB_iff] at hh; omega
          · right; right; left; simpa using e3))
    have CE1 := Lib.hid (fun w' (hb : Below w.heap.size w w') => show Calls Tryd.prog 8 #[.iface 62 (.int .i64 1), .int .i64 1] w' fun e w'' => e = .returned (.bool true) ∧ Below w'.heap.size w' w'' by have := Error_any 1 1 w' (hg.below hb); rw [errV_ne (by decide)] at this; simpa using this)
    have hd : a1 < 1 ∨ (¬ a1 < 1 ∧ 6 < a1) ∨ (¬ a1 < 1 ∧ ¬ 6 < a1 ∧ a0 < 0) ∨ (¬ a1 < 1 ∧ ¬ 6 < a1 ∧ ¬ a0 < 0 ∧ a1 ≤ a0) ∨ (¬ a1 < 1 ∧ ¬ 6 < a1 ∧ ¬ a0 < 0 ∧ ¬ a1 ≤ a0 ∧ a2 < 0) ∨ (¬ a1 < 1 ∧ ¬ 6 < a1 ∧ ¬ a0 < 0 ∧ ¬ a1 ≤ a0 ∧ ¬ a2 < 0 ∧ 1000 < a2) := by omega
    clear hc h0 h1 h2 h3 h4 hg
    rcases hd with d1 | ⟨d1, d2⟩ | ⟨d1, d2, d3⟩ | ⟨d1, d2, d3, d4⟩ | ⟨d1, d2, d3, d4, d5⟩ | ⟨d1, d2, d3, d4, d5, d6⟩
    all_goals
      go_enter Tryd.func4, Tryd.ntmps4
      go_wp2_with fail
      refine (CN.out w).mono ?_
      rintro e w1 ⟨rfl, hb1⟩
      have HB1 := Lib.hid hb1
      clear hb1 CN
      go_wp2_with fail
      refine (CE1.out w1 HB1.out).mono ?_
      rintro e w2 ⟨rfl, hb2⟩
      have HB2 := Lib.hid (HB1.out.trans (hb2.mono HB1.out.size))
      clear hb2
      go_wp2_with fail
      go_ret
      exact ⟨rfl, HB2.out⟩

set_option maxRecDepth 100000 in
theorem lifted (os : Os) (started : os.Started) (H : Type) (enc : TypeId × Value → H) :
    ReturnsInHanded {} Tryd.checked os 4 .any (fun w args => (Rows.nodePlaysSpec.pre enc Tryd.prog Tryd.f4 [] false w args ∧ laidMetH Tryd.prog laidList w) ∧ sizedMet enc Tryd.prog Tryd.f4 (OpenSpec.ofChange Rows.nodePlaysSpec) false w args)
      (Rows.nodePlaysSpec.post enc Tryd.prog Tryd.f4 false true false false) := by
  refine returnsInHanded_of_change_and (C := Tryd.checked) (X := fun w _ => laidMetH Tryd.prog laidList w) (fun _ _ _ hh h => h.of_heap hh) own started (by kernel_rfl) Tryd.func4
    (ChangeSpec.witness_at (enc := enc) (C := Tryd.checked) (os := os) (X := fun w _ => laidMetH Tryd.prog laidList w) false (laidWorld os) #[.int .i64 0, .int .i64 0, .int .i64 0, .slice none 0 0, .slice none 0 0] 8 rfl (by kernel_rfl) (by kernel_rfl) (by kernel_rfl) (by kernel_rfl) (by kernel_rfl) (laidWorld_met os _)) ?_
  intro W base args ds gs before hval0 hW hcnd hreach hL _
  have hval : ∀ (j : Nat) t v, Tryd.f4.params[j]? = some t → args[j]? = some v → Value.okWide Tryd.prog W .any base t v := hval0
  have hW' := hW
  obtain ⟨p, q, hA0, hV, rfl, hfz, hnd⟩ := hW
  have hA : DataW.TrodAll enc Tryd.prog W 0 (fun _ => true) true Tryd.f4.params.toList args.toList ds p := hA0
  rw [Tryd.params4] at hA hval
  obtain ⟨v0, vs0, d0, ds0, p0, q0, hargs, rfl, rfl, g0, r0⟩ := trodAll_cons hA
  obtain ⟨v1, vs1, d1, ds1, p1, q1, rfl, rfl, rfl, g1, r1⟩ := trodAll_cons r0
  obtain ⟨v2, vs2, d2, ds2, p2, q2, rfl, rfl, rfl, g2, r2⟩ := trodAll_cons r1
  obtain ⟨v3, vs3, d3, ds3, p3, q3, rfl, rfl, rfl, g3, r3⟩ := trodAll_cons r2
  obtain ⟨v4, vs4, d4, ds4, p4, q4, rfl, rfl, rfl, g4, r4⟩ := trodAll_cons r3
  obtain ⟨rfl, rfl, rfl⟩ := trodAll_nil r4
  obtain rfl : args = #[v0, v1, v2, v3, v4] := by cases args; simp_all
  have hV2 : DataW.TrodVars enc Tryd.prog W (fun _ => true) [] gs q := hV
  obtain ⟨rfl, rfl⟩ : gs = [] ∧ q = [] := by
    cases gs with
    | nil => exact ⟨rfl, hV2⟩
    | cons g r => exact absurd hV2 (by intro h; cases h)
  obtain ⟨a0, rfl, rfl, rfl, u0⟩ := open_int Tryd.underlying3 (hval 0 3 v0 rfl rfl) g0
  have h0 := bounds_i64 u0
  obtain ⟨a1, rfl, rfl, rfl, u1⟩ := open_int Tryd.underlying3 (hval 1 3 v1 rfl rfl) g1
  have h1 := bounds_i64 u1
  obtain ⟨a2, rfl, rfl, rfl, u2⟩ := open_int Tryd.underlying3 (hval 2 3 v2 rfl rfl) g2
  have h2 := bounds_i64 u2
  have k3 := g3
  have lt3 : ∀ x ∈ p3, x.block < W.heap.size := by obtain ⟨m, hm⟩ := k3; exact DataW.trod_lt m _ _ _ hm
  have rd3 : Tryd.prog.readableRec 39 = true := by kernel_rfl
  have ls3 : 39 < Tryd.prog.types.size := of_decide_eq_true (by kernel_rfl)
  obtain ⟨a3, n3, c3, z3, rfl, h3⟩ := open_RLetters (hval 3 39 v3 rfl rfl) g3
  have k4 := g4
  have lt4 : ∀ x ∈ p4, x.block < W.heap.size := by obtain ⟨m, hm⟩ := k4; exact DataW.trod_lt m _ _ _ hm
  have rd4 : Tryd.prog.readableRec 40 = true := by kernel_rfl
  have ls4 : 40 < Tryd.prog.types.size := of_decide_eq_true (by kernel_rfl)
  obtain ⟨a4, n4, c4, z4, rfl, h4⟩ := open_Ints (hval 4 40 v4 rfl rfl) g4
  clear hA0 hval0
  refine (walk a0 a1 a2 a3 n3 c3 z3 a4 n4 c4 z4 W h0 h1 h2 h3 h4 (handle_of_laid hL)).mono fun e W' ⟨he, bel⟩ => ?_
  subst he
  exact ⟨_, rfl, _, _, _, [], _, [], hW', trodAll_mk1 (shut_bool Tryd.underlying4 _), (trodAll_cons_mk (shut_int Tryd.underlying3 u0) (trodAll_cons_mk (shut_int Tryd.underlying3 u1) (trodAll_cons_mk (shut_int Tryd.underlying3 u2) (trodAll_cons_mk (Below.trod laidOut rd3 ls3 k3 bel lt3) (trodAll_cons_mk (Below.trod laidOut rd4 ls4 k4 bel lt4) trodAll_mk0))))), rfl, bel.frame _, fun h => by cases h⟩

theorem over : Rows.nodePlaysRow.holds Tryd.pinned (OpenSpec.ofChange Rows.nodePlaysSpec) :=
  OpenClaim.holds_of_wide 4 Tryd.f4 rfl rfl rfl rfl rfl rfl rfl ⟨rfl, rfl, rfl, rfl, rfl⟩ rfl rfl rfl rfl rfl (by kernel_rfl) Tryd.func4 (by kernel_rfl)
    (of_decide_eq_true (by kernel_rfl)) (by unfold Func.isWrapper; rw [if_neg (of_decide_eq_false (by kernel_rfl))]; exact ⟨rfl, rfl⟩)
    (fun os started H enc _ => lifted os started H enc)

theorem card : Rows.NodePlaysCardSaid :=
  Claim7.holds_tied_plain_at .later [] [.handle] true (true, Rows.nodePlaysCard.stood.harness.2) true
    over (fun _ h => by cases h) (by kernel_rfl) (fun _ h => by cases h) nodePlays_row_tie rfl ⟨rfl, rfl⟩ (by kernel_rfl) rfl
    (fun f fn hf hfn => by
      obtain rfl : f = 4 := Option.some.inj ((show Tryd.prog.funcNamed "noonmark/noonlaw2.NodePlays" = some 4 by kernel_rfl).symm.trans hf) |>.symm
      obtain rfl : fn = Tryd.f4 := (Option.some.inj (Tryd.func4.symm.trans hfn)).symm
      exact ⟨by kernel_rfl, fun j t ht => by
        rw [Tryd.params4] at ht
        exact noStandIn (ps := #[3, 3, 3, 39, 40]) (by kernel_rfl) ht⟩)
    (by kernel_rfl)

end Go.Proofs.YtlkekkpknmbobaaDoor.lNodePlays
