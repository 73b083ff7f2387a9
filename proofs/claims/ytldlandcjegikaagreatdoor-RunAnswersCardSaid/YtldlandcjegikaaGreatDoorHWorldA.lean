/- An ask in a world, walked. -/
import Derived.Test.YtldlandcjegikaaGreatDoorHK2
namespace Go.Proofs.YtldlandcjegikaaGreatDoor
open Go.RowKit
set_option linter.unusedVariables false
set_option linter.unusedSimpArgs false
set_option maxRecDepth 100000 in
set_option maxHeartbeats 8000000 in
theorem world_Do_ask (g B n : Nat) (ss rs : List Int) (t : Int) (uv : Value) (us : List RLetter) (i k : Nat) (s r : Int) (w : World) (h : WorldU w g B n ss rs t uv us) (hs : ss[i]? = some s) (hr : rs[i]? = some r) (hk : k < n) (hne : i ≠ k) (hl : us.length < 40) :
  Calls Tryz.prog 93 #[.pointer (some ⟨g, 0, none⟩), .agg #[.int .i64 2, .int .i64 i, .int .i64 k]] w fun e w' => e = .returned (.tuple #[.pointer none, .nilIface]) ∧ Sent w g B n ss rs t uv (us ++ [⟨i, k, false, 0, 0, readV s r t⟩]) w' := by
 obtain ⟨i0, hi, hz0, hz1, hz2⟩ := info_parts infoLt
 have n6 := h.n6
 have hin : i < n := by rw [← h.ls]; exact (List.getElem?_eq_some_iff.1 hs).1
 have HU := Lib.hid h
 have CH := Lib.hid (fun (j : Nat) (hj : j < n) w' (hb : Below w.heap.size w w') => by have := world_has g n ss rs t uv j w' (h.at.below hb); rw [hasN_nat hj] at this; exact this)
 have CRd := Lib.hid (fun w' (hb : Below w.heap.size w w') => world_read g n ss rs t uv i s r w' (h.at.below hb) hs hr)
 obtain ⟨A, c, rfl, hAc, hcm⟩ := own_slice h.row
 unfold maxLen at hcm
 have HG := Lib.hid (fun w' (hb : Below w.heap.size w w') => show w'.cell? ⟨g, 3, none⟩ = some (.slice A us.length c) ∧ w'.frozen? ⟨g, 3, none⟩ = false from by
  obtain ⟨gs, cs, gr, cr, k1, _⟩ := (h.below hb).ex
  exact ⟨by rw [k1.cell]; rfl, k1.fz 3⟩)
 have hrd := readV_bd (h.sb i s hs).1 (h.sb i s hs).2 h.t0 h.t1 (h.rb i r hr).1 (h.rb i r hr).2
 have hgw := Nat.lt_of_lt_of_le h.gB h.Bw
 have hBw := h.Bw
 have hgB := h.gB
 have hlow := h.low
 obtain ⟨v, hv⟩ : ∃ v, readV s r t = v := ⟨_, rfl⟩
 rw [hv] at CRd hrd ⊢
 have HOk := Lib.hid (show RLetter.ok ⟨i, k, false, 0, 0, v⟩ from by unfold RLetter.ok i64B; simp only []; omega)
 have g1 : ¬ (40 : Int) ≤ (us.length : Int) := by omega
 have g2 : ((i : Int) == (k : Int)) = false := by simp; omega
 clear h hs hr hne hv
 go_enter Tryz.func93, Tryz.ntmps93
 go_wp2_with fail
 refine (CH.out i hin _ BeL).mono ?_
 rintro e w1 ⟨rfl, hb1⟩
 have hz1 := hb1.size
 (try simp at hz1)
 have agx : w.heap.size ≤ w.heap.size := by first | omega | (simp; done) | (simp; omega)
 have bx1 : Blk w1 (w.heap.size) 71 #[.int .i64 2, .int .i64 i, .int .i64 k] := BkD
 have cx1_0 : w1.cell? ⟨w.heap.size, 0, none⟩ = some (.int .i64 2) := bx1.cell 0
 have fx1_0 : w1.frozen? ⟨w.heap.size, 0, none⟩ = false := bx1.fz 0
 have cx1_1 : w1.cell? ⟨w.heap.size, 1, none⟩ = some (.int .i64 i) := bx1.cell 1
 have fx1_1 : w1.frozen? ⟨w.heap.size, 1, none⟩ = false := bx1.fz 1
 have cx1_2 : w1.cell? ⟨w.heap.size, 2, none⟩ = some (.int .i64 k) := bx1.cell 2
 have fx1_2 : w1.frozen? ⟨w.heap.size, 2, none⟩ = false := bx1.fz 2
 have lx1 : w.heap.size < w1.heap.size := bx1.lt
 have HB1 : Below w.heap.size w w1 := BeL
 have HZ1 := HB1.size
 clear hb1 hz1
 go_wp2_with fail
 refine (CH.out k hk _ BeL).mono ?_
 rintro e w2 ⟨rfl, hb2⟩
 have hz2 := hb2.size
 (try simp at hz2)
 have bx2 : Blk w2 (w.heap.size) 71 #[.int .i64 2, .int .i64 i, .int .i64 k] := BkD
 have cx2_0 : w2.cell? ⟨w.heap.size, 0, none⟩ = some (.int .i64 2) := bx2.cell 0
 have fx2_0 : w2.frozen? ⟨w.heap.size, 0, none⟩ = false := bx2.fz 0
 have cx2_1 : w2.cell? ⟨w.heap.size, 1, none⟩ = some (.int .i64 i) := bx2.cell 1
 have fx2_1 : w2.frozen? ⟨w.heap.size, 1, none⟩ = false := bx2.fz 1
 have cx2_2 : w2.cell? ⟨w.heap.size, 2, none⟩ = some (.int .i64 k) := bx2.cell 2
 have fx2_2 : w2.frozen? ⟨w.heap.size, 2, none⟩ = false := bx2.fz 2
 have lx2 : w.heap.size < w2.heap.size := bx2.lt
 have HB2 : Below w.heap.size w w2 := BeL
 have HZ2 := HB2.size
 clear hb2 hz2 HB1 HZ1 bx1 lx1 cx1_0 fx1_0 cx1_1 fx1_1 cx1_2 fx1_2 
 obtain ⟨y0, y1⟩ := HG.out w2 HB2
 have hg2 : g < w2.heap.size := by omega
 go_wp2_with fail
 have KP := Lib.hid (fun w' (hb : Below w2.heap.size w2 w') => And.intro ((hb.cell (p := ⟨w.heap.size, 1, none⟩) lx2).trans cx2_1) ((hb.cell (p := ⟨w.heap.size, 2, none⟩) lx2).trans cx2_2))
 have KG := Lib.hid (fun W W' (hb : Below w2.heap.size w2 W) (hg : W.grownBy W' (Value.slice A us.length c).ownBlock) => show W'.cell? ⟨w.heap.size, 1, none⟩ = some (.int .i64 i) ∧ W'.cell? ⟨w.heap.size, 2, none⟩ = some (.int .i64 k) from by
  have hne : some w.heap.size ≠ (Value.slice A us.length c).ownBlock := fun e => by have := (hlow _ e.symm).2; omega
  obtain ⟨k1, k2⟩ := KP.out W hb
  exact ⟨hg.cell k1 hne, hg.cell k2 hne⟩)
 have KN := Lib.hid (fun W W' (hb : Below w2.heap.size w2 W) (hg : W.grownBy W' (Value.slice A us.length c).ownBlock) => show W'.cell? ⟨g, 3, none⟩ = some (.slice A us.length c) ∧ W'.frozen? ⟨g, 3, none⟩ = false from by
  have hne : some g ≠ (Value.slice A us.length c).ownBlock := fun e => by have := (hlow _ e.symm).1; omega
  obtain ⟨k1, k2⟩ := HG.out W (HB2.trans (hb.mono HZ2))
  exact ⟨hg.cell k1 hne, (World.frozen?_of_block (hg.block g (Nat.lt_of_lt_of_le hg2 hb.size) hne)).trans k2⟩)
 have KS := Lib.hid (fun (W : World) (v : Value) (hc : W.cell? ⟨w.heap.size, 1, none⟩ = some (.int .i64 i) ∧ W.cell? ⟨w.heap.size, 2, none⟩ = some (.int .i64 k)) => show (W.setCell ⟨g, 3, none⟩ v).cell? ⟨w.heap.size, 1, none⟩ = some (.int .i64 i) ∧ (W.setCell ⟨g, 3, none⟩ v).cell? ⟨w.heap.size, 2, none⟩ = some (.int .i64 k) from
  ⟨(World.cell?_setCell_other W _ _ v (fun e => by have := congrArg Addr.block e; simp at this; omega)).trans hc.1, (World.cell?_setCell_other W _ _ v (fun e => by have := congrArg Addr.block e; simp at this; omega)).trans hc.2⟩)
 have HRow := Lib.hid (fun w' (hb : Below w.heap.size w w') => own_below HU.out.row hb)
 have HB2h := Lib.hid HB2
 have B0 := Lib.hid (fun (w' : World) (hb : Below w.heap.size w w') => show B ≤ w'.heap.size from Nat.le_trans hBw hb.size)
 have B2 := Lib.hid (show us.length + 1 ≤ maxLen by unfold maxLen; omega)
 have B3 := Lib.hid (show (us.length + 1) * 48 ≤ 140737488355328 by omega)
 clear CH hlow
 refine wp_region_held_drew (S := fun w9 => w9.cell? ⟨w.heap.size, 1, none⟩ = some (.int .i64 i) ∧ w9.cell? ⟨w.heap.size, 2, none⟩ = some (.int .i64 k)) kRf (⟨cx2_1, cx2_2⟩) (fun hHeld => ?_)
 refine tkH 0 (.pointer (some ⟨g, 0, none⟩)) (some 70) rfl hHeld ?_
 try simp only [Act.put,sI_,sZ_,sS_]
 refine tkH 1 (.pointer (some ⟨g, 0, none⟩)) (some 71) rfl hHeld ?_
 try simp only [Act.put,sI_,sZ_,sS_]
 refine tkH 2 (.pointer (some ⟨g, 0, none⟩)) (some 72) rfl hHeld ?_
 try simp only [Act.put,sI_,sZ_,sS_]
 refine tkH 3 (.pointer (some ⟨g, 3, none⟩)) (some 73) rfl hHeld ?_
 try simp only [Act.put,sI_,sZ_,sS_]
 refine tkH 5 (.pointer (some ⟨w.heap.size, 1, none⟩)) (some 75) rfl hHeld ?_
 try simp only [Act.put,sI_,sZ_,sS_]
 refine tkG 6 (.int .i64 i) (some 76) rfl (fun w9 hw9 => by (obtain ⟨u1, u2⟩ := hw9; go_simp)) hHeld ?_
 try simp only [Act.put,sI_,sZ_,sS_]
 refine tkH 7 (.pointer (some ⟨w.heap.size, 2, none⟩)) (some 77) rfl hHeld ?_
 try simp only [Act.put,sI_,sZ_,sS_]
 refine tkG 8 (.int .i64 k) (some 78) rfl (fun w9 hw9 => by (obtain ⟨u1, u2⟩ := hw9; go_simp)) hHeld ?_
 try simp only [Act.put,sI_,sZ_,sS_]
 refine tkH 9 (.pointer (some ⟨g, 0, none⟩)) (some 79) rfl hHeld ?_
 try simp only [Act.put,sI_,sZ_,sS_]
 refine tkH 10 (.pointer (some ⟨w.heap.size, 1, none⟩)) (some 80) rfl hHeld ?_
 try simp only [Act.put,sI_,sZ_,sS_]
 refine tkG 11 (.int .i64 i) (some 81) rfl (fun w9 hw9 => by (obtain ⟨u1, u2⟩ := hw9; go_simp)) hHeld ?_
 try simp only [Act.put,sI_,sZ_,sS_]
 try simp only [Act.put,sI_,sZ_,sS_]
 refine wpAnyH_ready (rs := [4, 12]) kRf (by simp) ?_
 refine AllReadyH.cons rfl (fun K hK => ?_) (AllReadyH.cons rfl (fun K hK => ?_) AllReadyH.nil)
 ·go_simp
  refine hK.out _ _ (hHeld) (fun hHeld2 => ?_)
  clear hK K hHeld
  have hHeld := hHeld2
  clear hHeld2
  try simp only [Act.put,sI_,sZ_,sS_]
  try simp only [Act.put,sI_,sZ_,sS_]
  refine wpAnyH_ready (rs := [12]) kRf (by simp) ?_
  refine AllReadyH.cons rfl (fun K hK => ?_) AllReadyH.nil
  go_simp
  refine (CRd.out _ HB2h.out.drew).mono ?_
  rintro e w3 ⟨rfl, hb3⟩
  have hB3 : Below w2.heap.size w2 w3 := ((Below.refl _ w2).drew).trans hb3
  obtain ⟨z0, z1⟩ := HG.out w3 (HB2h.out.trans (hB3.mono HZ2))
  have hz3 := hB3.size
  have hg3 : g < w3.heap.size := by omega
  have hB4 : Below w2.heap.size w2 (w3.alloc (.cells (RLetter.cells ⟨i, k, false, 0, 0, v⟩).toArray 110)) := hB3.alloc hz3 _
  refine hK.out _ _ (KP.out _ hB3) (fun hHeld2 => ?_)
  clear hK K hHeld
  have hHeld := hHeld2
  clear hHeld2
  try simp only [Act.put,sI_,sZ_,sS_]
  refine tkH 13 (.agg #[.int .i64 i, .int .i64 k, .bool false, .int .i64 0, .int .i64 0, .int .i64 v]) (some 83) rfl hHeld ?_
  try simp only [Act.put,sI_,sZ_,sS_]
  try simp only [Act.put,sI_,sZ_,sS_]
  refine wpAnyH_ready (rs := [14]) kRf (by simp) ?_
  refine AllReadyH.cons rfl (fun K hK => ?_) AllReadyH.nil
  go_simp
  refine hK.out _ _ (KP.out _ hB4) (fun hHeld2 => ?_)
  clear hK K hHeld
  have hHeld := hHeld2
  clear hHeld2
  try simp only [Act.put,sI_,sZ_,sS_]
  try simp only [Act.put,sI_,sZ_,sS_]
  refine wpAnyH_ready (rs := [15]) kRf (by simp) ?_
  refine AllReadyH.cons rfl (fun K hK => ?_) AllReadyH.nil
  refine step_append_lies _ rfl _ _ 58 rfl B 110 i0 (.agg #[.int .i64 0, .int .i64 0, .bool false, .int .i64 0, .int .i64 0, .int .i64 0]) 6 48 Tryz.underlying58 hi hz0 hz1 hz2 rfl (by decide) (.slice A us.length c) us.length (us.flatMap RLetter.cells) (by simp [Act.eval, Act.put]) ((HRow.out w3 (HB2h.out.trans (hB3.mono HZ2))).alloc _) ⟨w3.heap.size, 0, none⟩ 1 1 (RLetter.cells ⟨i, k, false, 0, 0, v⟩) (by simp [Act.eval, Act.put]) rfl (by exact cell_newAt w3 (RLetter.cells ⟨i, k, false, 0, 0, v⟩) _ _ rfl) (letter_one _) (by decide) B2.out B3.out (by have := B0.out w3 (HB2h.out.trans (hB3.mono HZ2)); simp; omega) _ rfl ?_
  intro gg cap w5 ho5 hg5 hgg hlt5
  refine hK.out _ _ (KG.out _ _ hB4 hg5) (fun hHeld2 => ?_)
  clear hK K hHeld
  have hHeld := hHeld2
  clear hHeld2
  change wpAnyH _ _ _ _ _ _ _ (Act.put _ (some 85) _) _
  try simp only [Act.put,sI_,sZ_,sS_]
  have hz5 := hg5.size
  have hc5 : (w5.cell? ⟨g, 3, none⟩) = some (.slice A us.length c) ∧ w5.frozen? ⟨g, 3, none⟩ = false := KN.out _ _ hB4 hg5
  obtain ⟨u3, u4⟩ := hc5
  refine tkH 16 (.pointer (some ⟨g, 0, none⟩)) (some 86) rfl hHeld ?_
  try simp only [Act.put,sI_,sZ_,sS_]
  refine tkH 17 (.pointer (some ⟨g, 3, none⟩)) (some 87) rfl hHeld ?_
  try simp only [Act.put,sI_,sZ_,sS_]
  try simp only [Act.put,sI_,sZ_,sS_]
  refine wpAnyH_ready (rs := [18]) kRf (by simp) ?_
  refine AllReadyH.cons rfl (fun K hK => ?_) AllReadyH.nil
  go_simp
  refine hK.out _ _ (KS.out _ _ hHeld) (fun hHeld2 => ?_)
  clear hK K hHeld
  have hHeld := hHeld2
  clear hHeld2
  try simp only [Act.put,sI_,sZ_,sS_]
  refine wpAnyH_done kRf ?_ _
  try simp only [Act.put,sI_,sZ_,sS_]
  go_wp2_with fail
  go_ret2
  exact ⟨rfl, sent_done HU.out (HB2h.out.trans (hB4.mono HZ2)) hg5 hgg ho5 hl HOk.out⟩
 ·skip
  go_simp
  refine (CRd.out _ HB2h.out.drew).mono ?_
  rintro e w3 ⟨rfl, hb3⟩
  have hB3 : Below w2.heap.size w2 w3 := ((Below.refl _ w2).drew).trans hb3
  obtain ⟨z0, z1⟩ := HG.out w3 (HB2h.out.trans (hB3.mono HZ2))
  have hz3 := hB3.size
  have hg3 : g < w3.heap.size := by omega
  have hB4 : Below w2.heap.size w2 (w3.alloc (.cells (RLetter.cells ⟨i, k, false, 0, 0, v⟩).toArray 110)) := hB3.alloc hz3 _
  refine hK.out _ _ (KP.out _ hB3) (fun hHeld2 => ?_)
  clear hK K hHeld
  have hHeld := hHeld2
  clear hHeld2
  try simp only [Act.put,sI_,sZ_,sS_]
  refine tkH 13 (.agg #[.int .i64 i, .int .i64 k, .bool false, .int .i64 0, .int .i64 0, .int .i64 v]) (some 83) rfl hHeld ?_
  try simp only [Act.put,sI_,sZ_,sS_]
  try simp only [Act.put,sI_,sZ_,sS_]
  refine wpAnyH_ready (rs := [4, 14]) kRf (by simp) ?_
  refine AllReadyH.cons rfl (fun K hK => ?_) (AllReadyH.cons rfl (fun K hK => ?_) AllReadyH.nil)
  ·go_simp
   refine hK.out _ _ (hHeld) (fun hHeld2 => ?_)
   clear hK K hHeld
   have hHeld := hHeld2
   clear hHeld2
   try simp only [Act.put,sI_,sZ_,sS_]
   try simp only [Act.put,sI_,sZ_,sS_]
   refine wpAnyH_ready (rs := [14]) kRf (by simp) ?_
   refine AllReadyH.cons rfl (fun K hK => ?_) AllReadyH.nil
   go_simp
   refine hK.out _ _ (KP.out _ hB4) (fun hHeld2 => ?_)
   clear hK K hHeld
   have hHeld := hHeld2
   clear hHeld2
   try simp only [Act.put,sI_,sZ_,sS_]
   try simp only [Act.put,sI_,sZ_,sS_]
   refine wpAnyH_ready (rs := [15]) kRf (by simp) ?_
   refine AllReadyH.cons rfl (fun K hK => ?_) AllReadyH.nil
   refine step_append_lies _ rfl _ _ 58 rfl B 110 i0 (.agg #[.int .i64 0, .int .i64 0, .bool false, .int .i64 0, .int .i64 0, .int .i64 0]) 6 48 Tryz.underlying58 hi hz0 hz1 hz2 rfl (by decide) (.slice A us.length c) us.length (us.flatMap RLetter.cells) (by simp [Act.eval, Act.put]) ((HRow.out w3 (HB2h.out.trans (hB3.mono HZ2))).alloc _) ⟨w3.heap.size, 0, none⟩ 1 1 (RLetter.cells ⟨i, k, false, 0, 0, v⟩) (by simp [Act.eval, Act.put]) rfl (by exact cell_newAt w3 (RLetter.cells ⟨i, k, false, 0, 0, v⟩) _ _ rfl) (letter_one _) (by decide) B2.out B3.out (by have := B0.out w3 (HB2h.out.trans (hB3.mono HZ2)); simp; omega) _ rfl ?_
   intro gg cap w5 ho5 hg5 hgg hlt5
   refine hK.out _ _ (KG.out _ _ hB4 hg5) (fun hHeld2 => ?_)
   clear hK K hHeld
   have hHeld := hHeld2
   clear hHeld2
   change wpAnyH _ _ _ _ _ _ _ (Act.put _ (some 85) _) _
   try simp only [Act.put,sI_,sZ_,sS_]
   have hz5 := hg5.size
   have hc5 : (w5.cell? ⟨g, 3, none⟩) = some (.slice A us.length c) ∧ w5.frozen? ⟨g, 3, none⟩ = false := KN.out _ _ hB4 hg5
   obtain ⟨u3, u4⟩ := hc5
   refine tkH 16 (.pointer (some ⟨g, 0, none⟩)) (some 86) rfl hHeld ?_
   try simp only [Act.put,sI_,sZ_,sS_]
   refine tkH 17 (.pointer (some ⟨g, 3, none⟩)) (some 87) rfl hHeld ?_
   try simp only [Act.put,sI_,sZ_,sS_]
   try simp only [Act.put,sI_,sZ_,sS_]
   refine wpAnyH_ready (rs := [18]) kRf (by simp) ?_
   refine AllReadyH.cons rfl (fun K hK => ?_) AllReadyH.nil
   go_simp
   refine hK.out _ _ (KS.out _ _ hHeld) (fun hHeld2 => ?_)
   clear hK K hHeld
   have hHeld := hHeld2
   clear hHeld2
   try simp only [Act.put,sI_,sZ_,sS_]
   refine wpAnyH_done kRf ?_ _
   try simp only [Act.put,sI_,sZ_,sS_]
   go_wp2_with fail
   go_ret2
   exact ⟨rfl, sent_done HU.out (HB2h.out.trans (hB4.mono HZ2)) hg5 hgg ho5 hl HOk.out⟩
  ·go_simp
   refine hK.out _ _ (KP.out _ hB4) (fun hHeld2 => ?_)
   clear hK K hHeld
   have hHeld := hHeld2
   clear hHeld2
   try simp only [Act.put,sI_,sZ_,sS_]
   try simp only [Act.put,sI_,sZ_,sS_]
   refine wpAnyH_ready (rs := [4]) kRf (by simp) ?_
   refine AllReadyH.cons rfl (fun K hK => ?_) AllReadyH.nil
   go_simp
   refine hK.out _ _ (hHeld) (fun hHeld2 => ?_)
   clear hK K hHeld
   have hHeld := hHeld2
   clear hHeld2
   try simp only [Act.put,sI_,sZ_,sS_]
   try simp only [Act.put,sI_,sZ_,sS_]
   refine wpAnyH_ready (rs := [15]) kRf (by simp) ?_
   refine AllReadyH.cons rfl (fun K hK => ?_) AllReadyH.nil
   refine step_append_lies _ rfl _ _ 58 rfl B 110 i0 (.agg #[.int .i64 0, .int .i64 0, .bool false, .int .i64 0, .int .i64 0, .int .i64 0]) 6 48 Tryz.underlying58 hi hz0 hz1 hz2 rfl (by decide) (.slice A us.length c) us.length (us.flatMap RLetter.cells) (by simp [Act.eval, Act.put]) ((HRow.out w3 (HB2h.out.trans (hB3.mono HZ2))).alloc _) ⟨w3.heap.size, 0, none⟩ 1 1 (RLetter.cells ⟨i, k, false, 0, 0, v⟩) (by simp [Act.eval, Act.put]) rfl (by exact cell_newAt w3 (RLetter.cells ⟨i, k, false, 0, 0, v⟩) _ _ rfl) (letter_one _) (by decide) B2.out B3.out (by have := B0.out w3 (HB2h.out.trans (hB3.mono HZ2)); simp; omega) _ rfl ?_
   intro gg cap w5 ho5 hg5 hgg hlt5
   refine hK.out _ _ (KG.out _ _ hB4 hg5) (fun hHeld2 => ?_)
   clear hK K hHeld
   have hHeld := hHeld2
   clear hHeld2
   change wpAnyH _ _ _ _ _ _ _ (Act.put _ (some 85) _) _
   try simp only [Act.put,sI_,sZ_,sS_]
   have hz5 := hg5.size
   have hc5 : (w5.cell? ⟨g, 3, none⟩) = some (.slice A us.length c) ∧ w5.frozen? ⟨g, 3, none⟩ = false := KN.out _ _ hB4 hg5
   obtain ⟨u3, u4⟩ := hc5
   refine tkH 16 (.pointer (some ⟨g, 0, none⟩)) (some 86) rfl hHeld ?_
   try simp only [Act.put,sI_,sZ_,sS_]
   refine tkH 17 (.pointer (some ⟨g, 3, none⟩)) (some 87) rfl hHeld ?_
   try simp only [Act.put,sI_,sZ_,sS_]
   try simp only [Act.put,sI_,sZ_,sS_]
   refine wpAnyH_ready (rs := [18]) kRf (by simp) ?_
   refine AllReadyH.cons rfl (fun K hK => ?_) AllReadyH.nil
   go_simp
   refine hK.out _ _ (KS.out _ _ hHeld) (fun hHeld2 => ?_)
   clear hK K hHeld
   have hHeld := hHeld2
   clear hHeld2
   try simp only [Act.put,sI_,sZ_,sS_]
   refine wpAnyH_done kRf ?_ _
   try simp only [Act.put,sI_,sZ_,sS_]
   go_wp2_with fail
   go_ret2
   exact ⟨rfl, sent_done HU.out (HB2h.out.trans (hB4.mono HZ2)) hg5 hgg ho5 hl HOk.out⟩
end Go.Proofs.YtldlandcjegikaaGreatDoor
