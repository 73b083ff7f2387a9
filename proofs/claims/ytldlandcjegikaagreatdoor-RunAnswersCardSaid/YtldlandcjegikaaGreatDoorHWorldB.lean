/- An answer in a world, walked. -/
import Derived.Test.YtldlandcjegikaaGreatDoorHK2
namespace Go.Proofs.YtldlandcjegikaaGreatDoor
open Go.RowKit
set_option linter.unusedVariables false
set_option linter.unusedSimpArgs false
set_option maxRecDepth 100000 in
set_option maxHeartbeats 8000000 in
theorem world_Answer (g B n : Nat) (ss rs : List Int) (t : Int) (uv : Value) (us : List RLetter) (i k : Nat) (s r t1 t2 lt : Int) (w : World) (h : WorldU w g B n ss rs t uv us) (hs : ss[k]? = some s) (hr : rs[k]? = some r) (hin : i < n) (hl : us.length < 40) (hlt : i64B lt) :
  Calls Tryz.prog 96 #[.pointer (some ⟨g, 0, none⟩), .agg #[.int .i64 i, .int .i64 k, .bool false, .int .i64 t1, .int .i64 t2, .int .i64 lt]] w fun e w' => e = .returned .nilIface ∧ Sent w g B n ss rs t uv (us ++ [⟨k, i, true, lt, readV s r t, readV s r t⟩]) w' := by
 obtain ⟨i0, hi, hz0, hz1, hz2⟩ := info_parts infoLt
 have n6 := h.n6
 have hk : k < n := by rw [← h.ls]; exact (List.getElem?_eq_some_iff.1 hs).1
 have HU := Lib.hid h
 have CH := Lib.hid (fun (j : Nat) (hj : j < n) w' (hb : Below w.heap.size w w') => by have := world_has g n ss rs t uv j w' (h.at.below hb); rw [hasN_nat hj] at this; exact this)
 have CRd := Lib.hid (fun w' (hb : Below w.heap.size w w') => world_read g n ss rs t uv k s r w' (h.at.below hb) hs hr)
 obtain ⟨A, c, rfl, hAc, hcm⟩ := own_slice h.row
 unfold maxLen at hcm
 have HG := Lib.hid (fun w' (hb : Below w.heap.size w w') => show w'.cell? ⟨g, 3, none⟩ = some (.slice A us.length c) ∧ w'.frozen? ⟨g, 3, none⟩ = false from by
  obtain ⟨gs, cs, gr, cr, k1, _⟩ := (h.below hb).ex
  exact ⟨by rw [k1.cell]; rfl, k1.fz 3⟩)
 have hrd := readV_bd (h.sb k s hs).1 (h.sb k s hs).2 h.t0 h.t1 (h.rb k r hr).1 (h.rb k r hr).2
 have hgw := Nat.lt_of_lt_of_le h.gB h.Bw
 have hBw := h.Bw
 have hgB := h.gB
 have hlow := h.low
 obtain ⟨v, hv⟩ : ∃ v, readV s r t = v := ⟨_, rfl⟩
 rw [hv] at CRd hrd ⊢
 have HOk := Lib.hid (show RLetter.ok ⟨k, i, true, lt, v, v⟩ from by unfold i64B at hlt; unfold RLetter.ok i64B; simp only []; omega)
 have g1 : ¬ (40 : Int) ≤ (us.length : Int) := by omega
 clear h hs hr hv hlt
 go_enter Tryz.func96, Tryz.ntmps96
 go_wp2_with fail
 refine (CH.out i hin _ BeL).mono ?_
 rintro e w1 ⟨rfl, hb1⟩
 have hz1 := hb1.size
 (try simp at hz1)
 have agx : w.heap.size ≤ w.heap.size := by first | omega | (simp; done) | (simp; omega)
 have bx1 : Blk w1 (w.heap.size) 110 #[.int .i64 i, .int .i64 k, .bool false, .int .i64 t1, .int .i64 t2, .int .i64 lt] := BkD
 have cx1_0 : w1.cell? ⟨w.heap.size, 0, none⟩ = some (.int .i64 i) := bx1.cell 0
 have fx1_0 : w1.frozen? ⟨w.heap.size, 0, none⟩ = false := bx1.fz 0
 have cx1_1 : w1.cell? ⟨w.heap.size, 1, none⟩ = some (.int .i64 k) := bx1.cell 1
 have fx1_1 : w1.frozen? ⟨w.heap.size, 1, none⟩ = false := bx1.fz 1
 have cx1_2 : w1.cell? ⟨w.heap.size, 2, none⟩ = some (.bool false) := bx1.cell 2
 have fx1_2 : w1.frozen? ⟨w.heap.size, 2, none⟩ = false := bx1.fz 2
 have cx1_3 : w1.cell? ⟨w.heap.size, 3, none⟩ = some (.int .i64 t1) := bx1.cell 3
 have fx1_3 : w1.frozen? ⟨w.heap.size, 3, none⟩ = false := bx1.fz 3
 have cx1_4 : w1.cell? ⟨w.heap.size, 4, none⟩ = some (.int .i64 t2) := bx1.cell 4
 have fx1_4 : w1.frozen? ⟨w.heap.size, 4, none⟩ = false := bx1.fz 4
 have cx1_5 : w1.cell? ⟨w.heap.size, 5, none⟩ = some (.int .i64 lt) := bx1.cell 5
 have fx1_5 : w1.frozen? ⟨w.heap.size, 5, none⟩ = false := bx1.fz 5
 have lx1 : w.heap.size < w1.heap.size := bx1.lt
 have HB1 : Below w.heap.size w w1 := BeL
 have HZ1 := HB1.size
 clear hb1 hz1
 go_wp2_with fail
 refine (CH.out k hk _ BeL).mono ?_
 rintro e w2 ⟨rfl, hb2⟩
 have hz2 := hb2.size
 (try simp at hz2)
 have bx2 : Blk w2 (w.heap.size) 110 #[.int .i64 i, .int .i64 k, .bool false, .int .i64 t1, .int .i64 t2, .int .i64 lt] := BkD
 have cx2_0 : w2.cell? ⟨w.heap.size, 0, none⟩ = some (.int .i64 i) := bx2.cell 0
 have fx2_0 : w2.frozen? ⟨w.heap.size, 0, none⟩ = false := bx2.fz 0
 have cx2_1 : w2.cell? ⟨w.heap.size, 1, none⟩ = some (.int .i64 k) := bx2.cell 1
 have fx2_1 : w2.frozen? ⟨w.heap.size, 1, none⟩ = false := bx2.fz 1
 have cx2_2 : w2.cell? ⟨w.heap.size, 2, none⟩ = some (.bool false) := bx2.cell 2
 have fx2_2 : w2.frozen? ⟨w.heap.size, 2, none⟩ = false := bx2.fz 2
 have cx2_3 : w2.cell? ⟨w.heap.size, 3, none⟩ = some (.int .i64 t1) := bx2.cell 3
 have fx2_3 : w2.frozen? ⟨w.heap.size, 3, none⟩ = false := bx2.fz 3
 have cx2_4 : w2.cell? ⟨w.heap.size, 4, none⟩ = some (.int .i64 t2) := bx2.cell 4
 have fx2_4 : w2.frozen? ⟨w.heap.size, 4, none⟩ = false := bx2.fz 4
 have cx2_5 : w2.cell? ⟨w.heap.size, 5, none⟩ = some (.int .i64 lt) := bx2.cell 5
 have fx2_5 : w2.frozen? ⟨w.heap.size, 5, none⟩ = false := bx2.fz 5
 have lx2 : w.heap.size < w2.heap.size := bx2.lt
 have HB2 : Below w.heap.size w w2 := BeL
 have HZ2 := HB2.size
 clear hb2 hz2 HB1 HZ1 bx1 lx1 cx1_0 fx1_0 cx1_1 fx1_1 cx1_2 fx1_2 cx1_3 fx1_3 cx1_4 fx1_4 cx1_5 fx1_5 
 have y9 := (HG.out w2 HB2).1
 go_wp2_with fail
 refine (CRd.out _ BeL).mono ?_
 rintro e w3 ⟨rfl, hb3⟩
 have hz3 := hb3.size
 (try simp at hz3)
 have bx3 : Blk w3 (w.heap.size) 110 #[.int .i64 i, .int .i64 k, .bool false, .int .i64 t1, .int .i64 t2, .int .i64 lt] := BkD
 have cx3_0 : w3.cell? ⟨w.heap.size, 0, none⟩ = some (.int .i64 i) := bx3.cell 0
 have fx3_0 : w3.frozen? ⟨w.heap.size, 0, none⟩ = false := bx3.fz 0
 have cx3_1 : w3.cell? ⟨w.heap.size, 1, none⟩ = some (.int .i64 k) := bx3.cell 1
 have fx3_1 : w3.frozen? ⟨w.heap.size, 1, none⟩ = false := bx3.fz 1
 have cx3_2 : w3.cell? ⟨w.heap.size, 2, none⟩ = some (.bool false) := bx3.cell 2
 have fx3_2 : w3.frozen? ⟨w.heap.size, 2, none⟩ = false := bx3.fz 2
 have cx3_3 : w3.cell? ⟨w.heap.size, 3, none⟩ = some (.int .i64 t1) := bx3.cell 3
 have fx3_3 : w3.frozen? ⟨w.heap.size, 3, none⟩ = false := bx3.fz 3
 have cx3_4 : w3.cell? ⟨w.heap.size, 4, none⟩ = some (.int .i64 t2) := bx3.cell 4
 have fx3_4 : w3.frozen? ⟨w.heap.size, 4, none⟩ = false := bx3.fz 4
 have cx3_5 : w3.cell? ⟨w.heap.size, 5, none⟩ = some (.int .i64 lt) := bx3.cell 5
 have fx3_5 : w3.frozen? ⟨w.heap.size, 5, none⟩ = false := bx3.fz 5
 have lx3 : w.heap.size < w3.heap.size := bx3.lt
 have HB3 : Below w.heap.size w w3 := BeL
 have HZ3 := HB3.size
 clear hb3 hz3 HB2 HZ2 bx2 lx2 cx2_0 fx2_0 cx2_1 fx2_1 cx2_2 fx2_2 cx2_3 fx2_3 cx2_4 fx2_4 cx2_5 fx2_5 
 clear y9 CRd CH
 obtain ⟨u1, u2⟩ := HG.out w3 HB3
 have hgl : g < w3.heap.size := by omega
 have lbox := lx3
 have cb0 := cx3_0
 have cb1 := cx3_1
 have cb5 := cx3_5
 clear cx3_0 cx3_1 cx3_2 cx3_3 cx3_4 cx3_5 fx3_0 fx3_1 fx3_2 fx3_3 fx3_4 fx3_5 bx3
 go_wp2_with fail
 have KP := Lib.hid (fun w' (hb : Below w3.heap.size w3 w') => show w'.cell? ⟨w.heap.size, 0, none⟩ = some (.int .i64 i) ∧ w'.cell? ⟨w.heap.size, 1, none⟩ = some (.int .i64 k) ∧ w'.cell? ⟨w.heap.size, 5, none⟩ = some (.int .i64 lt) from ⟨(hb.cell (p := ⟨w.heap.size, 0, none⟩) lbox).trans cb0, (hb.cell (p := ⟨w.heap.size, 1, none⟩) lbox).trans cb1, (hb.cell (p := ⟨w.heap.size, 5, none⟩) lbox).trans cb5⟩)
 have KG := Lib.hid (fun W W' (hb : Below w3.heap.size w3 W) (hg : W.grownBy W' (Value.slice A us.length c).ownBlock) => show W'.cell? ⟨w.heap.size, 0, none⟩ = some (.int .i64 i) ∧ W'.cell? ⟨w.heap.size, 1, none⟩ = some (.int .i64 k) ∧ W'.cell? ⟨w.heap.size, 5, none⟩ = some (.int .i64 lt) from by
  have hne : some (w.heap.size) ≠ (Value.slice A us.length c).ownBlock := fun e => by have := (hlow _ e.symm).2; omega
  obtain ⟨y0, y1, y2⟩ := KP.out W hb
  exact ⟨hg.cell y0 hne, hg.cell y1 hne, hg.cell y2 hne⟩)
 have KN := Lib.hid (fun W W' (hb : Below w3.heap.size w3 W) (hg : W.grownBy W' (Value.slice A us.length c).ownBlock) => show W'.cell? ⟨g, 3, none⟩ = some (.slice A us.length c) ∧ W'.frozen? ⟨g, 3, none⟩ = false from by
  have hne : some g ≠ (Value.slice A us.length c).ownBlock := fun e => by have := (hlow _ e.symm).1; omega
  obtain ⟨k1, k2⟩ := HG.out W (HB3.trans (hb.mono HZ3))
  exact ⟨hg.cell k1 hne, (World.frozen?_of_block (hg.block g (Nat.lt_of_lt_of_le hgl hb.size) hne)).trans k2⟩)
 have KS := Lib.hid (fun (W : World) (v : Value) (hc : W.cell? ⟨w.heap.size, 0, none⟩ = some (.int .i64 i) ∧ W.cell? ⟨w.heap.size, 1, none⟩ = some (.int .i64 k) ∧ W.cell? ⟨w.heap.size, 5, none⟩ = some (.int .i64 lt)) => show (W.setCell ⟨g, 3, none⟩ v).cell? ⟨w.heap.size, 0, none⟩ = some (.int .i64 i) ∧ (W.setCell ⟨g, 3, none⟩ v).cell? ⟨w.heap.size, 1, none⟩ = some (.int .i64 k) ∧ (W.setCell ⟨g, 3, none⟩ v).cell? ⟨w.heap.size, 5, none⟩ = some (.int .i64 lt) from ⟨(World.cell?_setCell_other W _ _ v (fun e => by have := congrArg Addr.block e; simp at this; omega)).trans hc.1, (World.cell?_setCell_other W _ _ v (fun e => by have := congrArg Addr.block e; simp at this; omega)).trans hc.2.1, (World.cell?_setCell_other W _ _ v (fun e => by have := congrArg Addr.block e; simp at this; omega)).trans hc.2.2⟩)
 have HRow := Lib.hid (own_below HU.out.row HB3)
 have HBh := Lib.hid HB3
 have B0 := Lib.hid (show B ≤ w3.heap.size from Nat.le_trans hBw HB3.size)
 have B2 := Lib.hid (show us.length + 1 ≤ maxLen by unfold maxLen; omega)
 have B3 := Lib.hid (show (us.length + 1) * 48 ≤ 140737488355328 by omega)
 have hB4 : Below w3.heap.size w3 (w3.alloc (.cells (RLetter.cells ⟨k, i, true, lt, v, v⟩).toArray 110)).drew := ((Below.refl _ _).alloc (Nat.le_refl _) _).drew
 clear hlow
 refine wp_region_held_drew (S := fun w9 => w9.cell? ⟨w.heap.size, 0, none⟩ = some (.int .i64 i) ∧ w9.cell? ⟨w.heap.size, 1, none⟩ = some (.int .i64 k) ∧ w9.cell? ⟨w.heap.size, 5, none⟩ = some (.int .i64 lt)) kRf (⟨cb0, cb1, cb5⟩) (fun hHeld => ?_)
 refine tkH 0 (.pointer (some ⟨g, 0, none⟩)) (some 36) rfl hHeld ?_
 try simp only [Act.put,sI_,sZ_,sS_]
 refine tkH 1 (.pointer (some ⟨g, 0, none⟩)) (some 37) rfl hHeld ?_
 try simp only [Act.put,sI_,sZ_,sS_]
 refine tkH 2 (.pointer (some ⟨g, 0, none⟩)) (some 38) rfl hHeld ?_
 try simp only [Act.put,sI_,sZ_,sS_]
 refine tkH 3 (.pointer (some ⟨g, 3, none⟩)) (some 39) rfl hHeld ?_
 try simp only [Act.put,sI_,sZ_,sS_]
 refine tkH 5 (.pointer (some ⟨w.heap.size, 1, none⟩)) (some 41) rfl hHeld ?_
 try simp only [Act.put,sI_,sZ_,sS_]
 refine tkG 6 (.int .i64 k) (some 42) rfl (fun w9 hw9 => by (obtain ⟨y0, y1, y2⟩ := hw9; go_simp)) hHeld ?_
 try simp only [Act.put,sI_,sZ_,sS_]
 refine tkH 7 (.pointer (some ⟨w.heap.size, 0, none⟩)) (some 43) rfl hHeld ?_
 try simp only [Act.put,sI_,sZ_,sS_]
 refine tkG 8 (.int .i64 i) (some 44) rfl (fun w9 hw9 => by (obtain ⟨y0, y1, y2⟩ := hw9; go_simp)) hHeld ?_
 try simp only [Act.put,sI_,sZ_,sS_]
 refine tkH 9 (.pointer (some ⟨w.heap.size, 5, none⟩)) (some 45) rfl hHeld ?_
 try simp only [Act.put,sI_,sZ_,sS_]
 refine tkG 10 (.int .i64 lt) (some 46) rfl (fun w9 hw9 => by (obtain ⟨y0, y1, y2⟩ := hw9; go_simp)) hHeld ?_
 try simp only [Act.put,sI_,sZ_,sS_]
 refine tkH 11 (.int .i64 v) (some 47) rfl hHeld ?_
 try simp only [Act.put,sI_,sZ_,sS_]
 refine tkH 12 (.int .i64 v) (some 48) rfl hHeld ?_
 try simp only [Act.put,sI_,sZ_,sS_]
 refine tkH 13 (.agg #[.int .i64 k, .int .i64 i, .bool true, .int .i64 lt, .int .i64 v, .int .i64 v]) (some 49) rfl hHeld ?_
 try simp only [Act.put,sI_,sZ_,sS_]
 try simp only [Act.put,sI_,sZ_,sS_]
 refine wpAnyH_ready (rs := [4, 14]) kRf (by simp) ?_
 refine AllReadyH.cons rfl (fun K hK => ?_) (AllReadyH.cons rfl (fun K hK => ?_) AllReadyH.nil)
 ·go_simp
  refine hK.out _ _ (hHeld) (fun hHeld2 => ?_)
  clear hK K hHeld
  have hHeld := hHeld2
  clear hHeld2
  try simp only [Act.put,sI_,sZ_,sS_]
  try simp only [Act.put,sI_,sZ_,sS_]
  refine wpAnyH_ready (rs := [14]) kRf (by simp) ?_
  refine AllReadyH.cons rfl (fun K hK => ?_) AllReadyH.nil
  go_simp
  refine hK.out _ _ (KP.out _ hB4) (fun hHeld2 => ?_)
  clear hK K hHeld
  have hHeld := hHeld2
  clear hHeld2
  try simp only [Act.put,sI_,sZ_,sS_]
  try simp only [Act.put,sI_,sZ_,sS_]
  refine wpAnyH_ready (rs := [15]) kRf (by simp) ?_
  refine AllReadyH.cons rfl (fun K hK => ?_) AllReadyH.nil
  refine step_append_lies _ rfl _ _ 58 rfl B 110 i0 (.agg #[.int .i64 0, .int .i64 0, .bool false, .int .i64 0, .int .i64 0, .int .i64 0]) 6 48 Tryz.underlying58 hi hz0 hz1 hz2 rfl (by decide) (.slice A us.length c) us.length (us.flatMap RLetter.cells) (by simp [Act.eval, Act.put]) (HRow.out.alloc _) ⟨w3.heap.size, 0, none⟩ 1 1 (RLetter.cells ⟨k, i, true, lt, v, v⟩) (by simp [Act.eval, Act.put]) rfl (by exact cell_newAt w3 (RLetter.cells ⟨k, i, true, lt, v, v⟩) _ _ rfl) (letter_one _) (by decide) B2.out B3.out (by have := B0.out; simp; omega) _ rfl ?_
  intro gg cap w5 ho5 hg5 hgg hlt5
  refine hK.out _ _ (KG.out _ _ hB4 hg5) (fun hHeld2 => ?_)
  clear hK K hHeld
  have hHeld := hHeld2
  clear hHeld2
  change wpAnyH _ _ _ _ _ _ _ (Act.put _ (some 51) _) _
  try simp only [Act.put,sI_,sZ_,sS_]
  have hz5 := hg5.size
  have hc5 := KN.out _ _ hB4 hg5
  obtain ⟨u3, u4⟩ := hc5
  refine tkH 16 (.pointer (some ⟨g, 0, none⟩)) (some 52) rfl hHeld ?_
  try simp only [Act.put,sI_,sZ_,sS_]
  refine tkH 17 (.pointer (some ⟨g, 3, none⟩)) (some 53) rfl hHeld ?_
  try simp only [Act.put,sI_,sZ_,sS_]
  try simp only [Act.put,sI_,sZ_,sS_]
  refine wpAnyH_ready (rs := [18]) kRf (by simp) ?_
  refine AllReadyH.cons rfl (fun K hK => ?_) AllReadyH.nil
  go_simp
  refine hK.out _ _ (KS.out _ _ hHeld) (fun hHeld2 => ?_)
  clear hK K hHeld
  have hHeld := hHeld2
  clear hHeld2
  try simp only [Act.put,sI_,sZ_,sS_]
  refine wpAnyH_done kRf ?_ _
  try simp only [Act.put,sI_,sZ_,sS_]
  go_wp2_with fail
  go_ret
  exact ⟨rfl, sent_done HU.out (HBh.out.trans (hB4.mono HZ3)) hg5 hgg ho5 hl HOk.out⟩
 ·go_simp
  refine hK.out _ _ (KP.out _ hB4) (fun hHeld2 => ?_)
  clear hK K hHeld
  have hHeld := hHeld2
  clear hHeld2
  try simp only [Act.put,sI_,sZ_,sS_]
  try simp only [Act.put,sI_,sZ_,sS_]
  refine wpAnyH_ready (rs := [4]) kRf (by simp) ?_
  refine AllReadyH.cons rfl (fun K hK => ?_) AllReadyH.nil
  go_simp
  refine hK.out _ _ (hHeld) (fun hHeld2 => ?_)
  clear hK K hHeld
  have hHeld := hHeld2
  clear hHeld2
  try simp only [Act.put,sI_,sZ_,sS_]
  try simp only [Act.put,sI_,sZ_,sS_]
  refine wpAnyH_ready (rs := [15]) kRf (by simp) ?_
  refine AllReadyH.cons rfl (fun K hK => ?_) AllReadyH.nil
  refine step_append_lies _ rfl _ _ 58 rfl B 110 i0 (.agg #[.int .i64 0, .int .i64 0, .bool false, .int .i64 0, .int .i64 0, .int .i64 0]) 6 48 Tryz.underlying58 hi hz0 hz1 hz2 rfl (by decide) (.slice A us.length c) us.length (us.flatMap RLetter.cells) (by simp [Act.eval, Act.put]) (HRow.out.alloc _) ⟨w3.heap.size, 0, none⟩ 1 1 (RLetter.cells ⟨k, i, true, lt, v, v⟩) (by simp [Act.eval, Act.put]) rfl (by exact cell_newAt w3 (RLetter.cells ⟨k, i, true, lt, v, v⟩) _ _ rfl) (letter_one _) (by decide) B2.out B3.out (by have := B0.out; simp; omega) _ rfl ?_
  intro gg cap w5 ho5 hg5 hgg hlt5
  refine hK.out _ _ (KG.out _ _ hB4 hg5) (fun hHeld2 => ?_)
  clear hK K hHeld
  have hHeld := hHeld2
  clear hHeld2
  change wpAnyH _ _ _ _ _ _ _ (Act.put _ (some 51) _) _
  try simp only [Act.put,sI_,sZ_,sS_]
  have hz5 := hg5.size
  have hc5 := KN.out _ _ hB4 hg5
  obtain ⟨u3, u4⟩ := hc5
  refine tkH 16 (.pointer (some ⟨g, 0, none⟩)) (some 52) rfl hHeld ?_
  try simp only [Act.put,sI_,sZ_,sS_]
  refine tkH 17 (.pointer (some ⟨g, 3, none⟩)) (some 53) rfl hHeld ?_
  try simp only [Act.put,sI_,sZ_,sS_]
  try simp only [Act.put,sI_,sZ_,sS_]
  refine wpAnyH_ready (rs := [18]) kRf (by simp) ?_
  refine AllReadyH.cons rfl (fun K hK => ?_) AllReadyH.nil
  go_simp
  refine hK.out _ _ (KS.out _ _ hHeld) (fun hHeld2 => ?_)
  clear hK K hHeld
  have hHeld := hHeld2
  clear hHeld2
  try simp only [Act.put,sI_,sZ_,sS_]
  refine wpAnyH_done kRf ?_ _
  try simp only [Act.put,sI_,sZ_,sS_]
  go_wp2_with fail
  go_ret
  exact ⟨rfl, sent_done HU.out (HBh.out.trans (hB4.mono HZ3)) hg5 hgg ho5 hl HOk.out⟩
set_option maxRecDepth 100000 in
set_option maxHeartbeats 4000000 in
theorem world_Answer_yes (g : Nat) (a b t1 t2 lt : Int) (w : World) :
  Calls Tryz.prog 96 #[.pointer (some ⟨g, 0, none⟩), .agg #[.int .i64 a, .int .i64 b, .bool true, .int .i64 t1, .int .i64 t2, .int .i64 lt]] w fun e w' => e = .returned (.iface 88 (.int .i64 3)) ∧ Below w.heap.size w w' := by
 go_enter Tryz.func96, Tryz.ntmps96
 go_wp2_with fail
 go_ret
 exact ⟨rfl, BeL⟩
set_option maxRecDepth 100000 in
set_option maxHeartbeats 4000000 in
theorem world_Answer_no (g B n : Nat) (ss rs : List Int) (t : Int) (uv : Value) (us : List RLetter) (a b t1 t2 lt : Int) (w : World) (h : WorldU w g B n ss rs t uv us) (h0 : hasN n a = false ∨ hasN n b = false) :
  Calls Tryz.prog 96 #[.pointer (some ⟨g, 0, none⟩), .agg #[.int .i64 a, .int .i64 b, .bool false, .int .i64 t1, .int .i64 t2, .int .i64 lt]] w fun e w' => e = .returned (.iface 88 (.int .i64 1)) ∧ Below w.heap.size w w' := by
 have CH := Lib.hid (fun (j : Int) w' (hb : Below w.heap.size w w') => world_has g n ss rs t uv j w' (h.at.below hb))
 clear h
 have hd : hasN n a = false ∨ (hasN n a = true ∧ hasN n b = false) := by
  cases h1 : hasN n a
  ·exact .inl rfl
  ·rw [h1] at h0; rcases h0 with h | h
   ·cases h
   ·exact .inr ⟨rfl, h⟩
 clear h0
 have C2 := Lib.hid (fun (q : Bool) (hq : hasN n b = q) w' hb => by have := CH.out b w' hb; rw [hq] at this; exact this)
 rcases hd with d1 | ⟨d1, d2⟩
 ·have C1 := Lib.hid (fun w' hb => by have := CH.out a w' hb; rw [d1] at this; exact this)
  as_aux_lemma =>
   go_enter Tryz.func96, Tryz.ntmps96
   go_wp2_with fail
   refine (C1.out _ BeL).mono ?_
   rintro e w1 ⟨rfl, hb1⟩
   have hz1 := hb1.size
   (try simp at hz1)
   have HB1 : Below w.heap.size w w1 := BeL
   have HZ1 := HB1.size
   clear hb1 hz1
   go_wp2_with fail
   go_ret
   exact ⟨rfl, HB1⟩
 ·have C1 := Lib.hid (fun w' hb => by have := CH.out a w' hb; rw [d1] at this; exact this)
  have C3 := Lib.hid (C2.out false d2)
  as_aux_lemma =>
   go_enter Tryz.func96, Tryz.ntmps96
   go_wp2_with fail
   refine (C1.out _ BeL).mono ?_
   rintro e w1 ⟨rfl, hb1⟩
   have hz1 := hb1.size
   (try simp at hz1)
   have agx : w.heap.size ≤ w.heap.size := by first | omega | (simp; done) | (simp; omega)
   have bx1 : Blk w1 (w.heap.size) 110 #[.int .i64 a, .int .i64 b, .bool false, .int .i64 t1, .int .i64 t2, .int .i64 lt] := BkD
   have cx1_0 : w1.cell? ⟨w.heap.size, 0, none⟩ = some (.int .i64 a) := bx1.cell 0
   have fx1_0 : w1.frozen? ⟨w.heap.size, 0, none⟩ = false := bx1.fz 0
   have cx1_1 : w1.cell? ⟨w.heap.size, 1, none⟩ = some (.int .i64 b) := bx1.cell 1
   have fx1_1 : w1.frozen? ⟨w.heap.size, 1, none⟩ = false := bx1.fz 1
   have cx1_2 : w1.cell? ⟨w.heap.size, 2, none⟩ = some (.bool false) := bx1.cell 2
   have fx1_2 : w1.frozen? ⟨w.heap.size, 2, none⟩ = false := bx1.fz 2
   have cx1_3 : w1.cell? ⟨w.heap.size, 3, none⟩ = some (.int .i64 t1) := bx1.cell 3
   have fx1_3 : w1.frozen? ⟨w.heap.size, 3, none⟩ = false := bx1.fz 3
   have cx1_4 : w1.cell? ⟨w.heap.size, 4, none⟩ = some (.int .i64 t2) := bx1.cell 4
   have fx1_4 : w1.frozen? ⟨w.heap.size, 4, none⟩ = false := bx1.fz 4
   have cx1_5 : w1.cell? ⟨w.heap.size, 5, none⟩ = some (.int .i64 lt) := bx1.cell 5
   have fx1_5 : w1.frozen? ⟨w.heap.size, 5, none⟩ = false := bx1.fz 5
   have lx1 : w.heap.size < w1.heap.size := bx1.lt
   have HB1 : Below w.heap.size w w1 := BeL
   have HZ1 := HB1.size
   clear hb1 hz1
   go_wp2_with fail
   refine (C3.out _ BeL).mono ?_
   rintro e w2 ⟨rfl, hb2⟩
   have hz2 := hb2.size
   (try simp at hz2)
   have bx2 : Blk w2 (w.heap.size) 110 #[.int .i64 a, .int .i64 b, .bool false, .int .i64 t1, .int .i64 t2, .int .i64 lt] := BkD
   have cx2_0 : w2.cell? ⟨w.heap.size, 0, none⟩ = some (.int .i64 a) := bx2.cell 0
   have fx2_0 : w2.frozen? ⟨w.heap.size, 0, none⟩ = false := bx2.fz 0
   have cx2_1 : w2.cell? ⟨w.heap.size, 1, none⟩ = some (.int .i64 b) := bx2.cell 1
   have fx2_1 : w2.frozen? ⟨w.heap.size, 1, none⟩ = false := bx2.fz 1
   have cx2_2 : w2.cell? ⟨w.heap.size, 2, none⟩ = some (.bool false) := bx2.cell 2
   have fx2_2 : w2.frozen? ⟨w.heap.size, 2, none⟩ = false := bx2.fz 2
   have cx2_3 : w2.cell? ⟨w.heap.size, 3, none⟩ = some (.int .i64 t1) := bx2.cell 3
   have fx2_3 : w2.frozen? ⟨w.heap.size, 3, none⟩ = false := bx2.fz 3
   have cx2_4 : w2.cell? ⟨w.heap.size, 4, none⟩ = some (.int .i64 t2) := bx2.cell 4
   have fx2_4 : w2.frozen? ⟨w.heap.size, 4, none⟩ = false := bx2.fz 4
   have cx2_5 : w2.cell? ⟨w.heap.size, 5, none⟩ = some (.int .i64 lt) := bx2.cell 5
   have fx2_5 : w2.frozen? ⟨w.heap.size, 5, none⟩ = false := bx2.fz 5
   have lx2 : w.heap.size < w2.heap.size := bx2.lt
   have HB2 : Below w.heap.size w w2 := BeL
   have HZ2 := HB2.size
   clear hb2 hz2 HB1 HZ1 bx1 lx1 cx1_0 fx1_0 cx1_1 fx1_1 cx1_2 fx1_2 cx1_3 fx1_3 cx1_4 fx1_4 cx1_5 fx1_5 
   go_wp2_with fail
   go_ret
   exact ⟨rfl, HB2⟩
set_option maxRecDepth 100000 in
set_option maxHeartbeats 4000000 in
theorem world_Answer_full (g B n : Nat) (ss rs : List Int) (t : Int) (uv : Value) (us : List RLetter) (a b t1 t2 lt : Int) (w : World) (h : WorldU w g B n ss rs t uv us) (h1 : hasN n a = true) (h2 : hasN n b = true) (hl : 40 ≤ us.length) :
  Calls Tryz.prog 96 #[.pointer (some ⟨g, 0, none⟩), .agg #[.int .i64 a, .int .i64 b, .bool false, .int .i64 t1, .int .i64 t2, .int .i64 lt]] w fun e w' => e = .returned (.iface 88 (.int .i64 4)) ∧ Below w.heap.size w w' := by
 have C1 := Lib.hid (fun w' (hb : Below w.heap.size w w') => by have := world_has g n ss rs t uv a w' (h.at.below hb); rw [h1] at this; exact this)
 have C2 := Lib.hid (fun w' (hb : Below w.heap.size w w') => by have := world_has g n ss rs t uv b w' (h.at.below hb); rw [h2] at this; exact this)
 obtain ⟨A, c, rfl, hAc, hcm⟩ := own_slice h.row
 unfold maxLen at hcm
 have HG := Lib.hid (fun w' (hb : Below w.heap.size w w') => show w'.cell? ⟨g, 3, none⟩ = some (.slice A us.length c) from by
  obtain ⟨gs, cs, gr, cr, k1, _⟩ := (h.below hb).ex
  rw [k1.cell]; rfl)
 have hgw := Nat.lt_of_lt_of_le h.gB h.Bw
 have g1 : (40 : Int) ≤ (us.length : Int) := by omega
 clear h h1 h2
 go_enter Tryz.func96, Tryz.ntmps96
 go_wp2_with fail
 refine (C1.out _ BeL).mono ?_
 rintro e w1 ⟨rfl, hb1⟩
 have hz1 := hb1.size
 (try simp at hz1)
 have agx : w.heap.size ≤ w.heap.size := by first | omega | (simp; done) | (simp; omega)
 have bx1 : Blk w1 (w.heap.size) 110 #[.int .i64 a, .int .i64 b, .bool false, .int .i64 t1, .int .i64 t2, .int .i64 lt] := BkD
 have cx1_0 : w1.cell? ⟨w.heap.size, 0, none⟩ = some (.int .i64 a) := bx1.cell 0
 have fx1_0 : w1.frozen? ⟨w.heap.size, 0, none⟩ = false := bx1.fz 0
 have cx1_1 : w1.cell? ⟨w.heap.size, 1, none⟩ = some (.int .i64 b) := bx1.cell 1
 have fx1_1 : w1.frozen? ⟨w.heap.size, 1, none⟩ = false := bx1.fz 1
 have cx1_2 : w1.cell? ⟨w.heap.size, 2, none⟩ = some (.bool false) := bx1.cell 2
 have fx1_2 : w1.frozen? ⟨w.heap.size, 2, none⟩ = false := bx1.fz 2
 have cx1_3 : w1.cell? ⟨w.heap.size, 3, none⟩ = some (.int .i64 t1) := bx1.cell 3
 have fx1_3 : w1.frozen? ⟨w.heap.size, 3, none⟩ = false := bx1.fz 3
 have cx1_4 : w1.cell? ⟨w.heap.size, 4, none⟩ = some (.int .i64 t2) := bx1.cell 4
 have fx1_4 : w1.frozen? ⟨w.heap.size, 4, none⟩ = false := bx1.fz 4
 have cx1_5 : w1.cell? ⟨w.heap.size, 5, none⟩ = some (.int .i64 lt) := bx1.cell 5
 have fx1_5 : w1.frozen? ⟨w.heap.size, 5, none⟩ = false := bx1.fz 5
 have lx1 : w.heap.size < w1.heap.size := bx1.lt
 have HB1 : Below w.heap.size w w1 := BeL
 have HZ1 := HB1.size
 clear hb1 hz1
 go_wp2_with fail
 refine (C2.out _ BeL).mono ?_
 rintro e w2 ⟨rfl, hb2⟩
 have hz2 := hb2.size
 (try simp at hz2)
 have bx2 : Blk w2 (w.heap.size) 110 #[.int .i64 a, .int .i64 b, .bool false, .int .i64 t1, .int .i64 t2, .int .i64 lt] := BkD
 have cx2_0 : w2.cell? ⟨w.heap.size, 0, none⟩ = some (.int .i64 a) := bx2.cell 0
 have fx2_0 : w2.frozen? ⟨w.heap.size, 0, none⟩ = false := bx2.fz 0
 have cx2_1 : w2.cell? ⟨w.heap.size, 1, none⟩ = some (.int .i64 b) := bx2.cell 1
 have fx2_1 : w2.frozen? ⟨w.heap.size, 1, none⟩ = false := bx2.fz 1
 have cx2_2 : w2.cell? ⟨w.heap.size, 2, none⟩ = some (.bool false) := bx2.cell 2
 have fx2_2 : w2.frozen? ⟨w.heap.size, 2, none⟩ = false := bx2.fz 2
 have cx2_3 : w2.cell? ⟨w.heap.size, 3, none⟩ = some (.int .i64 t1) := bx2.cell 3
 have fx2_3 : w2.frozen? ⟨w.heap.size, 3, none⟩ = false := bx2.fz 3
 have cx2_4 : w2.cell? ⟨w.heap.size, 4, none⟩ = some (.int .i64 t2) := bx2.cell 4
 have fx2_4 : w2.frozen? ⟨w.heap.size, 4, none⟩ = false := bx2.fz 4
 have cx2_5 : w2.cell? ⟨w.heap.size, 5, none⟩ = some (.int .i64 lt) := bx2.cell 5
 have fx2_5 : w2.frozen? ⟨w.heap.size, 5, none⟩ = false := bx2.fz 5
 have lx2 : w.heap.size < w2.heap.size := bx2.lt
 have HB2 : Below w.heap.size w w2 := BeL
 have HZ2 := HB2.size
 clear hb2 hz2 HB1 HZ1 bx1 lx1 cx1_0 fx1_0 cx1_1 fx1_1 cx1_2 fx1_2 cx1_3 fx1_3 cx1_4 fx1_4 cx1_5 fx1_5 
 have y0 := HG.out w2 HB2
 clear C1 C2
 go_wp2_with fail
 go_ret
 exact ⟨rfl, HB2⟩
end Go.Proofs.YtldlandcjegikaaGreatDoor
