/- The reference's ask, walked. -/
import Derived.Test.YtldlandcjegikaaGreatDoorHS1
namespace Go.Proofs.YtldlandcjegikaaGreatDoor
open Go.RowKit
set_option linter.unusedVariables false
set_option linter.unusedSimpArgs false
variable {qv : Value}
theorem rsent_box {W0 w W w5 w9 : World} {M B n gg m cap r : Nat} {A1 A2 : Option Addr} {c1 c2 : Nat} {t : Int} {uv : Value} {us : List RLetter} {L : RLetter} (h : RWorld qv W0 w M B n A1 A2 c1 c2 t uv us) (hW : Below w.heap.size w W) (hg5 : W.grownBy w5 uv.ownBlock) (hgg : uv.ownBlock = some gg ∨ gg = W.heap.size)
  (ho5 : w5.ownsRow B 110 6 (.slice (some ⟨gg, 0, none⟩) m cap) (us.length + 1) (us.flatMap RLetter.cells ++ RLetter.cells L)) (hl : us.length < 40) (hok : RLetter.ok L)
  (hr : w.heap.size ≤ r) (hrW : r < W.heap.size) (ht : Touched r (w5.setCell ⟨M, 3, none⟩ (.slice (some ⟨gg, 0, none⟩) m cap)) w9) : RSent qv W0 w M B n A1 A2 c1 c2 t uv (us ++ [L]) w9 := by
 have hlow := h.low
 have hgB := h.MB
 have hBw := h.Bw
 have hMo := h.Mo
 have hne : some M ≠ uv.ownBlock := fun e => by have := (hlow _ e.symm).1; omega
 have hK : Kept (Mine M uv) w (w5.setCell ⟨M, 3, none⟩ (.slice (some ⟨gg, 0, none⟩) m cap)) := (((Kept.refl _ w).below hW).grown hg5 (fun k e => .inl (.inr e))).set M 3 _ (.inl (.inl rfl))
 have hR : RWorld qv W0 (w5.setCell ⟨M, 3, none⟩ (.slice (some ⟨gg, 0, none⟩) m cap)) M B n A1 A2 c1 c2 t (.slice (some ⟨gg, 0, none⟩) m cap) (us ++ [L]) := by
  refine h.next hK ?_ ?_ ?_ ?_ h.t0 h.t1
  ·exact (((h.blk.below hW h.blk.lt).grown hg5 hne).set 3 _).conv rfl
  ·exact own_touched (own_snoc RLetter.cells ho5) ((Touched.refl M w5).set 3 _) hgB
  ·rw [List.length_append]; simp; omega
  ·intro z hz
   rcases List.mem_append.1 hz with h1 | h1
   ·exact h.lok z h1
   ·simp at h1; subst h1; exact hok
 have hgr : gg ≠ r := by
  rcases hgg with h1 | h1
  ·have := (hlow _ h1).2; omega
  ·omega
 refine ⟨.slice (some ⟨gg, 0, none⟩) m cap, hR.other (P := fun k => k = r) ⟨ht.os, ht.tape, ht.output, ht.size, fun k hk hn => ht.block k hk (fun e => hn (Option.some.inj e))⟩ (fun k e => ⟨by omega, by omega, fun e2 => ?_⟩), hK.touched ht (.inr hr), fun q e => ?_⟩
 ·have e3 : gg = k := by simpa [Value.ownBlock] using e2
  omega
 ·have e : gg = q := by simpa [Value.ownBlock] using e
  subst e
  rcases hgg with h1 | h1
  ·exact .inl h1
  ·right; have := hW.size; omega
set_option maxRecDepth 100000 in
set_option maxHeartbeats 8000000 in
theorem r2_Do_ask (W0 : World) (M B n : Nat) (A1 A2 : Option Addr) (c1 c2 : Nat) (ss rs : List Int) (t : Int) (uv : Value) (us : List RLetter) (i k : Nat) (s r : Int) (w : World) (h : RWorld qv W0 w M B n A1 A2 c1 c2 t uv us)
  (h1 : IsInts W0 A1 n c1 ss) (h2 : IsInts W0 A2 n c2 rs) (n6 : n ≤ 6) (hs : ss[i]? = some s) (hr : rs[i]? = some r) (sb : 0 ≤ s ∧ s ≤ 1000000) (rb : -1000 ≤ r ∧ r ≤ 1000) (hkn : k < n) (hne : i ≠ k) (hl : us.length < 40) :
  Calls Tryz.prog 41 #[.pointer (some ⟨M, 0, none⟩), .agg #[.int .i64 2, .int .i64 i, .int .i64 k]] w fun e w' => e = .returned (.tuple #[noL, .bool false, .int .i64 0]) ∧ RSent qv W0 w M B n A1 A2 c1 c2 t uv (us ++ [⟨i, k, false, 0, 0, readV s r t⟩]) w' := by
 obtain ⟨i0, hi, hz0, hz1, hz2⟩ := info_parts infoLt
 have hin : i < n := by rw [← h1.1]; exact (List.getElem?_eq_some_iff.1 hs).1
 have HU := Lib.hid h
 have CH := Lib.hid (fun (j : Nat) (hj : j < n) w' (hb : Below w.heap.size w w') => by have := r2_has W0 M B n A1 A2 c1 c2 t uv us j w' (h.below hb); rw [hasN_nat hj] at this; exact this)
 have CRd := Lib.hid (fun w' (hb : Below w.heap.size w w') => r2_WRead W0 M B n A1 A2 c1 c2 ss rs t uv us i s r w' (h.below hb) h1 h2 hs hr sb rb)
 obtain ⟨A, c, rfl, hAc, hcm⟩ := own_slice h.row
 unfold maxLen at hcm
 have HG := Lib.hid (fun w' (hb : Below w.heap.size w w') => show w'.cell? ⟨M, 3, none⟩ = some (.slice A us.length c) ∧ w'.frozen? ⟨M, 3, none⟩ = false from ⟨by rw [(h.below hb).blk.cell]; rfl, (h.below hb).blk.fz 3⟩)
 have hrd := readV_bd sb.1 sb.2 h.t0 h.t1 rb.1 rb.2
 have hgw := Nat.lt_of_lt_of_le h.MB h.Bw
 have hBw := h.Bw
 have hgB := h.MB
 have hlow := h.low
 obtain ⟨v, hv⟩ : ∃ v, readV s r t = v := ⟨_, rfl⟩
 rw [hv] at CRd hrd ⊢
 have HOk := Lib.hid (show RLetter.ok ⟨i, k, false, 0, 0, v⟩ from by unfold RLetter.ok i64B; simp only []; omega)
 have g1 : ¬ (40 : Int) ≤ (us.length : Int) := by omega
 have g2 : ((i : Int) == (k : Int)) = false := by simp; omega
 have HNr := Lib.hid (show some (w.heap.size + 1) ≠ (Value.slice A us.length c).ownBlock from fun e => by have := (hlow _ e.symm).2; omega)
 clear h h1 h2 hs hr hv sb rb hne
 go_enter Tryz.func41, Tryz.ntmps41
 go_wp2_with fail
 refine (CH.out i hin _ BeL).mono ?_
 rintro e w1 ⟨rfl, hb1⟩
 have hz1 := hb1.size
 (try simp at hz1)
 have agx : w.heap.size ≤ w.heap.size := by first | omega | (simp; done) | (simp; omega)
 have agr : w.heap.size ≤ w.heap.size + 1 := by first | omega | (simp; done) | (simp; omega)
 have bx1 : Blk w1 (w.heap.size) 71 #[.int .i64 2, .int .i64 i, .int .i64 k] := BkD
 have cx1_0 : w1.cell? ⟨w.heap.size, 0, none⟩ = some (.int .i64 2) := bx1.cell 0
 have fx1_0 : w1.frozen? ⟨w.heap.size, 0, none⟩ = false := bx1.fz 0
 have cx1_1 : w1.cell? ⟨w.heap.size, 1, none⟩ = some (.int .i64 i) := bx1.cell 1
 have fx1_1 : w1.frozen? ⟨w.heap.size, 1, none⟩ = false := bx1.fz 1
 have cx1_2 : w1.cell? ⟨w.heap.size, 2, none⟩ = some (.int .i64 k) := bx1.cell 2
 have fx1_2 : w1.frozen? ⟨w.heap.size, 2, none⟩ = false := bx1.fz 2
 have lx1 : w.heap.size < w1.heap.size := bx1.lt
 have br1 : Blk w1 (w.heap.size + 1) 110 #[.int .i64 0, .int .i64 0, .bool false, .int .i64 0, .int .i64 0, .int .i64 0] := BkD
 have cr1_0 : w1.cell? ⟨w.heap.size + 1, 0, none⟩ = some (.int .i64 0) := br1.cell 0
 have fr1_0 : w1.frozen? ⟨w.heap.size + 1, 0, none⟩ = false := br1.fz 0
 have cr1_1 : w1.cell? ⟨w.heap.size + 1, 1, none⟩ = some (.int .i64 0) := br1.cell 1
 have fr1_1 : w1.frozen? ⟨w.heap.size + 1, 1, none⟩ = false := br1.fz 1
 have cr1_2 : w1.cell? ⟨w.heap.size + 1, 2, none⟩ = some (.bool false) := br1.cell 2
 have fr1_2 : w1.frozen? ⟨w.heap.size + 1, 2, none⟩ = false := br1.fz 2
 have cr1_3 : w1.cell? ⟨w.heap.size + 1, 3, none⟩ = some (.int .i64 0) := br1.cell 3
 have fr1_3 : w1.frozen? ⟨w.heap.size + 1, 3, none⟩ = false := br1.fz 3
 have cr1_4 : w1.cell? ⟨w.heap.size + 1, 4, none⟩ = some (.int .i64 0) := br1.cell 4
 have fr1_4 : w1.frozen? ⟨w.heap.size + 1, 4, none⟩ = false := br1.fz 4
 have cr1_5 : w1.cell? ⟨w.heap.size + 1, 5, none⟩ = some (.int .i64 0) := br1.cell 5
 have fr1_5 : w1.frozen? ⟨w.heap.size + 1, 5, none⟩ = false := br1.fz 5
 have lr1 : w.heap.size + 1 < w1.heap.size := br1.lt
 have HB1 : Below w.heap.size w w1 := BeL
 have HZ1 := HB1.size
 clear hb1 hz1
 go_wp2_with fail
 refine (CH.out k hkn _ BeL).mono ?_
 rintro e w2 ⟨rfl, hb2⟩
 have hz2 := hb2.size
 (try simp at hz2)
 have bx2 : Blk w2 (w.heap.size) 71 #[.int .i64 2, .int .i64 i, .int .i64 k] := BkD
 have cx2_0 : w2.cell? ⟨w.heap.size, 0, none⟩ = some (.int .i64 2) := bx2.cell 0
 have fx2_0 : w2.frozen? ⟨w.heap.size, 0, none⟩ = false := bx2.fz 0
 have cx2_1 : w2.cell? ⟨w.heap.size, 1, none⟩ = some (.int .i64 i) := bx2.cell 1
 have fx2_1 : w2.frozen? ⟨w.heap.size, 1, none⟩ = false := bx2.fz 1
 have cx2_2 : w2.cell? ⟨w.heap.size, 2, none⟩ = some (.int .i64 k) := bx2.cell 2
 have fx2_2 : w2.frozen? ⟨w.heap.size, 2, none⟩ = false := bx2.fz 2
 have lx2 : w.heap.size < w2.heap.size := bx2.lt
 have br2 : Blk w2 (w.heap.size + 1) 110 #[.int .i64 0, .int .i64 0, .bool false, .int .i64 0, .int .i64 0, .int .i64 0] := BkD
 have cr2_0 : w2.cell? ⟨w.heap.size + 1, 0, none⟩ = some (.int .i64 0) := br2.cell 0
 have fr2_0 : w2.frozen? ⟨w.heap.size + 1, 0, none⟩ = false := br2.fz 0
 have cr2_1 : w2.cell? ⟨w.heap.size + 1, 1, none⟩ = some (.int .i64 0) := br2.cell 1
 have fr2_1 : w2.frozen? ⟨w.heap.size + 1, 1, none⟩ = false := br2.fz 1
 have cr2_2 : w2.cell? ⟨w.heap.size + 1, 2, none⟩ = some (.bool false) := br2.cell 2
 have fr2_2 : w2.frozen? ⟨w.heap.size + 1, 2, none⟩ = false := br2.fz 2
 have cr2_3 : w2.cell? ⟨w.heap.size + 1, 3, none⟩ = some (.int .i64 0) := br2.cell 3
 have fr2_3 : w2.frozen? ⟨w.heap.size + 1, 3, none⟩ = false := br2.fz 3
 have cr2_4 : w2.cell? ⟨w.heap.size + 1, 4, none⟩ = some (.int .i64 0) := br2.cell 4
 have fr2_4 : w2.frozen? ⟨w.heap.size + 1, 4, none⟩ = false := br2.fz 4
 have cr2_5 : w2.cell? ⟨w.heap.size + 1, 5, none⟩ = some (.int .i64 0) := br2.cell 5
 have fr2_5 : w2.frozen? ⟨w.heap.size + 1, 5, none⟩ = false := br2.fz 5
 have lr2 : w.heap.size + 1 < w2.heap.size := br2.lt
 have HB2 : Below w.heap.size w w2 := BeL
 have HZ2 := HB2.size
 clear hb2 hz2 HB1 HZ1 bx1 lx1 cx1_0 fx1_0 cx1_1 fx1_1 cx1_2 fx1_2 br1 lr1 cr1_0 fr1_0 cr1_1 fr1_1 cr1_2 fr1_2 cr1_3 fr1_3 cr1_4 fr1_4 cr1_5 fr1_5 
 have y9 := (HG.out w2 HB2).1
 go_wp2_with fail
 refine (CRd.out _ BeL).mono ?_
 rintro e w3 ⟨rfl, hb3⟩
 have hz3 := hb3.size
 (try simp at hz3)
 have bx3 : Blk w3 (w.heap.size) 71 #[.int .i64 2, .int .i64 i, .int .i64 k] := BkD
 have cx3_0 : w3.cell? ⟨w.heap.size, 0, none⟩ = some (.int .i64 2) := bx3.cell 0
 have fx3_0 : w3.frozen? ⟨w.heap.size, 0, none⟩ = false := bx3.fz 0
 have cx3_1 : w3.cell? ⟨w.heap.size, 1, none⟩ = some (.int .i64 i) := bx3.cell 1
 have fx3_1 : w3.frozen? ⟨w.heap.size, 1, none⟩ = false := bx3.fz 1
 have cx3_2 : w3.cell? ⟨w.heap.size, 2, none⟩ = some (.int .i64 k) := bx3.cell 2
 have fx3_2 : w3.frozen? ⟨w.heap.size, 2, none⟩ = false := bx3.fz 2
 have lx3 : w.heap.size < w3.heap.size := bx3.lt
 have br3 : Blk w3 (w.heap.size + 1) 110 #[.int .i64 0, .int .i64 0, .bool false, .int .i64 0, .int .i64 0, .int .i64 0] := BkD
 have cr3_0 : w3.cell? ⟨w.heap.size + 1, 0, none⟩ = some (.int .i64 0) := br3.cell 0
 have fr3_0 : w3.frozen? ⟨w.heap.size + 1, 0, none⟩ = false := br3.fz 0
 have cr3_1 : w3.cell? ⟨w.heap.size + 1, 1, none⟩ = some (.int .i64 0) := br3.cell 1
 have fr3_1 : w3.frozen? ⟨w.heap.size + 1, 1, none⟩ = false := br3.fz 1
 have cr3_2 : w3.cell? ⟨w.heap.size + 1, 2, none⟩ = some (.bool false) := br3.cell 2
 have fr3_2 : w3.frozen? ⟨w.heap.size + 1, 2, none⟩ = false := br3.fz 2
 have cr3_3 : w3.cell? ⟨w.heap.size + 1, 3, none⟩ = some (.int .i64 0) := br3.cell 3
 have fr3_3 : w3.frozen? ⟨w.heap.size + 1, 3, none⟩ = false := br3.fz 3
 have cr3_4 : w3.cell? ⟨w.heap.size + 1, 4, none⟩ = some (.int .i64 0) := br3.cell 4
 have fr3_4 : w3.frozen? ⟨w.heap.size + 1, 4, none⟩ = false := br3.fz 4
 have cr3_5 : w3.cell? ⟨w.heap.size + 1, 5, none⟩ = some (.int .i64 0) := br3.cell 5
 have fr3_5 : w3.frozen? ⟨w.heap.size + 1, 5, none⟩ = false := br3.fz 5
 have lr3 : w.heap.size + 1 < w3.heap.size := br3.lt
 have HB3 : Below w.heap.size w w3 := BeL
 have HZ3 := HB3.size
 clear hb3 hz3 HB2 HZ2 bx2 lx2 cx2_0 fx2_0 cx2_1 fx2_1 cx2_2 fx2_2 br2 lr2 cr2_0 fr2_0 cr2_1 fr2_1 cr2_2 fr2_2 cr2_3 fr2_3 cr2_4 fr2_4 cr2_5 fr2_5 
 clear y9 CRd CH
 obtain ⟨u1, u2⟩ := HG.out w3 HB3
 have hgl : M < w3.heap.size := by omega
 have lbox := lx3
 have HBr := Lib.hid br3
 clear cx3_0 fx3_0 fx3_1 fx3_2 bx3 br3 cr3_0 cr3_1 cr3_2 cr3_3 cr3_4 cr3_5
 go_wp2_with fail
 have KP := Lib.hid (fun w' (hb : Below w3.heap.size w3 w') => show w'.cell? ⟨w.heap.size, 1, none⟩ = some (.int .i64 i) ∧ w'.cell? ⟨w.heap.size, 2, none⟩ = some (.int .i64 k) from ⟨(hb.cell (p := ⟨w.heap.size, 1, none⟩) lbox).trans cx3_1, (hb.cell (p := ⟨w.heap.size, 2, none⟩) lbox).trans cx3_2⟩)
 have KG := Lib.hid (fun W W' (hb : Below w3.heap.size w3 W) (hg : W.grownBy W' (Value.slice A us.length c).ownBlock) => show W'.cell? ⟨w.heap.size, 1, none⟩ = some (.int .i64 i) ∧ W'.cell? ⟨w.heap.size, 2, none⟩ = some (.int .i64 k) from by
  have hne : some (w.heap.size) ≠ (Value.slice A us.length c).ownBlock := fun e => by have := (hlow _ e.symm).2; omega
  obtain ⟨y0, y1⟩ := KP.out W hb
  exact ⟨hg.cell y0 hne, hg.cell y1 hne⟩)
 have KN := Lib.hid (fun W W' (hb : Below w3.heap.size w3 W) (hg : W.grownBy W' (Value.slice A us.length c).ownBlock) => show W'.cell? ⟨M, 3, none⟩ = some (.slice A us.length c) ∧ W'.frozen? ⟨M, 3, none⟩ = false from by
  have hne : some M ≠ (Value.slice A us.length c).ownBlock := fun e => by have := (hlow _ e.symm).1; omega
  obtain ⟨k1, k2⟩ := HG.out W (HB3.trans (hb.mono HZ3))
  exact ⟨hg.cell k1 hne, (World.frozen?_of_block (hg.block M (Nat.lt_of_lt_of_le hgl hb.size) hne)).trans k2⟩)
 have KS := Lib.hid (fun (W : World) (v : Value) (hc : W.cell? ⟨w.heap.size, 1, none⟩ = some (.int .i64 i) ∧ W.cell? ⟨w.heap.size, 2, none⟩ = some (.int .i64 k)) => show (W.setCell ⟨M, 3, none⟩ v).cell? ⟨w.heap.size, 1, none⟩ = some (.int .i64 i) ∧ (W.setCell ⟨M, 3, none⟩ v).cell? ⟨w.heap.size, 2, none⟩ = some (.int .i64 k) from ⟨(World.cell?_setCell_other W _ _ v (fun e => by have := congrArg Addr.block e; simp at this; omega)).trans hc.1, (World.cell?_setCell_other W _ _ v (fun e => by have := congrArg Addr.block e; simp at this; omega)).trans hc.2⟩)
 have HRow := Lib.hid (own_below HU.out.row HB3)
 have HBh := Lib.hid HB3
 have B0 := Lib.hid (show B ≤ w3.heap.size from Nat.le_trans hBw HB3.size)
 have B2 := Lib.hid (show us.length + 1 ≤ maxLen by unfold maxLen; omega)
 have B3 := Lib.hid (show (us.length + 1) * 48 ≤ 140737488355328 by omega)
 have hB4 : Below w3.heap.size w3 (w3.alloc (.cells (RLetter.cells ⟨i, k, false, 0, 0, v⟩).toArray 110)).drew := ((Below.refl _ _).alloc (Nat.le_refl _) _).drew
 clear hlow
 refine wp_region_held_drew (S := fun w9 => w9.cell? ⟨w.heap.size, 1, none⟩ = some (.int .i64 i) ∧ w9.cell? ⟨w.heap.size, 2, none⟩ = some (.int .i64 k)) kRf (⟨cx3_1, cx3_2⟩) (fun hHeld => ?_)
 refine tkH 0 (.pointer (some ⟨M, 0, none⟩)) (some 80) rfl hHeld ?_
 try simp only [Act.put,sI_,sZ_,sS_]
 refine tkH 1 (.pointer (some ⟨M, 0, none⟩)) (some 81) rfl hHeld ?_
 try simp only [Act.put,sI_,sZ_,sS_]
 refine tkH 2 (.pointer (some ⟨M, 0, none⟩)) (some 82) rfl hHeld ?_
 try simp only [Act.put,sI_,sZ_,sS_]
 refine tkH 3 (.pointer (some ⟨M, 3, none⟩)) (some 83) rfl hHeld ?_
 try simp only [Act.put,sI_,sZ_,sS_]
 refine tkH 5 (.pointer (some ⟨w.heap.size, 1, none⟩)) (some 85) rfl hHeld ?_
 try simp only [Act.put,sI_,sZ_,sS_]
 refine tkG 6 (.int .i64 i) (some 86) rfl (fun w9 hw9 => by (obtain ⟨y0, y1⟩ := hw9; go_simp)) hHeld ?_
 try simp only [Act.put,sI_,sZ_,sS_]
 refine tkH 7 (.pointer (some ⟨w.heap.size, 2, none⟩)) (some 87) rfl hHeld ?_
 try simp only [Act.put,sI_,sZ_,sS_]
 refine tkG 8 (.int .i64 k) (some 88) rfl (fun w9 hw9 => by (obtain ⟨y0, y1⟩ := hw9; go_simp)) hHeld ?_
 try simp only [Act.put,sI_,sZ_,sS_]
 refine tkH 9 (.int .i64 v) (some 89) rfl hHeld ?_
 try simp only [Act.put,sI_,sZ_,sS_]
 refine tkH 10 (.agg #[.int .i64 i, .int .i64 k, .bool false, .int .i64 0, .int .i64 0, .int .i64 v]) (some 90) rfl hHeld ?_
 try simp only [Act.put,sI_,sZ_,sS_]
 try simp only [Act.put,sI_,sZ_,sS_]
 refine wpAnyH_ready (rs := [4, 11]) kRf (by simp) ?_
 refine AllReadyH.cons rfl (fun K hK => ?_) (AllReadyH.cons rfl (fun K hK => ?_) AllReadyH.nil)
 ·go_simp
  refine hK.out _ _ (hHeld) (fun hHeld2 => ?_)
  clear hK K hHeld
  have hHeld := hHeld2
  clear hHeld2
  try simp only [Act.put,sI_,sZ_,sS_]
  try simp only [Act.put,sI_,sZ_,sS_]
  refine wpAnyH_ready (rs := [11]) kRf (by simp) ?_
  refine AllReadyH.cons rfl (fun K hK => ?_) AllReadyH.nil
  go_simp
  refine hK.out _ _ (KP.out _ hB4) (fun hHeld2 => ?_)
  clear hK K hHeld
  have hHeld := hHeld2
  clear hHeld2
  try simp only [Act.put,sI_,sZ_,sS_]
  try simp only [Act.put,sI_,sZ_,sS_]
  refine wpAnyH_ready (rs := [12]) kRf (by simp) ?_
  refine AllReadyH.cons rfl (fun K hK => ?_) AllReadyH.nil
  refine step_append_lies _ rfl _ _ 58 rfl B 110 i0 (.agg #[.int .i64 0, .int .i64 0, .bool false, .int .i64 0, .int .i64 0, .int .i64 0]) 6 48 Tryz.underlying58 hi hz0 hz1 hz2 rfl (by decide) (.slice A us.length c) us.length (us.flatMap RLetter.cells) (by simp [Act.eval, Act.put]) (HRow.out.alloc _) ⟨w3.heap.size, 0, none⟩ 1 1 (RLetter.cells ⟨i, k, false, 0, 0, v⟩) (by simp [Act.eval, Act.put]) rfl (by exact cell_newAt w3 (RLetter.cells ⟨i, k, false, 0, 0, v⟩) _ _ rfl) (letter_one _) (by decide) B2.out B3.out (by have := B0.out; simp; omega) _ rfl ?_
  intro gg cap w5 ho5 hg5 hgg hlt5
  refine hK.out _ _ (KG.out _ _ hB4 hg5) (fun hHeld2 => ?_)
  clear hK K hHeld
  have hHeld := hHeld2
  clear hHeld2
  change wpAnyH _ _ _ _ _ _ _ (Act.put _ (some 92) _) _
  try simp only [Act.put,sI_,sZ_,sS_]
  have hz5 := hg5.size
  have hc5 := KN.out _ _ hB4 hg5
  obtain ⟨u3, u4⟩ := hc5
  refine tkH 13 (.pointer (some ⟨M, 0, none⟩)) (some 93) rfl hHeld ?_
  try simp only [Act.put,sI_,sZ_,sS_]
  refine tkH 14 (.pointer (some ⟨M, 3, none⟩)) (some 94) rfl hHeld ?_
  try simp only [Act.put,sI_,sZ_,sS_]
  try simp only [Act.put,sI_,sZ_,sS_]
  refine wpAnyH_ready (rs := [15]) kRf (by simp) ?_
  refine AllReadyH.cons rfl (fun K hK => ?_) AllReadyH.nil
  go_simp
  refine hK.out _ _ (KS.out _ _ hHeld) (fun hHeld2 => ?_)
  clear hK K hHeld
  have hHeld := hHeld2
  clear hHeld2
  try simp only [Act.put,sI_,sZ_,sS_]
  refine wpAnyH_done kRf ?_ _
  try simp only [Act.put,sI_,sZ_,sS_]
  have hP : Blk (w5.setCell ⟨M, 3, none⟩ (.slice (some ⟨gg, 0, none⟩) (us.length + 1) cap)) (w.heap.size + 1) 110 #[.int .i64 0, .int .i64 0, .bool false, .int .i64 0, .int .i64 0, .int .i64 0] := (((HBr.out.alloc _).drew).grown hg5 HNr.out).far (by show w.heap.size + 1 ≠ M; omega) _
  have hQ : Blk w5 (w.heap.size + 1) 110 #[.int .i64 0, .int .i64 0, .bool false, .int .i64 0, .int .i64 0, .int .i64 0] := ((HBr.out.alloc _).drew).grown hg5 HNr.out
  have hp0 : (w5.setCell ⟨M, 3, none⟩ (.slice (some ⟨gg, 0, none⟩) (us.length + 1) cap)).cell? ⟨w.heap.size + 1, 0, none⟩ = some (.int .i64 0) := hP.cell 0
  have hf0 : w5.frozen? ⟨w.heap.size + 1, 0, none⟩ = false := hQ.fz 0
  have hh0 : (w5.setCell ⟨M, 3, none⟩ (.slice (some ⟨gg, 0, none⟩) (us.length + 1) cap)).frozen? ⟨w.heap.size + 1, 0, none⟩ = false := hP.fz 0
  have hp1 : (w5.setCell ⟨M, 3, none⟩ (.slice (some ⟨gg, 0, none⟩) (us.length + 1) cap)).cell? ⟨w.heap.size + 1, 1, none⟩ = some (.int .i64 0) := hP.cell 1
  have hf1 : w5.frozen? ⟨w.heap.size + 1, 1, none⟩ = false := hQ.fz 1
  have hh1 : (w5.setCell ⟨M, 3, none⟩ (.slice (some ⟨gg, 0, none⟩) (us.length + 1) cap)).frozen? ⟨w.heap.size + 1, 1, none⟩ = false := hP.fz 1
  have hp2 : (w5.setCell ⟨M, 3, none⟩ (.slice (some ⟨gg, 0, none⟩) (us.length + 1) cap)).cell? ⟨w.heap.size + 1, 2, none⟩ = some (.bool false) := hP.cell 2
  have hf2 : w5.frozen? ⟨w.heap.size + 1, 2, none⟩ = false := hQ.fz 2
  have hh2 : (w5.setCell ⟨M, 3, none⟩ (.slice (some ⟨gg, 0, none⟩) (us.length + 1) cap)).frozen? ⟨w.heap.size + 1, 2, none⟩ = false := hP.fz 2
  have hp3 : (w5.setCell ⟨M, 3, none⟩ (.slice (some ⟨gg, 0, none⟩) (us.length + 1) cap)).cell? ⟨w.heap.size + 1, 3, none⟩ = some (.int .i64 0) := hP.cell 3
  have hf3 : w5.frozen? ⟨w.heap.size + 1, 3, none⟩ = false := hQ.fz 3
  have hh3 : (w5.setCell ⟨M, 3, none⟩ (.slice (some ⟨gg, 0, none⟩) (us.length + 1) cap)).frozen? ⟨w.heap.size + 1, 3, none⟩ = false := hP.fz 3
  have hp4 : (w5.setCell ⟨M, 3, none⟩ (.slice (some ⟨gg, 0, none⟩) (us.length + 1) cap)).cell? ⟨w.heap.size + 1, 4, none⟩ = some (.int .i64 0) := hP.cell 4
  have hf4 : w5.frozen? ⟨w.heap.size + 1, 4, none⟩ = false := hQ.fz 4
  have hh4 : (w5.setCell ⟨M, 3, none⟩ (.slice (some ⟨gg, 0, none⟩) (us.length + 1) cap)).frozen? ⟨w.heap.size + 1, 4, none⟩ = false := hP.fz 4
  have hp5 : (w5.setCell ⟨M, 3, none⟩ (.slice (some ⟨gg, 0, none⟩) (us.length + 1) cap)).cell? ⟨w.heap.size + 1, 5, none⟩ = some (.int .i64 0) := hP.cell 5
  have hf5 : w5.frozen? ⟨w.heap.size + 1, 5, none⟩ = false := hQ.fz 5
  have hh5 : (w5.setCell ⟨M, 3, none⟩ (.slice (some ⟨gg, 0, none⟩) (us.length + 1) cap)).frozen? ⟨w.heap.size + 1, 5, none⟩ = false := hP.fz 5
  go_wp2_with fail
  (try simp only [Exit.inBlock, Exit.then])
  refine bodyPost_ret (do_results _ _ (w.heap.size + 1) 0 0 false 0 0 0 false 0 BkD rfl rfl rfl) rfl ?_
  exact ⟨rfl, rsent_box HU.out (HBh.out.trans (hB4.mono HZ3)) hg5 hgg ho5 hl HOk.out (r := w.heap.size + 1) (by omega) (by simp; omega) (by repeat (first | with_reducible exact Touched.refl _ _ | (with_reducible refine Touched.alloc ?_ _) | (with_reducible refine Touched.setp ?_ _ (by first | exact .inl rfl | (right; first | omega | (simp; done) | (simp; omega))) _) | (with_reducible refine Touched.drew ?_) | (with_reducible refine Touched.drewN ?_ _) | (with_reducible assumption) | (with_reducible refine Touched.then (by with_reducible assumption) ?_)))⟩
 ·go_simp
  refine hK.out _ _ (KP.out _ hB4) (fun hHeld2 => ?_)
  clear hK K hHeld
  have hHeld := hHeld2
  clear hHeld2
  try simp only [Act.put,sI_,sZ_,sS_]
  try simp only [Act.put,sI_,sZ_,sS_]
  refine wpAnyH_ready (rs := [4]) kRf (by simp) ?_
  refine AllReadyH.cons rfl (fun K hK => ?_) AllReadyH.nil
  go_simp
  refine hK.out _ _ (hHeld) (fun hHeld2 => ?_)
  clear hK K hHeld
  have hHeld := hHeld2
  clear hHeld2
  try simp only [Act.put,sI_,sZ_,sS_]
  try simp only [Act.put,sI_,sZ_,sS_]
  refine wpAnyH_ready (rs := [12]) kRf (by simp) ?_
  refine AllReadyH.cons rfl (fun K hK => ?_) AllReadyH.nil
  refine step_append_lies _ rfl _ _ 58 rfl B 110 i0 (.agg #[.int .i64 0, .int .i64 0, .bool false, .int .i64 0, .int .i64 0, .int .i64 0]) 6 48 Tryz.underlying58 hi hz0 hz1 hz2 rfl (by decide) (.slice A us.length c) us.length (us.flatMap RLetter.cells) (by simp [Act.eval, Act.put]) (HRow.out.alloc _) ⟨w3.heap.size, 0, none⟩ 1 1 (RLetter.cells ⟨i, k, false, 0, 0, v⟩) (by simp [Act.eval, Act.put]) rfl (by exact cell_newAt w3 (RLetter.cells ⟨i, k, false, 0, 0, v⟩) _ _ rfl) (letter_one _) (by decide) B2.out B3.out (by have := B0.out; simp; omega) _ rfl ?_
  intro gg cap w5 ho5 hg5 hgg hlt5
  refine hK.out _ _ (KG.out _ _ hB4 hg5) (fun hHeld2 => ?_)
  clear hK K hHeld
  have hHeld := hHeld2
  clear hHeld2
  change wpAnyH _ _ _ _ _ _ _ (Act.put _ (some 92) _) _
  try simp only [Act.put,sI_,sZ_,sS_]
  have hz5 := hg5.size
  have hc5 := KN.out _ _ hB4 hg5
  obtain ⟨u3, u4⟩ := hc5
  refine tkH 13 (.pointer (some ⟨M, 0, none⟩)) (some 93) rfl hHeld ?_
  try simp only [Act.put,sI_,sZ_,sS_]
  refine tkH 14 (.pointer (some ⟨M, 3, none⟩)) (some 94) rfl hHeld ?_
  try simp only [Act.put,sI_,sZ_,sS_]
  try simp only [Act.put,sI_,sZ_,sS_]
  refine wpAnyH_ready (rs := [15]) kRf (by simp) ?_
  refine AllReadyH.cons rfl (fun K hK => ?_) AllReadyH.nil
  go_simp
  refine hK.out _ _ (KS.out _ _ hHeld) (fun hHeld2 => ?_)
  clear hK K hHeld
  have hHeld := hHeld2
  clear hHeld2
  try simp only [Act.put,sI_,sZ_,sS_]
  refine wpAnyH_done kRf ?_ _
  try simp only [Act.put,sI_,sZ_,sS_]
  have hP : Blk (w5.setCell ⟨M, 3, none⟩ (.slice (some ⟨gg, 0, none⟩) (us.length + 1) cap)) (w.heap.size + 1) 110 #[.int .i64 0, .int .i64 0, .bool false, .int .i64 0, .int .i64 0, .int .i64 0] := (((HBr.out.alloc _).drew).grown hg5 HNr.out).far (by show w.heap.size + 1 ≠ M; omega) _
  have hQ : Blk w5 (w.heap.size + 1) 110 #[.int .i64 0, .int .i64 0, .bool false, .int .i64 0, .int .i64 0, .int .i64 0] := ((HBr.out.alloc _).drew).grown hg5 HNr.out
  have hp0 : (w5.setCell ⟨M, 3, none⟩ (.slice (some ⟨gg, 0, none⟩) (us.length + 1) cap)).cell? ⟨w.heap.size + 1, 0, none⟩ = some (.int .i64 0) := hP.cell 0
  have hf0 : w5.frozen? ⟨w.heap.size + 1, 0, none⟩ = false := hQ.fz 0
  have hh0 : (w5.setCell ⟨M, 3, none⟩ (.slice (some ⟨gg, 0, none⟩) (us.length + 1) cap)).frozen? ⟨w.heap.size + 1, 0, none⟩ = false := hP.fz 0
  have hp1 : (w5.setCell ⟨M, 3, none⟩ (.slice (some ⟨gg, 0, none⟩) (us.length + 1) cap)).cell? ⟨w.heap.size + 1, 1, none⟩ = some (.int .i64 0) := hP.cell 1
  have hf1 : w5.frozen? ⟨w.heap.size + 1, 1, none⟩ = false := hQ.fz 1
  have hh1 : (w5.setCell ⟨M, 3, none⟩ (.slice (some ⟨gg, 0, none⟩) (us.length + 1) cap)).frozen? ⟨w.heap.size + 1, 1, none⟩ = false := hP.fz 1
  have hp2 : (w5.setCell ⟨M, 3, none⟩ (.slice (some ⟨gg, 0, none⟩) (us.length + 1) cap)).cell? ⟨w.heap.size + 1, 2, none⟩ = some (.bool false) := hP.cell 2
  have hf2 : w5.frozen? ⟨w.heap.size + 1, 2, none⟩ = false := hQ.fz 2
  have hh2 : (w5.setCell ⟨M, 3, none⟩ (.slice (some ⟨gg, 0, none⟩) (us.length + 1) cap)).frozen? ⟨w.heap.size + 1, 2, none⟩ = false := hP.fz 2
  have hp3 : (w5.setCell ⟨M, 3, none⟩ (.slice (some ⟨gg, 0, none⟩) (us.length + 1) cap)).cell? ⟨w.heap.size + 1, 3, none⟩ = some (.int .i64 0) := hP.cell 3
  have hf3 : w5.frozen? ⟨w.heap.size + 1, 3, none⟩ = false := hQ.fz 3
  have hh3 : (w5.setCell ⟨M, 3, none⟩ (.slice (some ⟨gg, 0, none⟩) (us.length + 1) cap)).frozen? ⟨w.heap.size + 1, 3, none⟩ = false := hP.fz 3
  have hp4 : (w5.setCell ⟨M, 3, none⟩ (.slice (some ⟨gg, 0, none⟩) (us.length + 1) cap)).cell? ⟨w.heap.size + 1, 4, none⟩ = some (.int .i64 0) := hP.cell 4
  have hf4 : w5.frozen? ⟨w.heap.size + 1, 4, none⟩ = false := hQ.fz 4
  have hh4 : (w5.setCell ⟨M, 3, none⟩ (.slice (some ⟨gg, 0, none⟩) (us.length + 1) cap)).frozen? ⟨w.heap.size + 1, 4, none⟩ = false := hP.fz 4
  have hp5 : (w5.setCell ⟨M, 3, none⟩ (.slice (some ⟨gg, 0, none⟩) (us.length + 1) cap)).cell? ⟨w.heap.size + 1, 5, none⟩ = some (.int .i64 0) := hP.cell 5
  have hf5 : w5.frozen? ⟨w.heap.size + 1, 5, none⟩ = false := hQ.fz 5
  have hh5 : (w5.setCell ⟨M, 3, none⟩ (.slice (some ⟨gg, 0, none⟩) (us.length + 1) cap)).frozen? ⟨w.heap.size + 1, 5, none⟩ = false := hP.fz 5
  go_wp2_with fail
  (try simp only [Exit.inBlock, Exit.then])
  refine bodyPost_ret (do_results _ _ (w.heap.size + 1) 0 0 false 0 0 0 false 0 BkD rfl rfl rfl) rfl ?_
  exact ⟨rfl, rsent_box HU.out (HBh.out.trans (hB4.mono HZ3)) hg5 hgg ho5 hl HOk.out (r := w.heap.size + 1) (by omega) (by simp; omega) (by repeat (first | with_reducible exact Touched.refl _ _ | (with_reducible refine Touched.alloc ?_ _) | (with_reducible refine Touched.setp ?_ _ (by first | exact .inl rfl | (right; first | omega | (simp; done) | (simp; omega))) _) | (with_reducible refine Touched.drew ?_) | (with_reducible refine Touched.drewN ?_ _) | (with_reducible assumption) | (with_reducible refine Touched.then (by with_reducible assumption) ?_)))⟩
set_option maxRecDepth 100000 in
set_option maxHeartbeats 4000000 in
theorem r2_Do_ask_no (W0 : World) (M B n : Nat) (A1 A2 : Option Addr) (c1 c2 : Nat) (t : Int) (uv : Value) (us : List RLetter) (a b : Int) (w : World) (h : RWorld qv W0 w M B n A1 A2 c1 c2 t uv us) (h0 : hasN n a = false ∨ hasN n b = false) :
  Calls Tryz.prog 41 #[.pointer (some ⟨M, 0, none⟩), .agg #[.int .i64 2, .int .i64 a, .int .i64 b]] w fun e w' => e = .returned (.tuple #[noL, .bool false, .int .i64 1]) ∧ Below w.heap.size w w' := by
 have CH := Lib.hid (fun (j : Int) (q : Bool) (hq : hasN n j = q) w' (hb : Below w.heap.size w w') => by have := r2_has W0 M B n A1 A2 c1 c2 t uv us j w' (h.below hb); rw [hq] at this; exact this)
 clear h
 obtain ⟨p, q, d1, d2, hd⟩ : ∃ p q, hasN n a = p ∧ hasN n b = q ∧ (p = false ∨ (p = true ∧ q = false)) := ⟨_, _, rfl, rfl, by cases h1 : hasN n a; exact .inl rfl; rw [h1] at h0; rcases h0 with h | h; cases h; exact .inr ⟨rfl, h⟩⟩
 have C1 := Lib.hid (CH.out a p d1)
 have C2 := Lib.hid (CH.out b q d2)
 have hle : w.heap.size ≤ w.heap.size + 1 := by omega
 clear h0 d1 d2 CH
 rcases hd with rfl | ⟨rfl, rfl⟩
 all_goals
  go_enter Tryz.func41, Tryz.ntmps41
  go_wp2_with fail
  refine (C1.out _ BeL).mono ?_
  rintro e w1 ⟨rfl, hb1⟩
  have hz1 := hb1.size
  (try simp at hz1)
  have agx : w.heap.size ≤ w.heap.size := by first | omega | (simp; done) | (simp; omega)
  have agr : w.heap.size ≤ w.heap.size + 1 := by first | omega | (simp; done) | (simp; omega)
  have bx1 : Blk w1 (w.heap.size) 71 #[.int .i64 2, .int .i64 a, .int .i64 b] := BkD
  have cx1_0 : w1.cell? ⟨w.heap.size, 0, none⟩ = some (.int .i64 2) := bx1.cell 0
  have fx1_0 : w1.frozen? ⟨w.heap.size, 0, none⟩ = false := bx1.fz 0
  have cx1_1 : w1.cell? ⟨w.heap.size, 1, none⟩ = some (.int .i64 a) := bx1.cell 1
  have fx1_1 : w1.frozen? ⟨w.heap.size, 1, none⟩ = false := bx1.fz 1
  have cx1_2 : w1.cell? ⟨w.heap.size, 2, none⟩ = some (.int .i64 b) := bx1.cell 2
  have fx1_2 : w1.frozen? ⟨w.heap.size, 2, none⟩ = false := bx1.fz 2
  have lx1 : w.heap.size < w1.heap.size := bx1.lt
  have br1 : Blk w1 (w.heap.size + 1) 110 #[.int .i64 0, .int .i64 0, .bool false, .int .i64 0, .int .i64 0, .int .i64 0] := BkD
  have cr1_0 : w1.cell? ⟨w.heap.size + 1, 0, none⟩ = some (.int .i64 0) := br1.cell 0
  have fr1_0 : w1.frozen? ⟨w.heap.size + 1, 0, none⟩ = false := br1.fz 0
  have cr1_1 : w1.cell? ⟨w.heap.size + 1, 1, none⟩ = some (.int .i64 0) := br1.cell 1
  have fr1_1 : w1.frozen? ⟨w.heap.size + 1, 1, none⟩ = false := br1.fz 1
  have cr1_2 : w1.cell? ⟨w.heap.size + 1, 2, none⟩ = some (.bool false) := br1.cell 2
  have fr1_2 : w1.frozen? ⟨w.heap.size + 1, 2, none⟩ = false := br1.fz 2
  have cr1_3 : w1.cell? ⟨w.heap.size + 1, 3, none⟩ = some (.int .i64 0) := br1.cell 3
  have fr1_3 : w1.frozen? ⟨w.heap.size + 1, 3, none⟩ = false := br1.fz 3
  have cr1_4 : w1.cell? ⟨w.heap.size + 1, 4, none⟩ = some (.int .i64 0) := br1.cell 4
  have fr1_4 : w1.frozen? ⟨w.heap.size + 1, 4, none⟩ = false := br1.fz 4
  have cr1_5 : w1.cell? ⟨w.heap.size + 1, 5, none⟩ = some (.int .i64 0) := br1.cell 5
  have fr1_5 : w1.frozen? ⟨w.heap.size + 1, 5, none⟩ = false := br1.fz 5
  have lr1 : w.heap.size + 1 < w1.heap.size := br1.lt
  have HB1 : Below w.heap.size w w1 := BeL
  have HZ1 := HB1.size
  clear hb1 hz1
  go_wp2_with fail
  refine (C2.out _ BeL).mono ?_
  rintro e w2 ⟨rfl, hb2⟩
  have hz2 := hb2.size
  (try simp at hz2)
  have bx2 : Blk w2 (w.heap.size) 71 #[.int .i64 2, .int .i64 a, .int .i64 b] := BkD
  have cx2_0 : w2.cell? ⟨w.heap.size, 0, none⟩ = some (.int .i64 2) := bx2.cell 0
  have fx2_0 : w2.frozen? ⟨w.heap.size, 0, none⟩ = false := bx2.fz 0
  have cx2_1 : w2.cell? ⟨w.heap.size, 1, none⟩ = some (.int .i64 a) := bx2.cell 1
  have fx2_1 : w2.frozen? ⟨w.heap.size, 1, none⟩ = false := bx2.fz 1
  have cx2_2 : w2.cell? ⟨w.heap.size, 2, none⟩ = some (.int .i64 b) := bx2.cell 2
  have fx2_2 : w2.frozen? ⟨w.heap.size, 2, none⟩ = false := bx2.fz 2
  have lx2 : w.heap.size < w2.heap.size := bx2.lt
  have br2 : Blk w2 (w.heap.size + 1) 110 #[.int .i64 0, .int .i64 0, .bool false, .int .i64 0, .int .i64 0, .int .i64 0] := BkD
  have cr2_0 : w2.cell? ⟨w.heap.size + 1, 0, none⟩ = some (.int .i64 0) := br2.cell 0
  have fr2_0 : w2.frozen? ⟨w.heap.size + 1, 0, none⟩ = false := br2.fz 0
  have cr2_1 : w2.cell? ⟨w.heap.size + 1, 1, none⟩ = some (.int .i64 0) := br2.cell 1
  have fr2_1 : w2.frozen? ⟨w.heap.size + 1, 1, none⟩ = false := br2.fz 1
  have cr2_2 : w2.cell? ⟨w.heap.size + 1, 2, none⟩ = some (.bool false) := br2.cell 2
  have fr2_2 : w2.frozen? ⟨w.heap.size + 1, 2, none⟩ = false := br2.fz 2
  have cr2_3 : w2.cell? ⟨w.heap.size + 1, 3, none⟩ = some (.int .i64 0) := br2.cell 3
  have fr2_3 : w2.frozen? ⟨w.heap.size + 1, 3, none⟩ = false := br2.fz 3
  have cr2_4 : w2.cell? ⟨w.heap.size + 1, 4, none⟩ = some (.int .i64 0) := br2.cell 4
  have fr2_4 : w2.frozen? ⟨w.heap.size + 1, 4, none⟩ = false := br2.fz 4
  have cr2_5 : w2.cell? ⟨w.heap.size + 1, 5, none⟩ = some (.int .i64 0) := br2.cell 5
  have fr2_5 : w2.frozen? ⟨w.heap.size + 1, 5, none⟩ = false := br2.fz 5
  have lr2 : w.heap.size + 1 < w2.heap.size := br2.lt
  have HB2 : Below w.heap.size w w2 := BeL
  have HZ2 := HB2.size
  clear hb2 hz2 HB1 HZ1 bx1 lx1 cx1_0 fx1_0 cx1_1 fx1_1 cx1_2 fx1_2 br1 lr1 cr1_0 fr1_0 cr1_1 fr1_1 cr1_2 fr1_2 cr1_3 fr1_3 cr1_4 fr1_4 cr1_5 fr1_5 
  go_wp2_with fail
  (try simp only [Exit.inBlock, Exit.then])
  refine bodyPost_ret (do_results _ _ (w.heap.size + 1) 0 0 false 0 0 0 false 1 BkD rfl rfl rfl) rfl ?_
  exact ⟨rfl, (by repeat (first | with_reducible exact HB2 | with_reducible refine Below.setCell ?_ hle _ | with_reducible refine below_drewN ?_ _ | with_reducible refine Below.drew ?_))⟩
set_option maxRecDepth 100000 in
set_option maxHeartbeats 4000000 in
theorem r2_Do_ask_same (W0 : World) (M B n : Nat) (A1 A2 : Option Addr) (c1 c2 : Nat) (t : Int) (uv : Value) (us : List RLetter) (a : Int) (w : World) (h : RWorld qv W0 w M B n A1 A2 c1 c2 t uv us) (h0 : hasN n a = true) :
  Calls Tryz.prog 41 #[.pointer (some ⟨M, 0, none⟩), .agg #[.int .i64 2, .int .i64 a, .int .i64 a]] w fun e w' => e = .returned (.tuple #[noL, .bool false, .int .i64 3]) ∧ Below w.heap.size w w' := by
 have C1 := Lib.hid (fun w' (hb : Below w.heap.size w w') => by have := r2_has W0 M B n A1 A2 c1 c2 t uv us a w' (h.below hb); rw [h0] at this; exact this)
 have hle : w.heap.size ≤ w.heap.size + 1 := by omega
 clear h h0
 go_enter Tryz.func41, Tryz.ntmps41
 go_wp2_with fail
 refine (C1.out _ BeL).mono ?_
 rintro e w1 ⟨rfl, hb1⟩
 have hz1 := hb1.size
 (try simp at hz1)
 have agx : w.heap.size ≤ w.heap.size := by first | omega | (simp; done) | (simp; omega)
 have agr : w.heap.size ≤ w.heap.size + 1 := by first | omega | (simp; done) | (simp; omega)
 have bx1 : Blk w1 (w.heap.size) 71 #[.int .i64 2, .int .i64 a, .int .i64 a] := BkD
 have cx1_0 : w1.cell? ⟨w.heap.size, 0, none⟩ = some (.int .i64 2) := bx1.cell 0
 have fx1_0 : w1.frozen? ⟨w.heap.size, 0, none⟩ = false := bx1.fz 0
 have cx1_1 : w1.cell? ⟨w.heap.size, 1, none⟩ = some (.int .i64 a) := bx1.cell 1
 have fx1_1 : w1.frozen? ⟨w.heap.size, 1, none⟩ = false := bx1.fz 1
 have cx1_2 : w1.cell? ⟨w.heap.size, 2, none⟩ = some (.int .i64 a) := bx1.cell 2
 have fx1_2 : w1.frozen? ⟨w.heap.size, 2, none⟩ = false := bx1.fz 2
 have lx1 : w.heap.size < w1.heap.size := bx1.lt
 have br1 : Blk w1 (w.heap.size + 1) 110 #[.int .i64 0, .int .i64 0, .bool false, .int .i64 0, .int .i64 0, .int .i64 0] := BkD
 have cr1_0 : w1.cell? ⟨w.heap.size + 1, 0, none⟩ = some (.int .i64 0) := br1.cell 0
 have fr1_0 : w1.frozen? ⟨w.heap.size + 1, 0, none⟩ = false := br1.fz 0
 have cr1_1 : w1.cell? ⟨w.heap.size + 1, 1, none⟩ = some (.int .i64 0) := br1.cell 1
 have fr1_1 : w1.frozen? ⟨w.heap.size + 1, 1, none⟩ = false := br1.fz 1
 have cr1_2 : w1.cell? ⟨w.heap.size + 1, 2, none⟩ = some (.bool false) := br1.cell 2
 have fr1_2 : w1.frozen? ⟨w.heap.size + 1, 2, none⟩ = false := br1.fz 2
 have cr1_3 : w1.cell? ⟨w.heap.size + 1, 3, none⟩ = some (.int .i64 0) := br1.cell 3
 have fr1_3 : w1.frozen? ⟨w.heap.size + 1, 3, none⟩ = false := br1.fz 3
 have cr1_4 : w1.cell? ⟨w.heap.size + 1, 4, none⟩ = some (.int .i64 0) := br1.cell 4
 have fr1_4 : w1.frozen? ⟨w.heap.size + 1, 4, none⟩ = false := br1.fz 4
 have cr1_5 : w1.cell? ⟨w.heap.size + 1, 5, none⟩ = some (.int .i64 0) := br1.cell 5
 have fr1_5 : w1.frozen? ⟨w.heap.size + 1, 5, none⟩ = false := br1.fz 5
 have lr1 : w.heap.size + 1 < w1.heap.size := br1.lt
 have HB1 : Below w.heap.size w w1 := BeL
 have HZ1 := HB1.size
 clear hb1 hz1
 go_wp2_with fail
 refine (C1.out _ BeL).mono ?_
 rintro e w2 ⟨rfl, hb2⟩
 have hz2 := hb2.size
 (try simp at hz2)
 have bx2 : Blk w2 (w.heap.size) 71 #[.int .i64 2, .int .i64 a, .int .i64 a] := BkD
 have cx2_0 : w2.cell? ⟨w.heap.size, 0, none⟩ = some (.int .i64 2) := bx2.cell 0
 have fx2_0 : w2.frozen? ⟨w.heap.size, 0, none⟩ = false := bx2.fz 0
 have cx2_1 : w2.cell? ⟨w.heap.size, 1, none⟩ = some (.int .i64 a) := bx2.cell 1
 have fx2_1 : w2.frozen? ⟨w.heap.size, 1, none⟩ = false := bx2.fz 1
 have cx2_2 : w2.cell? ⟨w.heap.size, 2, none⟩ = some (.int .i64 a) := bx2.cell 2
 have fx2_2 : w2.frozen? ⟨w.heap.size, 2, none⟩ = false := bx2.fz 2
 have lx2 : w.heap.size < w2.heap.size := bx2.lt
 have br2 : Blk w2 (w.heap.size + 1) 110 #[.int .i64 0, .int .i64 0, .bool false, .int .i64 0, .int .i64 0, .int .i64 0] := BkD
 have cr2_0 : w2.cell? ⟨w.heap.size + 1, 0, none⟩ = some (.int .i64 0) := br2.cell 0
 have fr2_0 : w2.frozen? ⟨w.heap.size + 1, 0, none⟩ = false := br2.fz 0
 have cr2_1 : w2.cell? ⟨w.heap.size + 1, 1, none⟩ = some (.int .i64 0) := br2.cell 1
 have fr2_1 : w2.frozen? ⟨w.heap.size + 1, 1, none⟩ = false := br2.fz 1
 have cr2_2 : w2.cell? ⟨w.heap.size + 1, 2, none⟩ = some (.bool false) := br2.cell 2
 have fr2_2 : w2.frozen? ⟨w.heap.size + 1, 2, none⟩ = false := br2.fz 2
 have cr2_3 : w2.cell? ⟨w.heap.size + 1, 3, none⟩ = some (.int .i64 0) := br2.cell 3
 have fr2_3 : w2.frozen? ⟨w.heap.size + 1, 3, none⟩ = false := br2.fz 3
 have cr2_4 : w2.cell? ⟨w.heap.size + 1, 4, none⟩ = some (.int .i64 0) := br2.cell 4
 have fr2_4 : w2.frozen? ⟨w.heap.size + 1, 4, none⟩ = false := br2.fz 4
 have cr2_5 : w2.cell? ⟨w.heap.size + 1, 5, none⟩ = some (.int .i64 0) := br2.cell 5
 have fr2_5 : w2.frozen? ⟨w.heap.size + 1, 5, none⟩ = false := br2.fz 5
 have lr2 : w.heap.size + 1 < w2.heap.size := br2.lt
 have HB2 : Below w.heap.size w w2 := BeL
 have HZ2 := HB2.size
 clear hb2 hz2 HB1 HZ1 bx1 lx1 cx1_0 fx1_0 cx1_1 fx1_1 cx1_2 fx1_2 br1 lr1 cr1_0 fr1_0 cr1_1 fr1_1 cr1_2 fr1_2 cr1_3 fr1_3 cr1_4 fr1_4 cr1_5 fr1_5 
 go_wp2_with fail
 (try simp only [Exit.inBlock, Exit.then])
 refine bodyPost_ret (do_results _ _ (w.heap.size + 1) 0 0 false 0 0 0 false 3 BkD rfl rfl rfl) rfl ?_
 exact ⟨rfl, (by repeat (first | with_reducible exact HB2 | with_reducible refine Below.setCell ?_ hle _ | with_reducible refine below_drewN ?_ _ | with_reducible refine Below.drew ?_))⟩
set_option maxRecDepth 100000 in
set_option maxHeartbeats 4000000 in
theorem r2_Do_ask_full (W0 : World) (M B n : Nat) (A1 A2 : Option Addr) (c1 c2 : Nat) (t : Int) (uv : Value) (us : List RLetter) (a b : Int) (w : World) (h : RWorld qv W0 w M B n A1 A2 c1 c2 t uv us) (h1 : hasN n a = true) (h2 : hasN n b = true) (hne : a ≠ b) (hl : 40 ≤ us.length) :
  Calls Tryz.prog 41 #[.pointer (some ⟨M, 0, none⟩), .agg #[.int .i64 2, .int .i64 a, .int .i64 b]] w fun e w' => e = .returned (.tuple #[noL, .bool false, .int .i64 4]) ∧ Below w.heap.size w w' := by
 have C1 := Lib.hid (fun w' (hb : Below w.heap.size w w') => by have := r2_has W0 M B n A1 A2 c1 c2 t uv us a w' (h.below hb); rw [h1] at this; exact this)
 have C2 := Lib.hid (fun w' (hb : Below w.heap.size w w') => by have := r2_has W0 M B n A1 A2 c1 c2 t uv us b w' (h.below hb); rw [h2] at this; exact this)
 obtain ⟨A, c, rfl, hAc, hcm⟩ := own_slice h.row
 unfold maxLen at hcm
 have HG := Lib.hid (fun w' (hb : Below w.heap.size w w') => show w'.cell? ⟨M, 3, none⟩ = some (.slice A us.length c) from by rw [(h.below hb).blk.cell]; rfl)
 have hgw := Nat.lt_of_lt_of_le h.MB h.Bw
 have g1 : (40 : Int) ≤ (us.length : Int) := by omega
 have g2 : (a == b) = false := by simp; omega
 have hle : w.heap.size ≤ w.heap.size + 1 := by omega
 clear h h1 h2 hne
 go_enter Tryz.func41, Tryz.ntmps41
 go_wp2_with fail
 refine (C1.out _ BeL).mono ?_
 rintro e w1 ⟨rfl, hb1⟩
 have hz1 := hb1.size
 (try simp at hz1)
 have agx : w.heap.size ≤ w.heap.size := by first | omega | (simp; done) | (simp; omega)
 have agr : w.heap.size ≤ w.heap.size + 1 := by first | omega | (simp; done) | (simp; omega)
 have bx1 : Blk w1 (w.heap.size) 71 #[.int .i64 2, .int .i64 a, .int .i64 b] := BkD
 have cx1_0 : w1.cell? ⟨w.heap.size, 0, none⟩ = some (.int .i64 2) := bx1.cell 0
 have fx1_0 : w1.frozen? ⟨w.heap.size, 0, none⟩ = false := bx1.fz 0
 have cx1_1 : w1.cell? ⟨w.heap.size, 1, none⟩ = some (.int .i64 a) := bx1.cell 1
 have fx1_1 : w1.frozen? ⟨w.heap.size, 1, none⟩ = false := bx1.fz 1
 have cx1_2 : w1.cell? ⟨w.heap.size, 2, none⟩ = some (.int .i64 b) := bx1.cell 2
 have fx1_2 : w1.frozen? ⟨w.heap.size, 2, none⟩ = false := bx1.fz 2
 have lx1 : w.heap.size < w1.heap.size := bx1.lt
 have br1 : Blk w1 (w.heap.size + 1) 110 #[.int .i64 0, .int .i64 0, .bool false, .int .i64 0, .int .i64 0, .int .i64 0] := BkD
 have cr1_0 : w1.cell? ⟨w.heap.size + 1, 0, none⟩ = some (.int .i64 0) := br1.cell 0
 have fr1_0 : w1.frozen? ⟨w.heap.size + 1, 0, none⟩ = false := br1.fz 0
 have cr1_1 : w1.cell? ⟨w.heap.size + 1, 1, none⟩ = some (.int .i64 0) := br1.cell 1
 have fr1_1 : w1.frozen? ⟨w.heap.size + 1, 1, none⟩ = false := br1.fz 1
 have cr1_2 : w1.cell? ⟨w.heap.size + 1, 2, none⟩ = some (.bool false) := br1.cell 2
 have fr1_2 : w1.frozen? ⟨w.heap.size + 1, 2, none⟩ = false := br1.fz 2
 have cr1_3 : w1.cell? ⟨w.heap.size + 1, 3, none⟩ = some (.int .i64 0) := br1.cell 3
 have fr1_3 : w1.frozen? ⟨w.heap.size + 1, 3, none⟩ = false := br1.fz 3
 have cr1_4 : w1.cell? ⟨w.heap.size + 1, 4, none⟩ = some (.int .i64 0) := br1.cell 4
 have fr1_4 : w1.frozen? ⟨w.heap.size + 1, 4, none⟩ = false := br1.fz 4
 have cr1_5 : w1.cell? ⟨w.heap.size + 1, 5, none⟩ = some (.int .i64 0) := br1.cell 5
 have fr1_5 : w1.frozen? ⟨w.heap.size + 1, 5, none⟩ = false := br1.fz 5
 have lr1 : w.heap.size + 1 < w1.heap.size := br1.lt
 have HB1 : Below w.heap.size w w1 := BeL
 have HZ1 := HB1.size
 clear hb1 hz1
 go_wp2_with fail
 refine (C2.out _ BeL).mono ?_
 rintro e w2 ⟨rfl, hb2⟩
 have hz2 := hb2.size
 (try simp at hz2)
 have bx2 : Blk w2 (w.heap.size) 71 #[.int .i64 2, .int .i64 a, .int .i64 b] := BkD
 have cx2_0 : w2.cell? ⟨w.heap.size, 0, none⟩ = some (.int .i64 2) := bx2.cell 0
 have fx2_0 : w2.frozen? ⟨w.heap.size, 0, none⟩ = false := bx2.fz 0
 have cx2_1 : w2.cell? ⟨w.heap.size, 1, none⟩ = some (.int .i64 a) := bx2.cell 1
 have fx2_1 : w2.frozen? ⟨w.heap.size, 1, none⟩ = false := bx2.fz 1
 have cx2_2 : w2.cell? ⟨w.heap.size, 2, none⟩ = some (.int .i64 b) := bx2.cell 2
 have fx2_2 : w2.frozen? ⟨w.heap.size, 2, none⟩ = false := bx2.fz 2
 have lx2 : w.heap.size < w2.heap.size := bx2.lt
 have br2 : Blk w2 (w.heap.size + 1) 110 #[.int .i64 0, .int .i64 0, .bool false, .int .i64 0, .int .i64 0, .int .i64 0] := BkD
 have cr2_0 : w2.cell? ⟨w.heap.size + 1, 0, none⟩ = some (.int .i64 0) := br2.cell 0
 have fr2_0 : w2.frozen? ⟨w.heap.size + 1, 0, none⟩ = false := br2.fz 0
 have cr2_1 : w2.cell? ⟨w.heap.size + 1, 1, none⟩ = some (.int .i64 0) := br2.cell 1
 have fr2_1 : w2.frozen? ⟨w.heap.size + 1, 1, none⟩ = false := br2.fz 1
 have cr2_2 : w2.cell? ⟨w.heap.size + 1, 2, none⟩ = some (.bool false) := br2.cell 2
 have fr2_2 : w2.frozen? ⟨w.heap.size + 1, 2, none⟩ = false := br2.fz 2
 have cr2_3 : w2.cell? ⟨w.heap.size + 1, 3, none⟩ = some (.int .i64 0) := br2.cell 3
 have fr2_3 : w2.frozen? ⟨w.heap.size + 1, 3, none⟩ = false := br2.fz 3
 have cr2_4 : w2.cell? ⟨w.heap.size + 1, 4, none⟩ = some (.int .i64 0) := br2.cell 4
 have fr2_4 : w2.frozen? ⟨w.heap.size + 1, 4, none⟩ = false := br2.fz 4
 have cr2_5 : w2.cell? ⟨w.heap.size + 1, 5, none⟩ = some (.int .i64 0) := br2.cell 5
 have fr2_5 : w2.frozen? ⟨w.heap.size + 1, 5, none⟩ = false := br2.fz 5
 have lr2 : w.heap.size + 1 < w2.heap.size := br2.lt
 have HB2 : Below w.heap.size w w2 := BeL
 have HZ2 := HB2.size
 clear hb2 hz2 HB1 HZ1 bx1 lx1 cx1_0 fx1_0 cx1_1 fx1_1 cx1_2 fx1_2 br1 lr1 cr1_0 fr1_0 cr1_1 fr1_1 cr1_2 fr1_2 cr1_3 fr1_3 cr1_4 fr1_4 cr1_5 fr1_5 
 have y0 := HG.out w2 HB2
 clear C1 C2
 go_wp2_with fail
 (try simp only [Exit.inBlock, Exit.then])
 refine bodyPost_ret (do_results _ _ (w.heap.size + 1) 0 0 false 0 0 0 false 4 BkD rfl rfl rfl) rfl ?_
 exact ⟨rfl, (by repeat (first | with_reducible exact HB2 | with_reducible refine Below.setCell ?_ hle _ | with_reducible refine below_drewN ?_ _ | with_reducible refine Below.drew ?_))⟩
end Go.Proofs.YtldlandcjegikaaGreatDoor
