/- Package node: a node in memory; New, back, aged, walked. -/
import Derived.Test.YtldlandcjegikaaGreatDoorHK2
import Derived.Test.YtldlandcjegikaaGreatDoorHProbe
import Derived.Deep.RegionHeld3
import Derived.BigRegion
import Derived.BigQuiet
import Derived.Carry
namespace Go.Proofs.YtldlandcjegikaaGreatDoor
open Go.RowKit
set_option linter.unusedVariables false
set_option linter.unusedSimpArgs false
structure NodeAt (w : World) (g mb K : Nat) (s : NSt) : Prop where
 blk : Blk w g 138 #[.int .i64 s.id, .int .i64 s.N, .int .i64 s.p, .int .i64 s.h, .map (some mb)]
 mp : MapF 3 w mb K (fun x => (s.f x).map Kn.val)
 ne : g ≠ mb
 ok : s.Ok
def NMine (g mb : Nat) (k : Nat) : Prop := k = g ∨ k = mb
theorem NodeAt.mono {w : World} {g mb K M : Nat} {s : NSt} (h : NodeAt w g mb K s) (hm : K ≤ M) : NodeAt w g mb M s := ⟨h.blk, h.mp.mono hm, h.ne, h.ok⟩
theorem NodeAt.below {w w' : World} {g mb K : Nat} {s : NSt} (h : NodeAt w g mb K s) (hb : Below w.heap.size w w') : NodeAt w' g mb K s := ⟨h.blk.below hb h.blk.lt, h.mp.below hb h.mp.lt, h.ne, h.ok⟩
theorem MapF.block {k : TypeId} {w w' : World} {b n : Nat} {f : Int → Option Value} (h : MapF k w b n f) (hb : w'.heap[b]? = w.heap[b]?) : MapF k w' b n f := by
 obtain ⟨D, ⟨es, clock, h1, F, hs, hD⟩, h2, h3⟩ := h
 exact ⟨D, ⟨es, clock, hb.trans h1, F, hs, hD⟩, h2, h3⟩
theorem NodeAt.other {w w' : World} {g mb K : Nat} {s : NSt} {P : Nat → Prop} (h : NodeAt w g mb K s) (hk : Kept P w w') (h1 : ¬ P g) (h2 : ¬ P mb) : NodeAt w' g mb K s :=
 ⟨(hk.block g h.blk.lt h1).trans h.blk, h.mp.block (hk.block mb h.mp.lt h2), h.ne, h.ok⟩
set_option maxRecDepth 100000 in
set_option maxHeartbeats 4000000 in
theorem node_New (N id : Nat) (p : Int) (w : World) (h1 : 1 ≤ N) (h2 : N ≤ 6) (h3 : id < N) (h4 : 0 ≤ p) (h5 : p ≤ 1000) :
  Calls Tryz.prog 33 #[.int .i64 id, .int .i64 N, .int .i64 p] w fun e w' => ∃ g mb, e = .returned (.tuple #[.pointer (some ⟨g, 0, none⟩), .nilIface]) ∧ w.heap.size ≤ g ∧ w.heap.size ≤ mb ∧ NodeAt w' g mb 0 (NSt.start N id p) ∧ Below w.heap.size w w' := by
 have hok := Lib.hid (NSt.start_ok h1 h2 h3 h4 h5)
 have C1 := Lib.hid (fun w => by have := Node_any (N : Int) (id : Int) w; rw [show nodeB (N : Int) (id : Int) = true by simp [nodeB]; omega] at this; exact this)
 have C2 := Lib.hid (fun w => by have := Rate_any p w; rw [rateB_iff.2 ⟨h4, h5⟩] at this; exact this)
 have HMk := fun (w : World) => run_makeMap (P := Tryz.prog) 136 w
 have d1 : ¬ (N : Int) < 1 := by omega
 have d2 : ¬ (6 : Int) < (N : Int) := by omega
 clear h1 h2 h3 h4 h5
 go_enter Tryz.func33, Tryz.ntmps33
 go_wp2_with (first | (go_at_call 57; refine (C1.out _).mono ?_; rintro e w' ⟨rfl, rfl⟩) | (go_at_call 55; refine (C2.out _).mono ?_; rintro e w' ⟨rfl, rfl⟩))
 go_ret2
 refine ⟨w.heap.size + 1, w.heap.size, rfl, by omega, Nat.le_refl _, ⟨?_, ?_, by omega, hok.out⟩, BeL⟩
 ·exact Blk.newAt _ _ _ _ (by simp)
 ·exact (MapF.made _ w).alloc _
set_option maxRecDepth 100000 in
set_option maxHeartbeats 4000000 in
theorem node_back (g mb K : Nat) (s : NSt) (here : Int) (w : World) (h : NodeAt w g mb K s) :
  Calls Tryz.prog 132 #[.pointer (some ⟨g, 0, none⟩), .int .i64 here] w fun e w' => e = .returned (.bool (s.backB here)) ∧ w = w' := by
 have c3 := h.blk.cell 3
 simp at c3
 have hd : (here < 0 ∧ s.backB here = true) ∨ (¬ here < 0 ∧ here < s.h ∧ s.backB here = true) ∨ (¬ here < 0 ∧ ¬ here < s.h ∧ 1000000000000 < here ∧ s.backB here = true) ∨ (¬ here < 0 ∧ ¬ here < s.h ∧ ¬ 1000000000000 < here ∧ s.backB here = false) := by
  unfold NSt.backB
  by_cases d1 : here < 0
  ·left; exact ⟨d1, by rw [decide_eq_true d1]; rfl⟩
  ·by_cases d2 : here < s.h
   ·right; left; exact ⟨d1, d2, by rw [decide_eq_true d2]; simp⟩
   ·by_cases d3 : 1000000000000 < here
    ·right; right; left; exact ⟨d1, d2, d3, by rw [decide_eq_true d3]; simp⟩
    ·right; right; right; exact ⟨d1, d2, d3, by rw [decide_eq_false d1, decide_eq_false d2, decide_eq_false d3]; rfl⟩
 clear h
 obtain ⟨q, hq⟩ : ∃ q, s.backB here = q := ⟨_, rfl⟩
 rw [hq] at hd ⊢
 clear hq
 rcases hd with ⟨d1, rfl⟩ | ⟨d1, d2, rfl⟩ | ⟨d1, d2, d3, rfl⟩ | ⟨d1, d2, d3, rfl⟩
 all_goals
  go_enter Tryz.func132, Tryz.ntmps132
  go_wp2_with fail
  go_ret
  exact ⟨rfl, rfl⟩
set_option maxRecDepth 100000 in
set_option maxHeartbeats 4000000 in
theorem node_aged (g mb K : Nat) (s : NSt) (x here : Int) (k : Kn) (w : World) (h : NodeAt w g mb K s) (hk : s.f x = some k) (hb : s.backB here = false) :
  Calls Tryz.prog 135 #[.pointer (some ⟨g, 0, none⟩), .agg #[.int .i64 k.lo, .int .i64 k.hi, .int .i64 k.at_], .int .i64 here] w fun e w' => e = .returned (.agg #[.int .i64 (ageL k s.p here), .int .i64 (ageH k s.p here)]) ∧ Below w.heap.size w w' := by
 obtain ⟨b1, b2, b3, b4, b5, b6, b7⟩ := age_bd h.ok hk hb
 have c2 := h.blk.cell 2
 have kl := h.blk.lt
 simp at c2
 have CS := Lib.hid (fun w => Slack_any (here - k.at_) s.p w b1 (by omega) h.ok.p0 h.ok.p1)
 obtain ⟨v, hv⟩ : ∃ v, slackD (here - k.at_) s.p = v := ⟨_, rfl⟩
 have HA := Lib.hid (show ageL k s.p here = k.lo - v by unfold ageL; rw [hv])
 have HH := Lib.hid (show ageH k s.p here = k.hi + v by unfold ageH; rw [hv])
 rw [hv] at CS b3 b4
 have CW := Lib.hid (fun w => span_Wider k.lo k.hi v w (by omega) (by omega) (by omega) (by omega) b3 (by omega))
 rw [HA.out, HH.out]
 have u1 := IntWalk.i64_in (here - k.at_) (by omega)
 have g0 : ∀ n : Nat, n < n + 1 := fun n => by omega
 clear h hk hb hv HA HH
 go_enter Tryz.func135, Tryz.ntmps135
 go_wp2_with fail
 obtain ⟨W1, hW1⟩ : ∃ W, ((w.alloc (.cells #[.int .i64 k.lo, .int .i64 k.hi, .int .i64 k.at_] 223)).alloc (.cells #[.int .i64 0, .int .i64 0] 34)) = W := ⟨_, rfl⟩
 have hB1 : Below w.heap.size w W1 := by rw [← hW1]; exact BeL
 have bk : Blk W1 w.heap.size 223 #[.int .i64 k.lo, .int .i64 k.hi, .int .i64 k.at_] := by rw [← hW1]; exact (Blk.new w _ _).alloc _
 have br : Blk W1 (w.heap.size + 1) 34 #[.int .i64 0, .int .i64 0] := by rw [← hW1]; exact Blk.newAt _ _ _ _ (by simp)
 have hs1 : W1.heap.size = w.heap.size + 2 := by rw [← hW1]; simp
 have x0 : W1.cell? ⟨w.heap.size, 0, none⟩ = some (.int .i64 k.lo) := bk.cell 0
 have x1 : W1.cell? ⟨w.heap.size, 1, none⟩ = some (.int .i64 k.hi) := bk.cell 1
 have x2 : W1.cell? ⟨w.heap.size, 2, none⟩ = some (.int .i64 k.at_) := bk.cell 2
 have x3 : W1.cell? ⟨g, 2, none⟩ = some (.int .i64 s.p) := (hB1.cell (p := ⟨g, 2, none⟩) kl).trans c2
 have BRh := Lib.hid br
 rw [hW1]
 clear hW1 bk br c2
 have kl1 : g < W1.heap.size := by omega
 refine wp_region_held_drew (S := fun w9 => w9.cell? ⟨w.heap.size, 0, none⟩ = some (.int .i64 k.lo) ∧ w9.cell? ⟨w.heap.size, 1, none⟩ = some (.int .i64 k.hi) ∧ w9.cell? ⟨w.heap.size, 2, none⟩ = some (.int .i64 k.at_) ∧ w9.cell? ⟨g, 2, none⟩ = some (.int .i64 s.p)) kRf (⟨x0, x1, x2, x3⟩) (fun hHeld => ?_)
 refine tkH 0 (.pointer (some ⟨w.heap.size, 0, none⟩)) (some 7) rfl hHeld ?_
 try simp only [Act.put,sI_,sZ_,sS_]
 refine tkG 1 (.agg #[.int .i64 k.lo, .int .i64 k.hi]) (some 8) rfl (fun w9 hw9 => by (obtain ⟨a0, a1, a2, a3⟩ := hw9; go_simp)) hHeld ?_
 try simp only [Act.put,sI_,sZ_,sS_]
 refine tkH 2 (.int .i64 here) (some 9) rfl hHeld ?_
 try simp only [Act.put,sI_,sZ_,sS_]
 refine tkH 3 (.pointer (some ⟨w.heap.size, 2, none⟩)) (some 10) rfl hHeld ?_
 try simp only [Act.put,sI_,sZ_,sS_]
 refine tkG 4 (.int .i64 k.at_) (some 11) rfl (fun w9 hw9 => by (obtain ⟨a0, a1, a2, a3⟩ := hw9; go_simp)) hHeld ?_
 try simp only [Act.put,sI_,sZ_,sS_]
 refine tkH 5 (.int .i64 (here - k.at_)) (some 12) rfl hHeld ?_
 try simp only [Act.put,sI_,sZ_,sS_]
 refine tkH 6 (.pointer (some ⟨g, 0, none⟩)) (some 13) rfl hHeld ?_
 try simp only [Act.put,sI_,sZ_,sS_]
 refine tkH 7 (.pointer (some ⟨g, 0, none⟩)) (some 14) rfl hHeld ?_
 try simp only [Act.put,sI_,sZ_,sS_]
 refine tkH 8 (.pointer (some ⟨g, 2, none⟩)) (some 15) rfl hHeld ?_
 try simp only [Act.put,sI_,sZ_,sS_]
 refine tkG 9 (.int .i64 s.p) (some 16) rfl (fun w9 hw9 => by (obtain ⟨a0, a1, a2, a3⟩ := hw9; go_simp)) hHeld ?_
 try simp only [Act.put,sI_,sZ_,sS_]
 try simp only [Act.put,sI_,sZ_,sS_]
 refine wpAnyH_ready (rs := [10]) kRf (by simp) ?_
 refine AllReadyH.cons rfl (fun K hK => ?_) AllReadyH.nil
 go_simp
 refine (CS.out _).mono ?_
 rintro e w' ⟨rfl, rfl⟩
 refine hK.out _ _ (hHeld) (fun hHeld2 => ?_)
 clear hK K hHeld
 have hHeld := hHeld2
 try simp only [Act.put,sI_,sZ_,sS_]
 try simp only [Act.put,sI_,sZ_,sS_]
 refine wpAnyH_ready (rs := [11]) kRf (by simp) ?_
 refine AllReadyH.cons rfl (fun K hK => ?_) AllReadyH.nil
 go_simp
 refine (CW.out _).mono ?_
 rintro e w2 ⟨rfl, hb2⟩
 have HB2 : Below W1.heap.size W1 w2 := (show Below W1.heap.size W1 W1.drew from by exact BeL).trans hb2
 have hR2 : Blk w2 (w.heap.size + 1) 34 #[.int .i64 0, .int .i64 0] := BRh.out.below HB2 (by omega)
 refine hK.out _ _ (⟨(HB2.cell (p := ⟨w.heap.size, 0, none⟩) (by show w.heap.size < _; omega)).trans x0, (HB2.cell (p := ⟨w.heap.size, 1, none⟩) (by show w.heap.size < _; omega)).trans x1, (HB2.cell (p := ⟨w.heap.size, 2, none⟩) (by show w.heap.size < _; omega)).trans x2, (HB2.cell (p := ⟨g, 2, none⟩) kl1).trans x3⟩) (fun hHeld2 => ?_)
 clear hK K hHeld
 have hHeld := hHeld2
 try simp only [Act.put,sI_,sZ_,sS_]
 have r0 : w2.cell? ⟨w.heap.size + 1, 0, none⟩ = some (.int .i64 0) := hR2.cell 0
 have r1 : w2.cell? ⟨w.heap.size + 1, 1, none⟩ = some (.int .i64 0) := hR2.cell 1
 have f0 : w2.frozen? ⟨w.heap.size + 1, 0, none⟩ = false := hR2.fz 0
 have f1 : w2.frozen? ⟨w.heap.size + 1, 1, none⟩ = false := hR2.fz 1
 obtain ⟨a0, a1, a2, a3⟩ := hHeld
 have hHeld : True := trivial
 refine wpAnyH_ready (rs := [12]) kRf (by simp) ?_; refine AllReadyH.cons rfl (fun K hK => ?_) AllReadyH.nil
 go_simp
 refine hK.out _ _ (⟨(by (repeat (rw [World.cell?_setCell_other _ _ _ _ oSo])); assumption), (by (repeat (rw [World.cell?_setCell_other _ _ _ _ oSo])); assumption), (by (repeat (rw [World.cell?_setCell_other _ _ _ _ oSo])); assumption), (by (repeat (rw [World.cell?_setCell_other _ _ _ _ oSo])); assumption)⟩) (fun hHeld2 => ?_); clear hK K hHeld; have hHeld := hHeld2; clear hHeld2
 try simp only [Act.put,sI_,sZ_,sS_]
 refine wpAnyH_done kRf ?_ _
 try simp only [Act.put,sI_,sZ_,sS_]
 have hF : Blk ((w2.setCell ⟨w.heap.size + 1, 0, none⟩ (.int .i64 (k.lo - v))).setCell ⟨w.heap.size + 1, 1, none⟩ (.int .i64 (k.hi + v))) (w.heap.size + 1) 34 #[.int .i64 (k.lo - v), .int .i64 (k.hi + v)] := ((hR2.set 0 _).set 1 _).conv rfl
 obtain ⟨W3, hW3⟩ : ∃ W, ((w2.setCell ⟨w.heap.size + 1, 0, none⟩ (.int .i64 (k.lo - v))).setCell ⟨w.heap.size + 1, 1, none⟩ (.int .i64 (k.hi + v))) = W := ⟨_, rfl⟩
 have hB3 : Below w.heap.size w W3 := by rw [← hW3]; exact ((hB1.trans (HB2.mono hB1.size)).setCell (by show w.heap.size ≤ w.heap.size + 1; omega) _).setCell (by show w.heap.size ≤ w.heap.size + 1; omega) _
 rw [hW3] at hF ⊢
 have e0 : W3.cell? ⟨w.heap.size + 1, 0, none⟩ = some (.int .i64 (k.lo - v)) := hF.cell 0
 have e1 : W3.cell? ⟨w.heap.size + 1, 1, none⟩ = some (.int .i64 (k.hi + v)) := hF.cell 1
 clear hW3 hF hHeld a0 a1 a2 a3
 go_wp2_with fail
 refine bodyPost_ret (v := .agg #[.int .i64 (k.lo - v), .int .i64 (k.hi + v)]) (by simp [results, Tryz.results135, go_sem, e0, e1]) rfl ⟨rfl, hB3⟩
end Go.Proofs.YtldlandcjegikaaGreatDoor
