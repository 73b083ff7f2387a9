/- Package net: an act, walked. -/
import Derived.Test.YtldlandcjegikaaGreatDoorHK4
namespace Go.Proofs.YtldlandcjegikaaGreatDoor
open Go.RowKit
set_option linter.unusedVariables false
set_option linter.unusedSimpArgs false
set_option maxRecDepth 100000 in
set_option maxHeartbeats 16000000 in
theorem net_Do_bad (a : NAd) (ss rs : List Int) (p t t' : Int) (uv : Value) (us us' : List RLetter) (K : Nat) (S : Nat → NSt) (A : RAct) (L : RLetter) (d : Nat) (sv rv : Int) (b : Bool) (s' : NSt) (c : Int) (w : World) (h : NetAt w a ss rs p t uv us K S) (hA : A.ok) (hK : K < 100000) (hw : WAct a.n ss rs t us A 0 (some L) t' us') (hd : L.dst = (d : Int)) (hs : ss[d]? = some sv) (hr : rs[d]? = some rv) (hh : Hears (S d) L (readV sv rv t') b c s') (hc : c ≠ 0) :
  Calls Tryz.prog 64 #[.pointer (some ⟨a.N, 0, none⟩), .agg #[.int .i64 A.what, .int .i64 A.a, .int .i64 A.b]] w (NetDone w a ss rs p uv c t' us' (K + 1) (updS S d s')) := by
 have HU := Lib.hid h
 have kN := h.net.lt
 have kg := h.W.at.lt
 have c0 := h.net.cell 0
 have c1 := h.net.cell 1
 simp at c0 c1
 have gB := h.W.gB
 have gN : a.N ≠ a.g := by have := h.ad.BN; omega
 have qg : a.q ≠ a.g := by have := h.ad.Bq; omega
 have kq := h.ql
 have HD := Lib.hid (fun W (hb : Below w.heap.size w W) => act_W hw hA a.g a.B uv W (h.W.below hb))
 have hown : ∀ u, uv.ownBlock = some u → u < w.heap.size := fun u e => (h.W.low u e).2
 have HOwn := Lib.hid hown
 have HF := Lib.hid (fun k (hk : k = a.N ∨ k = a.q) => show ¬ Mine a.g uv k from fun e => by
  rcases e with e | e
  ·rcases hk with hk | hk <;> omega
  ·obtain ⟨d1, d2, _⟩ := h.du k e
   rcases hk with hk | hk
   ·exact d1 hk
   ·exact d2 hk)
 have hhas := (hw.has h.W.ls h.has).1
 have hLm := (hw.has h.W.ls h.has).2 L rfl
 have hLok := h.W.lok L hLm.2.2.1
 have hdn : d < a.n := by rw [← h.W.ls]; exact (List.getElem?_eq_some_iff.1 hs).1
 clear h hw hown hLm
 go_enter Tryz.func64, Tryz.ntmps64
 go_wp2_with fail
 obtain ⟨W1, hW1⟩ : ∃ W, w.alloc (.cells #[.int .i64 A.what, .int .i64 A.a, .int .i64 A.b] 71) = W := ⟨_, rfl⟩
 have HB1 : Below w.heap.size w W1 := by rw [← hW1]; exact BeL
 have hs1 : W1.heap.size = w.heap.size + 1 := by rw [← hW1]; simp
 have bx : Blk W1 w.heap.size 71 #[.int .i64 A.what, .int .i64 A.a, .int .i64 A.b] := by rw [← hW1]; exact Blk.new w _ _
 have x0 : W1.cell? ⟨w.heap.size, 0, none⟩ = some (.int .i64 A.what) := bx.cell 0
 have x1 : W1.cell? ⟨w.heap.size, 1, none⟩ = some (.int .i64 A.a) := bx.cell 1
 have x2 : W1.cell? ⟨w.heap.size, 2, none⟩ = some (.int .i64 A.b) := bx.cell 2
 have y0 : W1.cell? ⟨a.N, 0, none⟩ = some (.pointer (some ⟨a.g, 0, none⟩)) := (HB1.cell (p := ⟨a.N, 0, none⟩) kN).trans c0
 have kN1 : a.N < W1.heap.size := by omega
 rw [hW1]
 clear hW1
 refine wp_region_held_drew (S := fun w9 => w9.cell? ⟨w.heap.size, 0, none⟩ = some (.int .i64 A.what) ∧ w9.cell? ⟨w.heap.size, 1, none⟩ = some (.int .i64 A.a) ∧ w9.cell? ⟨w.heap.size, 2, none⟩ = some (.int .i64 A.b) ∧ w9.cell? ⟨a.N, 0, none⟩ = some (.pointer (some ⟨a.g, 0, none⟩))) kRf (⟨x0, x1, x2, y0⟩) (fun hHeld => ?_)
 refine tkH 0 (.pointer (some ⟨a.N, 0, none⟩)) (some 11) rfl hHeld ?_
 try simp only [Act.put,sI_,sZ_,sS_]
 refine tkH 1 (.pointer (some ⟨a.N, 0, none⟩)) (some 12) rfl hHeld ?_
 try simp only [Act.put,sI_,sZ_,sS_]
 refine tkH 2 (.pointer (some ⟨a.N, 0, none⟩)) (some 13) rfl hHeld ?_
 try simp only [Act.put,sI_,sZ_,sS_]
 refine tkG 3 (.pointer (some ⟨a.g, 0, none⟩)) (some 14) rfl (fun w9 hw9 => by (obtain ⟨a0, a1, a2, a3⟩ := hw9; go_simp)) hHeld ?_
 try simp only [Act.put,sI_,sZ_,sS_]
 refine tkG 4 (.agg #[.int .i64 A.what, .int .i64 A.a, .int .i64 A.b]) (some 15) rfl (fun w9 hw9 => by (obtain ⟨a0, a1, a2, a3⟩ := hw9; go_simp)) hHeld ?_
 try simp only [Act.put,sI_,sZ_,sS_]
 try simp only [Act.put,sI_,sZ_,sS_]
 refine wpAnyH_ready (rs := [5]) kRf (by simp) ?_
 refine AllReadyH.cons rfl (fun K hK => ?_) AllReadyH.nil
 go_simp
 refine (HD.out _ HB1.drew).mono ?_
 rintro e w2 ⟨P, uv', rfl, hP, hW2, hK2, hq2⟩
 have hK1 : Kept (Mine a.g uv) W1 w2 := ((Kept.refl _ W1).drew).trans hK2 (fun k e => .inl e)
 have hKw : Kept (Mine a.g uv) w w2 := ((Kept.refl _ w).below HB1).trans hK1 (fun k e => .inl e)
 have hqw : ∀ q, uv'.ownBlock = some q → uv.ownBlock = some q ∨ w.heap.size ≤ q := fun q e => (hq2 q e).imp id (fun h9 => by simp at h9; omega)
 have hbx2 : Blk w2 w.heap.size 71 #[.int .i64 A.what, .int .i64 A.a, .int .i64 A.b] := (hK1.block _ (by omega) (fun e => by rcases e with e | e; omega; have := HOwn.out _ e; omega)).trans bx
 have hy2 : w2.cell? ⟨a.N, 0, none⟩ = some (.pointer (some ⟨a.g, 0, none⟩)) := (World.cell?_of_block (hK1.block a.N kN1 (HF.out _ (.inl rfl)))).trans y0
 refine hK.out _ _ (⟨hbx2.cell 0, hbx2.cell 1, hbx2.cell 2, hy2⟩) (fun hHeld2 => ?_)
 clear hK K hHeld
 have hHeld := hHeld2
 try simp only [Act.put,sI_,sZ_,sS_]
 refine tkH 6 (.tuple #[P, errV 0]) (some 10) rfl hHeld ?_
 try simp only [Act.put,sI_,sZ_,sS_]
 refine tkH 7 P (some 17) rfl hHeld ?_
 try simp only [Act.put,sI_,sZ_,sS_]
 refine tkH 8 (errV 0) (some 18) rfl hHeld ?_
 try simp only [Act.put,sI_,sZ_,sS_]
 refine tkH 9 P (some 5) rfl hHeld ?_
 try simp only [Act.put,sI_,sZ_,sS_]
 refine tkH 10 (errV 0) (some 6) rfl hHeld ?_
 try simp only [Act.put,sI_,sZ_,sS_]
 refine wpAnyH_done kRf ?_ _
 try simp only [Act.put,sI_,sZ_,sS_]
 obtain ⟨pl, rfl, hpl, hbp, hpo⟩ := hP
 have hpl1 : w.heap.size < pl := by simp at hpl; omega
 have HBP := Lib.hid hbp
 have hW2' := Lib.hid hW2
 have HKw := Lib.hid (show Kept (NetMine a uv) w w2 from (Kept.refl _ w).trans hKw (fun k e => .inl (by rcases e with e | e; exact .inl e; exact .inr (.inl e))))
 have HPO := Lib.hid hpo
 have HQ2 := Lib.hid hqw
 have hN2 := HU.out.world hW2 hKw hqw hhas
 have HN2 := Lib.hid hN2
 have hz2 := hKw.size
 have y2 : w2.cell? ⟨a.N, 0, none⟩ = some (.pointer (some ⟨a.g, 0, none⟩)) := hy2
 have p1 : w2.cell? ⟨pl, 1, none⟩ = some (.int .i64 d) := by have := hbp.cell 1; simp [RLetter.cells] at this; rw [this, hd]
 have lp := hbp.lt
 have kN2 : a.N < w2.heap.size := by omega
 have CR := Lib.hid (fun W (hb : Below w2.heap.size w2 W) => world_Read a.g a.n ss rs t' uv' d sv rv W (hW2'.out.below hb).at hs hr)
 clear hN2 hW2 hK2 hK1 hKw hbx2 hy2 hq2 hqw hbp hpo bx x0 x1 x2 y0
 go_wp2_with fail
 have HS := Lib.hid (fun W (hb : Below w2.heap.size w2 W) => show W.cell? ⟨a.N, 0, none⟩ = some (.pointer (some ⟨a.g, 0, none⟩)) ∧ W.cell? ⟨pl, 1, none⟩ = some (.int .i64 d) from ⟨(hb.cell (p := ⟨a.N, 0, none⟩) kN2).trans y2, (hb.cell (p := ⟨pl, 1, none⟩) lp).trans p1⟩)
 refine wp_region_held_drew (S := fun w9 => w9.cell? ⟨a.N, 0, none⟩ = some (.pointer (some ⟨a.g, 0, none⟩)) ∧ w9.cell? ⟨pl, 1, none⟩ = some (.int .i64 d)) kRf (⟨y2, p1⟩) (fun hHeld => ?_)
 refine tkH 0 (.pointer (some ⟨a.N, 0, none⟩)) (some 27) rfl hHeld ?_
 try simp only [Act.put,sI_,sZ_,sS_]
 refine tkH 1 (.pointer (some ⟨a.N, 0, none⟩)) (some 28) rfl hHeld ?_
 try simp only [Act.put,sI_,sZ_,sS_]
 refine tkH 2 (.pointer (some ⟨a.N, 0, none⟩)) (some 29) rfl hHeld ?_
 try simp only [Act.put,sI_,sZ_,sS_]
 refine tkG 3 (.pointer (some ⟨a.g, 0, none⟩)) (some 30) rfl (fun w9 hw9 => by (obtain ⟨a0, a1⟩ := hw9; go_simp)) hHeld ?_
 try simp only [Act.put,sI_,sZ_,sS_]
 refine tkH 4 (.pointer (some ⟨pl, 0, none⟩)) (some 31) rfl hHeld ?_
 try simp only [Act.put,sI_,sZ_,sS_]
 refine tkH 5 (.pointer (some ⟨pl, 0, none⟩)) (some 32) rfl hHeld ?_
 try simp only [Act.put,sI_,sZ_,sS_]
 refine tkH 6 (.pointer (some ⟨pl, 1, none⟩)) (some 33) rfl hHeld ?_
 try simp only [Act.put,sI_,sZ_,sS_]
 refine tkG 7 (.int .i64 d) (some 34) rfl (fun w9 hw9 => by (obtain ⟨a0, a1⟩ := hw9; go_simp)) hHeld ?_
 try simp only [Act.put,sI_,sZ_,sS_]
 try simp only [Act.put,sI_,sZ_,sS_]
 refine wpAnyH_ready (rs := [8]) kRf (by simp) ?_
 refine AllReadyH.cons rfl (fun K hK => ?_) AllReadyH.nil
 go_simp
 refine (CR.out _ (by exact BeL)).mono ?_
 rintro e w3 ⟨rfl, hb3⟩
 have HB3 : Below w2.heap.size w2 w3 := (show Below w2.heap.size w2 w2.drew from by exact BeL).trans hb3
 refine hK.out _ _ (HS.out _ HB3) (fun hHeld2 => ?_)
 clear hK K hHeld
 have hHeld := hHeld2
 try simp only [Act.put,sI_,sZ_,sS_]
 refine tkH 9 (.tuple #[.int .i64 (readV sv rv t'), .nilIface]) (some 26) rfl hHeld ?_
 try simp only [Act.put,sI_,sZ_,sS_]
 refine tkH 10 (.int .i64 (readV sv rv t')) (some 36) rfl hHeld ?_
 try simp only [Act.put,sI_,sZ_,sS_]
 refine tkH 11 (.nilIface) (some 37) rfl hHeld ?_
 try simp only [Act.put,sI_,sZ_,sS_]
 refine tkH 12 (.int .i64 (readV sv rv t')) (some 7) rfl hHeld ?_
 try simp only [Act.put,sI_,sZ_,sS_]
 refine tkH 13 (.nilIface) (some 6) rfl hHeld ?_
 try simp only [Act.put,sI_,sZ_,sS_]
 refine wpAnyH_done kRf ?_ _
 try simp only [Act.put,sI_,sZ_,sS_]
 have HN3 := Lib.hid (HN2.out.below HB3)
 have HBP3 := Lib.hid (HBP.out.below HB3 lp)
 have hz3 := HB3.size
 have lp3 := HBP3.out.lt
 have HK3 := Lib.hid (HKw.out.below HB3)
 obtain ⟨here, hhere⟩ : ∃ v, readV sv rv t' = v := ⟨_, rfl⟩
 rw [hhere] at hh ⊢
 have CH := Lib.hid (fun W (hb : Below w3.heap.size w3 W) => node_Hear (a.gi d) (a.mb d) K (S d) s' L here b c W ((HN3.out.below hb).nd d hdn) (by omega) hh)
 have z1 : w3.cell? ⟨a.N, 1, none⟩ = some (.slice (some ⟨a.q, 0, none⟩) a.n a.c) := by have := HN3.out.net.cell 1; simpa using this
 have zr : w3.cell? ⟨a.q, d, none⟩ = some (.pointer (some ⟨a.gi d, 0, none⟩)) := HN3.out.row d hdn
 have u0 : w3.cell? ⟨pl, 0, none⟩ = some (.int .i64 L.src) := HBP3.out.cell 0
 have u1 : w3.cell? ⟨pl, 1, none⟩ = some (.int .i64 d) := by rw [← hd]; exact HBP3.out.cell 1
 have u1' : w3.cell? ⟨pl, 1, none⟩ = some (.int .i64 L.dst) := HBP3.out.cell 1
 have u2 : w3.cell? ⟨pl, 2, none⟩ = some (.bool L.answer) := HBP3.out.cell 2
 have u3 : w3.cell? ⟨pl, 3, none⟩ = some (.int .i64 L.t1) := HBP3.out.cell 3
 have u4 : w3.cell? ⟨pl, 4, none⟩ = some (.int .i64 L.t2) := HBP3.out.cell 4
 have u5 : w3.cell? ⟨pl, 5, none⟩ = some (.int .i64 L.t) := HBP3.out.cell 5
 have kq3 := HN3.out.ql
 have kN3 : a.N < w3.heap.size := HN3.out.net.lt
 have gd3 := (HN3.out.nd d hdn).blk.lt
 have md3 := (HN3.out.nd d hdn).mp.lt
 have gd := (HU.out.nd d hdn).blk.lt
 have md := (HU.out.nd d hdn).mp.lt
 have q1 : (d : Int) < (a.n : Int) := by omega
 have q2 : (0 : Int) ≤ (d : Int) := by omega
 have hnc := HN3.out.nc.1
 have hcm := HN3.out.nc.2
 unfold maxLen at hcm
 have hBg := HU.out.ad.Bg d hdn
 clear HS HB3 HN2 HBP HB1 y2 p1 CR
 go_wp2_with fail
 refine wp_region_held_drew (S := fun w9 => w9.cell? ⟨a.N, 1, none⟩ = some (.slice (some ⟨a.q, 0, none⟩) a.n a.c) ∧ w9.cell? ⟨a.q, d, none⟩ = some (.pointer (some ⟨a.gi d, 0, none⟩)) ∧ w9.cell? ⟨pl, 0, none⟩ = some (.int .i64 L.src) ∧ w9.cell? ⟨pl, 1, none⟩ = some (.int .i64 d) ∧ w9.cell? ⟨pl, 2, none⟩ = some (.bool L.answer) ∧ w9.cell? ⟨pl, 3, none⟩ = some (.int .i64 L.t1) ∧ w9.cell? ⟨pl, 4, none⟩ = some (.int .i64 L.t2) ∧ w9.cell? ⟨pl, 5, none⟩ = some (.int .i64 L.t)) kRf (⟨z1, zr, u0, u1, u2, u3, u4, u5⟩) (fun hHeld => ?_)
 refine tkH 0 (.pointer (some ⟨a.N, 0, none⟩)) (some 42) rfl hHeld ?_
 try simp only [Act.put,sI_,sZ_,sS_]
 refine tkH 1 (.pointer (some ⟨a.N, 0, none⟩)) (some 43) rfl hHeld ?_
 try simp only [Act.put,sI_,sZ_,sS_]
 refine tkH 2 (.pointer (some ⟨a.N, 1, none⟩)) (some 44) rfl hHeld ?_
 try simp only [Act.put,sI_,sZ_,sS_]
 refine tkG 3 (.slice (some ⟨a.q, 0, none⟩) a.n a.c) (some 45) rfl (fun w9 hw9 => by (obtain ⟨a0, a1, a2, a3, a4, a5, a6, a7⟩ := hw9; go_simp)) hHeld ?_
 try simp only [Act.put,sI_,sZ_,sS_]
 refine tkH 4 (.pointer (some ⟨pl, 0, none⟩)) (some 46) rfl hHeld ?_
 try simp only [Act.put,sI_,sZ_,sS_]
 refine tkH 5 (.pointer (some ⟨pl, 0, none⟩)) (some 47) rfl hHeld ?_
 try simp only [Act.put,sI_,sZ_,sS_]
 refine tkH 6 (.pointer (some ⟨pl, 1, none⟩)) (some 48) rfl hHeld ?_
 try simp only [Act.put,sI_,sZ_,sS_]
 refine tkG 7 (.int .i64 d) (some 49) rfl (fun w9 hw9 => by (obtain ⟨a0, a1, a2, a3, a4, a5, a6, a7⟩ := hw9; go_simp)) hHeld ?_
 try simp only [Act.put,sI_,sZ_,sS_]
 refine tkH 8 (.pointer (some ⟨a.q, d, none⟩)) (some 50) rfl hHeld ?_
 try simp only [Act.put,sI_,sZ_,sS_]
 refine tkG 9 (.pointer (some ⟨a.gi d, 0, none⟩)) (some 51) rfl (fun w9 hw9 => by (obtain ⟨a0, a1, a2, a3, a4, a5, a6, a7⟩ := hw9; go_simp)) hHeld ?_
 try simp only [Act.put,sI_,sZ_,sS_]
 refine tkH 10 (.pointer (some ⟨pl, 0, none⟩)) (some 52) rfl hHeld ?_
 try simp only [Act.put,sI_,sZ_,sS_]
 refine tkH 11 (.pointer (some ⟨pl, 0, none⟩)) (some 53) rfl hHeld ?_
 try simp only [Act.put,sI_,sZ_,sS_]
 refine tkG 12 (.agg #[.int .i64 L.src, .int .i64 d, .bool L.answer, .int .i64 L.t1, .int .i64 L.t2, .int .i64 L.t]) (some 54) rfl (fun w9 hw9 => by (obtain ⟨a0, a1, a2, a3, a4, a5, a6, a7⟩ := hw9; go_simp)) hHeld ?_
 try simp only [Act.put,sI_,sZ_,sS_]
 refine tkH 13 (.int .i64 here) (some 55) rfl hHeld ?_
 try simp only [Act.put,sI_,sZ_,sS_]
 try simp only [Act.put,sI_,sZ_,sS_]
 refine wpAnyH_ready (rs := [14]) kRf (by simp) ?_
 refine AllReadyH.cons rfl (fun K hK => ?_) AllReadyH.nil
 go_simp
 rw [← hd]
 refine (CH.out _ (by exact BeL)).mono ?_
 rintro e w4 ⟨rfl, hN4, hK4⟩
 have hK5 : Kept (NMine (a.gi d) (a.mb d)) w3 w4 := ((Kept.refl _ w3).drew).trans hK4 (fun k e => .inl e)
 have hbp4 : Blk w4 pl 110 (RLetter.cells L).toArray := (hK5.block pl lp3 (fun e => by rcases e with e | e <;> omega)).trans HBP3.out
 have hN5 := HN3.out.hear hdn hN4 (by omega) hK5 ⟨hh.keeps.1.trans (HU.out.sN d hdn).1, hh.keeps.2.1.trans (HU.out.sN d hdn).2.1, hh.keeps.2.2.trans (HU.out.sN d hdn).2.2⟩
 have v1 : w4.cell? ⟨pl, 1, none⟩ = some (.int .i64 d) := by rw [← hd]; exact hbp4.cell 1
 have v2 : w4.cell? ⟨a.N, 1, none⟩ = some (.slice (some ⟨a.q, 0, none⟩) a.n a.c) := by have := hN5.net.cell 1; simpa using this
 refine hK.out _ _ (⟨v2, hN5.row d hdn, hbp4.cell 0, v1, hbp4.cell 2, hbp4.cell 3, hbp4.cell 4, hbp4.cell 5⟩) (fun hHeld2 => ?_)
 clear hK K hHeld
 have hHeld := hHeld2
 try simp only [Act.put,sI_,sZ_,sS_]
 refine tkH 15 (.tuple #[.bool b, errV c]) (some 41) rfl hHeld ?_
 try simp only [Act.put,sI_,sZ_,sS_]
 refine tkH 16 (.bool b) (some 57) rfl hHeld ?_
 try simp only [Act.put,sI_,sZ_,sS_]
 refine tkH 17 (errV c) (some 58) rfl hHeld ?_
 try simp only [Act.put,sI_,sZ_,sS_]
 refine tkH 18 (.bool b) (some 8) rfl hHeld ?_
 try simp only [Act.put,sI_,sZ_,sS_]
 refine tkH 19 (errV c) (some 9) rfl hHeld ?_
 try simp only [Act.put,sI_,sZ_,sS_]
 refine wpAnyH_done kRf ?_ _
 try simp only [Act.put,sI_,sZ_,sS_]
 have HN5 := Lib.hid hN5
 have HBP4 := Lib.hid hbp4
 have HK5 := Lib.hid (HK3.out.trans hK5 (P' := NMine (a.gi d) (a.mb d)) (P := NetMine a uv) (fun k e => .inl (.inr (.inr ⟨d, hdn, e⟩))))
 have hz5 := hK5.size
 clear hN5 hbp4 hK5 hN4 hK4 v1 v2 z1 zr u0 u1 u1' u2 u3 u4 u5 CH HN3 HBP3 HK3
 rw [errV_ne hc]
 go_wp2_with fail
 go_ret
 exact ⟨by rw [errV_ne hc]; rfl, uv', HN5.out, HK5.out, HQ2.out⟩
end Go.Proofs.YtldlandcjegikaaGreatDoor
