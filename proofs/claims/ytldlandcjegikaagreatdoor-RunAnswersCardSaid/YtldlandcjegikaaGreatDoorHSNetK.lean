/- The reference's net: it answers, walked. -/
import Derived.Test.YtldlandcjegikaaGreatDoorHS6
import Derived.Deep.DeepCutAuto
import Derived.Deep.CutBlock
namespace Go.Proofs.YtldlandcjegikaaGreatDoor
open Go.RowKit
set_option linter.unusedVariables false
set_option linter.unusedSimpArgs false
variable {W0 w w' : World} {b : SAd} {A1 A2 : Option Addr} {c1 c2 : Nat} {p t t' : Int} {uv uv' : Value} {us us' : List RLetter} {S : Nat → NSt}
set_option maxRecDepth 100000 in
set_option maxHeartbeats 16000000 in
theorem snet_Do_asked (ss rs : List Int) (A : RAct) (c : Int) (got : Option RLetter) (L : RLetter) (d : Nat) (sv rv : Int) (q : Bool) (c' : Int) (s' : NSt) (cA : Int) (us2 : List RLetter) (h : SNetAt W0 w b A1 A2 c1 c2 p t uv us S) (i1 : IsInts W0 A1 b.n c1 ss) (i2 : IsInts W0 A2 b.n c2 rs) (hA : A.ok) (n6 : b.n ≤ 6) (sb : ∀ (i : Nat) z, ss[i]? = some z → 0 ≤ z ∧ z ≤ 1000000) (rb : ∀ (i : Nat) z, rs[i]? = some z → -1000 ≤ z ∧ z ≤ 1000) (hw : WAct b.n ss rs t us A c got t' us') (hq : got = some L) (hc : c = 0) (hd : L.dst = (d : Int)) (hs : ss[d]? = some sv) (hr : rs[d]? = some rv) (hh : Hears (S d) L (readV sv rv t') q c' s') (hcz : c' = 0) (haf : L.answer = false) (hwa : WAns b.n ss rs t' us' L cA us2) :
  Calls Tryz.prog 20 #[.pointer (some ⟨b.M, 0, none⟩), .agg #[.int .i64 A.what, .int .i64 A.a, .int .i64 A.b]] w (SNetDone W0 w b A1 A2 c1 c2 p uv cA t' us2 (updS S d s')) := by
 have HU := Lib.hid h
 have kM := h.W.blk.lt
 have hW0 : W0.heap.size ≤ w.heap.size := h.W.old.size
 have hown : ∀ u, uv.ownBlock = some u → u < w.heap.size := fun u e => (h.W.low u e).2
 have HOwn := Lib.hid hown
 have HH := Lib.hid (hw.has i1.1 h.has).1
 have HD := Lib.hid (fun W (hb : Below w.heap.size w W) => act_R hw hA n6 sb rb W0 b.M b.B A1 A2 c1 c2 uv W (h.W.below hb) i1 i2)
 rw [gotV_L] at HD
 obtain ⟨G, eG⟩ : ∃ G, gotL got = G := ⟨_, rfl⟩
 obtain ⟨gb, egb⟩ : ∃ q, got.isSome = q := ⟨_, rfl⟩
 rw [eG, egb] at HD
 have HKc := Lib.hid (fun (W W2 : World) (hl : w.heap.size < W.heap.size) (hK : Kept (Mine b.M uv) W W2) o => show W2.cell? ⟨w.heap.size, o, none⟩ = W.cell? ⟨w.heap.size, o, none⟩ from World.cell?_of_block (a := ⟨w.heap.size, o, none⟩) (hK.block w.heap.size hl (fun e => by
  rcases e with e | e
  ·omega
  ·have := HOwn.out _ e; omega)))
 have HKs := Lib.hid (fun (W : World) (g : Nat) (hg : w.heap.size ≠ g) (o : Nat) => show ((((((W.setCell ⟨g, 0, none⟩ (.int .i64 G.src)).setCell ⟨g, 1, none⟩ (.int .i64 G.dst)).setCell ⟨g, 2, none⟩ (.bool G.answer)).setCell ⟨g, 3, none⟩ (.int .i64 G.t1)).setCell ⟨g, 4, none⟩ (.int .i64 G.t2)).setCell ⟨g, 5, none⟩ (.int .i64 G.t)).cell? ⟨w.heap.size, o, none⟩ = W.cell? ⟨w.heap.size, o, none⟩ from by
  have hne : ∀ i, (⟨g, i, none⟩ : Addr) ≠ ⟨w.heap.size, o, none⟩ := fun i e => hg (by injection e with e1; exact e1.symm)
  rw [World.cell?_setCell_other _ _ _ _ (hne _), World.cell?_setCell_other _ _ _ _ (hne _), World.cell?_setCell_other _ _ _ _ (hne _), World.cell?_setCell_other _ _ _ _ (hne _), World.cell?_setCell_other _ _ _ _ (hne _), World.cell?_setCell_other _ _ _ _ (hne _)])
 have hdn : d < b.n := by rw [← i1.1]; exact (List.getElem?_eq_some_iff.1 hs).1
 have CR := Lib.hid (fun (W : World) (uv' : Value) (hW : RWorld b.qv W0 W b.M b.B b.n A1 A2 c1 c2 t' uv' us') => r2_WRead W0 b.M b.B b.n A1 A2 c1 c2 ss rs t' uv' us' d sv rv W hW i1 i2 hs hr (sb d sv hs) (rb d rv hr))
 have hLok := h.W.lok L ((hw.has i1.1 h.has).2 L hq).2.2.1
 have HAn := Lib.hid (fun (W : World) (uv' : Value) (hW : RWorld b.qv W0 W b.M b.B b.n A1 A2 c1 c2 t' uv' us') => ans_R hwa hLok n6 sb rb W0 b.M b.B A1 A2 c1 c2 uv' W hW i1 i2)
 have HUs := Lib.hid (hwa.has i1.1 HH.out)
 have HHr := Lib.hid hh
 have HAF := Lib.hid haf
 have HCz0 := Lib.hid hcz
 have HD0 := Lib.hid hd
 have HC0 := Lib.hid hc
 clear h hw hown i1 i2 hh haf hcz hd hc hwa hLok
 go_enter Tryz.func20, Tryz.ntmps20
 go_upto_region 2 with fail
 go_cut [5, 6, 7] (fun pv iv ev wx => ∃ (g : Nat) (uv' : Value), pv = .pointer (some ⟨g, 0, none⟩) ∧ iv = .bool gb ∧ ev = .int .i64 c ∧ Blk wx g 110 #[.int .i64 G.src, .int .i64 G.dst, .bool G.answer, .int .i64 G.t1, .int .i64 G.t2, .int .i64 G.t] ∧ w.heap.size ≤ g ∧ uv'.ownBlock ≠ some g ∧ RWorld b.qv W0 wx b.M b.B b.n A1 A2 c1 c2 t' uv' us' ∧ Kept (Mine b.M uv) w wx ∧ (∀ q, uv'.ownBlock = some q → uv.ownBlock = some q ∨ w.heap.size ≤ q))
 case first =>
  go_wp2_with fail
  obtain ⟨W1, hW1⟩ : ∃ W, w.alloc (.cells #[.int .i64 A.what, .int .i64 A.a, .int .i64 A.b] 71) = W := ⟨_, rfl⟩
  have HB1 : Below w.heap.size w W1 := by rw [← hW1]; exact BeL
  have hsl : w.heap.size < W1.heap.size := by rw [← hW1]; simp
  have bx : Blk W1 w.heap.size 71 #[.int .i64 A.what, .int .i64 A.a, .int .i64 A.b] := by rw [← hW1]; exact Blk.new w _ _
  have x0 : W1.cell? ⟨w.heap.size, 0, none⟩ = some (.int .i64 A.what) := bx.cell 0
  have x1 : W1.cell? ⟨w.heap.size, 1, none⟩ = some (.int .i64 A.a) := bx.cell 1
  have x2 : W1.cell? ⟨w.heap.size, 2, none⟩ = some (.int .i64 A.b) := bx.cell 2
  rw [hW1]
  clear hW1 bx
  refine wp_region_held_drew (S := fun w9 => w9.cell? ⟨w.heap.size, 0, none⟩ = some (.int .i64 A.what) ∧ w9.cell? ⟨w.heap.size, 1, none⟩ = some (.int .i64 A.a) ∧ w9.cell? ⟨w.heap.size, 2, none⟩ = some (.int .i64 A.b)) kRf (⟨x0, x1, x2⟩) (fun hHeld => ?_)
  refine tkH 0 (.pointer (some ⟨b.M, 0, none⟩)) (some 10) rfl hHeld ?_
  try simp only [Act.put,sI_,sZ_,sS_]
  refine tkH 1 (.pointer (some ⟨b.M, 0, none⟩)) (some 11) rfl hHeld ?_
  try simp only [Act.put,sI_,sZ_,sS_]
  refine tkH 2 (.pointer (some ⟨b.M, 0, none⟩)) (some 12) rfl hHeld ?_
  try simp only [Act.put,sI_,sZ_,sS_]
  refine tkG 3 (.agg #[.int .i64 A.what, .int .i64 A.a, .int .i64 A.b]) (some 13) rfl (fun w9 hw9 => by (obtain ⟨a0, a1, a2⟩ := hw9; go_simp)) hHeld ?_
  try simp only [Act.put,sI_,sZ_,sS_]
  try simp only [Act.put,sI_,sZ_,sS_]
  refine wpAnyH_ready (rs := [4, 9]) kRf (by simp) ?_
  refine AllReadyH.cons rfl (fun K hK => ?_) (AllReadyH.cons rfl (fun K hK => ?_) AllReadyH.nil)
  ·go_simp
   refine (HD.out _ HB1.drew).mono ?_
   rintro e w2 ⟨rfl, uv', hR2, hK2, hq2⟩
   have z0 := (HKc.out W1.drew _ hsl hK2 0).trans x0
   have z1 := (HKc.out W1.drew _ hsl hK2 1).trans x1
   have z2 := (HKc.out W1.drew _ hsl hK2 2).trans x2
   refine hK.out _ _ ⟨z0, z1, z2⟩ (fun hHeld2 => ?_)
   clear hK K hHeld
   have hHeld := hHeld2
   clear hHeld2
   try simp only [Act.put,sI_,sZ_,sS_]
   refine tkH 5 (.tuple #[.agg #[.int .i64 G.src, .int .i64 G.dst, .bool G.answer, .int .i64 G.t1, .int .i64 G.t2, .int .i64 G.t], .bool gb, .int .i64 c]) (some 9) rfl hHeld ?_
   try simp only [Act.put,sI_,sZ_,sS_]
   refine tkH 6 (.agg #[.int .i64 G.src, .int .i64 G.dst, .bool G.answer, .int .i64 G.t1, .int .i64 G.t2, .int .i64 G.t]) (some 15) rfl hHeld ?_
   try simp only [Act.put,sI_,sZ_,sS_]
   refine tkH 7 (.bool gb) (some 16) rfl hHeld ?_
   try simp only [Act.put,sI_,sZ_,sS_]
   refine tkH 8 (.int .i64 c) (some 17) rfl hHeld ?_
   try simp only [Act.put,sI_,sZ_,sS_]
   have hs2 : W1.heap.size ≤ w2.heap.size := hK2.size
   have hl2 : w.heap.size < w2.heap.size := by omega
   try simp only [Act.put,sI_,sZ_,sS_]
   refine wpAnyH_ready (rs := [9]) kRf (by simp) ?_
   refine AllReadyH.cons rfl (fun K hK => ?_) AllReadyH.nil
   go_simp
   refine hK.out _ _ ⟨(World.cell?_alloc_lt _ _ ⟨w.heap.size, 0, none⟩ hl2).trans z0, (World.cell?_alloc_lt _ _ ⟨w.heap.size, 1, none⟩ hl2).trans z1, (World.cell?_alloc_lt _ _ ⟨w.heap.size, 2, none⟩ hl2).trans z2⟩ (fun hHeld2 => ?_)
   clear hK K hHeld
   have hHeld := hHeld2
   clear hHeld2
   try simp only [Act.put,sI_,sZ_,sS_]
   refine wpAnyH_ready (rs := [10]) kRf (by simp) ?_
   refine AllReadyH.cons rfl (fun K hK => ?_) AllReadyH.nil
   go_simp
   refine hK.out _ _ ⟨(World.cell?_alloc_lt _ _ ⟨w.heap.size, 0, none⟩ hl2).trans z0, (World.cell?_alloc_lt _ _ ⟨w.heap.size, 1, none⟩ hl2).trans z1, (World.cell?_alloc_lt _ _ ⟨w.heap.size, 2, none⟩ hl2).trans z2⟩ (fun hHeld2 => ?_)
   clear hK K hHeld
   have hHeld := hHeld2
   clear hHeld2
   try simp only [Act.put,sI_,sZ_,sS_]
   refine tkH 11 (.bool gb) (some 6) rfl hHeld ?_
   try simp only [Act.put,sI_,sZ_,sS_]
   refine tkH 12 (.int .i64 c) (some 7) rfl hHeld ?_
   try simp only [Act.put,sI_,sZ_,sS_]
   refine wpAnyH_done kRf ?_ _
   try simp only [Act.put,sI_,sZ_,sS_]
   have hKw : Kept (Mine b.M uv) w w2 := ((Kept.refl _ w).below HB1).trans (((Kept.refl (Mine b.M uv) W1).drew).trans hK2 (fun k e => .inl e)) (fun k e => .inl e)
   have hbl := (Below.refl w2.heap.size w2).alloc (Nat.le_refl _) (.cells #[.int .i64 G.src, .int .i64 G.dst, .bool G.answer, .int .i64 G.t1, .int .i64 G.t2, .int .i64 G.t] 110)
   have HR3 := Lib.hid (hR2.below hbl)
   have HK3 := Lib.hid (hKw.below hbl)
   have HQ3 := Lib.hid (show ∀ q, uv'.ownBlock = some q → uv.ownBlock = some q ∨ w.heap.size ≤ q from fun q e => (hq2 q e).imp id (fun h9 => by have : W1.heap.size ≤ q := h9; omega))
   have HU3 := Lib.hid (fun q e => (hR2.low q e).2)
   clear hK2 hKw hbl hR2 hq2 z0 z1 z2 hHeld
   go_wp2_with fail
   go_meet
   case rel => exact ⟨_, uv', rfl, rfl, rfl, Blk.new _ _ _, by omega, fun e => by have := HU3.out _ e; omega, HR3.out, HK3.out, HQ3.out⟩
  ·go_simp
   refine hK.out _ _ ⟨(World.cell?_alloc_lt _ _ ⟨w.heap.size, 0, none⟩ hsl).trans x0, (World.cell?_alloc_lt _ _ ⟨w.heap.size, 1, none⟩ hsl).trans x1, (World.cell?_alloc_lt _ _ ⟨w.heap.size, 2, none⟩ hsl).trans x2⟩ (fun hHeld2 => ?_)
   clear hK K hHeld
   have hHeld := hHeld2
   clear hHeld2
   try simp only [Act.put,sI_,sZ_,sS_]
   refine wpAnyH_ready (rs := [4]) kRf (by simp) ?_
   refine AllReadyH.cons rfl (fun K hK => ?_) AllReadyH.nil
   go_simp
   refine (HD.out _ (by exact BeL)).mono ?_
   rintro e w2 ⟨rfl, uv', hR2, hK2, hq2⟩
   have hs2 : W1.heap.size + 1 ≤ w2.heap.size := by have := hK2.size; simp at this; omega
   have z0 := (HKc.out _ _ (by simp; omega) hK2 0).trans ((World.cell?_alloc_lt W1 _ ⟨w.heap.size, 0, none⟩ hsl).trans x0)
   have z1 := (HKc.out _ _ (by simp; omega) hK2 1).trans ((World.cell?_alloc_lt W1 _ ⟨w.heap.size, 1, none⟩ hsl).trans x1)
   have z2 := (HKc.out _ _ (by simp; omega) hK2 2).trans ((World.cell?_alloc_lt W1 _ ⟨w.heap.size, 2, none⟩ hsl).trans x2)
   have bz : Blk w2 W1.heap.size 110 #[.int .i64 0, .int .i64 0, .bool false, .int .i64 0, .int .i64 0, .int .i64 0] := (hK2.block W1.heap.size (by simp) (fun e => by
    rcases e with e | e
    ·omega
    ·have := HOwn.out _ e; omega)).trans (Blk.new W1 _ _)
   have t0 := bz.cell 0
   have t1 := bz.cell 1
   have t2 := bz.cell 2
   have t3 := bz.cell 3
   have t4 := bz.cell 4
   have t5 := bz.cell 5
   simp at t0 t1 t2 t3 t4 t5
   have tf := fun o => bz.fz o
   have tl := bz.lt
   have HBZ := Lib.hid bz
   clear bz
   refine hK.out _ _ ⟨z0, z1, z2⟩ (fun hHeld2 => ?_)
   clear hK K hHeld
   have hHeld := hHeld2
   clear hHeld2
   try simp only [Act.put,sI_,sZ_,sS_]
   refine tkH 5 (.tuple #[.agg #[.int .i64 G.src, .int .i64 G.dst, .bool G.answer, .int .i64 G.t1, .int .i64 G.t2, .int .i64 G.t], .bool gb, .int .i64 c]) (some 9) rfl hHeld ?_
   try simp only [Act.put,sI_,sZ_,sS_]
   refine tkH 6 (.agg #[.int .i64 G.src, .int .i64 G.dst, .bool G.answer, .int .i64 G.t1, .int .i64 G.t2, .int .i64 G.t]) (some 15) rfl hHeld ?_
   try simp only [Act.put,sI_,sZ_,sS_]
   refine tkH 7 (.bool gb) (some 16) rfl hHeld ?_
   try simp only [Act.put,sI_,sZ_,sS_]
   refine tkH 8 (.int .i64 c) (some 17) rfl hHeld ?_
   try simp only [Act.put,sI_,sZ_,sS_]
   try simp only [Act.put,sI_,sZ_,sS_]
   refine wpAnyH_ready (rs := [10]) kRf (by simp) ?_
   refine AllReadyH.cons rfl (fun K hK => ?_) AllReadyH.nil
   go_simp
   refine hK.out _ _ ⟨(HKs.out w2 W1.heap.size (Nat.ne_of_lt hsl) 0).trans z0, (HKs.out w2 W1.heap.size (Nat.ne_of_lt hsl) 1).trans z1, (HKs.out w2 W1.heap.size (Nat.ne_of_lt hsl) 2).trans z2⟩ (fun hHeld2 => ?_)
   clear hK K hHeld
   have hHeld := hHeld2
   clear hHeld2
   try simp only [Act.put,sI_,sZ_,sS_]
   refine tkH 11 (.bool gb) (some 6) rfl hHeld ?_
   try simp only [Act.put,sI_,sZ_,sS_]
   refine tkH 12 (.int .i64 c) (some 7) rfl hHeld ?_
   try simp only [Act.put,sI_,sZ_,sS_]
   refine wpAnyH_done kRf ?_ _
   try simp only [Act.put,sI_,sZ_,sS_]
   have hKw : Kept (Mine b.M uv) w w2 := ((Kept.refl _ w).below HB1).trans ((((Kept.refl (Mine b.M uv) W1).alloc _).drew).trans hK2 (fun k e => .inl e)) (fun k e => .inl e)
   have hKs := (((((((Kept.refl (fun k => k = W1.heap.size) w2).set W1.heap.size 0 (.int .i64 G.src) (.inl rfl)).set W1.heap.size 1 (.int .i64 G.dst) (.inl rfl)).set W1.heap.size 2 (.bool G.answer) (.inl rfl)).set W1.heap.size 3 (.int .i64 G.t1) (.inl rfl)).set W1.heap.size 4 (.int .i64 G.t2) (.inl rfl)).set W1.heap.size 5 (.int .i64 G.t) (.inl rfl))
   have HB3 := Lib.hid ((((((((HBZ.out.set 0 (.int .i64 G.src)).set 1 (.int .i64 G.dst)).set 2 (.bool G.answer)).set 3 (.int .i64 G.t1)).set 4 (.int .i64 G.t2)).set 5 (.int .i64 G.t))).conv (show _ = #[.int .i64 G.src, .int .i64 G.dst, .bool G.answer, .int .i64 G.t1, .int .i64 G.t2, .int .i64 G.t] from rfl))
   have HQ3 := Lib.hid (show ∀ q, uv'.ownBlock = some q → uv.ownBlock = some q ∨ w.heap.size ≤ q from fun q e => (hq2 q e).imp id (fun h9 => by simp at h9; omega))
   have hun : uv'.ownBlock ≠ some W1.heap.size := fun e => by
    rcases hq2 _ e with e2 | e2
    ·have := HOwn.out _ e2; omega
    ·simp at e2; omega
   have HR3 := Lib.hid (hR2.other hKs (fun k e => by subst e; exact ⟨by omega, by omega, hun⟩))
   have HK3 := Lib.hid (hKw.trans hKs (fun k e => .inr (by rw [e]; omega)))
   have hgw : w.heap.size ≤ W1.heap.size := by omega
   clear hK2 hKw hKs hR2 hq2 z0 z1 z2 hHeld t0 t1 t2 t3 t4 t5 tf tl
   go_wp2_with fail
   go_meet
   case rel => exact ⟨_, uv', rfl, rfl, rfl, HB3.out, hgw, hun, HR3.out, HK3.out, HQ3.out⟩
 case rest =>
  obtain ⟨g, uv', rfl, rfl, rfl, hbL, hg, hun, hR, hK, hq'⟩ := hcut
  obtain ⟨w3, hw3⟩ : ∃ x : World, x = wc := ⟨_, rfl⟩
  subst hw3
  have hgb : gb = true := by rw [← egb, hq]; rfl
  have hG : L = G := by rw [← eG, hq]; rfl
  have HN := Lib.hid (HU.out.world hR hK HH.out)
  have HK3 := Lib.hid (show Kept (SMine b uv) w w3 from (Kept.refl _ w).trans hK (fun k e => .inl (smine_kept e)))
  have HQ3 := Lib.hid hq'
  subst hG
  have hd := HD0.out
  have hc0 := HC0.out
  have p1 : w3.cell? ⟨g, 1, none⟩ = some (.int .i64 d) := by rw [← hd]; exact hbL.cell 1
  have lg := hbL.lt
  have HBL := Lib.hid hbL
  have hkM : b.M < w3.heap.size := Nat.lt_of_lt_of_le kM hK.size
  have HCR := Lib.hid (fun W (hb : Below w3.heap.size w3 W) => CR.out W uv' (hR.below hb))
  have HUN := Lib.hid hun
  clear hR hK hq' hbL hun eG egb hq CR hd
  subst hgb
  subst hc0
  go_wp2_with fail
  refine wp_region_held_drew (S := fun w9 => w9.cell? ⟨g, 1, none⟩ = some (.int .i64 d)) kRf (p1) (fun hHeld => ?_)
  refine tkH 0 (.pointer (some ⟨b.M, 0, none⟩)) (some 25) rfl hHeld ?_
  try simp only [Act.put,sI_,sZ_,sS_]
  refine tkH 1 (.pointer (some ⟨b.M, 0, none⟩)) (some 26) rfl hHeld ?_
  try simp only [Act.put,sI_,sZ_,sS_]
  refine tkH 2 (.pointer (some ⟨b.M, 0, none⟩)) (some 27) rfl hHeld ?_
  try simp only [Act.put,sI_,sZ_,sS_]
  refine tkH 3 (.pointer (some ⟨g, 1, none⟩)) (some 28) rfl hHeld ?_
  try simp only [Act.put,sI_,sZ_,sS_]
  refine tkH 4 (.int .i64 d) (some 29) rfl hHeld ?_
  try simp only [Act.put,sI_,sZ_,sS_]
  try simp only [Act.put,sI_,sZ_,sS_]
  refine wpAnyH_ready (rs := [5]) kRf (by simp) ?_
  refine AllReadyH.cons rfl (fun K hK => ?_) AllReadyH.nil
  go_simp
  refine (HCR.out _ (by exact BeL)).mono ?_
  rintro e w4 ⟨rfl, hb4⟩
  have HB4 : Below w3.heap.size w3 w4 := (show Below w3.heap.size w3 w3.drew from by exact BeL).trans hb4
  refine hK.out _ _ ((HB4.cell (p := ⟨g, 1, none⟩) lg).trans p1) (fun hHeld2 => ?_)
  clear hK K hHeld
  have hHeld := hHeld2
  try simp only [Act.put,sI_,sZ_,sS_]
  refine tkH 6 (.int .i64 (readV sv rv t')) (some 8) rfl hHeld ?_
  try simp only [Act.put,sI_,sZ_,sS_]
  refine wpAnyH_done kRf ?_ _
  try simp only [Act.put,sI_,sZ_,sS_]
  have HN4 := Lib.hid (HN.out.below HB4)
  have HBL4 := Lib.hid (HBL.out.below HB4 lg)
  have HK4 := Lib.hid (HK3.out.below HB4)
  have lg4 := HBL4.out.lt
  have hz3 : w.heap.size ≤ w3.heap.size := HK3.out.size
  have hz4 := HB4.size
  clear hb4 HB4 HCR HBL p1 HN HK3 hHeld
  obtain ⟨here, hhere⟩ : ∃ v, readV sv rv t' = v := ⟨_, rfl⟩
  have HHe := Lib.hid (by have := HHr.out; rw [hhere] at this; exact this)
  have CH := Lib.hid (fun (W : World) (hW : RNodeAt W (b.gi d) (S d)) => r2_Hear (b.gi d) (S d) s' L here q c' W hW HHe.out)
  have hd := HD0.out
  rw [hhere]
  have y0 : w4.cell? ⟨b.M, 4, none⟩ = some (.slice (some ⟨b.Q, 0, none⟩) b.n b.d) := HN4.out.W.blk.cell 4
  have y1 : w4.cell? ⟨b.Q, d, none⟩ = some (.pointer (some ⟨b.gi d, 0, none⟩)) := HN4.out.row d hdn
  have u0 : w4.cell? ⟨g, 0, none⟩ = some (.int .i64 L.src) := HBL4.out.cell 0
  have u1 : w4.cell? ⟨g, 1, none⟩ = some (.int .i64 d) := by rw [← hd]; exact HBL4.out.cell 1
  have u2 : w4.cell? ⟨g, 2, none⟩ = some (.bool L.answer) := HBL4.out.cell 2
  have u3 : w4.cell? ⟨g, 3, none⟩ = some (.int .i64 L.t1) := HBL4.out.cell 3
  have u4 : w4.cell? ⟨g, 4, none⟩ = some (.int .i64 L.t2) := HBL4.out.cell 4
  have u5 : w4.cell? ⟨g, 5, none⟩ = some (.int .i64 L.t) := HBL4.out.cell 5
  have hk0 : (0 : Int) ≤ (d : Int) := by omega
  have hk1 : (d : Int) < (b.n : Int) := by omega
  have hnd := HN4.out.nd
  have hnd1 := hnd.1
  have hnd2 := hnd.2
  unfold maxLen at hnd2
  have CH2 := Lib.hid (by rw [hd] at CH; exact CH)
  have HHd := Lib.hid hd
  clear hhere hd CH hnd
  go_wp2_with fail
  refine wp_region_held_drew (S := fun w9 => w9.cell? ⟨b.M, 4, none⟩ = some (.slice (some ⟨b.Q, 0, none⟩) b.n b.d) ∧ w9.cell? ⟨b.Q, d, none⟩ = some (.pointer (some ⟨b.gi d, 0, none⟩)) ∧ w9.cell? ⟨g, 0, none⟩ = some (.int .i64 L.src) ∧ w9.cell? ⟨g, 1, none⟩ = some (.int .i64 d) ∧ w9.cell? ⟨g, 2, none⟩ = some (.bool L.answer) ∧ w9.cell? ⟨g, 3, none⟩ = some (.int .i64 L.t1) ∧ w9.cell? ⟨g, 4, none⟩ = some (.int .i64 L.t2) ∧ w9.cell? ⟨g, 5, none⟩ = some (.int .i64 L.t)) kRf (⟨y0, y1, u0, u1, u2, u3, u4, u5⟩) (fun hHeld => ?_)
  refine tkH 0 (.pointer (some ⟨b.M, 0, none⟩)) (some 32) rfl hHeld ?_
  try simp only [Act.put,sI_,sZ_,sS_]
  refine tkH 1 (.pointer (some ⟨b.M, 0, none⟩)) (some 33) rfl hHeld ?_
  try simp only [Act.put,sI_,sZ_,sS_]
  refine tkH 2 (.pointer (some ⟨b.M, 4, none⟩)) (some 34) rfl hHeld ?_
  try simp only [Act.put,sI_,sZ_,sS_]
  refine tkG 3 (.slice (some ⟨b.Q, 0, none⟩) b.n b.d) (some 35) rfl (fun w9 hw9 => by (obtain ⟨a0, a1, a2, a3, a4, a5, a6, a7⟩ := hw9; go_simp)) hHeld ?_
  try simp only [Act.put,sI_,sZ_,sS_]
  refine tkH 4 (.pointer (some ⟨g, 1, none⟩)) (some 36) rfl hHeld ?_
  try simp only [Act.put,sI_,sZ_,sS_]
  refine tkG 5 (.int .i64 d) (some 37) rfl (fun w9 hw9 => by (obtain ⟨a0, a1, a2, a3, a4, a5, a6, a7⟩ := hw9; go_simp)) hHeld ?_
  try simp only [Act.put,sI_,sZ_,sS_]
  refine tkH 6 (.pointer (some ⟨b.Q, d, none⟩)) (some 38) rfl hHeld ?_
  try simp only [Act.put,sI_,sZ_,sS_]
  refine tkG 7 (.pointer (some ⟨b.gi d, 0, none⟩)) (some 39) rfl (fun w9 hw9 => by (obtain ⟨a0, a1, a2, a3, a4, a5, a6, a7⟩ := hw9; go_simp)) hHeld ?_
  try simp only [Act.put,sI_,sZ_,sS_]
  refine tkG 8 (.agg #[.int .i64 L.src, .int .i64 d, .bool L.answer, .int .i64 L.t1, .int .i64 L.t2, .int .i64 L.t]) (some 40) rfl (fun w9 hw9 => by (obtain ⟨a0, a1, a2, a3, a4, a5, a6, a7⟩ := hw9; go_simp)) hHeld ?_
  try simp only [Act.put,sI_,sZ_,sS_]
  refine tkH 9 (.int .i64 here) (some 41) rfl hHeld ?_
  try simp only [Act.put,sI_,sZ_,sS_]
  try simp only [Act.put,sI_,sZ_,sS_]
  refine wpAnyH_ready (rs := [10]) kRf (by simp) ?_
  refine AllReadyH.cons rfl (fun K hK => ?_) AllReadyH.nil
  go_simp
  refine (CH2.out _ ((HN4.out.at_ d hdn).below (show Below w4.heap.size w4 w4.drew from by exact BeL))).mono ?_
  rintro e w5 ⟨rfl, hN5, hK5⟩
  have hK5' : Kept (fun k => k = b.gi d) w4 w5 := ((Kept.refl _ w4).drew).trans hK5 (fun k e => .inl e)
  have hgd := HU.out.g d hdn
  have lgd := (HU.out.at_ d hdn).blk.lt
  have HKg := Lib.hid (fun (k o : Nat) (hk : k < w4.heap.size) (hne : k ≠ b.gi d) => show w5.cell? ⟨k, o, none⟩ = w4.cell? ⟨k, o, none⟩ from World.cell?_of_block (a := ⟨k, o, none⟩) (hK5'.block k hk hne))
  have lM4 : b.M < w4.heap.size := by omega
  have lQ4 : b.Q < w4.heap.size := by have := HN4.out.Qo.2.1; have := HN4.out.W.Bw; omega
  have ng : g ≠ b.gi d := by omega
  have nM : b.M ≠ b.gi d := fun e => hgd.2.2.1 e.symm
  have nQ : b.Q ≠ b.gi d := fun e => hgd.2.2.2 e.symm
  refine hK.out _ _ ⟨(HKg.out _ _ lM4 nM).trans y0, (HKg.out _ _ lQ4 nQ).trans y1, (HKg.out _ _ lg4 ng).trans u0, (HKg.out _ _ lg4 ng).trans u1, (HKg.out _ _ lg4 ng).trans u2, (HKg.out _ _ lg4 ng).trans u3, (HKg.out _ _ lg4 ng).trans u4, (HKg.out _ _ lg4 ng).trans u5⟩ (fun hHeld2 => ?_)
  clear hK K hHeld
  have hHeld := hHeld2
  clear hHeld2
  refine tkH 11 (.tuple #[.bool q, .int .i64 c']) (some 31) rfl hHeld ?_
  try simp only [Act.put,sI_,sZ_,sS_]
  refine tkH 12 (.bool q) (some 43) rfl hHeld ?_
  try simp only [Act.put,sI_,sZ_,sS_]
  refine tkH 13 (.int .i64 c') (some 44) rfl hHeld ?_
  try simp only [Act.put,sI_,sZ_,sS_]
  refine tkH 14 (.int .i64 c') (some 7) rfl hHeld ?_
  try simp only [Act.put,sI_,sZ_,sS_]
  refine wpAnyH_done kRf ?_ _
  try simp only [Act.put,sI_,sZ_,sS_]
  have kp := HHr.out.keeps
  have HN5 := Lib.hid (HN4.out.hear hdn hN5 hK5' ⟨kp.1.trans (HU.out.sN d hdn).1, kp.2.1.trans (HU.out.sN d hdn).2.1, kp.2.2.trans (HU.out.sN d hdn).2.2⟩)
  have HK5 := Lib.hid (HK4.out.trans hK5' (fun k e => .inl (.inr (.inr ⟨d, hdn, e⟩))))
  have v2 : w5.cell? ⟨g, 2, none⟩ = some (.bool L.answer) := (HKg.out _ _ lg4 ng).trans u2
  have v0 : w5.cell? ⟨g, 0, none⟩ = some (.int .i64 L.src) := (HKg.out _ _ lg4 ng).trans u0
  have v1 : w5.cell? ⟨g, 1, none⟩ = some (.int .i64 d) := (HKg.out _ _ lg4 ng).trans u1
  have v3 : w5.cell? ⟨g, 3, none⟩ = some (.int .i64 L.t1) := (HKg.out _ _ lg4 ng).trans u3
  have v4 : w5.cell? ⟨g, 4, none⟩ = some (.int .i64 L.t2) := (HKg.out _ _ lg4 ng).trans u4
  have v5 : w5.cell? ⟨g, 5, none⟩ = some (.int .i64 L.t) := (HKg.out _ _ lg4 ng).trans u5
  have lg5 : g < w5.heap.size := Nat.lt_of_lt_of_le lg4 hK5'.size
  have hz5 : w.heap.size ≤ w5.heap.size := HK5.out.size
  have CA := Lib.hid (fun (W : World) (hW : RWorld b.qv W0 W b.M b.B b.n A1 A2 c1 c2 t' uv' us') => HAn.out W uv' hW)
  have han := HAF.out
  rw [← HHd.out] at v1
  clear hN5 hK5 hK5' hgd kp y0 y1 u0 u1 u2 u3 u4 u5 hHeld nM nQ lM4 lQ4 HAn
  obtain ⟨an, ean⟩ : ∃ v, L.answer = v := ⟨_, rfl⟩
  rw [ean] at v2 han
  have CA2 := Lib.hid (by have := CA.out; rw [ean, han] at this; exact this)
  subst han
  clear ean CA
  have HCz := Lib.hid HCz0.out
  have hcz := HCz0.out
  clear HCz0
  subst hcz
  go_wp2_with fail
  have hgM : g ≠ b.M := by omega
  refine wp_region_held_drew (S := fun w9 => w9.cell? ⟨g, 0, none⟩ = some (.int .i64 L.src) ∧ w9.cell? ⟨g, 1, none⟩ = some (.int .i64 L.dst) ∧ w9.cell? ⟨g, 2, none⟩ = some (.bool false) ∧ w9.cell? ⟨g, 3, none⟩ = some (.int .i64 L.t1) ∧ w9.cell? ⟨g, 4, none⟩ = some (.int .i64 L.t2) ∧ w9.cell? ⟨g, 5, none⟩ = some (.int .i64 L.t)) kRf (⟨v0, v1, v2, v3, v4, v5⟩) (fun hHeld => ?_)
  refine tkH 0 (.pointer (some ⟨b.M, 0, none⟩)) (some 52) rfl hHeld ?_
  try simp only [Act.put,sI_,sZ_,sS_]
  refine tkH 1 (.pointer (some ⟨b.M, 0, none⟩)) (some 53) rfl hHeld ?_
  try simp only [Act.put,sI_,sZ_,sS_]
  refine tkH 2 (.pointer (some ⟨b.M, 0, none⟩)) (some 54) rfl hHeld ?_
  try simp only [Act.put,sI_,sZ_,sS_]
  refine tkG 3 (.agg #[.int .i64 L.src, .int .i64 L.dst, .bool false, .int .i64 L.t1, .int .i64 L.t2, .int .i64 L.t]) (some 55) rfl (fun w9 hw9 => by (obtain ⟨a0, a1, a2, a3, a4, a5⟩ := hw9; go_simp)) hHeld ?_
  try simp only [Act.put,sI_,sZ_,sS_]
  try simp only [Act.put,sI_,sZ_,sS_]
  refine wpAnyH_ready (rs := [4]) kRf (by simp) ?_
  refine AllReadyH.cons rfl (fun K hK => ?_) AllReadyH.nil
  go_simp
  refine (CA2.out _ (HN5.out.W.below (show Below w5.heap.size w5 w5.drew from by exact BeL))).mono ?_
  rintro e w6 ⟨rfl, uv6, hR6, hK6, hq6⟩
  have hK6' : Kept (Mine b.M uv') w5 w6 := ((Kept.refl _ w5).drew).trans hK6 (fun k e => .inl e)
  have HKg6 := Lib.hid (fun (o : Nat) => show w6.cell? ⟨g, o, none⟩ = w5.cell? ⟨g, o, none⟩ from World.cell?_of_block (a := ⟨g, o, none⟩) (hK6'.block g lg5 (fun e => by rcases e with e | e; exact hgM e; exact HUN.out e)))
  refine hK.out _ _ ⟨(HKg6.out _).trans v0, (HKg6.out _).trans v1, (HKg6.out _).trans v2, (HKg6.out _).trans v3, (HKg6.out _).trans v4, (HKg6.out _).trans v5⟩ (fun hHeld2 => ?_)
  clear hK K hHeld
  have hHeld := hHeld2
  clear hHeld2
  refine tkH 5 (.int .i64 cA) (some 4) rfl hHeld ?_
  try simp only [Act.put,sI_,sZ_,sS_]
  refine wpAnyH_done kRf ?_ _
  try simp only [Act.put,sI_,sZ_,sS_]
  have HN6 := Lib.hid (HN5.out.world hR6 hK6' (HUs.out))
  have HK6 := Lib.hid (HK5.out.trans hK6' (fun k e => by
   rcases e with e | e
   ·exact .inl (.inl e)
   ·rcases HQ3.out k e with e2 | e2
    ·exact .inl (.inr (.inl e2))
    ·exact .inr e2))
  have HQ6 := Lib.hid (show ∀ q, uv6.ownBlock = some q → uv.ownBlock = some q ∨ w.heap.size ≤ q from fun q e => by
   rcases hq6 q e with e2 | e2
   ·exact HQ3.out q e2
   ·right; have : w5.heap.size ≤ q := e2; omega)
  clear hR6 hK6 hK6' hq6 v0 v1 v2 v3 v4 v5 hHeld
  go_wp2_with fail
  go_ret
  exact ⟨rfl, uv6, HN6.out, HK6.out, HQ6.out⟩
end Go.Proofs.YtldlandcjegikaaGreatDoor
