/- Proved: noonlaw2.WorldPlays answers true for every input and leaves its arguments as they were. Its conditions: none beyond the tied card's own. -/
import Derived.Test.YtloniibmmajlbaaDoorDoor
import Derived.Test.YtloniibmmajlbaaDoorPlaysB
import Derived.Deep.DeepCutAuto
import Derived.Deep.CutBlock
import Derived.Deep.Light
namespace Go.Proofs.YtloniibmmajlbaaDoor.lWorldPlays
open Go.ChangeShapes Go.WideShapes Go.ChangeAt Go.RowKit
set_option linter.unusedVariables false
set_option linter.unusedSimpArgs false
set_option maxRecDepth 100000 in
set_option maxHeartbeats 32000000 in
theorem good (a0 : Option Addr) (n0 c0 : Nat) (z0 : List Int) (a1 : Option Addr) (n1 c1 : Nat) (z1 : List Int) (a2 : Int) (a3 : Option Addr) (n3 c3 : Nat) (z3 : List RAct) (a4 : RLetter) (a5 : Int) (w : World)
    (h0 : IsInts w a0 n0 c0 z0) (h1 : IsInts w a1 n1 c1 z1) (h2 : -9223372036854775808 ≤ a2 ∧ a2 ≤ 9223372036854775807) (h3 : IsRecs w RAct.cells RAct.ok 3 a3 n3 c3 z3) (h4 : a4.ok) (h5 : -9223372036854775808 ≤ a5 ∧ a5 ≤ 9223372036854775807) (hg : HandleAt w) (e0 : newC z0 z1 a2 = 0) :
    Calls Tryd.prog 4 #[.slice a0 n0 c0, .slice a1 n1 c1, .int .i64 a2, .slice a3 n3 c3, .agg #[.int .i64 a4.src, .int .i64 a4.dst, .bool a4.answer, .int .i64 a4.t1, .int .i64 a4.t2, .int .i64 a4.t], .int .i64 a5] w fun e w' => e = .returned (.bool true) ∧ Below w.heap.size w w' := by
  obtain ⟨r1, r2, r3, r4, r5⟩ := newC_0 e0
  have p1 := (rateB_iff.1 r1).2
  obtain ⟨sb, rb⟩ := clocksB_get r5 r4 p1
  obtain rfl : n1 = n0 := by rw [← h0.1, ← h1.1]; exact r4
  have hn1 : 1 ≤ n1 := by rw [← h0.1]; exact r2
  have hn6 : n1 ≤ 6 := by rw [← h0.1]; exact r3
  have CB := Lib.hid (fun w' (hb : Below w.heap.size w w') => by have := r2_Begin a0 n1 c0 z0 a1 n1 c1 z1 a2 w' (h0.below hb) (h1.below hb) h2; rw [e0] at this; exact this)
  have CN := Lib.hid (fun w' (hb : Below w.heap.size w w') => world_New_u a0 n1 c0 z0 a1 n1 c1 z1 a2 w' (h0.below hb) (h1.below hb) e0)
  have CE := Lib.hid (fun c w' (hb : Below w.heap.size w w') => show Calls Tryd.prog 7 #[errV c, .int .i64 c] w' fun e w'' => e = .returned (.bool true) ∧ Below w'.heap.size w' w'' by have := Error_any c c w' (hg.below hb); simpa using this)
  have CE0 := Lib.hid (CE.out 0)
  have HI := Lib.hid h0
  have HJ := Lib.hid h1
  have HSb := Lib.hid sb
  have HRb := Lib.hid rb
  have LS := Lib.hid (show z0.length = n1 from h0.1)
  have LR := Lib.hid (show z1.length = n1 from h1.1)
  have HL4 := Lib.hid h4
  have hc0 := h0.2.2.1
  have hc1 := h1.2.2.1
  unfold maxLen at hc0 hc1
  obtain ⟨l1, l2, l3, l4, l5⟩ := h3
  unfold maxLen at l3
  have L1 := Lib.hid l1
  have L4 := Lib.hid l4
  have L5 := Lib.hid l5
  clear h0 h1 h2 h4 hg e0 r1 r2 r3 r4 r5 sb rb l1 l4 l5 p1
  go_enter Tryd.func4, Tryd.ntmps4
  go_wp2_with fail
  refine (CB.out _ (by repeat (first | with_reducible exact Below.refl _ _ | (with_reducible refine Below.alloc ?_ (by first | omega | (simp; done) | (simp; omega)) _) | (with_reducible refine Below.setCell ?_ (by first | omega | (simp; done) | (simp; omega)) _) | (with_reducible refine Below.drew ?_) | (with_reducible refine below_drewN ?_ _) | (with_reducible assumption) | (with_reducible refine bel_step (by with_reducible assumption) ?_ (by first | omega | (simp; done) | (simp; omega)))))).mono ?_
  rintro e w1 ⟨rfl, hb1⟩
  have hz1 := hb1.size
  (try simp at hz1)
  have agl : w.heap.size ≤ w.heap.size := by first | omega | (simp; done) | (simp; omega)
  have bl1 : Blk w1 (w.heap.size) 37 #[.int .i64 a4.src, .int .i64 a4.dst, .bool a4.answer, .int .i64 a4.t1, .int .i64 a4.t2, .int .i64 a4.t] := (by refine BlkG.start ?_; (repeat (first | ((with_reducible apply BlkG.done); (with_reducible assumption); exact rfl) | (with_reducible exact BlkG.newAt (by first | (with_reducible rfl) | omega | (simp; done) | (simp; omega)) rfl) | (with_reducible refine BlkG.drew ?_) | (with_reducible refine BlkG.drewN ?_) | (with_reducible refine BlkG.set ?_) | (with_reducible refine BlkG.far (by first | omega | (simp; done) | (simp; omega)) ?_) | (with_reducible refine BlkG.alloc ?_) | (with_reducible refine BlkG.bel (by with_reducible assumption) (by first | omega | (simp; done) | (simp; omega)) ?_))))
  have cl1_0 : w1.cell? ⟨w.heap.size, 0, none⟩ = some (.int .i64 a4.src) := bl1.cell 0
  have fl1_0 : w1.frozen? ⟨w.heap.size, 0, none⟩ = false := bl1.fz 0
  have cl1_1 : w1.cell? ⟨w.heap.size, 1, none⟩ = some (.int .i64 a4.dst) := bl1.cell 1
  have fl1_1 : w1.frozen? ⟨w.heap.size, 1, none⟩ = false := bl1.fz 1
  have cl1_2 : w1.cell? ⟨w.heap.size, 2, none⟩ = some (.bool a4.answer) := bl1.cell 2
  have fl1_2 : w1.frozen? ⟨w.heap.size, 2, none⟩ = false := bl1.fz 2
  have cl1_3 : w1.cell? ⟨w.heap.size, 3, none⟩ = some (.int .i64 a4.t1) := bl1.cell 3
  have fl1_3 : w1.frozen? ⟨w.heap.size, 3, none⟩ = false := bl1.fz 3
  have cl1_4 : w1.cell? ⟨w.heap.size, 4, none⟩ = some (.int .i64 a4.t2) := bl1.cell 4
  have fl1_4 : w1.frozen? ⟨w.heap.size, 4, none⟩ = false := bl1.fz 4
  have cl1_5 : w1.cell? ⟨w.heap.size, 5, none⟩ = some (.int .i64 a4.t) := bl1.cell 5
  have fl1_5 : w1.frozen? ⟨w.heap.size, 5, none⟩ = false := bl1.fz 5
  have ll1 : w.heap.size < w1.heap.size := bl1.lt
  have HB1 : Below w.heap.size w w1 := (by repeat (first | with_reducible exact Below.refl _ _ | (with_reducible refine Below.alloc ?_ (by first | omega | (simp; done) | (simp; omega)) _) | (with_reducible refine Below.setCell ?_ (by first | omega | (simp; done) | (simp; omega)) _) | (with_reducible refine Below.drew ?_) | (with_reducible refine below_drewN ?_ _) | (with_reducible assumption) | (with_reducible refine bel_step (by with_reducible assumption) ?_ (by first | omega | (simp; done) | (simp; omega)))))
  have HZ1 := HB1.size
  clear hb1 hz1
  go_wp2_with fail
  refine (CN.out _ HB1).mono ?_
  rintro e w2 ⟨g, B, rfl, hgw, hw2, hb2⟩
  have HB2 : Below w.heap.size w w2 := HB1.trans (hb2.mono HZ1)
  have HW2 := Lib.hid hw2
  have BL2 := Lib.hid (bl1.below hb2 (by omega))
  have hz2 := HB2.size
  have hg0 : w.heap.size ≤ g := by omega
  have hlg : w.heap.size < g := by omega
  have hBl : g < B ∧ B ≤ w2.heap.size := ⟨hw2.gB, hw2.Bw⟩
  clear hw2 hb2 HB1 HZ1 bl1 cl1_0 cl1_1 cl1_2 cl1_3 cl1_4 cl1_5 fl1_0 fl1_1 fl1_2 fl1_3 fl1_4 fl1_5 ll1 CB CN
  go_wp2_with fail
  refine (CE0.out _ HB2).mono ?_
  rintro e w3 ⟨rfl, hb3⟩
  have HB3 : Below w.heap.size w w3 := HB2.trans (hb3.mono hz2)
  have HW3 := Lib.hid (HW2.out.below hb3)
  have BL3 := Lib.hid (BL2.out.below hb3 (by have := BL2.out.lt; exact this))
  have hz3 := HB3.size
  have hz23 := hb3.size
  clear hb3 HB2 HW2 BL2
  go_wp2_with fail
  obtain ⟨M, hM⟩ : ∃ M, w3.heap.size = M := ⟨_, rfl⟩
  obtain ⟨w4, hw4⟩ : ∃ W, (w3.alloc (.cells #[.slice a0 n1 c0, .slice a1 n1 c1, .int .i64 0, .slice none 0 0] 43)) = W := ⟨_, rfl⟩
  have hB4 : Both w w4 g B M (M + 1) n1 a0 a1 c0 c1 z0 z1 0 0 (.slice none 0 0) (.slice none 0 0) [] [] := by
    have hs4 : w4.heap.size = M + 1 := by rw [← hw4, ← hM]; simp
    have hal : Below w3.heap.size w3 w4 := by rw [← hw4]; exact (Below.refl _ _).alloc (Nat.le_refl _) _
    refine ⟨HW3.out.below hal, ⟨?_, HB3.trans (hal.mono hz3), by omega, by omega, by omega, own_nil _ _ _ _, by simp, by simp, by omega, by omega⟩, hg0, by have := HW3.out.Bw; omega, fun q e => by simp [Value.ownBlock] at e⟩
    rw [← hw4, ← hM]
    exact Blk.new w3 _ _
  have hl4 : Blk w4 w.heap.size 37 #[.int .i64 a4.src, .int .i64 a4.dst, .bool a4.answer, .int .i64 a4.t1, .int .i64 a4.t2, .int .i64 a4.t] := by rw [← hw4]; exact BL3.out.alloc _
  have hMl : w.heap.size < M ∧ g < M := by have := HW3.out.Bw; omega
  rw [hw4, hM]
  have HB4 := Lib.hid hB4
  have HL4b := Lib.hid hl4
  clear hB4 hl4 hw4 hM HB3 HW3 BL3 hz2 hz3 hz23 hgw
  obtain ⟨hMl, hMg⟩ := hMl
  go_loopw [18] (fun iv wr => ∃ (k : Nat) (t : Int) (uv uv2 : Value) (us : List RLetter), iv = .int .i64 k ∧ k ≤ n3 ∧ k ≤ 60 ∧ Both w wr g B M (M + 1) n1 a0 a1 c0 c1 z0 z1 t t uv uv2 us us ∧ Blk wr w.heap.size 37 #[.int .i64 a4.src, .int .i64 a4.dst, .bool a4.answer, .int .i64 a4.t1, .int .i64 a4.t2, .int .i64 a4.t]) (fun iv _ => n3 - (intOf iv).toNat)
  case atStart => exact ⟨0, 0, _, _, [], rfl, by omega, by omega, HB4.out, HL4b.out⟩
  case round =>
    obtain ⟨k, t, uv, uv2, us, rfl, hk, hk60, hB, hbl⟩ := hrel
    have HBo := Lib.hid hB
    have HBl := Lib.hid hbl
    have HZr := hB.old.size
    have hul : ∀ q, uv.ownBlock = some q → B ≤ q := fun q e => (hB.W.low q e).1
    have hul2 : ∀ q, uv2.ownBlock = some q → M + 1 ≤ q := fun q e => (hB.R.low q e).1
    have HU1 := Lib.hid (show uv.ownBlock ≠ some w.heap.size from fun e => by have := hul _ e; omega)
    have HU2 := Lib.hid (show uv2.ownBlock ≠ some w.heap.size from fun e => by have := hul2 _ e; omega)
    clear HB4 HL4b
    by_cases d1 : k < n3
    · by_cases d2 : k < 60
      · obtain ⟨z, hz⟩ : ∃ z, z3[k]? = some z := ⟨_, List.getElem?_eq_getElem (by rw [L1.out]; omega)⟩
        obtain ⟨b3, off3, rfl, hb3, hc3⟩ := L5.out (by omega)
        have HX := Lib.hid (fun wr' (hb : Below w.heap.size w wr') => show wr'.cell? ⟨b3, off3 + k * 3, none⟩ = some (.int .i64 z.what) ∧ wr'.cell? ⟨b3, off3 + k * 3 + 1, none⟩ = some (.int .i64 z.a) ∧ wr'.cell? ⟨b3, off3 + k * 3 + 2, none⟩ = some (.int .i64 z.b) from
          ⟨(hb.cell (p := ⟨b3, off3 + k * 3, none⟩) hb3).trans (hc3 k z hz 0 _ rfl), (hb.cell (p := ⟨b3, off3 + k * 3 + 1, none⟩) hb3).trans (hc3 k z hz 1 _ rfl), (hb.cell (p := ⟨b3, off3 + k * 3 + 2, none⟩) hb3).trans (hc3 k z hz 2 _ rfl)⟩)
        obtain ⟨c, got, t', us', hDW, hDR, hgot⟩ := both_Do n1 z0 z1 t us z (L4.out z (List.mem_of_getElem? hz)) ⟨hB.W.t0, hB.W.t1, hB.W.l40, hB.W.lok⟩ LS.out LR.out hn6 HSb.out HRb.out
        obtain ⟨x0, x1, x2⟩ := HX.out wr hB.old
        have HDW := Lib.hid hDW
        have hDR' := hDR w M (M + 1) a0 a1 c0 c1 uv2 wr hB.R HI.out HJ.out
        have q0 : (0 : Int) ≤ (k : Int) := by omega
        have q1 : (k : Int) < (n3 : Int) := by omega
        have q2 : (k : Int) < 60 := by omega
        clear hc3 hz hDW hDR hul hul2 hB hbl
        cases got with
        | none =>
          have CR := Lib.hid hDR'
          simp only [GotV, noL, Option.isSome] at CR
          clear hDR' hgot
          go_wp2_with fail
          refine CR.out.mono ?_
          rintro e v2 ⟨rfl, uvr, hR2, hK2, hq2⟩
          have hB2 := HBo.out.right hR2 hK2 hq2
          have hl2 := far_right HBo.out HBl.out hK2 (by omega) HU2.out
          obtain ⟨y0, y1, y2⟩ := HX.out v2 hB2.old
          have HB2 := Lib.hid hB2
          have HL2 := Lib.hid hl2
          have hzv2 := hB2.old.size
          have hb3v : b3 < v2.heap.size := by omega
          have HUo := Lib.hid (fun q (e : uvr.ownBlock = some q) => (hB2.R.low q e).2)
          have HUp := Lib.hid (fun q (e : uv.ownBlock = some q) => (hB2.W.low q e).2)
          clear hR2 hK2 hq2 hB2 hl2 x0 x1 x2 CR
          go_wp2_with fail
          have HAl := Lib.hid ((Below.refl v2.heap.size v2).alloc (Nat.le_refl _) (.cells #[.int .i64 0, .int .i64 0, .bool false, .int .i64 0, .int .i64 0, .int .i64 0] 37))
          refine (HDW.out g B uv _ (HB2.out.W.below HAl.out)).mono ?_
          rintro e v3 ⟨P, uv', rfl, hP, hW3, hK3, hq3⟩
          obtain rfl : P = .pointer none := hP
          have hB2a := HB2.out.below HAl.out
          have hB3 := hB2a.left hW3 hK3 hq3
          have hl3 := far_left hB2a (HL2.out.alloc _) hK3 (by omega) HU1.out
          have HB3 := Lib.hid hB3
          have HL3 := Lib.hid hl3
          have hzv3 := hB3.old.size
          clear hW3 hK3 hq3 hB2a hB3 hl3 y0 y1 y2 HAl
          go_wp2_with fail
          refine (CE.out c v3 HB3.out.old).mono ?_
          rintro e v4 ⟨rfl, hb4⟩
          have HB4 := Lib.hid (HB3.out.below hb4)
          have HL4c := Lib.hid (HL3.out.below hb4 (by have := HL3.out.lt; exact this))
          have hzv4 := HB4.out.old.size
          clear hb4 HB3 HL3 HB2 HL2
          go_wp2_with fail
          go_quiet (fail)
          go_wp2_with fail
          have CU := Lib.hid (fun W (hb : Below v4.heap.size v4 W) => world_Under g B n1 z0 z1 t' uv' us' W (HB4.out.W.below hb))
          obtain ⟨A2, m2, k2, rfl, hI2⟩ := own_recs RLetter.cells RLetter.ok 6 (fun _ => rfl) HB4.out.R.row HB4.out.R.lok
          obtain rfl : us'.length = m2 := hI2.1
          have HI2 := Lib.hid hI2
          have hM4 : M < v4.heap.size := HB4.out.R.blk.lt
          have y3 : v4.cell? ⟨M, 3, none⟩ = some (.slice A2 us'.length k2) := HB4.out.R.blk.cell 3
          have y2 : v4.cell? ⟨M, 2, none⟩ = some (.int .i64 t') := HB4.out.R.blk.cell 2
          clear hI2
          refine wp_region_held_drew (S := fun w9 => w9.cell? ⟨M, 3, none⟩ = some (.slice A2 us'.length k2)) (by kernel_rfl) (y3) (fun hHeld => ?_)
          refine take_d (i := 0) (v := (.pointer (some ⟨g, 0, none⟩))) (d := some 113) rfl (by kernel_rfl) (by kernel_rfl) (by kernel_rfl) (by kernel_rfl) (fun _ _ _ h => h) (Or.inl ⟨by kernel_rfl, fun w9 hw9 => by (go_simp)⟩) hHeld ?_
          try simp only [Act.put, List.setIfInBounds_toArray, List.set_cons_zero, List.set_cons_succ]
          refine take_d (i := 2) (v := (.pointer (some ⟨M, 0, none⟩))) (d := some 115) rfl (by kernel_rfl) (by kernel_rfl) (by kernel_rfl) (by kernel_rfl) (fun _ _ _ h => h) (Or.inl ⟨by kernel_rfl, fun w9 hw9 => by (go_simp)⟩) hHeld ?_
          try simp only [Act.put, List.setIfInBounds_toArray, List.set_cons_zero, List.set_cons_succ]
          refine take_d (i := 3) (v := (.pointer (some ⟨M, 0, none⟩))) (d := some 116) rfl (by kernel_rfl) (by kernel_rfl) (by kernel_rfl) (by kernel_rfl) (fun _ _ _ h => h) (Or.inl ⟨by kernel_rfl, fun w9 hw9 => by (go_simp)⟩) hHeld ?_
          try simp only [Act.put, List.setIfInBounds_toArray, List.set_cons_zero, List.set_cons_succ]
          refine take_d (i := 4) (v := (.pointer (some ⟨M, 3, none⟩))) (d := some 117) rfl (by kernel_rfl) (by kernel_rfl) (by kernel_rfl) (by kernel_rfl) (fun _ _ _ h => h) (Or.inl ⟨by kernel_rfl, fun w9 hw9 => by (go_simp)⟩) hHeld ?_
          try simp only [Act.put, List.setIfInBounds_toArray, List.set_cons_zero, List.set_cons_succ]
          refine take_d (i := 5) (v := (.slice A2 us'.length k2)) (d := some 118) rfl (by kernel_rfl) (by kernel_rfl) (by kernel_rfl) (by kernel_rfl) (fun _ _ _ h => h) (Or.inl ⟨by kernel_rfl, fun w9 hw9 => by (go_simp)⟩) hHeld ?_
          try simp only [Act.put, List.setIfInBounds_toArray, List.set_cons_zero, List.set_cons_succ]
          try simp only [Act.put, List.setIfInBounds_toArray, List.set_cons_zero, List.set_cons_succ]
          refine wpAnyH_ready (rs := [1]) (by kernel_rfl) (by simp) ?_
          refine AllReadyH.cons rfl (fun K hK => ?_) AllReadyH.nil
          go_simp
          refine (CU.out _ (by exact (by repeat (first | with_reducible exact Below.refl _ _ | (with_reducible refine Below.alloc ?_ (by first | omega | (simp; done) | (simp; omega)) _) | (with_reducible refine Below.setCell ?_ (by first | omega | (simp; done) | (simp; omega)) _) | (with_reducible refine Below.drew ?_) | (with_reducible refine below_drewN ?_ _) | (with_reducible assumption) | (with_reducible refine bel_step (by with_reducible assumption) ?_ (by first | omega | (simp; done) | (simp; omega))))))).mono ?_
          rintro e v5 ⟨A3, k3, rfl, j1, j2, j3, hb5⟩
          have HB45 : Below v4.heap.size v4 v5 := (show Below v4.heap.size v4 ((v4.drewN nq).drew) from by exact (by repeat (first | with_reducible exact Below.refl _ _ | (with_reducible refine Below.alloc ?_ (by first | omega | (simp; done) | (simp; omega)) _) | (with_reducible refine Below.setCell ?_ (by first | omega | (simp; done) | (simp; omega)) _) | (with_reducible refine Below.drew ?_) | (with_reducible refine below_drewN ?_ _) | (with_reducible assumption) | (with_reducible refine bel_step (by with_reducible assumption) ?_ (by first | omega | (simp; done) | (simp; omega)))))).trans hb5
          have J3 := Lib.hid (same_Letters A3 A2 _ k3 _ k2 us' v5 j3 (HI2.out.below HB45))
          have HB45h := Lib.hid HB45
          clear j1 j2 j3 hb5
          refine hK.out _ _ ((HB45.cell (p := ⟨M, 3, none⟩) hM4).trans y3) (fun hHeld2 => ?_)
          clear hK K hHeld
          have hHeld := hHeld2
          try simp only [Act.put, List.setIfInBounds_toArray, List.set_cons_zero, List.set_cons_succ]
          try simp only [Act.put, List.setIfInBounds_toArray, List.set_cons_zero, List.set_cons_succ]
          refine wpAnyH_ready (rs := [6]) (by kernel_rfl) (by simp) ?_
          refine AllReadyH.cons rfl (fun K hK => ?_) AllReadyH.nil
          go_simp
          refine J3.out.mono ?_
          rintro e v6 ⟨rfl, hb6⟩
          have HB46 : Below v4.heap.size v4 v6 := HB45h.out.trans (hb6.mono HB45h.out.size)
          clear hb6
          refine hK.out _ _ ((HB46.cell (p := ⟨M, 3, none⟩) hM4).trans y3) (fun hHeld2 => ?_)
          clear hK K hHeld
          have hHeld := hHeld2
          try simp only [Act.put, List.setIfInBounds_toArray, List.set_cons_zero, List.set_cons_succ]
          refine take_d (i := 7) (v := (.bool true)) (d := some 24) rfl (by kernel_rfl) (by kernel_rfl) (by kernel_rfl) (by kernel_rfl) (fun _ _ _ h => h) (Or.inl ⟨by kernel_rfl, fun w9 hw9 => by (go_simp)⟩) hHeld ?_
          try simp only [Act.put, List.setIfInBounds_toArray, List.set_cons_zero, List.set_cons_succ]
          refine wpAnyH_done (by kernel_rfl) ?_ _
          try simp only [Act.put, List.setIfInBounds_toArray, List.set_cons_zero, List.set_cons_succ]
          have CT := Lib.hid (fun W (hb : Below v6.heap.size v6 W) => world_Time g n1 z0 z1 t' uv' W ((HB4.out.W.below HB46).below hb).at)
          have z2 : v6.cell? ⟨M, 2, none⟩ = some (.int .i64 t') := (HB46.cell (p := ⟨M, 2, none⟩) hM4).trans y2
          have hz6 := HB46.size
          have HB6 := Lib.hid (HB4.out.below HB46)
          have HL6 := Lib.hid (HL4c.out.below HB46 (by have := HL4c.out.lt; exact this))
          have hM6 : M < v6.heap.size := by omega
          clear J3 HB45h HB45 HB46 CU HI2 y2 y3 HB4 HL4c
          go_wp2_with fail
          go_quiet ((go_at_call 14; exact quiet_left (CT.out _ (by exact (by repeat (first | with_reducible exact Below.refl _ _ | (with_reducible refine Below.alloc ?_ (by first | omega | (simp; done) | (simp; omega)) _) | (with_reducible refine Below.setCell ?_ (by first | omega | (simp; done) | (simp; omega)) _) | (with_reducible refine Below.drew ?_) | (with_reducible refine below_drewN ?_ _) | (with_reducible assumption) | (with_reducible refine bel_step (by with_reducible assumption) ?_ (by first | omega | (simp; done) | (simp; omega)))))))))
          go_wp2_with fail
          go_roundw
          case rel => exact ⟨k + 1, t', _, _, us', by go_num, by omega, by omega, HB6.out.below (by exact (by repeat (first | with_reducible exact Below.refl _ _ | (with_reducible refine Below.alloc ?_ (by first | omega | (simp; done) | (simp; omega)) _) | (with_reducible refine Below.setCell ?_ (by first | omega | (simp; done) | (simp; omega)) _) | (with_reducible refine Below.drew ?_) | (with_reducible refine below_drewN ?_ _) | (with_reducible assumption) | (with_reducible refine bel_step (by with_reducible assumption) ?_ (by first | omega | (simp; done) | (simp; omega)))))), HL6.out⟩
          case measure => go_light; simp [intOf]; omega
        | some L =>
          obtain ⟨rfl, hLok⟩ := hgot L rfl
          have CR := Lib.hid hDR'
          simp only [GotV, RLetter.cells, Option.isSome] at CR
          clear hDR' hgot
          go_wp2_with fail
          refine CR.out.mono ?_
          rintro e v2 ⟨rfl, uvr, hR2, hK2, hq2⟩
          have hB2 := HBo.out.right hR2 hK2 hq2
          have hl2 := far_right HBo.out HBl.out hK2 (by omega) HU2.out
          obtain ⟨y0, y1, y2⟩ := HX.out v2 hB2.old
          have HB2 := Lib.hid hB2
          have HL2 := Lib.hid hl2
          have hzv2 := hB2.old.size
          have hb3v : b3 < v2.heap.size := by omega
          have HUo := Lib.hid (fun q (e : uvr.ownBlock = some q) => (hB2.R.low q e).2)
          have HUp := Lib.hid (fun q (e : uv.ownBlock = some q) => (hB2.W.low q e).2)
          clear hR2 hK2 hq2 hB2 hl2 x0 x1 x2 CR
          go_wp2_with fail
          have HAl := Lib.hid ((Below.refl v2.heap.size v2).alloc (Nat.le_refl _) (.cells #[.int .i64 L.src, .int .i64 L.dst, .bool L.answer, .int .i64 L.t1, .int .i64 L.t2, .int .i64 L.t] 37))
          refine (HDW.out g B uv _ (HB2.out.W.below HAl.out)).mono ?_
          rintro e v3 ⟨P, uvp, rfl, hP, hW3, hK3, hq3⟩
          obtain ⟨p, rfl, hp, hbp, hpo⟩ := hP
          have hB2a := HB2.out.below HAl.out
          have hB3 := hB2a.left hW3 hK3 hq3
          have hl3 := far_left hB2a (HL2.out.alloc _) hK3 (by omega) HU1.out
          have hm3 := far_left hB2a (Blk.new v2 37 #[.int .i64 L.src, .int .i64 L.dst, .bool L.answer, .int .i64 L.t1, .int .i64 L.t2, .int .i64 L.t]) hK3 (by have := HB2.out.W.gB; have := HB2.out.W.Bw; omega) (fun e => by have := HUp.out _ e; omega)
          obtain ⟨m, hm⟩ : ∃ m, v2.heap.size = m := ⟨_, rfl⟩
          have hMm : M < m ∧ w.heap.size < m ∧ g < m ∧ m < p := by have := HB2.out.R.MB; have := HB2.out.R.Bw; simp at hp; omega
          have hum : uvp.ownBlock ≠ some m := fun e => by
            rcases hq3 m e with h1 | h1
            · have := HUp.out _ h1; omega
            · simp at h1; omega
          have hrm : ∀ q, uvr.ownBlock = some q → q < m := fun q e => by have := HUo.out q e; omega
          rw [hm] at hm3 ⊢
          have HB3 := Lib.hid hB3
          have HL3 := Lib.hid hl3
          have HM3 := Lib.hid hm3
          have HP3 := Lib.hid hbp
          have HPo := Lib.hid hpo
          have HUm := Lib.hid hum
          have HRm := Lib.hid hrm
          have hzv3 := hB3.old.size
          clear hW3 hK3 hq3 hB2a hB3 hl3 y0 y1 y2 HAl hm3 hbp hpo hum hrm hp HUo HUp hm
          obtain ⟨hm1, hm2, hm3, hm4⟩ := hMm
          go_wp2_with fail
          refine (CE0.out v3 HB3.out.old).mono ?_
          rintro e v4 ⟨rfl, hb4⟩
          have HB4a := Lib.hid (HB3.out.below hb4)
          have HL4a := Lib.hid (HL3.out.below hb4 (by have := HL3.out.lt; exact this))
          have HM4 := Lib.hid (HM3.out.below hb4 (by have := HM3.out.lt; exact this))
          have HP4 := Lib.hid (HP3.out.below hb4 (by have := HP3.out.lt; exact this))
          have hzv4 := HB4a.out.old.size
          have LC4 := Lib.hid (show LCells v4 p L ∧ LCells v4 m L from ⟨lcells HP4.out, lcells HM4.out⟩)
          clear hb4 HB3 HL3 HB2 HL2 HM3 HP3
          obtain ⟨⟨a0', a1', a2', a3', a4', a5'⟩, ⟨b0', b1', b2', b3', b4', b5'⟩⟩ := LC4.out
          obtain ⟨cA, usA, hAW, hAR⟩ := both_Ans n1 z0 z1 t' us' L hLok LS.out LR.out hn6 HSb.out HRb.out
          have CAW := Lib.hid (fun W (hb : Below v4.heap.size v4 W) => hAW g B uvp W (HB4a.out.W.below hb))
          have CAR := Lib.hid (fun (B5 : Value) (v5 : World) (h : Both w v5 g B M (M + 1) n1 a0 a1 c0 c1 z0 z1 t' t' B5 uvr usA us') => hAR w M (M + 1) a0 a1 c0 c1 uvr v5 h.R HI.out HJ.out)
          clear hAW hAR hLok
          go_wp2_with fail
          go_quiet (fail)
          go_wp2_with fail
          clear a0' a1' a2' a3' a4' a5' b0' b1' b2' b3' b4' b5'
          refine wp_region_held_drew (S := fun w9 => (LCells w9 p L ∧ LCells w9 m L)) (by kernel_rfl) (LC4.out) (fun hHeld => ?_)
          refine take_d (i := 0) (v := (.pointer (some ⟨g, 0, none⟩))) (d := some 104) rfl (by kernel_rfl) (by kernel_rfl) (by kernel_rfl) (by kernel_rfl) (fun _ _ _ h => h) (Or.inl ⟨by kernel_rfl, fun w9 hw9 => by (go_simp)⟩) hHeld ?_
          try simp only [Act.put, List.setIfInBounds_toArray, List.set_cons_zero, List.set_cons_succ]
          refine take_d (i := 1) (v := (.pointer (some ⟨p, 0, none⟩))) (d := some 105) rfl (by kernel_rfl) (by kernel_rfl) (by kernel_rfl) (by kernel_rfl) (fun _ _ _ h => h) (Or.inl ⟨by kernel_rfl, fun w9 hw9 => by (go_simp)⟩) hHeld ?_
          try simp only [Act.put, List.setIfInBounds_toArray, List.set_cons_zero, List.set_cons_succ]
          refine take_d (i := 2) (v := (.pointer (some ⟨p, 0, none⟩))) (d := some 106) rfl (by kernel_rfl) (by kernel_rfl) (by kernel_rfl) (by kernel_rfl) (fun _ _ _ h => h) (Or.inl ⟨by kernel_rfl, fun w9 hw9 => by (go_simp)⟩) hHeld ?_
          try simp only [Act.put, List.setIfInBounds_toArray, List.set_cons_zero, List.set_cons_succ]
          refine take_d (i := 3) (v := (.agg #[.int .i64 L.src, .int .i64 L.dst, .bool L.answer, .int .i64 L.t1, .int .i64 L.t2, .int .i64 L.t])) (d := some 107) rfl (by kernel_rfl) (by kernel_rfl) (by kernel_rfl) (by kernel_rfl) (fun _ _ _ h => h) (Or.inl ⟨by kernel_rfl, fun w9 hw9 => by (obtain ⟨⟨a0', a1', a2', a3', a4', a5'⟩, _⟩ := hw9; go_simp)⟩) hHeld ?_
          try simp only [Act.put, List.setIfInBounds_toArray, List.set_cons_zero, List.set_cons_succ]
          refine take_d (i := 5) (v := (.pointer (some ⟨M, 0, none⟩))) (d := some 109) rfl (by kernel_rfl) (by kernel_rfl) (by kernel_rfl) (by kernel_rfl) (fun _ _ _ h => h) (Or.inl ⟨by kernel_rfl, fun w9 hw9 => by (go_simp)⟩) hHeld ?_
          try simp only [Act.put, List.setIfInBounds_toArray, List.set_cons_zero, List.set_cons_succ]
          refine take_d (i := 6) (v := (.agg #[.int .i64 L.src, .int .i64 L.dst, .bool L.answer, .int .i64 L.t1, .int .i64 L.t2, .int .i64 L.t])) (d := some 110) rfl (by kernel_rfl) (by kernel_rfl) (by kernel_rfl) (by kernel_rfl) (fun _ _ _ h => h) (Or.inl ⟨by kernel_rfl, fun w9 hw9 => by (obtain ⟨_, ⟨a0', a1', a2', a3', a4', a5'⟩⟩ := hw9; go_simp)⟩) hHeld ?_
          try simp only [Act.put, List.setIfInBounds_toArray, List.set_cons_zero, List.set_cons_succ]
          try simp only [Act.put, List.setIfInBounds_toArray, List.set_cons_zero, List.set_cons_succ]
          refine wpAnyH_ready (rs := [4]) (by kernel_rfl) (by simp) ?_
          refine AllReadyH.cons rfl (fun K hK => ?_) AllReadyH.nil
          go_simp
          refine (CAW.out _ (by exact (by repeat (first | with_reducible exact Below.refl _ _ | (with_reducible refine Below.alloc ?_ (by first | omega | (simp; done) | (simp; omega)) _) | (with_reducible refine Below.setCell ?_ (by first | omega | (simp; done) | (simp; omega)) _) | (with_reducible refine Below.drew ?_) | (with_reducible refine below_drewN ?_ _) | (with_reducible assumption) | (with_reducible refine bel_step (by with_reducible assumption) ?_ (by first | omega | (simp; done) | (simp; omega))))))).mono ?_
          rintro e v5 ⟨rfl, uvq, hW5, hK5, hq5⟩
          have HBd := HB4a.out.below (show Below v4.heap.size v4 ((v4.drewN nq).drew) from by exact (by repeat (first | with_reducible exact Below.refl _ _ | (with_reducible refine Below.alloc ?_ (by first | omega | (simp; done) | (simp; omega)) _) | (with_reducible refine Below.setCell ?_ (by first | omega | (simp; done) | (simp; omega)) _) | (with_reducible refine Below.drew ?_) | (with_reducible refine below_drewN ?_ _) | (with_reducible assumption) | (with_reducible refine bel_step (by with_reducible assumption) ?_ (by first | omega | (simp; done) | (simp; omega))))))
          have HB5 := Lib.hid (HBd.left hW5 hK5 hq5)
          have HL5 := Lib.hid (far_left HBd ((HL4a.out.drewN nq).drew) hK5 (by omega) (fun e => by have := (HBd.W.low _ e).1; omega))
          have HM5 := Lib.hid (far_left HBd ((HM4.out.drewN nq).drew) hK5 (by omega) HUm.out)
          have HP5 := Lib.hid (far_left HBd ((HP4.out.drewN nq).drew) hK5 (by omega) HPo.out)
          clear hW5 hK5 hq5 HBd
          refine hK.out _ _ (⟨lcells HP5.out, lcells HM5.out⟩) (fun hHeld2 => ?_)
          clear hK K hHeld
          have hHeld := hHeld2
          try simp only [Act.put, List.setIfInBounds_toArray, List.set_cons_zero, List.set_cons_succ]
          try simp only [Act.put, List.setIfInBounds_toArray, List.set_cons_zero, List.set_cons_succ]
          refine wpAnyH_ready (rs := [7]) (by kernel_rfl) (by simp) ?_
          refine AllReadyH.cons rfl (fun K hK => ?_) AllReadyH.nil
          go_simp
          refine (CAR.out uvq v5 HB5.out).mono ?_
          rintro e v6 ⟨rfl, uvs, hR6, hK6, hq6⟩
          have HB6 := Lib.hid (HB5.out.right hR6 hK6 hq6)
          have HL6 := Lib.hid (far_right HB5.out HL5.out hK6 (by omega) (fun e => by have := (HB5.out.R.low _ e).1; omega))
          have HM6 := Lib.hid (far_right HB5.out HM5.out hK6 (by omega) (fun e => by have := HRm.out _ e; omega))
          have HP6 := Lib.hid (far_right HB5.out HP5.out hK6 (by omega) (fun e => by have := HRm.out _ e; omega))
          clear hR6 hK6 hq6
          refine hK.out _ _ (⟨lcells HP6.out, lcells HM6.out⟩) (fun hHeld2 => ?_)
          clear hK K hHeld
          have hHeld := hHeld2
          try simp only [Act.put, List.setIfInBounds_toArray, List.set_cons_zero, List.set_cons_succ]
          try simp only [Act.put, List.setIfInBounds_toArray, List.set_cons_zero, List.set_cons_succ]
          refine wpAnyH_ready (rs := [8]) (by kernel_rfl) (by simp) ?_
          refine AllReadyH.cons rfl (fun K hK => ?_) AllReadyH.nil
          go_simp
          refine (CE.out cA v6 HB6.out.old).mono ?_
          rintro e v7 ⟨rfl, hb7⟩
          have HB7 := Lib.hid (HB6.out.below hb7)
          have HL7 := Lib.hid (HL6.out.below hb7 (by have := HL6.out.lt; exact this))
          have HM7 := HM6.out.below hb7 (by have := HM6.out.lt; exact this)
          have HP7 := HP6.out.below hb7 (by have := HP6.out.lt; exact this)
          clear hb7
          refine hK.out _ _ (⟨lcells HP7, lcells HM7⟩) (fun hHeld2 => ?_)
          clear hK K hHeld
          have hHeld := hHeld2
          try simp only [Act.put, List.setIfInBounds_toArray, List.set_cons_zero, List.set_cons_succ]
          refine take_d (i := 9) (v := (.bool true)) (d := some 16) rfl (by kernel_rfl) (by kernel_rfl) (by kernel_rfl) (by kernel_rfl) (fun _ _ _ h => h) (Or.inl ⟨by kernel_rfl, fun w9 hw9 => by (go_simp)⟩) hHeld ?_
          try simp only [Act.put, List.setIfInBounds_toArray, List.set_cons_zero, List.set_cons_succ]
          refine wpAnyH_done (by kernel_rfl) ?_ _
          try simp only [Act.put, List.setIfInBounds_toArray, List.set_cons_zero, List.set_cons_succ]
          clear HB4a HL4a HM4 HP4 LC4 HPo HUm HRm HB5 HL5 HM5 HP5 HB6 HL6 HM6 HP6 HM7 HP7 CAW CAR
          obtain ⟨v4', hv4'⟩ : ∃ x, v4 = x := ⟨_, rfl⟩
          clear hv4'
          go_wp2_with fail
          have CU := Lib.hid (fun W (hb : Below v7.heap.size v7 W) => world_Under g B n1 z0 z1 t' uvq usA W (HB7.out.W.below hb))
          obtain ⟨A2, m2, k2, rfl, hI2⟩ := own_recs RLetter.cells RLetter.ok 6 (fun _ => rfl) HB7.out.R.row HB7.out.R.lok
          obtain rfl : usA.length = m2 := hI2.1
          have HI2 := Lib.hid hI2
          have hM4 : M < v7.heap.size := HB7.out.R.blk.lt
          have y3 : v7.cell? ⟨M, 3, none⟩ = some (.slice A2 usA.length k2) := HB7.out.R.blk.cell 3
          have y2 : v7.cell? ⟨M, 2, none⟩ = some (.int .i64 t') := HB7.out.R.blk.cell 2
          clear hI2
          refine wp_region_held_drew (S := fun w9 => w9.cell? ⟨M, 3, none⟩ = some (.slice A2 usA.length k2)) (by kernel_rfl) (y3) (fun hHeld => ?_)
          refine take_d (i := 0) (v := (.pointer (some ⟨g, 0, none⟩))) (d := some 113) rfl (by kernel_rfl) (by kernel_rfl) (by kernel_rfl) (by kernel_rfl) (fun _ _ _ h => h) (Or.inl ⟨by kernel_rfl, fun w9 hw9 => by (go_simp)⟩) hHeld ?_
          try simp only [Act.put, List.setIfInBounds_toArray, List.set_cons_zero, List.set_cons_succ]
          refine take_d (i := 2) (v := (.pointer (some ⟨M, 0, none⟩))) (d := some 115) rfl (by kernel_rfl) (by kernel_rfl) (by kernel_rfl) (by kernel_rfl) (fun _ _ _ h => h) (Or.inl ⟨by kernel_rfl, fun w9 hw9 => by (go_simp)⟩) hHeld ?_
          try simp only [Act.put, List.setIfInBounds_toArray, List.set_cons_zero, List.set_cons_succ]
          refine take_d (i := 3) (v := (.pointer (some ⟨M, 0, none⟩))) (d := some 116) rfl (by kernel_rfl) (by kernel_rfl) (by kernel_rfl) (by kernel_rfl) (fun _ _ _ h => h) (Or.inl ⟨by kernel_rfl, fun w9 hw9 => by (go_simp)⟩) hHeld ?_
          try simp only [Act.put, List.setIfInBounds_toArray, List.set_cons_zero, List.set_cons_succ]
          refine take_d (i := 4) (v := (.pointer (some ⟨M, 3, none⟩))) (d := some 117) rfl (by kernel_rfl) (by kernel_rfl) (by kernel_rfl) (by kernel_rfl) (fun _ _ _ h => h) (Or.inl ⟨by kernel_rfl, fun w9 hw9 => by (go_simp)⟩) hHeld ?_
          try simp only [Act.put, List.setIfInBounds_toArray, List.set_cons_zero, List.set_cons_succ]
          refine take_d (i := 5) (v := (.slice A2 usA.length k2)) (d := some 118) rfl (by kernel_rfl) (by kernel_rfl) (by kernel_rfl) (by kernel_rfl) (fun _ _ _ h => h) (Or.inl ⟨by kernel_rfl, fun w9 hw9 => by (go_simp)⟩) hHeld ?_
          try simp only [Act.put, List.setIfInBounds_toArray, List.set_cons_zero, List.set_cons_succ]
          try simp only [Act.put, List.setIfInBounds_toArray, List.set_cons_zero, List.set_cons_succ]
          refine wpAnyH_ready (rs := [1]) (by kernel_rfl) (by simp) ?_
          refine AllReadyH.cons rfl (fun K hK => ?_) AllReadyH.nil
          go_simp
          refine (CU.out _ (by exact (by repeat (first | with_reducible exact Below.refl _ _ | (with_reducible refine Below.alloc ?_ (by first | omega | (simp; done) | (simp; omega)) _) | (with_reducible refine Below.setCell ?_ (by first | omega | (simp; done) | (simp; omega)) _) | (with_reducible refine Below.drew ?_) | (with_reducible refine below_drewN ?_ _) | (with_reducible assumption) | (with_reducible refine bel_step (by with_reducible assumption) ?_ (by first | omega | (simp; done) | (simp; omega))))))).mono ?_
          rintro e x5 ⟨A3, k3, rfl, j1, j2, j3, hb5⟩
          have HB75 : Below v7.heap.size v7 x5 := (show Below v7.heap.size v7 (v7.drew) from by exact (by repeat (first | with_reducible exact Below.refl _ _ | (with_reducible refine Below.alloc ?_ (by first | omega | (simp; done) | (simp; omega)) _) | (with_reducible refine Below.setCell ?_ (by first | omega | (simp; done) | (simp; omega)) _) | (with_reducible refine Below.drew ?_) | (with_reducible refine below_drewN ?_ _) | (with_reducible assumption) | (with_reducible refine bel_step (by with_reducible assumption) ?_ (by first | omega | (simp; done) | (simp; omega)))))).trans hb5
          have J3 := Lib.hid (same_Letters A3 A2 _ k3 _ k2 usA x5 j3 (HI2.out.below HB75))
          have HB75h := Lib.hid HB75
          clear j1 j2 j3 hb5
          refine hK.out _ _ ((HB75.cell (p := ⟨M, 3, none⟩) hM4).trans y3) (fun hHeld2 => ?_)
          clear hK K hHeld
          have hHeld := hHeld2
          try simp only [Act.put, List.setIfInBounds_toArray, List.set_cons_zero, List.set_cons_succ]
          try simp only [Act.put, List.setIfInBounds_toArray, List.set_cons_zero, List.set_cons_succ]
          refine wpAnyH_ready (rs := [6]) (by kernel_rfl) (by simp) ?_
          refine AllReadyH.cons rfl (fun K hK => ?_) AllReadyH.nil
          go_simp
          refine J3.out.mono ?_
          rintro e x6 ⟨rfl, hb6⟩
          have HB76 : Below v7.heap.size v7 x6 := HB75h.out.trans (hb6.mono HB75h.out.size)
          clear hb6
          refine hK.out _ _ ((HB76.cell (p := ⟨M, 3, none⟩) hM4).trans y3) (fun hHeld2 => ?_)
          clear hK K hHeld
          have hHeld := hHeld2
          try simp only [Act.put, List.setIfInBounds_toArray, List.set_cons_zero, List.set_cons_succ]
          refine take_d (i := 7) (v := (.bool true)) (d := some 24) rfl (by kernel_rfl) (by kernel_rfl) (by kernel_rfl) (by kernel_rfl) (fun _ _ _ h => h) (Or.inl ⟨by kernel_rfl, fun w9 hw9 => by (go_simp)⟩) hHeld ?_
          try simp only [Act.put, List.setIfInBounds_toArray, List.set_cons_zero, List.set_cons_succ]
          refine wpAnyH_done (by kernel_rfl) ?_ _
          try simp only [Act.put, List.setIfInBounds_toArray, List.set_cons_zero, List.set_cons_succ]
          have CT := Lib.hid (fun W (hb : Below x6.heap.size x6 W) => world_Time g n1 z0 z1 t' uvq W ((HB7.out.W.below HB76).below hb).at)
          have z2 : x6.cell? ⟨M, 2, none⟩ = some (.int .i64 t') := (HB76.cell (p := ⟨M, 2, none⟩) hM4).trans y2
          have hz6 := HB76.size
          have HB6 := Lib.hid (HB7.out.below HB76)
          have HL6 := Lib.hid (HL7.out.below HB76 (by have := HL7.out.lt; exact this))
          have hM6 : M < x6.heap.size := by omega
          clear J3 HB75h HB75 HB76 CU HI2 y2 y3 HB7 HL7
          go_wp2_with fail
          go_quiet ((go_at_call 14; exact quiet_left (CT.out _ (by exact (by repeat (first | with_reducible exact Below.refl _ _ | (with_reducible refine Below.alloc ?_ (by first | omega | (simp; done) | (simp; omega)) _) | (with_reducible refine Below.setCell ?_ (by first | omega | (simp; done) | (simp; omega)) _) | (with_reducible refine Below.drew ?_) | (with_reducible refine below_drewN ?_ _) | (with_reducible assumption) | (with_reducible refine bel_step (by with_reducible assumption) ?_ (by first | omega | (simp; done) | (simp; omega)))))))))
          go_wp2_with fail
          go_roundw
          case rel => exact ⟨k + 1, t', _, _, usA, by go_num, by omega, by omega, HB6.out.below (by exact (by repeat (first | with_reducible exact Below.refl _ _ | (with_reducible refine Below.alloc ?_ (by first | omega | (simp; done) | (simp; omega)) _) | (with_reducible refine Below.setCell ?_ (by first | omega | (simp; done) | (simp; omega)) _) | (with_reducible refine Below.drew ?_) | (with_reducible refine below_drewN ?_ _) | (with_reducible assumption) | (with_reducible refine bel_step (by with_reducible assumption) ?_ (by first | omega | (simp; done) | (simp; omega)))))), HL6.out⟩
          case measure => go_light; simp [intOf]; omega
      · have q2 : ¬ (k : Int) < 60 := by omega
        have q1 : (k : Int) < (n3 : Int) := by omega
        obtain ⟨cA, usA, hAW, hAR⟩ := both_Ans n1 z0 z1 t us a4 HL4.out LS.out LR.out hn6 HSb.out HRb.out
        have CAW := Lib.hid (fun W (hb : Below wr.heap.size wr W) => hAW g B uv W (HBo.out.W.below hb))
        have CAR := Lib.hid (fun (B5 : Value) (v5 : World) (h : Both w v5 g B M (M + 1) n1 a0 a1 c0 c1 z0 z1 t t B5 uv2 usA us) => hAR w M (M + 1) a0 a1 c0 c1 uv2 v5 h.R HI.out HJ.out)
        have hR0 := HBo.out.R.MB
        have CRd := Lib.hid (fun (i : Nat) (hi : i < n1) => show ∃ s r : Int, z0[i]? = some s ∧ z1[i]? = some r from ⟨_, _, List.getElem?_eq_getElem (by rw [LS.out]; exact hi), List.getElem?_eq_getElem (by rw [LR.out]; exact hi)⟩)
        clear hAW hAR
        go_wp2_with fail
        refine wp_region_held_drew (S := fun w9 => LCells w9 w.heap.size a4) (by kernel_rfl) (lcells HBl.out) (fun hHeld => ?_)
        refine take_d (i := 0) (v := (.pointer (some ⟨g, 0, none⟩))) (d := some 135) rfl (by kernel_rfl) (by kernel_rfl) (by kernel_rfl) (by kernel_rfl) (fun _ _ _ h => h) (Or.inl ⟨by kernel_rfl, fun w9 hw9 => by (go_simp)⟩) hHeld ?_
        try simp only [Act.put, List.setIfInBounds_toArray, List.set_cons_zero, List.set_cons_succ]
        refine take_d (i := 1) (v := (.agg #[.int .i64 a4.src, .int .i64 a4.dst, .bool a4.answer, .int .i64 a4.t1, .int .i64 a4.t2, .int .i64 a4.t])) (d := some 136) rfl (by kernel_rfl) (by kernel_rfl) (by kernel_rfl) (by kernel_rfl) (fun _ _ _ h => h) (Or.inl ⟨by kernel_rfl, fun w9 hw9 => by (obtain ⟨a0', a1', a2', a3', a4', a5'⟩ := hw9; go_simp)⟩) hHeld ?_
        try simp only [Act.put, List.setIfInBounds_toArray, List.set_cons_zero, List.set_cons_succ]
        refine take_d (i := 3) (v := (.pointer (some ⟨M, 0, none⟩))) (d := some 138) rfl (by kernel_rfl) (by kernel_rfl) (by kernel_rfl) (by kernel_rfl) (fun _ _ _ h => h) (Or.inl ⟨by kernel_rfl, fun w9 hw9 => by (go_simp)⟩) hHeld ?_
        try simp only [Act.put, List.setIfInBounds_toArray, List.set_cons_zero, List.set_cons_succ]
        refine take_d (i := 4) (v := (.agg #[.int .i64 a4.src, .int .i64 a4.dst, .bool a4.answer, .int .i64 a4.t1, .int .i64 a4.t2, .int .i64 a4.t])) (d := some 139) rfl (by kernel_rfl) (by kernel_rfl) (by kernel_rfl) (by kernel_rfl) (fun _ _ _ h => h) (Or.inl ⟨by kernel_rfl, fun w9 hw9 => by (obtain ⟨a0', a1', a2', a3', a4', a5'⟩ := hw9; go_simp)⟩) hHeld ?_
        try simp only [Act.put, List.setIfInBounds_toArray, List.set_cons_zero, List.set_cons_succ]
        try simp only [Act.put, List.setIfInBounds_toArray, List.set_cons_zero, List.set_cons_succ]
        refine wpAnyH_ready (rs := [2]) (by kernel_rfl) (by simp) ?_
        refine AllReadyH.cons rfl (fun K hK => ?_) AllReadyH.nil
        go_simp
        refine (CAW.out _ (by exact (by repeat (first | with_reducible exact Below.refl _ _ | (with_reducible refine Below.alloc ?_ (by first | omega | (simp; done) | (simp; omega)) _) | (with_reducible refine Below.setCell ?_ (by first | omega | (simp; done) | (simp; omega)) _) | (with_reducible refine Below.drew ?_) | (with_reducible refine below_drewN ?_ _) | (with_reducible assumption) | (with_reducible refine bel_step (by with_reducible assumption) ?_ (by first | omega | (simp; done) | (simp; omega))))))).mono ?_
        rintro e v5 ⟨rfl, uvq, hW5, hK5, hq5⟩
        have HBd := HBo.out.below (show Below wr.heap.size wr (wr.drew) from by exact (by repeat (first | with_reducible exact Below.refl _ _ | (with_reducible refine Below.alloc ?_ (by first | omega | (simp; done) | (simp; omega)) _) | (with_reducible refine Below.setCell ?_ (by first | omega | (simp; done) | (simp; omega)) _) | (with_reducible refine Below.drew ?_) | (with_reducible refine below_drewN ?_ _) | (with_reducible assumption) | (with_reducible refine bel_step (by with_reducible assumption) ?_ (by first | omega | (simp; done) | (simp; omega))))))
        have HB5 := Lib.hid (HBd.left hW5 hK5 hq5)
        have HL5 := Lib.hid (far_left HBd (HBl.out.drew) hK5 (by omega) HU1.out)
        clear hW5 hK5 hq5 HBd
        refine hK.out _ _ (lcells HL5.out) (fun hHeld2 => ?_)
        clear hK K hHeld
        have hHeld := hHeld2
        try simp only [Act.put, List.setIfInBounds_toArray, List.set_cons_zero, List.set_cons_succ]
        try simp only [Act.put, List.setIfInBounds_toArray, List.set_cons_zero, List.set_cons_succ]
        refine wpAnyH_ready (rs := [5]) (by kernel_rfl) (by simp) ?_
        refine AllReadyH.cons rfl (fun K hK => ?_) AllReadyH.nil
        go_simp
        refine (CAR.out uvq v5 HB5.out).mono ?_
        rintro e v6 ⟨rfl, uvs, hR6, hK6, hq6⟩
        have HB6 := Lib.hid (HB5.out.right hR6 hK6 hq6)
        have HL6 := Lib.hid (far_right HB5.out HL5.out hK6 (by omega) HU2.out)
        clear hR6 hK6 hq6
        refine hK.out _ _ (lcells HL6.out) (fun hHeld2 => ?_)
        clear hK K hHeld
        have hHeld := hHeld2
        try simp only [Act.put, List.setIfInBounds_toArray, List.set_cons_zero, List.set_cons_succ]
        try simp only [Act.put, List.setIfInBounds_toArray, List.set_cons_zero, List.set_cons_succ]
        refine wpAnyH_ready (rs := [6]) (by kernel_rfl) (by simp) ?_
        refine AllReadyH.cons rfl (fun K hK => ?_) AllReadyH.nil
        go_simp
        refine (CE.out cA v6 HB6.out.old).mono ?_
        rintro e v7 ⟨rfl, hb7⟩
        have HB7 := Lib.hid (HB6.out.below hb7)
        have HL7 := HL6.out.below hb7 (by have := HL6.out.lt; exact this)
        clear hb7
        refine hK.out _ _ (lcells HL7) (fun hHeld2 => ?_)
        clear hK K hHeld
        have hHeld := hHeld2
        try simp only [Act.put, List.setIfInBounds_toArray, List.set_cons_zero, List.set_cons_succ]
        refine take_d (i := 7) (v := (.bool true)) (d := some 16) rfl (by kernel_rfl) (by kernel_rfl) (by kernel_rfl) (by kernel_rfl) (fun _ _ _ h => h) (Or.inl ⟨by kernel_rfl, fun w9 hw9 => by (go_simp)⟩) hHeld ?_
        try simp only [Act.put, List.setIfInBounds_toArray, List.set_cons_zero, List.set_cons_succ]
        refine wpAnyH_done (by kernel_rfl) ?_ _
        try simp only [Act.put, List.setIfInBounds_toArray, List.set_cons_zero, List.set_cons_succ]
        clear HB5 HL5 HB6 HL6 HL7 CAW CAR HBo HBl
        have hz7 := HB7.out.old.size
        by_cases e1 : a5 < 0 ∨ (n1 : Int) ≤ a5
        · have CW := Lib.hid (world_Read_no g n1 z0 z1 t uvq a5 v7 HB7.out.W.at (by cases hh : hasN n1 a5; rfl; rw [hasN_iff] at hh; omega))
          have CE1 := Lib.hid (fun v8 hb => by have := CE.out 1 v8 hb; rw [errV_ne (by decide)] at this; exact this)
          have e2 : a5 < 0 ∨ (¬ a5 < 0 ∧ (n1 : Int) ≤ a5) := by omega
          clear e1 CRd
          rcases e2 with e2 | ⟨e2, e3⟩
          all_goals
            go_wp2_with fail
            refine CW.out.mono ?_
            rintro e v8 ⟨rfl, hb8⟩
            have HB8 := Lib.hid (HB7.out.below hb8)
            clear hb8
            go_wp2_with fail
            refine (CE1.out v8 HB8.out.old).mono ?_
            rintro e v9 ⟨rfl, hb9⟩
            have HB9 := Lib.hid (HB8.out.below hb9)
            clear hb9
            go_wp2_with fail
            go_ret
            exact ⟨rfl, HB9.out.old⟩
        · obtain ⟨i, rfl⟩ : ∃ i : Nat, a5 = (i : Int) := ⟨a5.toNat, by omega⟩
          obtain ⟨s, r, hs, hr⟩ := CRd.out i (by omega)
          have CM := Lib.hid (r2_WRead w M (M + 1) n1 a0 a1 c0 c1 z0 z1 t uvs usA i s r v7 HB7.out.R HI.out HJ.out hs hr (HSb.out i s hs) (HRb.out i r hr))
          have CW := Lib.hid (fun v8 (hb : Below v7.heap.size v7 v8) => world_Read g n1 z0 z1 t uvq i s r v8 (HB7.out.W.below hb).at hs hr)
          have e2 : ¬ (i : Int) < 0 := by omega
          have e3 : ¬ (n1 : Int) ≤ (i : Int) := by omega
          obtain ⟨V, hV⟩ : ∃ V, readV s r t = V := ⟨_, rfl⟩
          rw [hV] at CM CW
          clear e1 CRd hs hr hV
          go_wp2_with fail
          refine CM.out.mono ?_
          rintro e v8 ⟨rfl, hb8⟩
          have HB8 := Lib.hid (HB7.out.below hb8)
          have CW8 := Lib.hid (CW.out v8 hb8)
          clear hb8 CW
          go_wp2_with fail
          refine CW8.out.mono ?_
          rintro e v9 ⟨rfl, hb9⟩
          have HB9 := Lib.hid (HB8.out.below hb9)
          clear hb9
          go_wp2_with fail
          refine (CE0.out v9 HB9.out.old).mono ?_
          rintro e v10 ⟨rfl, hb10⟩
          have HB10 := Lib.hid (HB9.out.below hb10)
          clear hb10
          go_wp2_with fail
          go_ret
          exact ⟨by simp, HB10.out.old⟩
    · have q1 : ¬ (k : Int) < (n3 : Int) := by omega
      obtain ⟨cA, usA, hAW, hAR⟩ := both_Ans n1 z0 z1 t us a4 HL4.out LS.out LR.out hn6 HSb.out HRb.out
      have CAW := Lib.hid (fun W (hb : Below wr.heap.size wr W) => hAW g B uv W (HBo.out.W.below hb))
      have CAR := Lib.hid (fun (B5 : Value) (v5 : World) (h : Both w v5 g B M (M + 1) n1 a0 a1 c0 c1 z0 z1 t t B5 uv2 usA us) => hAR w M (M + 1) a0 a1 c0 c1 uv2 v5 h.R HI.out HJ.out)
      have hR0 := HBo.out.R.MB
      have CRd := Lib.hid (fun (i : Nat) (hi : i < n1) => show ∃ s r : Int, z0[i]? = some s ∧ z1[i]? = some r from ⟨_, _, List.getElem?_eq_getElem (by rw [LS.out]; exact hi), List.getElem?_eq_getElem (by rw [LR.out]; exact hi)⟩)
      clear hAW hAR
      go_wp2_with fail
      refine wp_region_held_drew (S := fun w9 => LCells w9 w.heap.size a4) (by kernel_rfl) (lcells HBl.out) (fun hHeld => ?_)
      refine take_d (i := 0) (v := (.pointer (some ⟨g, 0, none⟩))) (d := some 135) rfl (by kernel_rfl) (by kernel_rfl) (by kernel_rfl) (by kernel_rfl) (fun _ _ _ h => h) (Or.inl ⟨by kernel_rfl, fun w9 hw9 => by (go_simp)⟩) hHeld ?_
      try simp only [Act.put, List.setIfInBounds_toArray, List.set_cons_zero, List.set_cons_succ]
      refine take_d (i := 1) (v := (.agg #[.int .i64 a4.src, .int .i64 a4.dst, .bool a4.answer, .int .i64 a4.t1, .int .i64 a4.t2, .int .i64 a4.t])) (d := some 136) rfl (by kernel_rfl) (by kernel_rfl) (by kernel_rfl) (by kernel_rfl) (fun _ _ _ h => h) (Or.inl ⟨by kernel_rfl, fun w9 hw9 => by (obtain ⟨a0', a1', a2', a3', a4', a5'⟩ := hw9; go_simp)⟩) hHeld ?_
      try simp only [Act.put, List.setIfInBounds_toArray, List.set_cons_zero, List.set_cons_succ]
      refine take_d (i := 3) (v := (.pointer (some ⟨M, 0, none⟩))) (d := some 138) rfl (by kernel_rfl) (by kernel_rfl) (by kernel_rfl) (by kernel_rfl) (fun _ _ _ h => h) (Or.inl ⟨by kernel_rfl, fun w9 hw9 => by (go_simp)⟩) hHeld ?_
      try simp only [Act.put, List.setIfInBounds_toArray, List.set_cons_zero, List.set_cons_succ]
      refine take_d (i := 4) (v := (.agg #[.int .i64 a4.src, .int .i64 a4.dst, .bool a4.answer, .int .i64 a4.t1, .int .i64 a4.t2, .int .i64 a4.t])) (d := some 139) rfl (by kernel_rfl) (by kernel_rfl) (by kernel_rfl) (by kernel_rfl) (fun _ _ _ h => h) (Or.inl ⟨by kernel_rfl, fun w9 hw9 => by (obtain ⟨a0', a1', a2', a3', a4', a5'⟩ := hw9; go_simp)⟩) hHeld ?_
      try simp only [Act.put, List.setIfInBounds_toArray, List.set_cons_zero, List.set_cons_succ]
      try simp only [Act.put, List.setIfInBounds_toArray, List.set_cons_zero, List.set_cons_succ]
      refine wpAnyH_ready (rs := [2]) (by kernel_rfl) (by simp) ?_
      refine AllReadyH.cons rfl (fun K hK => ?_) AllReadyH.nil
      go_simp
      refine (CAW.out _ (by exact (by repeat (first | with_reducible exact Below.refl _ _ | (with_reducible refine Below.alloc ?_ (by first | omega | (simp; done) | (simp; omega)) _) | (with_reducible refine Below.setCell ?_ (by first | omega | (simp; done) | (simp; omega)) _) | (with_reducible refine Below.drew ?_) | (with_reducible refine below_drewN ?_ _) | (with_reducible assumption) | (with_reducible refine bel_step (by with_reducible assumption) ?_ (by first | omega | (simp; done) | (simp; omega))))))).mono ?_
      rintro e v5 ⟨rfl, uvq, hW5, hK5, hq5⟩
      have HBd := HBo.out.below (show Below wr.heap.size wr (wr.drew) from by exact (by repeat (first | with_reducible exact Below.refl _ _ | (with_reducible refine Below.alloc ?_ (by first | omega | (simp; done) | (simp; omega)) _) | (with_reducible refine Below.setCell ?_ (by first | omega | (simp; done) | (simp; omega)) _) | (with_reducible refine Below.drew ?_) | (with_reducible refine below_drewN ?_ _) | (with_reducible assumption) | (with_reducible refine bel_step (by with_reducible assumption) ?_ (by first | omega | (simp; done) | (simp; omega))))))
      have HB5 := Lib.hid (HBd.left hW5 hK5 hq5)
      have HL5 := Lib.hid (far_left HBd (HBl.out.drew) hK5 (by omega) HU1.out)
      clear hW5 hK5 hq5 HBd
      refine hK.out _ _ (lcells HL5.out) (fun hHeld2 => ?_)
      clear hK K hHeld
      have hHeld := hHeld2
      try simp only [Act.put, List.setIfInBounds_toArray, List.set_cons_zero, List.set_cons_succ]
      try simp only [Act.put, List.setIfInBounds_toArray, List.set_cons_zero, List.set_cons_succ]
      refine wpAnyH_ready (rs := [5]) (by kernel_rfl) (by simp) ?_
      refine AllReadyH.cons rfl (fun K hK => ?_) AllReadyH.nil
      go_simp
      refine (CAR.out uvq v5 HB5.out).mono ?_
      rintro e v6 ⟨rfl, uvs, hR6, hK6, hq6⟩
      have HB6 := Lib.hid (HB5.out.right hR6 hK6 hq6)
      have HL6 := Lib.hid (far_right HB5.out HL5.out hK6 (by omega) HU2.out)
      clear hR6 hK6 hq6
      refine hK.out _ _ (lcells HL6.out) (fun hHeld2 => ?_)
      clear hK K hHeld
      have hHeld := hHeld2
      try simp only [Act.put, List.setIfInBounds_toArray, List.set_cons_zero, List.set_cons_succ]
      try simp only [Act.put, List.setIfInBounds_toArray, List.set_cons_zero, List.set_cons_succ]
      refine wpAnyH_ready (rs := [6]) (by kernel_rfl) (by simp) ?_
      refine AllReadyH.cons rfl (fun K hK => ?_) AllReadyH.nil
      go_simp
      refine (CE.out cA v6 HB6.out.old).mono ?_
      rintro e v7 ⟨rfl, hb7⟩
      have HB7 := Lib.hid (HB6.out.below hb7)
      have HL7 := HL6.out.below hb7 (by have := HL6.out.lt; exact this)
      clear hb7
      refine hK.out _ _ (lcells HL7) (fun hHeld2 => ?_)
      clear hK K hHeld
      have hHeld := hHeld2
      try simp only [Act.put, List.setIfInBounds_toArray, List.set_cons_zero, List.set_cons_succ]
      refine take_d (i := 7) (v := (.bool true)) (d := some 16) rfl (by kernel_rfl) (by kernel_rfl) (by kernel_rfl) (by kernel_rfl) (fun _ _ _ h => h) (Or.inl ⟨by kernel_rfl, fun w9 hw9 => by (go_simp)⟩) hHeld ?_
      try simp only [Act.put, List.setIfInBounds_toArray, List.set_cons_zero, List.set_cons_succ]
      refine wpAnyH_done (by kernel_rfl) ?_ _
      try simp only [Act.put, List.setIfInBounds_toArray, List.set_cons_zero, List.set_cons_succ]
      clear HB5 HL5 HB6 HL6 HL7 CAW CAR HBo HBl
      have hz7 := HB7.out.old.size
      by_cases e1 : a5 < 0 ∨ (n1 : Int) ≤ a5
      · have CW := Lib.hid (world_Read_no g n1 z0 z1 t uvq a5 v7 HB7.out.W.at (by cases hh : hasN n1 a5; rfl; rw [hasN_iff] at hh; omega))
        have CE1 := Lib.hid (fun v8 hb => by have := CE.out 1 v8 hb; rw [errV_ne (by decide)] at this; exact this)
        have e2 : a5 < 0 ∨ (¬ a5 < 0 ∧ (n1 : Int) ≤ a5) := by omega
        clear e1 CRd
        rcases e2 with e2 | ⟨e2, e3⟩
        all_goals
          go_wp2_with fail
          refine CW.out.mono ?_
          rintro e v8 ⟨rfl, hb8⟩
          have HB8 := Lib.hid (HB7.out.below hb8)
          clear hb8
          go_wp2_with fail
          refine (CE1.out v8 HB8.out.old).mono ?_
          rintro e v9 ⟨rfl, hb9⟩
          have HB9 := Lib.hid (HB8.out.below hb9)
          clear hb9
          go_wp2_with fail
          go_ret
          exact ⟨rfl, HB9.out.old⟩
      · obtain ⟨i, rfl⟩ : ∃ i : Nat, a5 = (i : Int) := ⟨a5.toNat, by omega⟩
        obtain ⟨s, r, hs, hr⟩ := CRd.out i (by omega)
        have CM := Lib.hid (r2_WRead w M (M + 1) n1 a0 a1 c0 c1 z0 z1 t uvs usA i s r v7 HB7.out.R HI.out HJ.out hs hr (HSb.out i s hs) (HRb.out i r hr))
        have CW := Lib.hid (fun v8 (hb : Below v7.heap.size v7 v8) => world_Read g n1 z0 z1 t uvq i s r v8 (HB7.out.W.below hb).at hs hr)
        have e2 : ¬ (i : Int) < 0 := by omega
        have e3 : ¬ (n1 : Int) ≤ (i : Int) := by omega
        obtain ⟨V, hV⟩ : ∃ V, readV s r t = V := ⟨_, rfl⟩
        rw [hV] at CM CW
        clear e1 CRd hs hr hV
        go_wp2_with fail
        refine CM.out.mono ?_
        rintro e v8 ⟨rfl, hb8⟩
        have HB8 := Lib.hid (HB7.out.below hb8)
        have CW8 := Lib.hid (CW.out v8 hb8)
        clear hb8 CW
        go_wp2_with fail
        refine CW8.out.mono ?_
        rintro e v9 ⟨rfl, hb9⟩
        have HB9 := Lib.hid (HB8.out.below hb9)
        clear hb9
        go_wp2_with fail
        refine (CE0.out v9 HB9.out.old).mono ?_
        rintro e v10 ⟨rfl, hb10⟩
        have HB10 := Lib.hid (HB9.out.below hb10)
        clear hb10
        go_wp2_with fail
        go_ret
        exact ⟨by simp, HB10.out.old⟩
set_option maxRecDepth 100000 in
theorem walk (a0 : Option Addr) (n0 c0 : Nat) (z0 : List Int) (a1 : Option Addr) (n1 c1 : Nat) (z1 : List Int) (a2 : Int) (a3 : Option Addr) (n3 c3 : Nat) (z3 : List RAct) (a4 : RLetter) (a5 : Int) (w : World) (h0 : IsInts w a0 n0 c0 z0) (h1 : IsInts w a1 n1 c1 z1) (h2 : -9223372036854775808 ≤ a2 ∧ a2 ≤ 9223372036854775807) (h3 : IsRecs w RAct.cells RAct.ok 3 a3 n3 c3 z3) (h4 : a4.ok) (h5 : -9223372036854775808 ≤ a5 ∧ a5 ≤ 9223372036854775807) (hg : HandleAt w) :
    Calls Tryd.prog 4 #[.slice a0 n0 c0, .slice a1 n1 c1, .int .i64 a2, .slice a3 n3 c3, .agg #[.int .i64 a4.src, .int .i64 a4.dst, .bool a4.answer, .int .i64 a4.t1, .int .i64 a4.t2, .int .i64 a4.t], .int .i64 a5] w fun e w' => e = .returned (.bool true) ∧ Below w.heap.size w w' := by
  by_cases e0 : newC z0 z1 a2 = 0
  · exact good a0 n0 c0 z0 a1 n1 c1 z1 a2 a3 n3 c3 z3 a4 a5 w h0 h1 h2 h3 h4 h5 hg e0
  · have CB := Lib.hid (fun w' (hb : Below w.heap.size w w') => r2_Begin a0 n0 c0 z0 a1 n1 c1 z1 a2 w' (h0.below hb) (h1.below hb) h2)
    have CN := Lib.hid (fun w' (hb : Below w.heap.size w w') => world_New_no a0 n0 c0 z0 a1 n1 c1 z1 a2 w' (h0.below hb) (h1.below hb) h2 e0)
    obtain ⟨c, hc⟩ : ∃ c, newC z0 z1 a2 = c := ⟨_, rfl⟩
    rw [hc] at CB CN e0
    have CE := Lib.hid (fun w' (hb : Below w.heap.size w w') => show Calls Tryd.prog 7 #[.iface 55 (.int .i64 c), .int .i64 c] w' fun e w'' => e = .returned (.bool true) ∧ Below w'.heap.size w' w'' by have := Error_any c c w' (hg.below hb); rw [errV_ne e0] at this; simpa using this)
    have e1 : (c == 0) = false := by simp; exact e0
    clear hg h0 h1 h2 h3 h4 h5 hc e0
    go_enter Tryd.func4, Tryd.ntmps4
    go_wp2_with fail
    refine (CB.out _ (by repeat (first | with_reducible exact Below.refl _ _ | (with_reducible refine Below.alloc ?_ (by first | omega | (simp; done) | (simp; omega)) _) | (with_reducible refine Below.setCell ?_ (by first | omega | (simp; done) | (simp; omega)) _) | (with_reducible refine Below.drew ?_) | (with_reducible refine below_drewN ?_ _) | (with_reducible assumption) | (with_reducible refine bel_step (by with_reducible assumption) ?_ (by first | omega | (simp; done) | (simp; omega)))))).mono ?_
    rintro e w1 ⟨rfl, hb1⟩
    have hz1 := hb1.size
    (try simp at hz1)
    have HB1 : Below w.heap.size w w1 := (by repeat (first | with_reducible exact Below.refl _ _ | (with_reducible refine Below.alloc ?_ (by first | omega | (simp; done) | (simp; omega)) _) | (with_reducible refine Below.setCell ?_ (by first | omega | (simp; done) | (simp; omega)) _) | (with_reducible refine Below.drew ?_) | (with_reducible refine below_drewN ?_ _) | (with_reducible assumption) | (with_reducible refine bel_step (by with_reducible assumption) ?_ (by first | omega | (simp; done) | (simp; omega)))))
    have HZ1 := HB1.size
    clear hb1 hz1
    go_wp2_with fail
    refine (CN.out _ HB1).mono ?_
    rintro e w2 ⟨rfl, rfl⟩
    go_wp2_with fail
    refine (CE.out _ HB1).mono ?_
    rintro e w3 ⟨rfl, hb3⟩
    have HB3 : Below w.heap.size w w3 := HB1.trans (hb3.mono HZ1)
    go_wp2_with fail
    go_ret
    exact ⟨rfl, HB3⟩

set_option maxRecDepth 100000 in
theorem lifted (os : Os) (started : os.Started) (H : Type) (enc : TypeId × Value → H) :
    ReturnsInHanded {} Tryd.checked os 4 .any (fun w args => (Rows.worldPlaysSpec.pre enc Tryd.prog Tryd.f4 [] false w args ∧ laidMetH Tryd.prog laidList w) ∧ sizedMet enc Tryd.prog Tryd.f4 (OpenSpec.ofChange Rows.worldPlaysSpec) false w args)
      (Rows.worldPlaysSpec.post enc Tryd.prog Tryd.f4 false true false false) := by
  refine returnsInHanded_of_change_and (C := Tryd.checked) (X := fun w _ => laidMetH Tryd.prog laidList w) (fun _ _ _ hh h => h.of_heap hh) own started (by kernel_rfl) Tryd.func4
    (ChangeSpec.witness_at (enc := enc) (C := Tryd.checked) (os := os) (X := fun w _ => laidMetH Tryd.prog laidList w) false (laidWorld os) #[.slice none 0 0, .slice none 0 0, .int .i64 0, .slice none 0 0, .agg #[.int .i64 0, .int .i64 0, .bool false, .int .i64 0, .int .i64 0, .int .i64 0], .int .i64 0] 8 rfl (by kernel_rfl) (by kernel_rfl) (by kernel_rfl) (by kernel_rfl) (by kernel_rfl) (laidWorld_met os _)) ?_
  intro W base args ds gs before hval0 hW hcnd hreach hL _
  have hval : ∀ (j : Nat) t v, Tryd.f4.params[j]? = some t → args[j]? = some v → Value.okWide Tryd.prog W .any base t v := hval0
  have hW' := hW
  obtain ⟨p, q, hA0, hV, rfl, hfz, hnd⟩ := hW
  have hA : DataW.TrodAll enc Tryd.prog W 0 (fun _ => true) true Tryd.f4.params.toList args.toList ds p := hA0
  rw [Tryd.params4] at hA hval
  obtain ⟨v0, vs0, d0, ds0, p0, q0, hargs, rfl, rfl, g0, r0⟩ := trodAll_cons hA
  obtain ⟨v1, vs1, d1, ds1, p1, q1, rfl, rfl, rfl, g1, r1⟩ := trodAll_cons r0
  obtain ⟨v2, vs2, d2, ds2, p2, q2, rfl, rfl, rfl, g2, r2⟩ := trodAll_cons r1
  obtain ⟨v3, vs3, d3, ds3, p3, q3, rfl, rfl, rfl, g3, r3⟩ := trodAll_cons r2
  obtain ⟨v4, vs4, d4, ds4, p4, q4, rfl, rfl, rfl, g4, r4⟩ := trodAll_cons r3
  obtain ⟨v5, vs5, d5, ds5, p5, q5, rfl, rfl, rfl, g5, r5⟩ := trodAll_cons r4
  obtain ⟨rfl, rfl, rfl⟩ := trodAll_nil r5
  obtain rfl : args = #[v0, v1, v2, v3, v4, v5] := by cases args; simp_all
  have hV2 : DataW.TrodVars enc Tryd.prog W (fun _ => true) [] gs q := hV
  obtain ⟨rfl, rfl⟩ : gs = [] ∧ q = [] := by
    cases gs with
    | nil => exact ⟨rfl, hV2⟩
    | cons g r => exact absurd hV2 (by intro h; cases h)
  have k0 := g0
  have lt0 : ∀ x ∈ p0, x.block < W.heap.size := by obtain ⟨m, hm⟩ := k0; exact DataW.trod_lt m _ _ _ hm
  have rd0 : Tryd.prog.readableRec 27 = true := by kernel_rfl
  have ls0 : 27 < Tryd.prog.types.size := of_decide_eq_true (by kernel_rfl)
  obtain ⟨a0, n0, c0, z0, rfl, h0⟩ := open_Ints (hval 0 27 v0 rfl rfl) g0
  have k1 := g1
  have lt1 : ∀ x ∈ p1, x.block < W.heap.size := by obtain ⟨m, hm⟩ := k1; exact DataW.trod_lt m _ _ _ hm
  have rd1 : Tryd.prog.readableRec 27 = true := by kernel_rfl
  have ls1 : 27 < Tryd.prog.types.size := of_decide_eq_true (by kernel_rfl)
  obtain ⟨a1, n1, c1, z1, rfl, h1⟩ := open_Ints (hval 1 27 v1 rfl rfl) g1
  obtain ⟨a2, rfl, rfl, rfl, u2⟩ := open_int Tryd.underlying3 (hval 2 3 v2 rfl rfl) g2
  have h2 := bounds_i64 u2
  have k3 := g3
  have lt3 : ∀ x ∈ p3, x.block < W.heap.size := by obtain ⟨m, hm⟩ := k3; exact DataW.trod_lt m _ _ _ hm
  have rd3 : Tryd.prog.readableRec 39 = true := by kernel_rfl
  have ls3 : 39 < Tryd.prog.types.size := of_decide_eq_true (by kernel_rfl)
  obtain ⟨a3, n3, c3, z3, rfl, h3⟩ := open_RActs (hval 3 39 v3 rfl rfl) g3
  have k4 := g4
  have lt4 : ∀ x ∈ p4, x.block < W.heap.size := by obtain ⟨m, hm⟩ := k4; exact DataW.trod_lt m _ _ _ hm
  have rd4 : Tryd.prog.readableRec 37 = true := by kernel_rfl
  have ls4 : 37 < Tryd.prog.types.size := of_decide_eq_true (by kernel_rfl)
  obtain ⟨a4, rfl, h4⟩ := open_RLetter (hval 4 37 v4 rfl rfl) g4
  obtain ⟨a5, rfl, rfl, rfl, u5⟩ := open_int Tryd.underlying3 (hval 5 3 v5 rfl rfl) g5
  have h5 := bounds_i64 u5
  clear hA0 hval0
  refine (walk a0 n0 c0 z0 a1 n1 c1 z1 a2 a3 n3 c3 z3 a4 a5 W h0 h1 h2 h3 h4 h5 (handle_of_laid hL)).mono fun e W' ⟨he, bel⟩ => ?_
  subst he
  exact ⟨_, rfl, _, _, _, [], _, [], hW', trodAll_mk1 (shut_bool Tryd.underlying4 _), (trodAll_cons_mk (Below.trod laidOut rd0 ls0 k0 bel lt0) (trodAll_cons_mk (Below.trod laidOut rd1 ls1 k1 bel lt1) (trodAll_cons_mk (shut_int Tryd.underlying3 u2) (trodAll_cons_mk (Below.trod laidOut rd3 ls3 k3 bel lt3) (trodAll_cons_mk (Below.trod laidOut rd4 ls4 k4 bel lt4) (trodAll_cons_mk (shut_int Tryd.underlying3 u5) trodAll_mk0)))))), rfl, bel.frame _, fun h => by cases h⟩

theorem over : Rows.worldPlaysRow.holds Tryd.pinned (OpenSpec.ofChange Rows.worldPlaysSpec) :=
  OpenClaim.holds_of_wide 4 Tryd.f4 rfl rfl rfl rfl rfl rfl rfl ⟨rfl, rfl, rfl, rfl, rfl⟩ rfl rfl rfl rfl rfl (by kernel_rfl) Tryd.func4 (by kernel_rfl)
    (of_decide_eq_true (by kernel_rfl)) (by unfold Func.isWrapper; rw [if_neg (of_decide_eq_false (by kernel_rfl))]; exact ⟨rfl, rfl⟩)
    (fun os started H enc _ => lifted os started H enc)

theorem card : Rows.WorldPlaysCardSaid :=
  Claim7.holds_tied_plain_at .later [] [.handle] true (true, Rows.worldPlaysCard.stood.harness.2) true
    over (fun _ h => by cases h) (by kernel_rfl) (fun _ h => by cases h) worldPlays_row_tie rfl ⟨rfl, rfl⟩ (by kernel_rfl) rfl
    (fun f fn hf hfn => by
      obtain rfl : f = 4 := Option.some.inj ((show Tryd.prog.funcNamed "noonmark/noonlaw2.WorldPlays" = some 4 by kernel_rfl).symm.trans hf) |>.symm
      obtain rfl : fn = Tryd.f4 := (Option.some.inj (Tryd.func4.symm.trans hfn)).symm
      exact ⟨by kernel_rfl, fun j t ht => by
        rw [Tryd.params4] at ht
        exact noStandIn (ps := #[27, 27, 3, 39, 37, 3]) (by kernel_rfl) ht⟩)
    (by kernel_rfl)

end Go.Proofs.YtloniibmmajlbaaDoor.lWorldPlays
