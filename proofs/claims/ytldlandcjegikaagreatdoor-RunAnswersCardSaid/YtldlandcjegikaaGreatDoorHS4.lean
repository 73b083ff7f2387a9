/- Texts that serve many laws, one behind the other. -/
import Derived.Test.YtldlandcjegikaaGreatDoorHS1
import Derived.Test.YtldlandcjegikaaGreatDoorHSDoA
set_option linter.unusedVariables false
set_option linter.unusedSimpArgs false
namespace Go.Proofs.YtldlandcjegikaaGreatDoor

section
open Go.RowKit
variable {qv : Value}
theorem row_lies {w : World} {B : Nat} {T : TypeId} {q n cap : Nat} {us : List RLetter} (h : w.ownsRow B T 6 (.slice (some ⟨q, 0, none⟩) n cap) us.length (us.flatMap RLetter.cells)) : ∀ i u, (us.flatMap RLetter.cells)[i]? = some u → w.cell? ⟨q, i, none⟩ = some u := fun i u hu => by
 have := h.cells (g := q) rfl i u hu
 rw [show (⟨q, 0, none⟩ : Addr).add i = ⟨q, i, none⟩ by unfold Addr.add; split <;> simp_all] at this
 exact this
theorem rsent_later {W0 w W w9 : World} {M B n r : Nat} {A1 A2 : Option Addr} {c1 c2 : Nat} {t : Int} {uv uv' : Value} {us us' : List RLetter} (h0 : RWorld qv W0 w M B n A1 A2 c1 c2 t uv us) (h : RWorld qv W0 W M B n A1 A2 c1 c2 t uv' us') (hK : Kept (Mine M uv) w W) (hq : ∀ k, uv'.ownBlock = some k → w.heap.size ≤ k)
  (hr : w.heap.size ≤ r) (hn : uv'.ownBlock ≠ some r) (ht : Touched r W w9) : RSent qv W0 w M B n A1 A2 c1 c2 t uv us' w9 := by
 have hMB := h0.MB
 have hBw := h0.Bw
 have hMo := h0.Mo
 exact ⟨uv', h.other (P := fun k => k = r) ⟨ht.os, ht.tape, ht.output, ht.size, fun k hk hn => ht.block k hk (fun e => hn (Option.some.inj e))⟩ (fun k e => ⟨by omega, by omega, fun e2 => hn (e ▸ e2)⟩), hK.touched ht (.inr hr), fun q e => .inr (hq q e)⟩
set_option maxRecDepth 100000 in
set_option maxHeartbeats 8000000 in
theorem r2_Do_repeat (W0 : World) (M B n : Nat) (A1 A2 : Option Addr) (c1 c2 : Nat) (t : Int) (uv : Value) (us : List RLetter) (j : Nat) (L : RLetter) (b : Int) (w : World) (h : RWorld qv W0 w M B n A1 A2 c1 c2 t uv us) (hj : us[j]? = some L) :
  Calls Tryz.prog 41 #[.pointer (some ⟨M, 0, none⟩), .agg #[.int .i64 5, .int .i64 j, .int .i64 b]] w fun e w' => e = .returned (.tuple #[.agg (RLetter.cells L).toArray, .bool true, .int .i64 0]) ∧ Below w.heap.size w w' := by
 obtain ⟨q, cap, cur, rfl, hBq, hbq, hnc, hcm, hcells⟩ := row_at h.row hj
 have hjl := (List.getElem?_eq_some_iff.1 hj).1
 have l40 := h.l40
 unfold maxLen at hcm
 have c3 := h.blk.cell 3
 have kl := h.blk.lt
 have kf := h.blk.fz 3
 have ql := hbq.lt
 have hgq : M ≠ q := by have := h.MB; omega
 simp at c3
 have x0 : w.cell? ⟨q, j * 6, none⟩ = some (.int .i64 L.src) := by rw [hbq.cell]; exact hcells 0 _ rfl
 have x1 : w.cell? ⟨q, j * 6 + 1, none⟩ = some (.int .i64 L.dst) := by rw [hbq.cell]; exact hcells 1 _ rfl
 have x2 : w.cell? ⟨q, j * 6 + 2, none⟩ = some (.bool L.answer) := by rw [hbq.cell]; exact hcells 2 _ rfl
 have x3 : w.cell? ⟨q, j * 6 + 3, none⟩ = some (.int .i64 L.t1) := by rw [hbq.cell]; exact hcells 3 _ rfl
 have x4 : w.cell? ⟨q, j * 6 + 4, none⟩ = some (.int .i64 L.t2) := by rw [hbq.cell]; exact hcells 4 _ rfl
 have x5 : w.cell? ⟨q, j * 6 + 5, none⟩ = some (.int .i64 L.t) := by rw [hbq.cell]; exact hcells 5 _ rfl
 have e1 : decide ((j : Int) < 0) = false := by simp
 have e2 : decide ((us.length : Int) ≤ (j : Int)) = false := by simp; omega
 have q0 : (0 : Int) ≤ (j : Int) := by omega
 have q1 : (j : Int) < (us.length : Int) := by omega
 have HU := Lib.hid h
 have hle : w.heap.size ≤ w.heap.size + 1 := by omega
 have kl2 : M < w.heap.size + 1 := by omega
 have kl3 : M < w.heap.size + 1 + 1 := by omega
 have kl4 : M < w.heap.size + 1 + 1 + 1 := by omega
 have ql2 : q < w.heap.size + 1 := by omega
 have ql3 : q < w.heap.size + 1 + 1 := by omega
 have ql4 : q < w.heap.size + 1 + 1 + 1 := by omega
 clear h hbq hcells hj
 go_enter Tryz.func41, Tryz.ntmps41
 go_wp2_with fail
 go_quiet (fail)
 go_wp2_with fail
 go_region
 obtain ⟨W2, hW2⟩ : ∃ W2, W2 = ((((w.alloc (.cells #[.int .i64 5, .int .i64 j, .int .i64 b] 71)).alloc (.cells #[.int .i64 0, .int .i64 0, .bool false, .int .i64 0, .int .i64 0, .int .i64 0] 110)).drewN (nq + 1)).alloc (.cells #[.int .i64 L.src, .int .i64 L.dst, .bool L.answer, .int .i64 L.t1, .int .i64 L.t2, .int .i64 L.t] 110)) := ⟨_, rfl⟩
 have HB2 : Below w.heap.size w W2 := by rw [hW2]; exact BeL
 have bx : Blk W2 w.heap.size 71 #[.int .i64 5, .int .i64 j, .int .i64 b] := by rw [hW2]; exact (((Blk.new w _ _).alloc _).drewN _).alloc _
 have br : Blk W2 (w.heap.size + 1) 110 #[.int .i64 0, .int .i64 0, .bool false, .int .i64 0, .int .i64 0, .int .i64 0] := by rw [hW2]; exact ((Blk.newAt _ _ _ _ (by simp)).drewN _).alloc _
 have bp : Blk W2 (w.heap.size + 2) 110 #[.int .i64 L.src, .int .i64 L.dst, .bool L.answer, .int .i64 L.t1, .int .i64 L.t2, .int .i64 L.t] := by rw [hW2]; exact Blk.newAt _ _ _ _ (by simp)
 have hs2 : W2.heap.size = w.heap.size + 3 := by rw [hW2]; simp
 rw [← hW2]
 clear hW2 x0 x1 x2 x3 x4 x5
 have z0 : W2.cell? ⟨w.heap.size, 0, none⟩ = some (.int .i64 5) := bx.cell 0
 have z1 : W2.cell? ⟨w.heap.size, 1, none⟩ = some (.int .i64 j) := bx.cell 1
 have z2 : W2.cell? ⟨w.heap.size, 2, none⟩ = some (.int .i64 b) := bx.cell 2
 have r0 : W2.cell? ⟨w.heap.size + 1, 0, none⟩ = some (.int .i64 0) := br.cell 0
 have rz0 : W2.frozen? ⟨w.heap.size + 1, 0, none⟩ = false := br.fz 0
 have r1 : W2.cell? ⟨w.heap.size + 1, 1, none⟩ = some (.int .i64 0) := br.cell 1
 have rz1 : W2.frozen? ⟨w.heap.size + 1, 1, none⟩ = false := br.fz 1
 have r2 : W2.cell? ⟨w.heap.size + 1, 2, none⟩ = some (.bool false) := br.cell 2
 have rz2 : W2.frozen? ⟨w.heap.size + 1, 2, none⟩ = false := br.fz 2
 have r3 : W2.cell? ⟨w.heap.size + 1, 3, none⟩ = some (.int .i64 0) := br.cell 3
 have rz3 : W2.frozen? ⟨w.heap.size + 1, 3, none⟩ = false := br.fz 3
 have r4 : W2.cell? ⟨w.heap.size + 1, 4, none⟩ = some (.int .i64 0) := br.cell 4
 have rz4 : W2.frozen? ⟨w.heap.size + 1, 4, none⟩ = false := br.fz 4
 have r5 : W2.cell? ⟨w.heap.size + 1, 5, none⟩ = some (.int .i64 0) := br.cell 5
 have rz5 : W2.frozen? ⟨w.heap.size + 1, 5, none⟩ = false := br.fz 5
 have p0 : W2.cell? ⟨w.heap.size + 2, 0, none⟩ = some (.int .i64 L.src) := bp.cell 0
 have p1 : W2.cell? ⟨w.heap.size + 2, 1, none⟩ = some (.int .i64 L.dst) := bp.cell 1
 have p2 : W2.cell? ⟨w.heap.size + 2, 2, none⟩ = some (.bool L.answer) := bp.cell 2
 have p3 : W2.cell? ⟨w.heap.size + 2, 3, none⟩ = some (.int .i64 L.t1) := bp.cell 3
 have p4 : W2.cell? ⟨w.heap.size + 2, 4, none⟩ = some (.int .i64 L.t2) := bp.cell 4
 have p5 : W2.cell? ⟨w.heap.size + 2, 5, none⟩ = some (.int .i64 L.t) := bp.cell 5
 go_wp2_with fail
 (try simp only [Exit.inBlock, Exit.then])
 refine bodyPost_ret (do_results _ _ (w.heap.size + 1) L.src L.dst L.answer L.t1 L.t2 L.t true 0 BkD rfl rfl rfl) rfl ?_
 exact ⟨rfl, (by repeat (first | with_reducible exact HB2 | with_reducible refine Below.setCell ?_ hle _ | with_reducible refine below_drewN ?_ _ | with_reducible refine Below.drew ?_))⟩
set_option maxRecDepth 100000 in
set_option maxHeartbeats 8000000 in
theorem r2_Do_lose (W0 : World) (M B n : Nat) (A1 A2 : Option Addr) (c1 c2 : Nat) (t : Int) (uv : Value) (us : List RLetter) (j : Nat) (L : RLetter) (b : Int) (w : World) (h : RWorld qv W0 w M B n A1 A2 c1 c2 t uv us) (hj : us[j]? = some L) :
  Calls Tryz.prog 41 #[.pointer (some ⟨M, 0, none⟩), .agg #[.int .i64 4, .int .i64 j, .int .i64 b]] w fun e w' => e = .returned (.tuple #[noL, .bool false, .int .i64 0]) ∧ RSent qv W0 w M B n A1 A2 c1 c2 t uv (us.eraseIdx j) w' := by
 obtain ⟨i0, hi, hz0, hz1, hz2⟩ := info_parts infoLt
 obtain ⟨q, cap, cur, rfl, hBq, hbq, hnc, hcm, hcells⟩ := row_at h.row hj
 have hjl := (List.getElem?_eq_some_iff.1 hj).1
 have l40 := h.l40
 unfold maxLen at hcm
 have c3 := h.blk.cell 3
 have kl := h.blk.lt
 have kf := h.blk.fz 3
 have ql := hbq.lt
 have hgq : M ≠ q := by have := h.MB; omega
 simp at c3
 have x0 : w.cell? ⟨q, j * 6, none⟩ = some (.int .i64 L.src) := by rw [hbq.cell]; exact hcells 0 _ rfl
 have x1 : w.cell? ⟨q, j * 6 + 1, none⟩ = some (.int .i64 L.dst) := by rw [hbq.cell]; exact hcells 1 _ rfl
 have x2 : w.cell? ⟨q, j * 6 + 2, none⟩ = some (.bool L.answer) := by rw [hbq.cell]; exact hcells 2 _ rfl
 have x3 : w.cell? ⟨q, j * 6 + 3, none⟩ = some (.int .i64 L.t1) := by rw [hbq.cell]; exact hcells 3 _ rfl
 have x4 : w.cell? ⟨q, j * 6 + 4, none⟩ = some (.int .i64 L.t2) := by rw [hbq.cell]; exact hcells 4 _ rfl
 have x5 : w.cell? ⟨q, j * 6 + 5, none⟩ = some (.int .i64 L.t) := by rw [hbq.cell]; exact hcells 5 _ rfl
 have e1 : decide ((j : Int) < 0) = false := by simp
 have e2 : decide ((us.length : Int) ≤ (j : Int)) = false := by simp; omega
 have q0 : (0 : Int) ≤ (j : Int) := by omega
 have q1 : (j : Int) < (us.length : Int) := by omega
 have HU := Lib.hid h
 have hle : w.heap.size ≤ w.heap.size + 1 := by omega
 have kl2 : M < w.heap.size + 1 := by omega
 have kl3 : M < w.heap.size + 1 + 1 := by omega
 have kl4 : M < w.heap.size + 1 + 1 + 1 := by omega
 have ql2 : q < w.heap.size + 1 := by omega
 have ql3 : q < w.heap.size + 1 + 1 := by omega
 have ql4 : q < w.heap.size + 1 + 1 + 1 := by omega
 have q2 := IntWalk.i64_in ((j : Int) + 1) (by omega)
 have HLie := Lib.hid (fun W (hb : Below w.heap.size w W) => row_lies (own_below HU.out.row hb))
 have HLen := Lib.hid (flat_lenK RLetter.cells 6 (fun _ => rfl))
 have HOne := Lib.hid (fun (l : List RLetter) => show ∀ u ∈ l.flatMap RLetter.cells, u.oneCell' = true from fun u hu => by
  obtain ⟨z, _, h2⟩ := List.mem_flatMap.1 hu
  exact letter_one z u h2)
 have hBw := h.Bw
 have hgB := h.MB
 have HN1 := Lib.hid (fun W (hb : Below w.heap.size w W) => show ∀ i u, ((us.take j).flatMap RLetter.cells)[i]? = some u → W.cell? ((⟨q, 0, none⟩ : Addr).add i) = some u from fun i u hu => by
  have hil : i < j * 6 := by have := (List.getElem?_eq_some_iff.1 hu).1; rw [HLen.out, List.length_take] at this; omega
  rw [flat_take RLetter.cells 6 (fun _ => rfl), List.getElem?_take, if_pos hil] at hu
  rw [show (⟨q, 0, none⟩ : Addr).add i = ⟨q, i, none⟩ by unfold Addr.add; split <;> simp_all]
  exact HLie.out W hb i u hu)
 obtain ⟨AA, hAA, hN2⟩ : ∃ AA : Addr, (if cap = j + 1 then some (⟨q, 0, none⟩ : Addr) else some ⟨q, (j + 1) * 6, none⟩) = some AA ∧ ∀ W, Below w.heap.size w W → ∀ i u, ((us.drop (j + 1)).flatMap RLetter.cells)[i]? = some u → W.cell? (AA.add i) = some u := by
  by_cases hc : cap = j + 1
  ·refine ⟨⟨q, 0, none⟩, by rw [if_pos hc], fun W hb i u hu => ?_⟩
   have := (List.getElem?_eq_some_iff.1 hu).1; rw [HLen.out, List.length_drop] at this; omega
  ·refine ⟨⟨q, (j + 1) * 6, none⟩, by rw [if_neg hc], fun W hb i u hu => ?_⟩
   rw [show (⟨q, (j + 1) * 6, none⟩ : Addr).add i = ⟨q, (j + 1) * 6 + i, none⟩ by unfold Addr.add; split <;> simp_all]
   rw [flat_drop RLetter.cells 6 (fun _ => rfl), List.getElem?_drop] at hu
   exact HLie.out W hb _ u hu
 have HN2 := Lib.hid hN2
 have HAA := Lib.hid hAA
 clear hN2 hAA h hbq hcells hj
 go_enter Tryz.func41, Tryz.ntmps41
 go_wp2_with fail
 go_quiet (fail)
 go_wp2_with fail
 go_region
 obtain ⟨W2, hW2⟩ : ∃ W2, W2 = ((((w.alloc (.cells #[.int .i64 4, .int .i64 j, .int .i64 b] 71)).alloc (.cells #[.int .i64 0, .int .i64 0, .bool false, .int .i64 0, .int .i64 0, .int .i64 0] 110)).drewN (nq + 1)).alloc (.cells #[.int .i64 L.src, .int .i64 L.dst, .bool L.answer, .int .i64 L.t1, .int .i64 L.t2, .int .i64 L.t] 110)) := ⟨_, rfl⟩
 have HB2 : Below w.heap.size w W2 := by rw [hW2]; exact BeL
 have bx : Blk W2 w.heap.size 71 #[.int .i64 4, .int .i64 j, .int .i64 b] := by rw [hW2]; exact (((Blk.new w _ _).alloc _).drewN _).alloc _
 have br : Blk W2 (w.heap.size + 1) 110 #[.int .i64 0, .int .i64 0, .bool false, .int .i64 0, .int .i64 0, .int .i64 0] := by rw [hW2]; exact ((Blk.newAt _ _ _ _ (by simp)).drewN _).alloc _
 have bp : Blk W2 (w.heap.size + 2) 110 #[.int .i64 L.src, .int .i64 L.dst, .bool L.answer, .int .i64 L.t1, .int .i64 L.t2, .int .i64 L.t] := by rw [hW2]; exact Blk.newAt _ _ _ _ (by simp)
 have hs2 : W2.heap.size = w.heap.size + 3 := by rw [hW2]; simp
 rw [← hW2]
 clear hW2 x0 x1 x2 x3 x4 x5
 have y0 : W2.cell? ⟨M, 3, none⟩ = some (.slice (some ⟨q, 0, none⟩) us.length cap) := (HB2.cell (p := ⟨M, 3, none⟩) kl).trans c3
 have z0 : W2.cell? ⟨w.heap.size, 0, none⟩ = some (.int .i64 4) := bx.cell 0
 have z1 : W2.cell? ⟨w.heap.size, 1, none⟩ = some (.int .i64 j) := bx.cell 1
 go_wp2_with fail
 refine wp_region_held_drew (S := fun w9 => w9.cell? ⟨w.heap.size, 1, none⟩ = some (.int .i64 j) ∧ w9.cell? ⟨M, 3, none⟩ = some (.slice (some ⟨q, 0, none⟩) us.length cap)) kRf (⟨z1, y0⟩) (fun hHeld => ?_)
 refine tkH 0 (.slice none 0 0) (some 125) rfl hHeld ?_
 try simp only [Act.put,sI_,sZ_,sS_]
 refine tkH 1 (.pointer (some ⟨M, 0, none⟩)) (some 126) rfl hHeld ?_
 try simp only [Act.put,sI_,sZ_,sS_]
 refine tkH 2 (.pointer (some ⟨M, 0, none⟩)) (some 127) rfl hHeld ?_
 try simp only [Act.put,sI_,sZ_,sS_]
 refine tkH 3 (.pointer (some ⟨M, 3, none⟩)) (some 128) rfl hHeld ?_
 try simp only [Act.put,sI_,sZ_,sS_]
 refine tkG 4 (.slice (some ⟨q, 0, none⟩) us.length cap) (some 129) rfl (fun w9 hw9 => by (obtain ⟨u1, u2⟩ := hw9; go_simp)) hHeld ?_
 try simp only [Act.put,sI_,sZ_,sS_]
 refine tkH 5 (.pointer (some ⟨w.heap.size, 1, none⟩)) (some 130) rfl hHeld ?_
 try simp only [Act.put,sI_,sZ_,sS_]
 refine tkG 6 (.int .i64 j) (some 131) rfl (fun w9 hw9 => by (obtain ⟨u1, u2⟩ := hw9; go_simp)) hHeld ?_
 try simp only [Act.put,sI_,sZ_,sS_]
 refine tkE 7 (.slice (some ⟨q, 0, none⟩) j cap) (some 132) rfl (Or.inl ⟨kRf, fun _ _ => by (go_simp; intro h; omega)⟩) hHeld ?_
 try simp only [Act.put,sI_,sZ_,sS_]
 try simp only [Act.put,sI_,sZ_,sS_]
 refine wpAnyH_ready (rs := [8]) kRf (by simp) ?_
 refine AllReadyH.cons rfl (fun K hK => ?_) AllReadyH.nil
 refine step_append_any _ rfl _ _ 58 rfl B 110 i0 (.agg #[.int .i64 0, .int .i64 0, .bool false, .int .i64 0, .int .i64 0, .int .i64 0]) 6 48 Tryz.underlying58 hi hz0 hz1 hz2 rfl (by decide) (.slice none 0 0) 0 [] (by simp [Act.eval, Act.put]) (own_nil _ _ _ _) ⟨q, 0, none⟩ j cap ((us.take j).flatMap RLetter.cells) (by simp [Act.eval, Act.put]) (by rw [HLen.out, List.length_take]; omega) (HN1.out _ HB2.drew) (HOne.out _) (by unfold maxLen; omega) (by omega) (by simp; omega) ?_
 intro v1 w5 ho5 hg5 hq5
 have HB5 : Below W2.heap.size W2 w5 := (Below.refl _ W2).drew.grown hg5 (by simp) (fun k hk => by simp [Value.ownBlock] at hk)
 have y3 : w5.cell? ⟨M, 3, none⟩ = some (.slice (some ⟨q, 0, none⟩) us.length cap) := (HB5.cell (p := ⟨M, 3, none⟩) (by show M < _; omega)).trans y0
 have z2 : w5.cell? ⟨w.heap.size, 1, none⟩ = some (.int .i64 j) := (HB5.cell (p := ⟨w.heap.size, 1, none⟩) (by show w.heap.size < _; omega)).trans z1
 refine hK.out _ _ (⟨z2, y3⟩) (fun hHeld2 => ?_)
 clear hK K hHeld
 have hHeld := hHeld2
 clear hHeld2
 change wpAnyH _ _ _ _ _ _ _ (Act.put _ (some 133) _) _
 try simp only [Act.put,sI_,sZ_,sS_]
 refine tkH 9 v1 (some 11) rfl hHeld ?_
 try simp only [Act.put,sI_,sZ_,sS_]
 refine wpAnyH_done kRf ?_ _
 try simp only [Act.put,sI_,sZ_,sS_]
 have hz5 := HB5.size
 have hlow5 : ∀ k, v1.ownBlock = some k → W2.heap.size ≤ k := fun k hk => by
  rcases hq5 with e | e
  ·rw [e] at hk; simp [Value.ownBlock] at hk
  ·rw [e] at hk; have := Option.some.inj hk; simp at this; omega
 have HLow5 := Lib.hid hlow5
 have HO5 := Lib.hid (show w5.ownsRow B 110 6 v1 j ((us.take j).flatMap RLetter.cells) from by simpa using ho5)
 have yf : w5.frozen? ⟨M, 3, none⟩ = false := ((HU.out.below (HB2.trans (HB5.mono HB2.size))).blk).fz 3
 have HB5h := Lib.hid HB5
 clear ho5 hg5 hq5 hlow5 y0 z1 z0
 go_wp2_with fail
 refine wp_region_held_drew (S := fun w9 => w9.cell? ⟨w.heap.size, 1, none⟩ = some (.int .i64 j)) kRf (z2) (fun hHeld => ?_)
 refine tkH 0 (.pointer (some ⟨M, 0, none⟩)) (some 134) rfl hHeld ?_
 try simp only [Act.put,sI_,sZ_,sS_]
 refine tkH 1 v1 (some 135) rfl hHeld ?_
 try simp only [Act.put,sI_,sZ_,sS_]
 refine tkH 2 (.pointer (some ⟨M, 0, none⟩)) (some 136) rfl hHeld ?_
 try simp only [Act.put,sI_,sZ_,sS_]
 refine tkH 3 (.pointer (some ⟨M, 0, none⟩)) (some 137) rfl hHeld ?_
 try simp only [Act.put,sI_,sZ_,sS_]
 refine tkH 4 (.pointer (some ⟨M, 3, none⟩)) (some 138) rfl hHeld ?_
 try simp only [Act.put,sI_,sZ_,sS_]
 refine tkH 6 (.pointer (some ⟨w.heap.size, 1, none⟩)) (some 140) rfl hHeld ?_
 try simp only [Act.put,sI_,sZ_,sS_]
 refine tkH 7 (.int .i64 j) (some 141) rfl hHeld ?_
 try simp only [Act.put,sI_,sZ_,sS_]
 refine tkH 8 (.int .i64 ((j : Int) + 1)) (some 142) rfl hHeld ?_
 try simp only [Act.put,sI_,sZ_,sS_]
 try simp only [Act.put,sI_,sZ_,sS_]
 refine wpAnyH_ready (rs := [5]) kRf (by simp) ?_
 refine AllReadyH.cons rfl (fun K hK => ?_) AllReadyH.nil
 go_simp
 refine hK.out _ _ (hHeld) (fun hHeld2 => ?_)
 clear hK K hHeld
 have hHeld := hHeld2
 clear hHeld2
 try simp only [Act.put,sI_,sZ_,sS_]
 have q3 : (j : Int) + 1 ≤ (cap : Int) := by omega
 have q4 : (j : Int) + 1 ≤ (us.length : Int) := by omega
 refine tkE 9 (.slice (some AA) (us.length - (j + 1)) (cap - (j + 1))) (some 143) rfl (Or.inl ⟨kRf, fun _ _ => by (go_simp; rw [if_pos (by omega), HAA.out])⟩) hHeld ?_
 try simp only [Act.put,sI_,sZ_,sS_]
 try simp only [Act.put,sI_,sZ_,sS_]
 refine wpAnyH_ready (rs := [10]) kRf (by simp) ?_
 refine AllReadyH.cons rfl (fun K hK => ?_) AllReadyH.nil
 refine step_append_any _ rfl _ _ 58 rfl B 110 i0 (.agg #[.int .i64 0, .int .i64 0, .bool false, .int .i64 0, .int .i64 0, .int .i64 0]) 6 48 Tryz.underlying58 hi hz0 hz1 hz2 rfl (by decide) v1 j ((us.take j).flatMap RLetter.cells) (by simp [Act.eval, Act.put]) (HO5.out) AA (us.length - (j + 1)) (cap - (j + 1)) ((us.drop (j + 1)).flatMap RLetter.cells) (by simp [Act.eval, Act.put]) (by rw [HLen.out, List.length_drop]) (HN2.out _ (HB2.trans (HB5h.out.mono HB2.size)).drew) (HOne.out _) (by unfold maxLen; omega) (by omega) (by simp; omega) ?_
 intro v2 w6 ho6 hg6 hq6
 obtain ⟨A9, c9, e9, _, _⟩ := own_slice ho6
 subst e9
 have HB6 : Below W2.heap.size W2 w6 := (HB5h.out.drew).grown hg6 (by simp; omega) (fun k hk => HLow5.out k hk)
 have hz6 := HB6.size
 have y4 : w6.cell? ⟨M, 3, none⟩ = some (.slice (some ⟨q, 0, none⟩) us.length cap) := (HB6.cell (p := ⟨M, 3, none⟩) (by show M < _; omega)).trans ((HB2.cell (p := ⟨M, 3, none⟩) kl).trans c3)
 have yg : w6.frozen? ⟨M, 3, none⟩ = false := ((HU.out.below (HB2.trans (HB6.mono HB2.size))).blk).fz 3
 have z3 : w6.cell? ⟨w.heap.size, 1, none⟩ = some (.int .i64 j) := (bx.below HB6 (by omega)).cell 1
 refine hK.out _ _ (z3) (fun hHeld2 => ?_)
 clear hK K hHeld
 have hHeld := hHeld2
 clear hHeld2
 change wpAnyH _ _ _ _ _ _ _ (Act.put _ (some 144) _) _
 try simp only [Act.put,sI_,sZ_,sS_]
 refine tkH 11 (.pointer (some ⟨M, 0, none⟩)) (some 145) rfl hHeld ?_
 try simp only [Act.put,sI_,sZ_,sS_]
 refine tkH 12 (.pointer (some ⟨M, 3, none⟩)) (some 146) rfl hHeld ?_
 try simp only [Act.put,sI_,sZ_,sS_]
 try simp only [Act.put,sI_,sZ_,sS_]
 refine wpAnyH_ready (rs := [13]) kRf (by simp) ?_
 refine AllReadyH.cons rfl (fun K hK => ?_) AllReadyH.nil
 go_simp
 refine hK.out _ _ (show (w6.setCell ⟨M, 3, none⟩ (.slice A9 (j + (us.length - (j + 1))) c9)).cell? ⟨w.heap.size, 1, none⟩ = some (.int .i64 j) from (World.cell?_setCell_other w6 _ _ (.slice A9 (j + (us.length - (j + 1))) c9) (fun e => by have := congrArg Addr.block e; simp at this; omega)).trans hHeld) (fun hHeld2 => ?_)
 clear hK K hHeld
 have hHeld := hHeld2
 clear hHeld2
 try simp only [Act.put,sI_,sZ_,sS_]
 refine wpAnyH_done kRf ?_ _
 try simp only [Act.put,sI_,sZ_,sS_]
 have HF := Lib.hid (show RWorld qv W0 (w6.setCell ⟨M, 3, none⟩ (.slice A9 (j + (us.length - (j + 1))) c9)) M B n A1 A2 c1 c2 t (.slice A9 (j + (us.length - (j + 1))) c9) (us.eraseIdx j) ∧ Kept (Mine M (.slice (some ⟨q, 0, none⟩) us.length cap)) w (w6.setCell ⟨M, 3, none⟩ (.slice A9 (j + (us.length - (j + 1))) c9)) ∧ (∀ k, (Value.slice A9 (j + (us.length - (j + 1))) c9).ownBlock = some k → W2.heap.size ≤ k) from by
  have hK : Kept (Mine M (.slice (some ⟨q, 0, none⟩) us.length cap)) w (w6.setCell ⟨M, 3, none⟩ (.slice A9 (j + (us.length - (j + 1))) c9)) := ((Kept.refl _ w).below (HB2.trans (HB6.mono HB2.size))).set M 3 _ (.inl (.inl rfl))
  have hlen : (us.eraseIdx j).length = j + (us.length - (j + 1)) := by rw [List.length_eraseIdx, if_pos hjl]; omega
  refine ⟨HU.out.next hK ?_ ?_ ?_ ?_ HU.out.t0 HU.out.t1, hK, fun k hk => ?_⟩
  ·exact (((HU.out.blk.below HB2 kl).below HB6 (by omega)).set 3 _).conv rfl
  ·rw [hlen]
   have ho7 := own_touched ho6 ((Touched.refl M w6).set 3 (.slice A9 (j + (us.length - (j + 1))) c9)) hgB
   rw [List.eraseIdx_eq_take_drop_succ, List.flatMap_append]
   exact ho7
  ·omega
  ·intro z hz
   exact HU.out.lok z (List.mem_of_mem_eraseIdx hz)
  ·rcases hq6 with e | e
   ·rw [e] at hk; exact HLow5.out k hk
   ·rw [e] at hk; have := Option.some.inj hk; simp at this; omega)
 have hx : Blk (w6.setCell ⟨M, 3, none⟩ (.slice A9 (j + (us.length - (j + 1))) c9)) w.heap.size 71 #[.int .i64 4, .int .i64 j, .int .i64 b] := (bx.below HB6 (by omega)).far (by show w.heap.size ≠ M; omega) _
 have hR : Blk (w6.setCell ⟨M, 3, none⟩ (.slice A9 (j + (us.length - (j + 1))) c9)) (w.heap.size + 1) 110 #[.int .i64 0, .int .i64 0, .bool false, .int .i64 0, .int .i64 0, .int .i64 0] := (br.below HB6 (by omega)).far (by show w.heap.size + 1 ≠ M; omega) _
 have hP : Blk (w6.setCell ⟨M, 3, none⟩ (.slice A9 (j + (us.length - (j + 1))) c9)) (w.heap.size + 2) 110 #[.int .i64 L.src, .int .i64 L.dst, .bool L.answer, .int .i64 L.t1, .int .i64 L.t2, .int .i64 L.t] := (bp.below HB6 (by omega)).far (by show w.heap.size + 2 ≠ M; omega) _
 have hR6 : Blk w6 (w.heap.size + 1) 110 #[.int .i64 0, .int .i64 0, .bool false, .int .i64 0, .int .i64 0, .int .i64 0] := br.below HB6 (by omega)
 obtain ⟨W9, hW9⟩ : ∃ W9, W9 = w6.setCell ⟨M, 3, none⟩ (.slice A9 (j + (us.length - (j + 1))) c9) := ⟨_, rfl⟩
 rw [← hW9] at HF hx hR hP ⊢
 clear hW9 ho6 hg6 hq6 y4 yg z3 hHeld y3 z2 yf hR6
 have zz0 : W9.cell? ⟨w.heap.size, 0, none⟩ = some (.int .i64 4) := hx.cell 0
 have zz1 : W9.cell? ⟨w.heap.size, 1, none⟩ = some (.int .i64 j) := hx.cell 1
 have zz2 : W9.cell? ⟨w.heap.size, 2, none⟩ = some (.int .i64 b) := hx.cell 2
 have r0 : W9.cell? ⟨w.heap.size + 1, 0, none⟩ = some (.int .i64 0) := hR.cell 0
 have rz0 : W9.frozen? ⟨w.heap.size + 1, 0, none⟩ = false := hR.fz 0
 have r1 : W9.cell? ⟨w.heap.size + 1, 1, none⟩ = some (.int .i64 0) := hR.cell 1
 have rz1 : W9.frozen? ⟨w.heap.size + 1, 1, none⟩ = false := hR.fz 1
 have r2 : W9.cell? ⟨w.heap.size + 1, 2, none⟩ = some (.bool false) := hR.cell 2
 have rz2 : W9.frozen? ⟨w.heap.size + 1, 2, none⟩ = false := hR.fz 2
 have r3 : W9.cell? ⟨w.heap.size + 1, 3, none⟩ = some (.int .i64 0) := hR.cell 3
 have rz3 : W9.frozen? ⟨w.heap.size + 1, 3, none⟩ = false := hR.fz 3
 have r4 : W9.cell? ⟨w.heap.size + 1, 4, none⟩ = some (.int .i64 0) := hR.cell 4
 have rz4 : W9.frozen? ⟨w.heap.size + 1, 4, none⟩ = false := hR.fz 4
 have r5 : W9.cell? ⟨w.heap.size + 1, 5, none⟩ = some (.int .i64 0) := hR.cell 5
 have rz5 : W9.frozen? ⟨w.heap.size + 1, 5, none⟩ = false := hR.fz 5
 have p0 : W9.cell? ⟨w.heap.size + 2, 0, none⟩ = some (.int .i64 L.src) := hP.cell 0
 have p1 : W9.cell? ⟨w.heap.size + 2, 1, none⟩ = some (.int .i64 L.dst) := hP.cell 1
 have p2 : W9.cell? ⟨w.heap.size + 2, 2, none⟩ = some (.bool L.answer) := hP.cell 2
 have p3 : W9.cell? ⟨w.heap.size + 2, 3, none⟩ = some (.int .i64 L.t1) := hP.cell 3
 have p4 : W9.cell? ⟨w.heap.size + 2, 4, none⟩ = some (.int .i64 L.t2) := hP.cell 4
 have p5 : W9.cell? ⟨w.heap.size + 2, 5, none⟩ = some (.int .i64 L.t) := hP.cell 5
 go_wp2_with fail
 (try simp only [Exit.inBlock, Exit.then])
 refine bodyPost_ret (do_results _ _ (w.heap.size + 1) 0 0 false 0 0 0 false 0 BkD rfl rfl rfl) rfl ?_
 obtain ⟨f1, f2, f3⟩ := HF.out
 refine ⟨rfl, rsent_later HU.out f1 f2 (fun k hk => by have := f3 k hk; omega) (r := w.heap.size + 1) (by omega) (fun e => by have := f3 _ e; omega) (by repeat (first | with_reducible exact Touched.refl _ _ | (with_reducible refine Touched.alloc ?_ _) | (with_reducible refine Touched.setp ?_ _ (by first | exact .inl rfl | (right; first | omega | (simp; done) | (simp; omega))) _) | (with_reducible refine Touched.drew ?_) | (with_reducible refine Touched.drewN ?_ _) | (with_reducible assumption) | (with_reducible refine Touched.then (by with_reducible assumption) ?_)))⟩
set_option maxRecDepth 100000 in
set_option maxHeartbeats 8000000 in
theorem r2_Do_deliver (W0 : World) (M B n : Nat) (A1 A2 : Option Addr) (c1 c2 : Nat) (t : Int) (uv : Value) (us : List RLetter) (j : Nat) (L : RLetter) (b : Int) (w : World) (h : RWorld qv W0 w M B n A1 A2 c1 c2 t uv us) (hj : us[j]? = some L) :
  Calls Tryz.prog 41 #[.pointer (some ⟨M, 0, none⟩), .agg #[.int .i64 3, .int .i64 j, .int .i64 b]] w fun e w' => e = .returned (.tuple #[.agg (RLetter.cells L).toArray, .bool true, .int .i64 0]) ∧ RSent qv W0 w M B n A1 A2 c1 c2 t uv (us.eraseIdx j) w' := by
 obtain ⟨i0, hi, hz0, hz1, hz2⟩ := info_parts infoLt
 obtain ⟨q, cap, cur, rfl, hBq, hbq, hnc, hcm, hcells⟩ := row_at h.row hj
 have hjl := (List.getElem?_eq_some_iff.1 hj).1
 have l40 := h.l40
 unfold maxLen at hcm
 have c3 := h.blk.cell 3
 have kl := h.blk.lt
 have kf := h.blk.fz 3
 have ql := hbq.lt
 have hgq : M ≠ q := by have := h.MB; omega
 simp at c3
 have x0 : w.cell? ⟨q, j * 6, none⟩ = some (.int .i64 L.src) := by rw [hbq.cell]; exact hcells 0 _ rfl
 have x1 : w.cell? ⟨q, j * 6 + 1, none⟩ = some (.int .i64 L.dst) := by rw [hbq.cell]; exact hcells 1 _ rfl
 have x2 : w.cell? ⟨q, j * 6 + 2, none⟩ = some (.bool L.answer) := by rw [hbq.cell]; exact hcells 2 _ rfl
 have x3 : w.cell? ⟨q, j * 6 + 3, none⟩ = some (.int .i64 L.t1) := by rw [hbq.cell]; exact hcells 3 _ rfl
 have x4 : w.cell? ⟨q, j * 6 + 4, none⟩ = some (.int .i64 L.t2) := by rw [hbq.cell]; exact hcells 4 _ rfl
 have x5 : w.cell? ⟨q, j * 6 + 5, none⟩ = some (.int .i64 L.t) := by rw [hbq.cell]; exact hcells 5 _ rfl
 have e1 : decide ((j : Int) < 0) = false := by simp
 have e2 : decide ((us.length : Int) ≤ (j : Int)) = false := by simp; omega
 have q0 : (0 : Int) ≤ (j : Int) := by omega
 have q1 : (j : Int) < (us.length : Int) := by omega
 have HU := Lib.hid h
 have hle : w.heap.size ≤ w.heap.size + 1 := by omega
 have kl2 : M < w.heap.size + 1 := by omega
 have kl3 : M < w.heap.size + 1 + 1 := by omega
 have kl4 : M < w.heap.size + 1 + 1 + 1 := by omega
 have ql2 : q < w.heap.size + 1 := by omega
 have ql3 : q < w.heap.size + 1 + 1 := by omega
 have ql4 : q < w.heap.size + 1 + 1 + 1 := by omega
 have q2 := IntWalk.i64_in ((j : Int) + 1) (by omega)
 have HLie := Lib.hid (fun W (hb : Below w.heap.size w W) => row_lies (own_below HU.out.row hb))
 have HLen := Lib.hid (flat_lenK RLetter.cells 6 (fun _ => rfl))
 have HOne := Lib.hid (fun (l : List RLetter) => show ∀ u ∈ l.flatMap RLetter.cells, u.oneCell' = true from fun u hu => by
  obtain ⟨z, _, h2⟩ := List.mem_flatMap.1 hu
  exact letter_one z u h2)
 have hBw := h.Bw
 have hgB := h.MB
 have HN1 := Lib.hid (fun W (hb : Below w.heap.size w W) => show ∀ i u, ((us.take j).flatMap RLetter.cells)[i]? = some u → W.cell? ((⟨q, 0, none⟩ : Addr).add i) = some u from fun i u hu => by
  have hil : i < j * 6 := by have := (List.getElem?_eq_some_iff.1 hu).1; rw [HLen.out, List.length_take] at this; omega
  rw [flat_take RLetter.cells 6 (fun _ => rfl), List.getElem?_take, if_pos hil] at hu
  rw [show (⟨q, 0, none⟩ : Addr).add i = ⟨q, i, none⟩ by unfold Addr.add; split <;> simp_all]
  exact HLie.out W hb i u hu)
 obtain ⟨AA, hAA, hN2⟩ : ∃ AA : Addr, (if cap = j + 1 then some (⟨q, 0, none⟩ : Addr) else some ⟨q, (j + 1) * 6, none⟩) = some AA ∧ ∀ W, Below w.heap.size w W → ∀ i u, ((us.drop (j + 1)).flatMap RLetter.cells)[i]? = some u → W.cell? (AA.add i) = some u := by
  by_cases hc : cap = j + 1
  ·refine ⟨⟨q, 0, none⟩, by rw [if_pos hc], fun W hb i u hu => ?_⟩
   have := (List.getElem?_eq_some_iff.1 hu).1; rw [HLen.out, List.length_drop] at this; omega
  ·refine ⟨⟨q, (j + 1) * 6, none⟩, by rw [if_neg hc], fun W hb i u hu => ?_⟩
   rw [show (⟨q, (j + 1) * 6, none⟩ : Addr).add i = ⟨q, (j + 1) * 6 + i, none⟩ by unfold Addr.add; split <;> simp_all]
   rw [flat_drop RLetter.cells 6 (fun _ => rfl), List.getElem?_drop] at hu
   exact HLie.out W hb _ u hu
 have HN2 := Lib.hid hN2
 have HAA := Lib.hid hAA
 clear hN2 hAA h hbq hcells hj
 go_enter Tryz.func41, Tryz.ntmps41
 go_wp2_with fail
 go_quiet (fail)
 go_wp2_with fail
 go_region
 obtain ⟨W2, hW2⟩ : ∃ W2, W2 = ((((w.alloc (.cells #[.int .i64 3, .int .i64 j, .int .i64 b] 71)).alloc (.cells #[.int .i64 0, .int .i64 0, .bool false, .int .i64 0, .int .i64 0, .int .i64 0] 110)).drewN (nq + 1)).alloc (.cells #[.int .i64 L.src, .int .i64 L.dst, .bool L.answer, .int .i64 L.t1, .int .i64 L.t2, .int .i64 L.t] 110)) := ⟨_, rfl⟩
 have HB2 : Below w.heap.size w W2 := by rw [hW2]; exact BeL
 have bx : Blk W2 w.heap.size 71 #[.int .i64 3, .int .i64 j, .int .i64 b] := by rw [hW2]; exact (((Blk.new w _ _).alloc _).drewN _).alloc _
 have br : Blk W2 (w.heap.size + 1) 110 #[.int .i64 0, .int .i64 0, .bool false, .int .i64 0, .int .i64 0, .int .i64 0] := by rw [hW2]; exact ((Blk.newAt _ _ _ _ (by simp)).drewN _).alloc _
 have bp : Blk W2 (w.heap.size + 2) 110 #[.int .i64 L.src, .int .i64 L.dst, .bool L.answer, .int .i64 L.t1, .int .i64 L.t2, .int .i64 L.t] := by rw [hW2]; exact Blk.newAt _ _ _ _ (by simp)
 have hs2 : W2.heap.size = w.heap.size + 3 := by rw [hW2]; simp
 rw [← hW2]
 clear hW2 x0 x1 x2 x3 x4 x5
 have y0 : W2.cell? ⟨M, 3, none⟩ = some (.slice (some ⟨q, 0, none⟩) us.length cap) := (HB2.cell (p := ⟨M, 3, none⟩) kl).trans c3
 have z0 : W2.cell? ⟨w.heap.size, 0, none⟩ = some (.int .i64 3) := bx.cell 0
 have z1 : W2.cell? ⟨w.heap.size, 1, none⟩ = some (.int .i64 j) := bx.cell 1
 go_wp2_with fail
 refine wp_region_held_drew (S := fun w9 => w9.cell? ⟨w.heap.size, 1, none⟩ = some (.int .i64 j) ∧ w9.cell? ⟨M, 3, none⟩ = some (.slice (some ⟨q, 0, none⟩) us.length cap)) kRf (⟨z1, y0⟩) (fun hHeld => ?_)
 refine tkH 0 (.slice none 0 0) (some 125) rfl hHeld ?_
 try simp only [Act.put,sI_,sZ_,sS_]
 refine tkH 1 (.pointer (some ⟨M, 0, none⟩)) (some 126) rfl hHeld ?_
 try simp only [Act.put,sI_,sZ_,sS_]
 refine tkH 2 (.pointer (some ⟨M, 0, none⟩)) (some 127) rfl hHeld ?_
 try simp only [Act.put,sI_,sZ_,sS_]
 refine tkH 3 (.pointer (some ⟨M, 3, none⟩)) (some 128) rfl hHeld ?_
 try simp only [Act.put,sI_,sZ_,sS_]
 refine tkG 4 (.slice (some ⟨q, 0, none⟩) us.length cap) (some 129) rfl (fun w9 hw9 => by (obtain ⟨u1, u2⟩ := hw9; go_simp)) hHeld ?_
 try simp only [Act.put,sI_,sZ_,sS_]
 refine tkH 5 (.pointer (some ⟨w.heap.size, 1, none⟩)) (some 130) rfl hHeld ?_
 try simp only [Act.put,sI_,sZ_,sS_]
 refine tkG 6 (.int .i64 j) (some 131) rfl (fun w9 hw9 => by (obtain ⟨u1, u2⟩ := hw9; go_simp)) hHeld ?_
 try simp only [Act.put,sI_,sZ_,sS_]
 refine tkE 7 (.slice (some ⟨q, 0, none⟩) j cap) (some 132) rfl (Or.inl ⟨kRf, fun _ _ => by (go_simp; intro h; omega)⟩) hHeld ?_
 try simp only [Act.put,sI_,sZ_,sS_]
 try simp only [Act.put,sI_,sZ_,sS_]
 refine wpAnyH_ready (rs := [8]) kRf (by simp) ?_
 refine AllReadyH.cons rfl (fun K hK => ?_) AllReadyH.nil
 refine step_append_any _ rfl _ _ 58 rfl B 110 i0 (.agg #[.int .i64 0, .int .i64 0, .bool false, .int .i64 0, .int .i64 0, .int .i64 0]) 6 48 Tryz.underlying58 hi hz0 hz1 hz2 rfl (by decide) (.slice none 0 0) 0 [] (by simp [Act.eval, Act.put]) (own_nil _ _ _ _) ⟨q, 0, none⟩ j cap ((us.take j).flatMap RLetter.cells) (by simp [Act.eval, Act.put]) (by rw [HLen.out, List.length_take]; omega) (HN1.out _ HB2.drew) (HOne.out _) (by unfold maxLen; omega) (by omega) (by simp; omega) ?_
 intro v1 w5 ho5 hg5 hq5
 have HB5 : Below W2.heap.size W2 w5 := (Below.refl _ W2).drew.grown hg5 (by simp) (fun k hk => by simp [Value.ownBlock] at hk)
 have y3 : w5.cell? ⟨M, 3, none⟩ = some (.slice (some ⟨q, 0, none⟩) us.length cap) := (HB5.cell (p := ⟨M, 3, none⟩) (by show M < _; omega)).trans y0
 have z2 : w5.cell? ⟨w.heap.size, 1, none⟩ = some (.int .i64 j) := (HB5.cell (p := ⟨w.heap.size, 1, none⟩) (by show w.heap.size < _; omega)).trans z1
 refine hK.out _ _ (⟨z2, y3⟩) (fun hHeld2 => ?_)
 clear hK K hHeld
 have hHeld := hHeld2
 clear hHeld2
 change wpAnyH _ _ _ _ _ _ _ (Act.put _ (some 133) _) _
 try simp only [Act.put,sI_,sZ_,sS_]
 refine tkH 9 v1 (some 11) rfl hHeld ?_
 try simp only [Act.put,sI_,sZ_,sS_]
 refine wpAnyH_done kRf ?_ _
 try simp only [Act.put,sI_,sZ_,sS_]
 have hz5 := HB5.size
 have hlow5 : ∀ k, v1.ownBlock = some k → W2.heap.size ≤ k := fun k hk => by
  rcases hq5 with e | e
  ·rw [e] at hk; simp [Value.ownBlock] at hk
  ·rw [e] at hk; have := Option.some.inj hk; simp at this; omega
 have HLow5 := Lib.hid hlow5
 have HO5 := Lib.hid (show w5.ownsRow B 110 6 v1 j ((us.take j).flatMap RLetter.cells) from by simpa using ho5)
 have yf : w5.frozen? ⟨M, 3, none⟩ = false := ((HU.out.below (HB2.trans (HB5.mono HB2.size))).blk).fz 3
 have HB5h := Lib.hid HB5
 clear ho5 hg5 hq5 hlow5 y0 z1 z0
 go_wp2_with fail
 refine wp_region_held_drew (S := fun w9 => w9.cell? ⟨w.heap.size, 1, none⟩ = some (.int .i64 j)) kRf (z2) (fun hHeld => ?_)
 refine tkH 0 (.pointer (some ⟨M, 0, none⟩)) (some 134) rfl hHeld ?_
 try simp only [Act.put,sI_,sZ_,sS_]
 refine tkH 1 v1 (some 135) rfl hHeld ?_
 try simp only [Act.put,sI_,sZ_,sS_]
 refine tkH 2 (.pointer (some ⟨M, 0, none⟩)) (some 136) rfl hHeld ?_
 try simp only [Act.put,sI_,sZ_,sS_]
 refine tkH 3 (.pointer (some ⟨M, 0, none⟩)) (some 137) rfl hHeld ?_
 try simp only [Act.put,sI_,sZ_,sS_]
 refine tkH 4 (.pointer (some ⟨M, 3, none⟩)) (some 138) rfl hHeld ?_
 try simp only [Act.put,sI_,sZ_,sS_]
 refine tkH 6 (.pointer (some ⟨w.heap.size, 1, none⟩)) (some 140) rfl hHeld ?_
 try simp only [Act.put,sI_,sZ_,sS_]
 refine tkH 7 (.int .i64 j) (some 141) rfl hHeld ?_
 try simp only [Act.put,sI_,sZ_,sS_]
 refine tkH 8 (.int .i64 ((j : Int) + 1)) (some 142) rfl hHeld ?_
 try simp only [Act.put,sI_,sZ_,sS_]
 try simp only [Act.put,sI_,sZ_,sS_]
 refine wpAnyH_ready (rs := [5]) kRf (by simp) ?_
 refine AllReadyH.cons rfl (fun K hK => ?_) AllReadyH.nil
 go_simp
 refine hK.out _ _ (hHeld) (fun hHeld2 => ?_)
 clear hK K hHeld
 have hHeld := hHeld2
 clear hHeld2
 try simp only [Act.put,sI_,sZ_,sS_]
 have q3 : (j : Int) + 1 ≤ (cap : Int) := by omega
 have q4 : (j : Int) + 1 ≤ (us.length : Int) := by omega
 refine tkE 9 (.slice (some AA) (us.length - (j + 1)) (cap - (j + 1))) (some 143) rfl (Or.inl ⟨kRf, fun _ _ => by (go_simp; rw [if_pos (by omega), HAA.out])⟩) hHeld ?_
 try simp only [Act.put,sI_,sZ_,sS_]
 try simp only [Act.put,sI_,sZ_,sS_]
 refine wpAnyH_ready (rs := [10]) kRf (by simp) ?_
 refine AllReadyH.cons rfl (fun K hK => ?_) AllReadyH.nil
 refine step_append_any _ rfl _ _ 58 rfl B 110 i0 (.agg #[.int .i64 0, .int .i64 0, .bool false, .int .i64 0, .int .i64 0, .int .i64 0]) 6 48 Tryz.underlying58 hi hz0 hz1 hz2 rfl (by decide) v1 j ((us.take j).flatMap RLetter.cells) (by simp [Act.eval, Act.put]) (HO5.out) AA (us.length - (j + 1)) (cap - (j + 1)) ((us.drop (j + 1)).flatMap RLetter.cells) (by simp [Act.eval, Act.put]) (by rw [HLen.out, List.length_drop]) (HN2.out _ (HB2.trans (HB5h.out.mono HB2.size)).drew) (HOne.out _) (by unfold maxLen; omega) (by omega) (by simp; omega) ?_
 intro v2 w6 ho6 hg6 hq6
 obtain ⟨A9, c9, e9, _, _⟩ := own_slice ho6
 subst e9
 have HB6 : Below W2.heap.size W2 w6 := (HB5h.out.drew).grown hg6 (by simp; omega) (fun k hk => HLow5.out k hk)
 have hz6 := HB6.size
 have y4 : w6.cell? ⟨M, 3, none⟩ = some (.slice (some ⟨q, 0, none⟩) us.length cap) := (HB6.cell (p := ⟨M, 3, none⟩) (by show M < _; omega)).trans ((HB2.cell (p := ⟨M, 3, none⟩) kl).trans c3)
 have yg : w6.frozen? ⟨M, 3, none⟩ = false := ((HU.out.below (HB2.trans (HB6.mono HB2.size))).blk).fz 3
 have z3 : w6.cell? ⟨w.heap.size, 1, none⟩ = some (.int .i64 j) := (bx.below HB6 (by omega)).cell 1
 refine hK.out _ _ (z3) (fun hHeld2 => ?_)
 clear hK K hHeld
 have hHeld := hHeld2
 clear hHeld2
 change wpAnyH _ _ _ _ _ _ _ (Act.put _ (some 144) _) _
 try simp only [Act.put,sI_,sZ_,sS_]
 refine tkH 11 (.pointer (some ⟨M, 0, none⟩)) (some 145) rfl hHeld ?_
 try simp only [Act.put,sI_,sZ_,sS_]
 refine tkH 12 (.pointer (some ⟨M, 3, none⟩)) (some 146) rfl hHeld ?_
 try simp only [Act.put,sI_,sZ_,sS_]
 try simp only [Act.put,sI_,sZ_,sS_]
 refine wpAnyH_ready (rs := [13]) kRf (by simp) ?_
 refine AllReadyH.cons rfl (fun K hK => ?_) AllReadyH.nil
 go_simp
 refine hK.out _ _ (show (w6.setCell ⟨M, 3, none⟩ (.slice A9 (j + (us.length - (j + 1))) c9)).cell? ⟨w.heap.size, 1, none⟩ = some (.int .i64 j) from (World.cell?_setCell_other w6 _ _ (.slice A9 (j + (us.length - (j + 1))) c9) (fun e => by have := congrArg Addr.block e; simp at this; omega)).trans hHeld) (fun hHeld2 => ?_)
 clear hK K hHeld
 have hHeld := hHeld2
 clear hHeld2
 try simp only [Act.put,sI_,sZ_,sS_]
 refine wpAnyH_done kRf ?_ _
 try simp only [Act.put,sI_,sZ_,sS_]
 have HF := Lib.hid (show RWorld qv W0 (w6.setCell ⟨M, 3, none⟩ (.slice A9 (j + (us.length - (j + 1))) c9)) M B n A1 A2 c1 c2 t (.slice A9 (j + (us.length - (j + 1))) c9) (us.eraseIdx j) ∧ Kept (Mine M (.slice (some ⟨q, 0, none⟩) us.length cap)) w (w6.setCell ⟨M, 3, none⟩ (.slice A9 (j + (us.length - (j + 1))) c9)) ∧ (∀ k, (Value.slice A9 (j + (us.length - (j + 1))) c9).ownBlock = some k → W2.heap.size ≤ k) from by
  have hK : Kept (Mine M (.slice (some ⟨q, 0, none⟩) us.length cap)) w (w6.setCell ⟨M, 3, none⟩ (.slice A9 (j + (us.length - (j + 1))) c9)) := ((Kept.refl _ w).below (HB2.trans (HB6.mono HB2.size))).set M 3 _ (.inl (.inl rfl))
  have hlen : (us.eraseIdx j).length = j + (us.length - (j + 1)) := by rw [List.length_eraseIdx, if_pos hjl]; omega
  refine ⟨HU.out.next hK ?_ ?_ ?_ ?_ HU.out.t0 HU.out.t1, hK, fun k hk => ?_⟩
  ·exact (((HU.out.blk.below HB2 kl).below HB6 (by omega)).set 3 _).conv rfl
  ·rw [hlen]
   have ho7 := own_touched ho6 ((Touched.refl M w6).set 3 (.slice A9 (j + (us.length - (j + 1))) c9)) hgB
   rw [List.eraseIdx_eq_take_drop_succ, List.flatMap_append]
   exact ho7
  ·omega
  ·intro z hz
   exact HU.out.lok z (List.mem_of_mem_eraseIdx hz)
  ·rcases hq6 with e | e
   ·rw [e] at hk; exact HLow5.out k hk
   ·rw [e] at hk; have := Option.some.inj hk; simp at this; omega)
 have hx : Blk (w6.setCell ⟨M, 3, none⟩ (.slice A9 (j + (us.length - (j + 1))) c9)) w.heap.size 71 #[.int .i64 3, .int .i64 j, .int .i64 b] := (bx.below HB6 (by omega)).far (by show w.heap.size ≠ M; omega) _
 have hR : Blk (w6.setCell ⟨M, 3, none⟩ (.slice A9 (j + (us.length - (j + 1))) c9)) (w.heap.size + 1) 110 #[.int .i64 0, .int .i64 0, .bool false, .int .i64 0, .int .i64 0, .int .i64 0] := (br.below HB6 (by omega)).far (by show w.heap.size + 1 ≠ M; omega) _
 have hP : Blk (w6.setCell ⟨M, 3, none⟩ (.slice A9 (j + (us.length - (j + 1))) c9)) (w.heap.size + 2) 110 #[.int .i64 L.src, .int .i64 L.dst, .bool L.answer, .int .i64 L.t1, .int .i64 L.t2, .int .i64 L.t] := (bp.below HB6 (by omega)).far (by show w.heap.size + 2 ≠ M; omega) _
 have hR6 : Blk w6 (w.heap.size + 1) 110 #[.int .i64 0, .int .i64 0, .bool false, .int .i64 0, .int .i64 0, .int .i64 0] := br.below HB6 (by omega)
 obtain ⟨W9, hW9⟩ : ∃ W9, W9 = w6.setCell ⟨M, 3, none⟩ (.slice A9 (j + (us.length - (j + 1))) c9) := ⟨_, rfl⟩
 rw [← hW9] at HF hx hR hP ⊢
 clear hW9 ho6 hg6 hq6 y4 yg z3 hHeld y3 z2 yf hR6
 have zz0 : W9.cell? ⟨w.heap.size, 0, none⟩ = some (.int .i64 3) := hx.cell 0
 have zz1 : W9.cell? ⟨w.heap.size, 1, none⟩ = some (.int .i64 j) := hx.cell 1
 have zz2 : W9.cell? ⟨w.heap.size, 2, none⟩ = some (.int .i64 b) := hx.cell 2
 have r0 : W9.cell? ⟨w.heap.size + 1, 0, none⟩ = some (.int .i64 0) := hR.cell 0
 have rz0 : W9.frozen? ⟨w.heap.size + 1, 0, none⟩ = false := hR.fz 0
 have r1 : W9.cell? ⟨w.heap.size + 1, 1, none⟩ = some (.int .i64 0) := hR.cell 1
 have rz1 : W9.frozen? ⟨w.heap.size + 1, 1, none⟩ = false := hR.fz 1
 have r2 : W9.cell? ⟨w.heap.size + 1, 2, none⟩ = some (.bool false) := hR.cell 2
 have rz2 : W9.frozen? ⟨w.heap.size + 1, 2, none⟩ = false := hR.fz 2
 have r3 : W9.cell? ⟨w.heap.size + 1, 3, none⟩ = some (.int .i64 0) := hR.cell 3
 have rz3 : W9.frozen? ⟨w.heap.size + 1, 3, none⟩ = false := hR.fz 3
 have r4 : W9.cell? ⟨w.heap.size + 1, 4, none⟩ = some (.int .i64 0) := hR.cell 4
 have rz4 : W9.frozen? ⟨w.heap.size + 1, 4, none⟩ = false := hR.fz 4
 have r5 : W9.cell? ⟨w.heap.size + 1, 5, none⟩ = some (.int .i64 0) := hR.cell 5
 have rz5 : W9.frozen? ⟨w.heap.size + 1, 5, none⟩ = false := hR.fz 5
 have p0 : W9.cell? ⟨w.heap.size + 2, 0, none⟩ = some (.int .i64 L.src) := hP.cell 0
 have p1 : W9.cell? ⟨w.heap.size + 2, 1, none⟩ = some (.int .i64 L.dst) := hP.cell 1
 have p2 : W9.cell? ⟨w.heap.size + 2, 2, none⟩ = some (.bool L.answer) := hP.cell 2
 have p3 : W9.cell? ⟨w.heap.size + 2, 3, none⟩ = some (.int .i64 L.t1) := hP.cell 3
 have p4 : W9.cell? ⟨w.heap.size + 2, 4, none⟩ = some (.int .i64 L.t2) := hP.cell 4
 have p5 : W9.cell? ⟨w.heap.size + 2, 5, none⟩ = some (.int .i64 L.t) := hP.cell 5
 go_wp2_with fail
 (try simp only [Exit.inBlock, Exit.then])
 refine bodyPost_ret (do_results _ _ (w.heap.size + 1) L.src L.dst L.answer L.t1 L.t2 L.t true 0 BkD rfl rfl rfl) rfl ?_
 obtain ⟨f1, f2, f3⟩ := HF.out
 refine ⟨rfl, rsent_later HU.out f1 f2 (fun k hk => by have := f3 k hk; omega) (r := w.heap.size + 1) (by omega) (fun e => by have := f3 _ e; omega) (by repeat (first | with_reducible exact Touched.refl _ _ | (with_reducible refine Touched.alloc ?_ _) | (with_reducible refine Touched.setp ?_ _ (by first | exact .inl rfl | (right; first | omega | (simp; done) | (simp; omega))) _) | (with_reducible refine Touched.drew ?_) | (with_reducible refine Touched.drewN ?_ _) | (with_reducible assumption) | (with_reducible refine Touched.then (by with_reducible assumption) ?_)))⟩
end


section
open Go.RowKit
variable {qv : Value}
def GotV : Option RLetter → Value
 | none => noL
 | some L => .agg (RLetter.cells L).toArray
def DoR (qv : Value) (n : Nat) (ss rs : List Int) (t : Int) (us : List RLetter) (A : RAct) (c : Int) (got : Option RLetter) (t' : Int) (us' : List RLetter) : Prop :=
 ∀ (W0 : World) (M B : Nat) (A1 A2 : Option Addr) (c1 c2 : Nat) (uv : Value) (w : World), RWorld qv W0 w M B n A1 A2 c1 c2 t uv us → IsInts W0 A1 n c1 ss → IsInts W0 A2 n c2 rs →
  Calls Tryz.prog 41 #[.pointer (some ⟨M, 0, none⟩), .agg #[.int .i64 A.what, .int .i64 A.a, .int .i64 A.b]] w fun e w' => e = .returned (.tuple #[GotV got, .bool got.isSome, .int .i64 c]) ∧ ∃ uv', RWorld qv W0 w' M B n A1 A2 c1 c2 t' uv' us' ∧ Kept (Mine M uv) w w' ∧ (∀ q, uv'.ownBlock = some q → uv.ownBlock = some q ∨ w.heap.size ≤ q)
def AnsR (qv : Value) (n : Nat) (ss rs : List Int) (t : Int) (us : List RLetter) (L : RLetter) (c : Int) (us' : List RLetter) : Prop :=
 ∀ (W0 : World) (M B : Nat) (A1 A2 : Option Addr) (c1 c2 : Nat) (uv : Value) (w : World), RWorld qv W0 w M B n A1 A2 c1 c2 t uv us → IsInts W0 A1 n c1 ss → IsInts W0 A2 n c2 rs →
  Calls Tryz.prog 43 #[.pointer (some ⟨M, 0, none⟩), .agg #[.int .i64 L.src, .int .i64 L.dst, .bool L.answer, .int .i64 L.t1, .int .i64 L.t2, .int .i64 L.t]] w fun e w' => e = .returned (.int .i64 c) ∧ RSent qv W0 w M B n A1 A2 c1 c2 t uv us' w'
theorem rsent_below {W0 w w' : World} {M B n : Nat} {A1 A2 : Option Addr} {c1 c2 : Nat} {t : Int} {uv : Value} {us : List RLetter} (h : RWorld qv W0 w M B n A1 A2 c1 c2 t uv us) (hb : Below w.heap.size w w') : RSent qv W0 w M B n A1 A2 c1 c2 t uv us w' :=
 ⟨uv, h.below hb, (Kept.refl _ w).below hb, fun _ e => .inl e⟩
theorem dor_below {n : Nat} {ss rs : List Int} {t : Int} {us : List RLetter} {A : RAct} {c : Int}
  (h : ∀ (W0 : World) (M B : Nat) (A1 A2 : Option Addr) (c1 c2 : Nat) (uv : Value) (w : World), RWorld qv W0 w M B n A1 A2 c1 c2 t uv us → Calls Tryz.prog 41 #[.pointer (some ⟨M, 0, none⟩), .agg #[.int .i64 A.what, .int .i64 A.a, .int .i64 A.b]] w fun e w' => e = .returned (.tuple #[noL, .bool false, .int .i64 c]) ∧ Below w.heap.size w w') : DoR qv n ss rs t us A c none t us := fun W0 M B A1 A2 c1 c2 uv w hw _ _ => (h W0 M B A1 A2 c1 c2 uv w hw).mono (by
 rintro e w' ⟨rfl, hb⟩
 exact ⟨rfl, rsent_below hw hb⟩)
theorem act_R {n : Nat} {ss rs : List Int} {t t' : Int} {us us' : List RLetter} {A : RAct} {c : Int} {got : Option RLetter} (h : WAct n ss rs t us A c got t' us') (hA : RAct.ok A) (n6 : n ≤ 6) (sb : ∀ (i : Nat) z, ss[i]? = some z → 0 ≤ z ∧ z ≤ 1000000) (rb : ∀ (i : Nat) z, rs[i]? = some z → -1000 ≤ z ∧ z ≤ 1000) : DoR qv n ss rs t us A c got t' us' := by
 cases h with
 | gone a b h0 h1 h2 => exact fun W0 M B A1 A2 c1 c2 uv w h _ _ => (r2_Do_gone W0 M B n A1 A2 c1 c2 t uv us a b w h h0 h1 h2).mono (by rintro e w' ⟨rfl, h1, hk⟩; exact ⟨rfl, uv, h1, hk, fun _ e => .inl e⟩)
 | stays a b h0 => exact dor_below fun W0 M B A1 A2 c1 c2 uv w h => r2_Do_stays W0 M B n A1 A2 c1 c2 t uv us a b w h hA.2.1 h0
 | askNo a b h0 => exact dor_below fun W0 M B A1 A2 c1 c2 uv w h => r2_Do_ask_no W0 M B n A1 A2 c1 c2 t uv us a b w h h0
 | askSame i hi => exact dor_below fun W0 M B A1 A2 c1 c2 uv w h => r2_Do_ask_same W0 M B n A1 A2 c1 c2 t uv us i w h (hasN_nat hi)
 | askFull i k hi hk hne hl => exact dor_below fun W0 M B A1 A2 c1 c2 uv w h => r2_Do_ask_full W0 M B n A1 A2 c1 c2 t uv us i k w h (hasN_nat hi) (hasN_nat hk) (by omega) (by omega)
 | ask i k s r hs hr hk hne hl => exact fun W0 M B A1 A2 c1 c2 uv w h i1 i2 => (r2_Do_ask W0 M B n A1 A2 c1 c2 ss rs t uv us i k s r w h i1 i2 n6 hs hr (sb i s hs) (rb i r hr) hk hne hl).mono (by rintro e w' ⟨rfl, h1⟩; exact ⟨rfl, h1⟩)
 | none_ k a b hk ha => exact dor_below fun W0 M B A1 A2 c1 c2 uv w h => r2_Do_none W0 M B n A1 A2 c1 c2 t uv us k a b w h hk ha
 | deliver j L b hj => exact fun W0 M B A1 A2 c1 c2 uv w h _ _ => (r2_Do_deliver W0 M B n A1 A2 c1 c2 t uv us j L b w h hj).mono (by rintro e w' ⟨rfl, h1⟩; exact ⟨rfl, h1⟩)
 | lose j L b hj => exact fun W0 M B A1 A2 c1 c2 uv w h _ _ => (r2_Do_lose W0 M B n A1 A2 c1 c2 t uv us j L b w h hj).mono (by rintro e w' ⟨rfl, h1⟩; exact ⟨rfl, h1⟩)
 | again j L b hj => exact fun W0 M B A1 A2 c1 c2 uv w h _ _ => (r2_Do_repeat W0 M B n A1 A2 c1 c2 t uv us j L b w h hj).mono (by rintro e w' ⟨rfl, hb⟩; exact ⟨rfl, rsent_below h hb⟩)
 | other k a b h1 h2 h3 h4 h5 => exact dor_below fun W0 M B A1 A2 c1 c2 uv w h => r2_Do_other M k a b w h1 h2 h3 h4 h5
theorem ans_R {n : Nat} {ss rs : List Int} {t : Int} {us us' : List RLetter} {L : RLetter} {c : Int} (h : WAns n ss rs t us L c us') (hL : RLetter.ok L) (n6 : n ≤ 6) (sb : ∀ (i : Nat) z, ss[i]? = some z → 0 ≤ z ∧ z ≤ 1000000) (rb : ∀ (i : Nat) z, rs[i]? = some z → -1000 ≤ z ∧ z ≤ 1000) : AnsR qv n ss rs t us L c us' := by
 cases h with
 | yes a b t1 t2 lt => exact fun W0 M B A1 A2 c1 c2 uv w h _ _ => (r2_Answer_yes M a b t1 t2 lt w).mono (by rintro e w' ⟨rfl, hb⟩; exact ⟨rfl, rsent_below h hb⟩)
 | no a b t1 t2 lt h0 => exact fun W0 M B A1 A2 c1 c2 uv w h _ _ => (r2_Answer_no W0 M B n A1 A2 c1 c2 t uv us a b t1 t2 lt w h h0).mono (by rintro e w' ⟨rfl, hb⟩; exact ⟨rfl, rsent_below h hb⟩)
 | full i k t1 t2 lt hi hk hl => exact fun W0 M B A1 A2 c1 c2 uv w h _ _ => (r2_Answer_full W0 M B n A1 A2 c1 c2 t uv us i k t1 t2 lt w h (hasN_nat hi) (hasN_nat hk) hl).mono (by rintro e w' ⟨rfl, hb⟩; exact ⟨rfl, rsent_below h hb⟩)
 | ok i k s r t1 t2 lt hs hr hi hl => exact fun W0 M B A1 A2 c1 c2 uv w h i1 i2 => r2_Answer W0 M B n A1 A2 c1 c2 ss rs t uv us i k s r t1 t2 lt w h i1 i2 n6 hs hr (sb k s hs) (rb k r hr) hi hl hL.2.2.2.2
end
end Go.Proofs.YtldlandcjegikaaGreatDoor
