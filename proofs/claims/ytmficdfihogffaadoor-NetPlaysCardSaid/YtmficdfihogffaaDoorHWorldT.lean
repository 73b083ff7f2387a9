/- A letter that is taken, lost or repeated, walked. -/
import Derived.Test.YtmficdfihogffaaDoorHK2
import Derived.Test.YtmficdfihogffaaDoorHK1
namespace Go.Proofs.YtmficdfihogffaaDoor
open Go.RowKit
set_option linter.unusedVariables false
set_option linter.unusedSimpArgs false
/-- the cells of the j-th letter. -/
theorem row_at {w : World} {B : Nat} {T : TypeId} {v : Value} {us : List RLetter} {j : Nat} {L : RLetter} (ho : w.ownsRow B T 6 v us.length (us.flatMap RLetter.cells)) (hj : us[j]? = some L) :
    ∃ q cap cur, v = .slice (some ⟨q, 0, none⟩) us.length cap ∧ B ≤ q ∧ Blk w q T cur ∧ us.length ≤ cap ∧ cap ≤ maxLen ∧ ∀ d u, (RLetter.cells L)[d]? = some u → cur[j * 6 + d]? = some u := by
  have hjl := (List.getElem?_eq_some_iff.1 hj).1
  rcases ho.2 with ⟨_, hn⟩ | ⟨q, cap, cur, rfl, hB, hg, hnc, hcm, hs, ht⟩
  · omega
  · refine ⟨q, cap, cur, rfl, hB, hg, hnc, hcm, fun d u hu => ?_⟩
    have hk : ∀ z : RLetter, (RLetter.cells z).length = 6 := fun _ => rfl
    have hd : d < 6 := by have := (List.getElem?_eq_some_iff.1 hu).1; rw [hk] at this; exact this
    have h1 : (us.flatMap RLetter.cells)[j * 6 + d]? = some u := by
      have h2 := flat_drop RLetter.cells 6 hk us j
      have h3 : us.drop j = L :: us.drop (j + 1) := by rw [List.drop_eq_getElem_cons hjl]; congr 1; exact (List.getElem?_eq_some_iff.1 hj).2
      rw [h3, List.flatMap_cons] at h2
      have h4 : ((us.flatMap RLetter.cells).drop (j * 6))[d]? = some u := by rw [← h2, List.getElem?_append_left (by rw [hk]; exact hd)]; exact hu
      rw [List.getElem?_drop] at h4
      exact h4
    rw [← ht, List.getElem?_take, if_pos (by omega), Array.getElem?_toList] at h1
    exact h1
/-- what a letter that is taken out leaves. -/
def Took (w : World) (g B n : Nat) (ss rs : List Int) (t : Int) (uv : Value) (us : List RLetter) (w' : World) : Prop := ∃ uv', WorldU w' g B n ss rs t uv' us ∧ Kept (Mine g uv) w w' ∧ (∀ q, uv'.ownBlock = some q → uv.ownBlock = some q)
theorem Took.sent {w w' : World} {g B n : Nat} {ss rs : List Int} {t : Int} {uv : Value} {us : List RLetter} (h : Took w g B n ss rs t uv us w') : Sent w g B n ss rs t uv us w' := by
  obtain ⟨uv', a, b, c⟩ := h
  exact ⟨uv', a, b, fun q e => .inl (c q e)⟩
theorem del_done {w W w5 : World} {g B n q cap j : Nat} {ss rs : List Int} {t : Int} {us : List RLetter} (h : WorldU w g B n ss rs t (.slice (some ⟨q, 0, none⟩) us.length cap) us) (hW : Below w.heap.size w W) (ht : Touched q W w5)
    (ho5 : w5.ownsRow B 87 6 (.slice (some ⟨q, 0, none⟩) (us.length - 1) cap) (us.length - 1) ((us.eraseIdx j).flatMap RLetter.cells)) : Took w g B n ss rs t (.slice (some ⟨q, 0, none⟩) us.length cap) (us.eraseIdx j) (w5.setCell ⟨g, 3, none⟩ (.slice (some ⟨q, 0, none⟩) (us.length - 1) cap)) := by
  have hlow := h.low q rfl
  have hgB := h.gB
  have hBw := h.Bw
  have hlen : (us.eraseIdx j).length = us.length - 1 := by
    have h6 := ho5.1
    rw [flat_lenK RLetter.cells 6 (fun _ => rfl)] at h6
    omega
  have hK : Kept (Mine g (.slice (some ⟨q, 0, none⟩) us.length cap)) w (w5.setCell ⟨g, 3, none⟩ (.slice (some ⟨q, 0, none⟩) (us.length - 1) cap)) := (((Kept.refl _ w).below hW).touched ht (.inl (.inr rfl))).set g 3 _ (.inl (.inl rfl))
  refine ⟨.slice (some ⟨q, 0, none⟩) (us.length - 1) cap, h.next hK (fun a b k1 => ?_) ?_ ?_ ?_ h.t0 h.t1, hK, fun k e => e⟩
  · exact (((k1.below hW k1.lt).grown ht (fun e => by have := Option.some.inj e; omega)).set 3 _).conv rfl
  · rw [hlen]; exact own_touched ho5 ((Touched.refl g w5).set 3 _) hgB
  · have := h.l40; omega
  · intro z hz
    exact h.lok z (List.mem_of_mem_eraseIdx hz)
set_option maxRecDepth 100000 in
set_option maxHeartbeats 8000000 in
theorem world_Do_repeat (g B n : Nat) (ss rs : List Int) (t : Int) (uv : Value) (us : List RLetter) (j : Nat) (L : RLetter) (b : Int) (w : World) (h : WorldU w g B n ss rs t uv us) (hj : us[j]? = some L) :
    Calls Tryd.prog 25 #[.pointer (some ⟨g, 0, none⟩), .agg #[.int .i64 5, .int .i64 j, .int .i64 b]] w fun e w' => ∃ p, e = .returned (.tuple #[.pointer (some ⟨p, 0, none⟩), .nilIface]) ∧ w.heap.size ≤ p ∧ Blk w' p 87 (RLetter.cells L).toArray ∧ Below w.heap.size w w' := by
  obtain ⟨q, cap, cur, rfl, hBq, hbq, hnc, hcm, hcells⟩ := row_at h.row hj
  have hjl := (List.getElem?_eq_some_iff.1 hj).1
  have l40 := h.l40
  unfold maxLen at hcm
  obtain ⟨gs, cs, gr, cr, k1, _⟩ := h.ex
  have c3 := k1.cell 3
  have kl := k1.lt
  have ql := hbq.lt
  have hgq : g ≠ q := by have := h.gB; omega
  simp at c3
  have x0 : w.cell? ⟨q, j * 6, none⟩ = some (.int .i64 L.src) := by rw [hbq.cell]; exact hcells 0 _ rfl
  have x1 : w.cell? ⟨q, j * 6 + 1, none⟩ = some (.int .i64 L.dst) := by rw [hbq.cell]; exact hcells 1 _ rfl
  have x2 : w.cell? ⟨q, j * 6 + 2, none⟩ = some (.bool L.answer) := by rw [hbq.cell]; exact hcells 2 _ rfl
  have x3 : w.cell? ⟨q, j * 6 + 3, none⟩ = some (.int .i64 L.t1) := by rw [hbq.cell]; exact hcells 3 _ rfl
  have x4 : w.cell? ⟨q, j * 6 + 4, none⟩ = some (.int .i64 L.t2) := by rw [hbq.cell]; exact hcells 4 _ rfl
  have x5 : w.cell? ⟨q, j * 6 + 5, none⟩ = some (.int .i64 L.t) := by rw [hbq.cell]; exact hcells 5 _ rfl
  have e1 : decide ((j : Int) < 0) = false := by simp
  have e2 : decide ((us.length : Int) ≤ (j : Int)) = false := by simp; omega
  have q0 : (0 : Int) ≤ (j : Int) := by omega
  have q1 : (j : Int) < (us.length : Int) := by omega
  clear h k1 hbq hcells hj
  go_enter Tryd.func25, Tryd.ntmps25
  go_wp2_with fail
  go_quiet (fail)
  go_wp2_with fail
  go_region
  go_wp2_with fail
  go_ret2
  exact ⟨w.heap.size + 1, rfl, by omega, Blk.newAt _ _ _ _ (by simp), (by repeat (first | with_reducible exact Below.refl _ _ | (with_reducible refine Below.alloc ?_ (by first | omega | (simp; done) | (simp; omega)) _) | (with_reducible refine Below.setCell ?_ (by first | omega | (simp; done) | (simp; omega)) _) | (with_reducible refine Below.drew ?_) | (with_reducible refine below_drewN ?_ _) | (with_reducible assumption) | (with_reducible refine bel_step (by with_reducible assumption) ?_ (by first | omega | (simp; done) | (simp; omega)))))⟩
set_option maxRecDepth 100000 in
set_option maxHeartbeats 8000000 in
theorem world_Do_lose (g B n : Nat) (ss rs : List Int) (t : Int) (uv : Value) (us : List RLetter) (j : Nat) (L : RLetter) (b : Int) (w : World) (h : WorldU w g B n ss rs t uv us) (hj : us[j]? = some L) :
    Calls Tryd.prog 25 #[.pointer (some ⟨g, 0, none⟩), .agg #[.int .i64 4, .int .i64 j, .int .i64 b]] w fun e w' => e = .returned (.tuple #[.pointer none, .nilIface]) ∧ Sent w g B n ss rs t uv (us.eraseIdx j) w' := by
  obtain ⟨q, cap, cur, rfl, hBq, hbq, hnc, hcm, hcells⟩ := row_at h.row hj
  have hjl := (List.getElem?_eq_some_iff.1 hj).1
  have l40 := h.l40
  unfold maxLen at hcm
  obtain ⟨gs, cs, gr, cr, k1, _⟩ := h.ex
  have c3 := k1.cell 3
  have kl := k1.lt
  have ql := hbq.lt
  have hgq : g ≠ q := by have := h.gB; omega
  simp at c3
  have x0 : w.cell? ⟨q, j * 6, none⟩ = some (.int .i64 L.src) := by rw [hbq.cell]; exact hcells 0 _ rfl
  have x1 : w.cell? ⟨q, j * 6 + 1, none⟩ = some (.int .i64 L.dst) := by rw [hbq.cell]; exact hcells 1 _ rfl
  have x2 : w.cell? ⟨q, j * 6 + 2, none⟩ = some (.bool L.answer) := by rw [hbq.cell]; exact hcells 2 _ rfl
  have x3 : w.cell? ⟨q, j * 6 + 3, none⟩ = some (.int .i64 L.t1) := by rw [hbq.cell]; exact hcells 3 _ rfl
  have x4 : w.cell? ⟨q, j * 6 + 4, none⟩ = some (.int .i64 L.t2) := by rw [hbq.cell]; exact hcells 4 _ rfl
  have x5 : w.cell? ⟨q, j * 6 + 5, none⟩ = some (.int .i64 L.t) := by rw [hbq.cell]; exact hcells 5 _ rfl
  have e1 : decide ((j : Int) < 0) = false := by simp
  have e2 : decide ((us.length : Int) ≤ (j : Int)) = false := by simp; omega
  have q0 : (0 : Int) ≤ (j : Int) := by omega
  have q1 : (j : Int) < (us.length : Int) := by omega
  have HU := Lib.hid h
  have q2 := IntWalk.i64_in ((j : Int) + 1) (by omega)
  have CD := Lib.hid (fun w' (hb : Below w.heap.size w w') => letters_Delete q us.length cap j B us w' (own_below HU.out.row hb) rfl hjl (by omega))
  clear h k1 hbq hcells hj
  go_enter Tryd.func25, Tryd.ntmps25
  go_wp2_with fail
  go_quiet (fail)
  go_wp2_with fail
  go_region
  obtain ⟨W2, hW2⟩ : ∃ W2, W2 = (((w.alloc (.cells #[.int .i64 4, .int .i64 j, .int .i64 b] 35)).drewN (nq + 1)).alloc (.cells #[.int .i64 L.src, .int .i64 L.dst, .bool L.answer, .int .i64 L.t1, .int .i64 L.t2, .int .i64 L.t] 87)) := ⟨_, rfl⟩
  have HB2 : Below w.heap.size w W2 := by rw [hW2]; exact (by repeat (first | with_reducible exact Below.refl _ _ | (with_reducible refine Below.alloc ?_ (by first | omega | (simp; done) | (simp; omega)) _) | (with_reducible refine Below.setCell ?_ (by first | omega | (simp; done) | (simp; omega)) _) | (with_reducible refine Below.drew ?_) | (with_reducible refine below_drewN ?_ _) | (with_reducible assumption) | (with_reducible refine bel_step (by with_reducible assumption) ?_ (by first | omega | (simp; done) | (simp; omega)))))
  have bx : Blk W2 w.heap.size 35 #[.int .i64 4, .int .i64 j, .int .i64 b] := by rw [hW2]; exact ((Blk.new w _ _).drewN _).alloc _
  have bp : Blk W2 (w.heap.size + 1) 87 (RLetter.cells L).toArray := by rw [hW2]; exact Blk.newAt _ _ _ _ (by simp)
  have hs2 : W2.heap.size = w.heap.size + 2 := by rw [hW2]; simp
  rw [← hW2]
  clear hW2 x0 x1 x2 x3 x4 x5
  have y0 : W2.cell? ⟨g, 3, none⟩ = some (.slice (some ⟨q, 0, none⟩) us.length cap) := (HB2.cell (p := ⟨g, 3, none⟩) kl).trans c3
  have y1 : W2.frozen? ⟨g, 3, none⟩ = false := by obtain ⟨_, _, _, _, kk, _⟩ := (HU.out.below HB2).ex; exact kk.fz 3
  have z0 : W2.cell? ⟨w.heap.size, 0, none⟩ = some (.int .i64 4) := bx.cell 0
  have z1 : W2.cell? ⟨w.heap.size, 1, none⟩ = some (.int .i64 j) := bx.cell 1
  go_wp2_with fail
  refine wp_region_held_drew (S := fun w9 => w9.cell? ⟨w.heap.size, 1, none⟩ = some (.int .i64 j)) (by kernel_rfl) (z1) (fun hHeld => ?_)
  refine take_d (i := 0) (v := (.pointer (some ⟨g, 0, none⟩))) (d := some 117) rfl (by kernel_rfl) (by kernel_rfl) (by kernel_rfl) (by kernel_rfl) (fun _ _ _ h => h) (Or.inl ⟨by kernel_rfl, fun w9 hw9 => by (go_simp)⟩) hHeld ?_
  try simp only [Act.put, List.setIfInBounds_toArray, List.set_cons_zero, List.set_cons_succ]
  refine take_d (i := 1) (v := (.pointer (some ⟨g, 0, none⟩))) (d := some 118) rfl (by kernel_rfl) (by kernel_rfl) (by kernel_rfl) (by kernel_rfl) (fun _ _ _ h => h) (Or.inl ⟨by kernel_rfl, fun w9 hw9 => by (go_simp)⟩) hHeld ?_
  try simp only [Act.put, List.setIfInBounds_toArray, List.set_cons_zero, List.set_cons_succ]
  refine take_d (i := 2) (v := (.pointer (some ⟨g, 0, none⟩))) (d := some 119) rfl (by kernel_rfl) (by kernel_rfl) (by kernel_rfl) (by kernel_rfl) (fun _ _ _ h => h) (Or.inl ⟨by kernel_rfl, fun w9 hw9 => by (go_simp)⟩) hHeld ?_
  try simp only [Act.put, List.setIfInBounds_toArray, List.set_cons_zero, List.set_cons_succ]
  refine take_d (i := 3) (v := (.pointer (some ⟨g, 3, none⟩))) (d := some 120) rfl (by kernel_rfl) (by kernel_rfl) (by kernel_rfl) (by kernel_rfl) (fun _ _ _ h => h) (Or.inl ⟨by kernel_rfl, fun w9 hw9 => by (go_simp)⟩) hHeld ?_
  try simp only [Act.put, List.setIfInBounds_toArray, List.set_cons_zero, List.set_cons_succ]
  refine take_d (i := 5) (v := (.pointer (some ⟨w.heap.size, 1, none⟩))) (d := some 122) rfl (by kernel_rfl) (by kernel_rfl) (by kernel_rfl) (by kernel_rfl) (fun _ _ _ h => h) (Or.inl ⟨by kernel_rfl, fun w9 hw9 => by (go_simp)⟩) hHeld ?_
  try simp only [Act.put, List.setIfInBounds_toArray, List.set_cons_zero, List.set_cons_succ]
  refine take_d (i := 6) (v := (.int .i64 j)) (d := some 123) rfl (by kernel_rfl) (by kernel_rfl) (by kernel_rfl) (by kernel_rfl) (fun _ _ _ h => h) (Or.inl ⟨by kernel_rfl, fun w9 hw9 => by (go_simp)⟩) hHeld ?_
  try simp only [Act.put, List.setIfInBounds_toArray, List.set_cons_zero, List.set_cons_succ]
  refine take_d (i := 7) (v := (.pointer (some ⟨w.heap.size, 1, none⟩))) (d := some 124) rfl (by kernel_rfl) (by kernel_rfl) (by kernel_rfl) (by kernel_rfl) (fun _ _ _ h => h) (Or.inl ⟨by kernel_rfl, fun w9 hw9 => by (go_simp)⟩) hHeld ?_
  try simp only [Act.put, List.setIfInBounds_toArray, List.set_cons_zero, List.set_cons_succ]
  refine take_d (i := 8) (v := (.int .i64 j)) (d := some 125) rfl (by kernel_rfl) (by kernel_rfl) (by kernel_rfl) (by kernel_rfl) (fun _ _ _ h => h) (Or.inl ⟨by kernel_rfl, fun w9 hw9 => by (go_simp)⟩) hHeld ?_
  try simp only [Act.put, List.setIfInBounds_toArray, List.set_cons_zero, List.set_cons_succ]
  refine take_d (i := 9) (v := (.int .i64 ((j : Int) + 1))) (d := some 126) rfl (by kernel_rfl) (by kernel_rfl) (by kernel_rfl) (by kernel_rfl) (fun _ _ _ h => h) (Or.inl ⟨by kernel_rfl, fun w9 hw9 => by (go_simp)⟩) hHeld ?_
  try simp only [Act.put, List.setIfInBounds_toArray, List.set_cons_zero, List.set_cons_succ]
  try simp only [Act.put, List.setIfInBounds_toArray, List.set_cons_zero, List.set_cons_succ]
  refine wpAnyH_ready (rs := [4]) (by kernel_rfl) (by simp) ?_
  refine AllReadyH.cons rfl (fun K hK => ?_) AllReadyH.nil
  go_simp
  refine hK.out _ _ (hHeld) (fun hHeld2 => ?_)
  clear hK K hHeld
  have hHeld := hHeld2
  clear hHeld2
  try simp only [Act.put, List.setIfInBounds_toArray, List.set_cons_zero, List.set_cons_succ]
  try simp only [Act.put, List.setIfInBounds_toArray, List.set_cons_zero, List.set_cons_succ]
  refine wpAnyH_ready (rs := [10]) (by kernel_rfl) (by simp) ?_
  refine AllReadyH.cons rfl (fun K hK => ?_) AllReadyH.nil
  go_simp
  refine (CD.out _ HB2.drew).mono ?_
  rintro e w5 ⟨rfl, ho5, ht5⟩
  have ht6 : Touched q W2 w5 := Touched.trans ht5 (Touched.refl q W2).drew
  have u3 : w5.cell? ⟨g, 3, none⟩ = some (.slice (some ⟨q, 0, none⟩) us.length cap) := (ht6.cell (by omega) hgq 3).trans y0
  have u4 : w5.frozen? ⟨g, 3, none⟩ = false := (World.frozen?_of_block (ht6.block g (by omega) (fun e => hgq (Option.some.inj e)))).trans y1
  refine hK.out _ _ ((ht6.cell (by omega) (by omega) 1).trans z1) (fun hHeld2 => ?_)
  clear hK K hHeld
  have hHeld := hHeld2
  clear hHeld2
  try simp only [Act.put, List.setIfInBounds_toArray, List.set_cons_zero, List.set_cons_succ]
  refine take_d (i := 11) (v := (.pointer (some ⟨g, 0, none⟩))) (d := some 128) rfl (by kernel_rfl) (by kernel_rfl) (by kernel_rfl) (by kernel_rfl) (fun _ _ _ h => h) (Or.inl ⟨by kernel_rfl, fun w9 hw9 => by (go_simp)⟩) hHeld ?_
  try simp only [Act.put, List.setIfInBounds_toArray, List.set_cons_zero, List.set_cons_succ]
  refine take_d (i := 12) (v := (.pointer (some ⟨g, 3, none⟩))) (d := some 129) rfl (by kernel_rfl) (by kernel_rfl) (by kernel_rfl) (by kernel_rfl) (fun _ _ _ h => h) (Or.inl ⟨by kernel_rfl, fun w9 hw9 => by (go_simp)⟩) hHeld ?_
  try simp only [Act.put, List.setIfInBounds_toArray, List.set_cons_zero, List.set_cons_succ]
  try simp only [Act.put, List.setIfInBounds_toArray, List.set_cons_zero, List.set_cons_succ]
  refine wpAnyH_ready (rs := [13]) (by kernel_rfl) (by simp) ?_
  refine AllReadyH.cons rfl (fun K hK => ?_) AllReadyH.nil
  go_simp
  refine hK.out _ _ ((World.cell?_setCell_other _ _ _ _ (fun e => by have := congrArg Addr.block e; simp at this; omega)).trans hHeld) (fun hHeld2 => ?_)
  clear hK K hHeld
  have hHeld := hHeld2
  clear hHeld2
  try simp only [Act.put, List.setIfInBounds_toArray, List.set_cons_zero, List.set_cons_succ]
  refine wpAnyH_done (by kernel_rfl) ?_ _
  try simp only [Act.put, List.setIfInBounds_toArray, List.set_cons_zero, List.set_cons_succ]
  have v0 : (w5.setCell ⟨g, 3, none⟩ (.slice (some ⟨q, 0, none⟩) (us.length - 1) cap)).cell? ⟨w.heap.size, 0, none⟩ = some (.int .i64 4) := (World.cell?_setCell_other _ _ _ _ (fun e => by have := congrArg Addr.block e; simp at this; omega)).trans ((ht6.cell (by omega) (by omega) 0).trans z0)
  have hD := del_done HU.out HB2 ht6 ho5
  have hP : Blk (w5.setCell ⟨g, 3, none⟩ (.slice (some ⟨q, 0, none⟩) (us.length - 1) cap)) (w.heap.size + 1) 87 (RLetter.cells L).toArray := (bp.grown ht6 (fun e => by have := Option.some.inj e; omega)).far (by show w.heap.size + 1 ≠ g; omega) _
  have HD := Lib.hid hD
  have HP := Lib.hid hP
  clear hD hP ho5 ht5 ht6 y0 y1 z0 z1 u3 u4 bx bp CD
  go_wp2_with fail
  go_ret2
  exact ⟨rfl, HD.out.sent⟩
set_option maxRecDepth 100000 in
set_option maxHeartbeats 8000000 in
theorem world_Do_deliver (g B n : Nat) (ss rs : List Int) (t : Int) (uv : Value) (us : List RLetter) (j : Nat) (L : RLetter) (b : Int) (w : World) (h : WorldU w g B n ss rs t uv us) (hj : us[j]? = some L) :
    Calls Tryd.prog 25 #[.pointer (some ⟨g, 0, none⟩), .agg #[.int .i64 3, .int .i64 j, .int .i64 b]] w fun e w' => ∃ p, e = .returned (.tuple #[.pointer (some ⟨p, 0, none⟩), .nilIface]) ∧ w.heap.size ≤ p ∧ Blk w' p 87 (RLetter.cells L).toArray ∧ Took w g B n ss rs t uv (us.eraseIdx j) w' := by
  obtain ⟨q, cap, cur, rfl, hBq, hbq, hnc, hcm, hcells⟩ := row_at h.row hj
  have hjl := (List.getElem?_eq_some_iff.1 hj).1
  have l40 := h.l40
  unfold maxLen at hcm
  obtain ⟨gs, cs, gr, cr, k1, _⟩ := h.ex
  have c3 := k1.cell 3
  have kl := k1.lt
  have ql := hbq.lt
  have hgq : g ≠ q := by have := h.gB; omega
  simp at c3
  have x0 : w.cell? ⟨q, j * 6, none⟩ = some (.int .i64 L.src) := by rw [hbq.cell]; exact hcells 0 _ rfl
  have x1 : w.cell? ⟨q, j * 6 + 1, none⟩ = some (.int .i64 L.dst) := by rw [hbq.cell]; exact hcells 1 _ rfl
  have x2 : w.cell? ⟨q, j * 6 + 2, none⟩ = some (.bool L.answer) := by rw [hbq.cell]; exact hcells 2 _ rfl
  have x3 : w.cell? ⟨q, j * 6 + 3, none⟩ = some (.int .i64 L.t1) := by rw [hbq.cell]; exact hcells 3 _ rfl
  have x4 : w.cell? ⟨q, j * 6 + 4, none⟩ = some (.int .i64 L.t2) := by rw [hbq.cell]; exact hcells 4 _ rfl
  have x5 : w.cell? ⟨q, j * 6 + 5, none⟩ = some (.int .i64 L.t) := by rw [hbq.cell]; exact hcells 5 _ rfl
  have e1 : decide ((j : Int) < 0) = false := by simp
  have e2 : decide ((us.length : Int) ≤ (j : Int)) = false := by simp; omega
  have q0 : (0 : Int) ≤ (j : Int) := by omega
  have q1 : (j : Int) < (us.length : Int) := by omega
  have HU := Lib.hid h
  have q2 := IntWalk.i64_in ((j : Int) + 1) (by omega)
  have CD := Lib.hid (fun w' (hb : Below w.heap.size w w') => letters_Delete q us.length cap j B us w' (own_below HU.out.row hb) rfl hjl (by omega))
  clear h k1 hbq hcells hj
  go_enter Tryd.func25, Tryd.ntmps25
  go_wp2_with fail
  go_quiet (fail)
  go_wp2_with fail
  go_region
  obtain ⟨W2, hW2⟩ : ∃ W2, W2 = (((w.alloc (.cells #[.int .i64 3, .int .i64 j, .int .i64 b] 35)).drewN (nq + 1)).alloc (.cells #[.int .i64 L.src, .int .i64 L.dst, .bool L.answer, .int .i64 L.t1, .int .i64 L.t2, .int .i64 L.t] 87)) := ⟨_, rfl⟩
  have HB2 : Below w.heap.size w W2 := by rw [hW2]; exact (by repeat (first | with_reducible exact Below.refl _ _ | (with_reducible refine Below.alloc ?_ (by first | omega | (simp; done) | (simp; omega)) _) | (with_reducible refine Below.setCell ?_ (by first | omega | (simp; done) | (simp; omega)) _) | (with_reducible refine Below.drew ?_) | (with_reducible refine below_drewN ?_ _) | (with_reducible assumption) | (with_reducible refine bel_step (by with_reducible assumption) ?_ (by first | omega | (simp; done) | (simp; omega)))))
  have bx : Blk W2 w.heap.size 35 #[.int .i64 3, .int .i64 j, .int .i64 b] := by rw [hW2]; exact ((Blk.new w _ _).drewN _).alloc _
  have bp : Blk W2 (w.heap.size + 1) 87 (RLetter.cells L).toArray := by rw [hW2]; exact Blk.newAt _ _ _ _ (by simp)
  have hs2 : W2.heap.size = w.heap.size + 2 := by rw [hW2]; simp
  rw [← hW2]
  clear hW2 x0 x1 x2 x3 x4 x5
  have y0 : W2.cell? ⟨g, 3, none⟩ = some (.slice (some ⟨q, 0, none⟩) us.length cap) := (HB2.cell (p := ⟨g, 3, none⟩) kl).trans c3
  have y1 : W2.frozen? ⟨g, 3, none⟩ = false := by obtain ⟨_, _, _, _, kk, _⟩ := (HU.out.below HB2).ex; exact kk.fz 3
  have z0 : W2.cell? ⟨w.heap.size, 0, none⟩ = some (.int .i64 3) := bx.cell 0
  have z1 : W2.cell? ⟨w.heap.size, 1, none⟩ = some (.int .i64 j) := bx.cell 1
  go_wp2_with fail
  refine wp_region_held_drew (S := fun w9 => w9.cell? ⟨w.heap.size, 1, none⟩ = some (.int .i64 j)) (by kernel_rfl) (z1) (fun hHeld => ?_)
  refine take_d (i := 0) (v := (.pointer (some ⟨g, 0, none⟩))) (d := some 117) rfl (by kernel_rfl) (by kernel_rfl) (by kernel_rfl) (by kernel_rfl) (fun _ _ _ h => h) (Or.inl ⟨by kernel_rfl, fun w9 hw9 => by (go_simp)⟩) hHeld ?_
  try simp only [Act.put, List.setIfInBounds_toArray, List.set_cons_zero, List.set_cons_succ]
  refine take_d (i := 1) (v := (.pointer (some ⟨g, 0, none⟩))) (d := some 118) rfl (by kernel_rfl) (by kernel_rfl) (by kernel_rfl) (by kernel_rfl) (fun _ _ _ h => h) (Or.inl ⟨by kernel_rfl, fun w9 hw9 => by (go_simp)⟩) hHeld ?_
  try simp only [Act.put, List.setIfInBounds_toArray, List.set_cons_zero, List.set_cons_succ]
  refine take_d (i := 2) (v := (.pointer (some ⟨g, 0, none⟩))) (d := some 119) rfl (by kernel_rfl) (by kernel_rfl) (by kernel_rfl) (by kernel_rfl) (fun _ _ _ h => h) (Or.inl ⟨by kernel_rfl, fun w9 hw9 => by (go_simp)⟩) hHeld ?_
  try simp only [Act.put, List.setIfInBounds_toArray, List.set_cons_zero, List.set_cons_succ]
  refine take_d (i := 3) (v := (.pointer (some ⟨g, 3, none⟩))) (d := some 120) rfl (by kernel_rfl) (by kernel_rfl) (by kernel_rfl) (by kernel_rfl) (fun _ _ _ h => h) (Or.inl ⟨by kernel_rfl, fun w9 hw9 => by (go_simp)⟩) hHeld ?_
  try simp only [Act.put, List.setIfInBounds_toArray, List.set_cons_zero, List.set_cons_succ]
  refine take_d (i := 5) (v := (.pointer (some ⟨w.heap.size, 1, none⟩))) (d := some 122) rfl (by kernel_rfl) (by kernel_rfl) (by kernel_rfl) (by kernel_rfl) (fun _ _ _ h => h) (Or.inl ⟨by kernel_rfl, fun w9 hw9 => by (go_simp)⟩) hHeld ?_
  try simp only [Act.put, List.setIfInBounds_toArray, List.set_cons_zero, List.set_cons_succ]
  refine take_d (i := 6) (v := (.int .i64 j)) (d := some 123) rfl (by kernel_rfl) (by kernel_rfl) (by kernel_rfl) (by kernel_rfl) (fun _ _ _ h => h) (Or.inl ⟨by kernel_rfl, fun w9 hw9 => by (go_simp)⟩) hHeld ?_
  try simp only [Act.put, List.setIfInBounds_toArray, List.set_cons_zero, List.set_cons_succ]
  refine take_d (i := 7) (v := (.pointer (some ⟨w.heap.size, 1, none⟩))) (d := some 124) rfl (by kernel_rfl) (by kernel_rfl) (by kernel_rfl) (by kernel_rfl) (fun _ _ _ h => h) (Or.inl ⟨by kernel_rfl, fun w9 hw9 => by (go_simp)⟩) hHeld ?_
  try simp only [Act.put, List.setIfInBounds_toArray, List.set_cons_zero, List.set_cons_succ]
  refine take_d (i := 8) (v := (.int .i64 j)) (d := some 125) rfl (by kernel_rfl) (by kernel_rfl) (by kernel_rfl) (by kernel_rfl) (fun _ _ _ h => h) (Or.inl ⟨by kernel_rfl, fun w9 hw9 => by (go_simp)⟩) hHeld ?_
  try simp only [Act.put, List.setIfInBounds_toArray, List.set_cons_zero, List.set_cons_succ]
  refine take_d (i := 9) (v := (.int .i64 ((j : Int) + 1))) (d := some 126) rfl (by kernel_rfl) (by kernel_rfl) (by kernel_rfl) (by kernel_rfl) (fun _ _ _ h => h) (Or.inl ⟨by kernel_rfl, fun w9 hw9 => by (go_simp)⟩) hHeld ?_
  try simp only [Act.put, List.setIfInBounds_toArray, List.set_cons_zero, List.set_cons_succ]
  try simp only [Act.put, List.setIfInBounds_toArray, List.set_cons_zero, List.set_cons_succ]
  refine wpAnyH_ready (rs := [4]) (by kernel_rfl) (by simp) ?_
  refine AllReadyH.cons rfl (fun K hK => ?_) AllReadyH.nil
  go_simp
  refine hK.out _ _ (hHeld) (fun hHeld2 => ?_)
  clear hK K hHeld
  have hHeld := hHeld2
  clear hHeld2
  try simp only [Act.put, List.setIfInBounds_toArray, List.set_cons_zero, List.set_cons_succ]
  try simp only [Act.put, List.setIfInBounds_toArray, List.set_cons_zero, List.set_cons_succ]
  refine wpAnyH_ready (rs := [10]) (by kernel_rfl) (by simp) ?_
  refine AllReadyH.cons rfl (fun K hK => ?_) AllReadyH.nil
  go_simp
  refine (CD.out _ HB2.drew).mono ?_
  rintro e w5 ⟨rfl, ho5, ht5⟩
  have ht6 : Touched q W2 w5 := Touched.trans ht5 (Touched.refl q W2).drew
  have u3 : w5.cell? ⟨g, 3, none⟩ = some (.slice (some ⟨q, 0, none⟩) us.length cap) := (ht6.cell (by omega) hgq 3).trans y0
  have u4 : w5.frozen? ⟨g, 3, none⟩ = false := (World.frozen?_of_block (ht6.block g (by omega) (fun e => hgq (Option.some.inj e)))).trans y1
  refine hK.out _ _ ((ht6.cell (by omega) (by omega) 1).trans z1) (fun hHeld2 => ?_)
  clear hK K hHeld
  have hHeld := hHeld2
  clear hHeld2
  try simp only [Act.put, List.setIfInBounds_toArray, List.set_cons_zero, List.set_cons_succ]
  refine take_d (i := 11) (v := (.pointer (some ⟨g, 0, none⟩))) (d := some 128) rfl (by kernel_rfl) (by kernel_rfl) (by kernel_rfl) (by kernel_rfl) (fun _ _ _ h => h) (Or.inl ⟨by kernel_rfl, fun w9 hw9 => by (go_simp)⟩) hHeld ?_
  try simp only [Act.put, List.setIfInBounds_toArray, List.set_cons_zero, List.set_cons_succ]
  refine take_d (i := 12) (v := (.pointer (some ⟨g, 3, none⟩))) (d := some 129) rfl (by kernel_rfl) (by kernel_rfl) (by kernel_rfl) (by kernel_rfl) (fun _ _ _ h => h) (Or.inl ⟨by kernel_rfl, fun w9 hw9 => by (go_simp)⟩) hHeld ?_
  try simp only [Act.put, List.setIfInBounds_toArray, List.set_cons_zero, List.set_cons_succ]
  try simp only [Act.put, List.setIfInBounds_toArray, List.set_cons_zero, List.set_cons_succ]
  refine wpAnyH_ready (rs := [13]) (by kernel_rfl) (by simp) ?_
  refine AllReadyH.cons rfl (fun K hK => ?_) AllReadyH.nil
  go_simp
  refine hK.out _ _ ((World.cell?_setCell_other _ _ _ _ (fun e => by have := congrArg Addr.block e; simp at this; omega)).trans hHeld) (fun hHeld2 => ?_)
  clear hK K hHeld
  have hHeld := hHeld2
  clear hHeld2
  try simp only [Act.put, List.setIfInBounds_toArray, List.set_cons_zero, List.set_cons_succ]
  refine wpAnyH_done (by kernel_rfl) ?_ _
  try simp only [Act.put, List.setIfInBounds_toArray, List.set_cons_zero, List.set_cons_succ]
  have v0 : (w5.setCell ⟨g, 3, none⟩ (.slice (some ⟨q, 0, none⟩) (us.length - 1) cap)).cell? ⟨w.heap.size, 0, none⟩ = some (.int .i64 3) := (World.cell?_setCell_other _ _ _ _ (fun e => by have := congrArg Addr.block e; simp at this; omega)).trans ((ht6.cell (by omega) (by omega) 0).trans z0)
  have hD := del_done HU.out HB2 ht6 ho5
  have hP : Blk (w5.setCell ⟨g, 3, none⟩ (.slice (some ⟨q, 0, none⟩) (us.length - 1) cap)) (w.heap.size + 1) 87 (RLetter.cells L).toArray := (bp.grown ht6 (fun e => by have := Option.some.inj e; omega)).far (by show w.heap.size + 1 ≠ g; omega) _
  have HD := Lib.hid hD
  have HP := Lib.hid hP
  clear hD hP ho5 ht5 ht6 y0 y1 z0 z1 u3 u4 bx bp CD
  go_wp2_with fail
  go_ret2
  exact ⟨w.heap.size + 1, rfl, by omega, HP.out, HD.out⟩
end Go.Proofs.YtmficdfihogffaaDoor
