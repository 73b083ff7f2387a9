/- Package net: an act, walked. -/
import Derived.Test.YtfjpfkejajgkbaaDoorHNetA
namespace Go.Proofs.YtfjpfkejajgkbaaDoor
open Go.RowKit
set_option linter.unusedVariables false
set_option linter.unusedSimpArgs false
/-- what an act of a net leaves. -/
def NetDone (w : World) (a : NAd) (ss rs : List Int) (p : Int) (uv : Value) (c t' : Int) (us' : List RLetter) (K' : Nat) (S' : Nat → NSt) (e : Ending) (w' : World) : Prop :=
  e = .returned (errV c) ∧ ∃ uv', NetAt w' a ss rs p t' uv' us' K' S' ∧ Kept (NetMine a uv) w w' ∧ (∀ q, uv'.ownBlock = some q → uv.ownBlock = some q ∨ w.heap.size ≤ q)
set_option maxRecDepth 100000 in
set_option maxHeartbeats 16000000 in
theorem net_Do_quiet (a : NAd) (ss rs : List Int) (p t t' : Int) (uv : Value) (us us' : List RLetter) (K : Nat) (S : Nat → NSt) (A : RAct) (c : Int) (w : World) (h : NetAt w a ss rs p t uv us K S) (hA : A.ok) (hK : K < 100000) (hw : WAct a.n ss rs t us A c none t' us') :
    Calls Tryd.prog 9 #[.pointer (some ⟨a.N, 0, none⟩), .agg #[.int .i64 A.what, .int .i64 A.a, .int .i64 A.b]] w (NetDone w a ss rs p uv c t' us' (K + 1) S) := by
  have HU := Lib.hid h
  have kN := h.net.lt
  have kg := h.W.at.lt
  have c0 := h.net.cell 0
  have c1 := h.net.cell 1
  simp at c0 c1
  have gB := h.W.gB
  have gN : a.N ≠ a.g := by have := h.ad.BN; omega
  have qg : a.q ≠ a.g := by have := h.ad.Bq; omega
  have kq := h.ql
  have HD := Lib.hid (fun W (hb : Below w.heap.size w W) => act_W hw hA a.g a.B uv W (h.W.below hb))
  have hown : ∀ u, uv.ownBlock = some u → u < w.heap.size := fun u e => (h.W.low u e).2
  have HOwn := Lib.hid hown
  have HF := Lib.hid (fun k (hk : k = a.N ∨ k = a.q) => show ¬ Mine a.g uv k from fun e => by
    rcases e with e | e
    · rcases hk with hk | hk <;> omega
    · obtain ⟨d1, d2, _⟩ := h.du k e
      rcases hk with hk | hk
      · exact d1 hk
      · exact d2 hk)
  have hhas := (hw.has h.W.ls h.has).1
  clear h hw hown
  go_enter Tryd.func9, Tryd.ntmps9
  go_wp2_with fail
  obtain ⟨W1, hW1⟩ : ∃ W, w.alloc (.cells #[.int .i64 A.what, .int .i64 A.a, .int .i64 A.b] 37) = W := ⟨_, rfl⟩
  have HB1 : Below w.heap.size w W1 := by rw [← hW1]; exact (by repeat (first | with_reducible exact Below.refl _ _ | (with_reducible refine Below.alloc ?_ (by first | omega | (simp; done) | (simp; omega)) _) | (with_reducible refine Below.setCell ?_ (by first | omega | (simp; done) | (simp; omega)) _) | (with_reducible refine Below.drew ?_) | (with_reducible refine below_drewN ?_ _) | (with_reducible assumption) | (with_reducible refine bel_step (by with_reducible assumption) ?_ (by first | omega | (simp; done) | (simp; omega)))))
  have hs1 : W1.heap.size = w.heap.size + 1 := by rw [← hW1]; simp
  have bx : Blk W1 w.heap.size 37 #[.int .i64 A.what, .int .i64 A.a, .int .i64 A.b] := by rw [← hW1]; exact Blk.new w _ _
  have x0 : W1.cell? ⟨w.heap.size, 0, none⟩ = some (.int .i64 A.what) := bx.cell 0
  have x1 : W1.cell? ⟨w.heap.size, 1, none⟩ = some (.int .i64 A.a) := bx.cell 1
  have x2 : W1.cell? ⟨w.heap.size, 2, none⟩ = some (.int .i64 A.b) := bx.cell 2
  have y0 : W1.cell? ⟨a.N, 0, none⟩ = some (.pointer (some ⟨a.g, 0, none⟩)) := (HB1.cell (p := ⟨a.N, 0, none⟩) kN).trans c0
  have kN1 : a.N < W1.heap.size := by omega
  rw [hW1]
  clear hW1
  refine wp_region_held_drew (S := fun w9 => w9.cell? ⟨w.heap.size, 0, none⟩ = some (.int .i64 A.what) ∧ w9.cell? ⟨w.heap.size, 1, none⟩ = some (.int .i64 A.a) ∧ w9.cell? ⟨w.heap.size, 2, none⟩ = some (.int .i64 A.b) ∧ w9.cell? ⟨a.N, 0, none⟩ = some (.pointer (some ⟨a.g, 0, none⟩))) (by kernel_rfl) (⟨x0, x1, x2, y0⟩) (fun hHeld => ?_)
  refine take_d (i := 0) (v := (.pointer (some ⟨a.N, 0, none⟩))) (d := some 11) rfl (by kernel_rfl) (by kernel_rfl) (by kernel_rfl) (by kernel_rfl) (fun _ _ _ h => h) (Or.inl ⟨by kernel_rfl, fun w9 hw9 => by (go_simp)⟩) hHeld ?_
  try simp only [Act.put, List.setIfInBounds_toArray, List.set_cons_zero, List.set_cons_succ]
  refine take_d (i := 1) (v := (.pointer (some ⟨a.N, 0, none⟩))) (d := some 12) rfl (by kernel_rfl) (by kernel_rfl) (by kernel_rfl) (by kernel_rfl) (fun _ _ _ h => h) (Or.inl ⟨by kernel_rfl, fun w9 hw9 => by (go_simp)⟩) hHeld ?_
  try simp only [Act.put, List.setIfInBounds_toArray, List.set_cons_zero, List.set_cons_succ]
  refine take_d (i := 2) (v := (.pointer (some ⟨a.N, 0, none⟩))) (d := some 13) rfl (by kernel_rfl) (by kernel_rfl) (by kernel_rfl) (by kernel_rfl) (fun _ _ _ h => h) (Or.inl ⟨by kernel_rfl, fun w9 hw9 => by (go_simp)⟩) hHeld ?_
  try simp only [Act.put, List.setIfInBounds_toArray, List.set_cons_zero, List.set_cons_succ]
  refine take_d (i := 3) (v := (.pointer (some ⟨a.g, 0, none⟩))) (d := some 14) rfl (by kernel_rfl) (by kernel_rfl) (by kernel_rfl) (by kernel_rfl) (fun _ _ _ h => h) (Or.inl ⟨by kernel_rfl, fun w9 hw9 => by (obtain ⟨a0, a1, a2, a3⟩ := hw9; go_simp)⟩) hHeld ?_
  try simp only [Act.put, List.setIfInBounds_toArray, List.set_cons_zero, List.set_cons_succ]
  refine take_d (i := 4) (v := (.agg #[.int .i64 A.what, .int .i64 A.a, .int .i64 A.b])) (d := some 15) rfl (by kernel_rfl) (by kernel_rfl) (by kernel_rfl) (by kernel_rfl) (fun _ _ _ h => h) (Or.inl ⟨by kernel_rfl, fun w9 hw9 => by (obtain ⟨a0, a1, a2, a3⟩ := hw9; go_simp)⟩) hHeld ?_
  try simp only [Act.put, List.setIfInBounds_toArray, List.set_cons_zero, List.set_cons_succ]
  try simp only [Act.put, List.setIfInBounds_toArray, List.set_cons_zero, List.set_cons_succ]
  refine wpAnyH_ready (rs := [5]) (by kernel_rfl) (by simp) ?_
  refine AllReadyH.cons rfl (fun K hK => ?_) AllReadyH.nil
  go_simp
  refine (HD.out _ HB1.drew).mono ?_
  rintro e w2 ⟨P, uv', rfl, hP, hW2, hK2, hq2⟩
  have hK1 : Kept (Mine a.g uv) W1 w2 := ((Kept.refl _ W1).drew).trans hK2 (fun k e => .inl e)
  have hKw : Kept (Mine a.g uv) w w2 := ((Kept.refl _ w).below HB1).trans hK1 (fun k e => .inl e)
  have hqw : ∀ q, uv'.ownBlock = some q → uv.ownBlock = some q ∨ w.heap.size ≤ q := fun q e => (hq2 q e).imp id (fun h9 => by simp at h9; omega)
  have hbx2 : Blk w2 w.heap.size 37 #[.int .i64 A.what, .int .i64 A.a, .int .i64 A.b] := (hK1.block _ (by omega) (fun e => by rcases e with e | e; omega; have := HOwn.out _ e; omega)).trans bx
  have hy2 : w2.cell? ⟨a.N, 0, none⟩ = some (.pointer (some ⟨a.g, 0, none⟩)) := (World.cell?_of_block (hK1.block a.N kN1 (HF.out _ (.inl rfl)))).trans y0
  refine hK.out _ _ (⟨hbx2.cell 0, hbx2.cell 1, hbx2.cell 2, hy2⟩) (fun hHeld2 => ?_)
  clear hK K hHeld
  have hHeld := hHeld2
  try simp only [Act.put, List.setIfInBounds_toArray, List.set_cons_zero, List.set_cons_succ]
  refine take_d (i := 6) (v := (.tuple #[P, errV c])) (d := some 10) rfl (by kernel_rfl) (by kernel_rfl) (by kernel_rfl) (by kernel_rfl) (fun _ _ _ h => h) (Or.inl ⟨by kernel_rfl, fun w9 hw9 => by (go_simp)⟩) hHeld ?_
  try simp only [Act.put, List.setIfInBounds_toArray, List.set_cons_zero, List.set_cons_succ]
  refine take_d (i := 7) (v := P) (d := some 17) rfl (by kernel_rfl) (by kernel_rfl) (by kernel_rfl) (by kernel_rfl) (fun _ _ _ h => h) (Or.inl ⟨by kernel_rfl, fun w9 hw9 => by (go_simp)⟩) hHeld ?_
  try simp only [Act.put, List.setIfInBounds_toArray, List.set_cons_zero, List.set_cons_succ]
  refine take_d (i := 8) (v := (errV c)) (d := some 18) rfl (by kernel_rfl) (by kernel_rfl) (by kernel_rfl) (by kernel_rfl) (fun _ _ _ h => h) (Or.inl ⟨by kernel_rfl, fun w9 hw9 => by (go_simp)⟩) hHeld ?_
  try simp only [Act.put, List.setIfInBounds_toArray, List.set_cons_zero, List.set_cons_succ]
  refine take_d (i := 9) (v := P) (d := some 5) rfl (by kernel_rfl) (by kernel_rfl) (by kernel_rfl) (by kernel_rfl) (fun _ _ _ h => h) (Or.inl ⟨by kernel_rfl, fun w9 hw9 => by (go_simp)⟩) hHeld ?_
  try simp only [Act.put, List.setIfInBounds_toArray, List.set_cons_zero, List.set_cons_succ]
  refine take_d (i := 10) (v := (errV c)) (d := some 6) rfl (by kernel_rfl) (by kernel_rfl) (by kernel_rfl) (by kernel_rfl) (fun _ _ _ h => h) (Or.inl ⟨by kernel_rfl, fun w9 hw9 => by (go_simp)⟩) hHeld ?_
  try simp only [Act.put, List.setIfInBounds_toArray, List.set_cons_zero, List.set_cons_succ]
  refine wpAnyH_done (by kernel_rfl) ?_ _
  try simp only [Act.put, List.setIfInBounds_toArray, List.set_cons_zero, List.set_cons_succ]
  obtain rfl : P = .pointer none := hP
  have hN2 := (HU.out.world hW2 hKw hqw hhas).mono (show K ≤ K + 1 by omega)
  have HN2 := Lib.hid hN2
  have HKw := Lib.hid (show Kept (NetMine a uv) w w2 from (Kept.refl _ w).trans hKw (fun k e => .inl (by rcases e with e | e; exact .inl e; exact .inr (.inl e))))
  have HQ2 := Lib.hid hqw
  clear hN2 hW2 hK2 hK1 hKw hbx2 hy2 hq2 hqw
  by_cases hc : c = 0
  · subst hc
    go_wp2_with fail
    go_ret
    exact ⟨rfl, uv', HN2.out, HKw.out, HQ2.out⟩
  · rw [errV_ne hc]
    go_wp2_with fail
    go_ret
    exact ⟨by rw [errV_ne hc]; rfl, uv', HN2.out, HKw.out, HQ2.out⟩
end Go.Proofs.YtfjpfkejajgkbaaDoor
