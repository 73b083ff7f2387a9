/- The reference's world of clocks: what it holds, has, Read, walked. -/
import Derived.Test.YtloniibmmajlbaaDoorWorldD
import Derived.Test.YtloniibmmajlbaaDoorArr
import Derived.BigRegion
import Derived.BigQuiet
namespace Go.Proofs.YtloniibmmajlbaaDoor
open Go.RowKit
set_option linter.unusedVariables false
set_option linter.unusedSimpArgs false
/-- the reference's world behind a pointer: its rows are what came in (as they were in W0). -/
structure RWorld (W0 w : World) (M B n : Nat) (A1 A2 : Option Addr) (c1 c2 : Nat) (t : Int) (uv : Value) (us : List RLetter) : Prop where
  blk : Blk w M 43 #[.slice A1 n c1, .slice A2 n c2, .int .i64 t, uv]
  old : Below W0.heap.size W0 w
  Mo : W0.heap.size ≤ M
  MB : M < B
  Bw : B ≤ w.heap.size
  row : w.ownsRow B 37 6 uv us.length (us.flatMap RLetter.cells)
  l40 : us.length ≤ 40
  lok : ∀ z ∈ us, RLetter.ok z
  t0 : 0 ≤ t
  t1 : t ≤ 1000000000
theorem RWorld.low {W0 w : World} {M B n : Nat} {A1 A2 : Option Addr} {c1 c2 : Nat} {t : Int} {uv : Value} {us : List RLetter} (h : RWorld W0 w M B n A1 A2 c1 c2 t uv us) : ∀ k, uv.ownBlock = some k → B ≤ k ∧ k < w.heap.size := h.row.lt
theorem RWorld.next {W0 w w' : World} {M B n : Nat} {A1 A2 : Option Addr} {c1 c2 : Nat} {t t' : Int} {uv uv' : Value} {us us' : List RLetter} (h : RWorld W0 w M B n A1 A2 c1 c2 t uv us) (hk : Kept (Mine M uv) w w')
    (hb : Blk w' M 43 #[.slice A1 n c1, .slice A2 n c2, .int .i64 t', uv'])
    (row : w'.ownsRow B 37 6 uv' us'.length (us'.flatMap RLetter.cells)) (l40 : us'.length ≤ 40) (lok : ∀ z ∈ us', RLetter.ok z) (t0 : 0 ≤ t') (t1 : t' ≤ 1000000000) : RWorld W0 w' M B n A1 A2 c1 c2 t' uv' us' := by
  have hlow := h.low
  have hMo := h.Mo
  have hMB := h.MB
  refine ⟨hb, h.old.trans (hk.toBelow h.old.size fun k e => ?_), h.Mo, h.MB, Nat.le_trans h.Bw hk.size, row, l40, lok, t0, t1⟩
  rcases e with e | e
  · omega
  · have := (hlow k e).1; omega
theorem RWorld.below {W0 w w' : World} {M B n : Nat} {A1 A2 : Option Addr} {c1 c2 : Nat} {t : Int} {uv : Value} {us : List RLetter} (h : RWorld W0 w M B n A1 A2 c1 c2 t uv us) (hb : Below w.heap.size w w') : RWorld W0 w' M B n A1 A2 c1 c2 t uv us :=
  h.next ((Kept.refl _ w).below hb) (h.blk.below hb h.blk.lt) (own_below h.row hb) h.l40 h.lok h.t0 h.t1
/-- another thing is touched. -/
theorem RWorld.other {W0 w w' : World} {M B n : Nat} {A1 A2 : Option Addr} {c1 c2 : Nat} {t : Int} {uv : Value} {us : List RLetter} {P : Nat → Prop} (h : RWorld W0 w M B n A1 A2 c1 c2 t uv us) (hk : Kept P w w') (hP : ∀ k, P k → W0.heap.size ≤ k ∧ k ≠ M ∧ uv.ownBlock ≠ some k) : RWorld W0 w' M B n A1 A2 c1 c2 t uv us := by
  have hlow := h.low
  have hrow := h.row
  refine ⟨(hk.block M h.blk.lt (fun e => (hP M e).2.1 rfl)).trans h.blk, h.old.trans (hk.toBelow h.old.size fun k e => (hP k e).1), h.Mo, h.MB, Nat.le_trans h.Bw hk.size, ?_, h.l40, h.lok, h.t0, h.t1⟩
  refine ⟨hrow.1, ?_⟩
  rcases hrow.2 with h1 | ⟨q, cap, cur, rfl, hB, hg, hn, hm, hs, ht⟩
  · exact .inl h1
  · exact .inr ⟨q, cap, cur, rfl, hB, (hk.block q (hlow q rfl).2 (fun e => (hP q e).2.2 rfl)).trans hg, hn, hm, hs, ht⟩
/-- what an ask or an answer leaves. -/
def RSent (W0 w : World) (M B n : Nat) (A1 A2 : Option Addr) (c1 c2 : Nat) (t : Int) (uv : Value) (us : List RLetter) (w' : World) : Prop := ∃ uv', RWorld W0 w' M B n A1 A2 c1 c2 t uv' us ∧ Kept (Mine M uv) w w' ∧ (∀ q, uv'.ownBlock = some q → uv.ownBlock = some q ∨ w.heap.size ≤ q)
theorem rsent_done {W0 w W w5 : World} {M B n gg m cap : Nat} {A1 A2 : Option Addr} {c1 c2 : Nat} {t : Int} {uv : Value} {us : List RLetter} {L : RLetter} (h : RWorld W0 w M B n A1 A2 c1 c2 t uv us) (hW : Below w.heap.size w W) (hg5 : W.grownBy w5 uv.ownBlock) (hgg : uv.ownBlock = some gg ∨ gg = W.heap.size)
    (ho5 : w5.ownsRow B 37 6 (.slice (some ⟨gg, 0, none⟩) m cap) (us.length + 1) (us.flatMap RLetter.cells ++ RLetter.cells L)) (hl : us.length < 40) (hok : RLetter.ok L) : RSent W0 w M B n A1 A2 c1 c2 t uv (us ++ [L]) (w5.setCell ⟨M, 3, none⟩ (.slice (some ⟨gg, 0, none⟩) m cap)) := by
  have hlow := h.low
  have hgB := h.MB
  have hBw := h.Bw
  have hne : some M ≠ uv.ownBlock := fun e => by have := (hlow _ e.symm).1; omega
  have hK : Kept (Mine M uv) w (w5.setCell ⟨M, 3, none⟩ (.slice (some ⟨gg, 0, none⟩) m cap)) := (((Kept.refl _ w).below hW).grown hg5 (fun k e => .inl (.inr e))).set M 3 _ (.inl (.inl rfl))
  refine ⟨.slice (some ⟨gg, 0, none⟩) m cap, h.next hK ?_ ?_ ?_ ?_ h.t0 h.t1, hK, fun q e => ?_⟩
  · exact (((h.blk.below hW h.blk.lt).grown hg5 hne).set 3 _).conv rfl
  · exact own_touched (own_snoc RLetter.cells ho5) ((Touched.refl M w5).set 3 _) hgB
  · rw [List.length_append]; simp; omega
  · intro z hz
    rcases List.mem_append.1 hz with h1 | h1
    · exact h.lok z h1
    · simp at h1; subst h1; exact hok
  · have e : gg = q := by simpa [Value.ownBlock] using e
    subst e
    rcases hgg with h1 | h1
    · exact .inl h1
    · right; have := hW.size; omega
theorem r2_has (W0 : World) (M B n : Nat) (A1 A2 : Option Addr) (c1 c2 : Nat) (t : Int) (uv : Value) (us : List RLetter) (i : Int) (w : World) (h : RWorld W0 w M B n A1 A2 c1 c2 t uv us) :
    Calls Tryd.prog 24 #[.pointer (some ⟨M, 0, none⟩), .int .i64 i] w fun e w' => e = .returned (.bool (hasN n i)) ∧ Below w.heap.size w w' := by
  have c0 := h.blk.cell 0
  simp at c0
  clear h
  by_cases g1 : 0 ≤ i
  · have hv := Lib.hid (show hasN n i = decide (i < n) by unfold hasN; simp [g1])
    go_enter Tryd.func24, Tryd.ntmps24
    go_wp2_with fail
    go_ret
    exact ⟨by rw [hv.out]; rfl, (by repeat (first | with_reducible exact Below.refl _ _ | (with_reducible refine Below.alloc ?_ (by first | omega | (simp; done) | (simp; omega)) _) | (with_reducible refine Below.setCell ?_ (by first | omega | (simp; done) | (simp; omega)) _) | (with_reducible refine Below.drew ?_) | (with_reducible refine below_drewN ?_ _) | (with_reducible assumption) | (with_reducible refine bel_step (by with_reducible assumption) ?_ (by first | omega | (simp; done) | (simp; omega)))))⟩
  · have hv := Lib.hid (show hasN n i = false by unfold hasN; simp [g1])
    go_enter Tryd.func24, Tryd.ntmps24
    go_wp2_with fail
    go_ret
    exact ⟨by rw [hv.out]; rfl, (by repeat (first | with_reducible exact Below.refl _ _ | (with_reducible refine Below.alloc ?_ (by first | omega | (simp; done) | (simp; omega)) _) | (with_reducible refine Below.setCell ?_ (by first | omega | (simp; done) | (simp; omega)) _) | (with_reducible refine Below.drew ?_) | (with_reducible refine below_drewN ?_ _) | (with_reducible assumption) | (with_reducible refine bel_step (by with_reducible assumption) ?_ (by first | omega | (simp; done) | (simp; omega)))))⟩
theorem mod_down (N : Int) : ∃ Q, Int.tdiv N 1000000 = Q ∧ ((N < Q * 1000000 ∧ Q - 1 = N / 1000000) ∨ (¬ N < Q * 1000000 ∧ Q = N / 1000000)) := by
  have h1 := Int.mul_tdiv_add_tmod N 1000000
  have h2 : N.tmod 1000000 < 1000000 := Int.tmod_lt_of_pos N (by omega)
  have h3 : (-N).tmod 1000000 < 1000000 := Int.tmod_lt_of_pos (-N) (by omega)
  rw [Int.neg_tmod] at h3
  refine ⟨_, rfl, ?_⟩
  generalize N.tdiv 1000000 = q at *
  generalize N.tmod 1000000 = r at *
  omega
set_option maxRecDepth 100000 in
set_option maxHeartbeats 4000000 in
theorem r2_WRead (W0 : World) (M B n : Nat) (A1 A2 : Option Addr) (c1 c2 : Nat) (ss rs : List Int) (t : Int) (uv : Value) (us : List RLetter) (i : Nat) (s r : Int) (w : World) (h : RWorld W0 w M B n A1 A2 c1 c2 t uv us)
    (h1 : IsInts W0 A1 n c1 ss) (h2 : IsInts W0 A2 n c2 rs) (hs : ss[i]? = some s) (hr : rs[i]? = some r) (sb : 0 ≤ s ∧ s ≤ 1000000) (rb : -1000 ≤ r ∧ r ≤ 1000) :
    Calls Tryd.prog 15 #[.pointer (some ⟨M, 0, none⟩), .int .i64 i] w fun e w' => e = .returned (.int .i64 (readV s r t)) ∧ Below w.heap.size w w' := by
  have t0 := h.t0
  have t1 := h.t1
  have c0 := h.blk.cell 0
  have cc1 := h.blk.cell 1
  have cc2 := h.blk.cell 2
  simp at c0 cc1 cc2
  have hin : i < n := by rw [← h1.1]; exact (List.getElem?_eq_some_iff.1 hs).1
  obtain ⟨b1, o1, rfl, hb1, hc1⟩ := h1.2.2.2.2 (by omega)
  obtain ⟨b2, o2, rfl, hb2, hc2⟩ := h2.2.2.2.2 (by omega)
  have x0 : w.cell? ⟨b1, o1 + i, none⟩ = some (.int .i64 s) := (h.old.cell (p := ⟨b1, o1 + i, none⟩) hb1).trans (by simpa using hc1 i s hs 0 _ rfl)
  have x1 : w.cell? ⟨b2, o2 + i, none⟩ = some (.int .i64 r) := (h.old.cell (p := ⟨b2, o2 + i, none⟩) hb2).trans (by simpa using hc2 i r hr 0 _ rfl)
  have bd := mul_bd2 t0 t1 rb.1 rb.2
  obtain ⟨N, hN⟩ : ∃ N, t * r = N := ⟨_, rfl⟩
  have hv : readV s r t = s + t + N / 1000000 := by unfold readV; rw [hN]
  obtain ⟨Q, hQ, hD⟩ := mod_down N
  rw [hN] at bd
  have HV := Lib.hid hv
  have q0 : (0 : Int) ≤ (i : Int) := by omega
  have q1 : (i : Int) < (n : Int) := by omega
  have u1 := IntWalk.i64_in N (by omega)
  rw [← hN] at u1
  have hQb : -1000001 ≤ Q ∧ Q ≤ 1000001 := by omega
  have u2 := IntWalk.i64_in Q (by omega)
  have u3 := IntWalk.i64_in (Q * 1000000) (by omega)
  have u4 := IntWalk.i64_in (s + t) (by omega)
  have u5 := IntWalk.i64_in (s + t + Q) (by omega)
  have u6 := IntWalk.i64_in (Q - 1) (by omega)
  have u7 := IntWalk.i64_in (s + t + (Q - 1)) (by omega)
  clear h h1 h2 hs hr hc1 hc2 hv
  rcases hD with ⟨d1, d2⟩ | ⟨d1, d2⟩
  · have HF := Lib.hid (show s + t + (Q - 1) = readV s r t by rw [HV.out, d2])
    clear d2
    go_enter Tryd.func15, Tryd.ntmps15
    go_wp2_with fail
    go_quiet (fail)
    go_wp2_with fail
    go_quiet (fail)
    go_wp2_with fail
    go_ret
    exact ⟨ret_int HF.out, (by repeat (first | with_reducible exact Below.refl _ _ | (with_reducible refine Below.alloc ?_ (by first | omega | (simp; done) | (simp; omega)) _) | (with_reducible refine Below.setCell ?_ (by first | omega | (simp; done) | (simp; omega)) _) | (with_reducible refine Below.drew ?_) | (with_reducible refine below_drewN ?_ _) | (with_reducible assumption) | (with_reducible refine bel_step (by with_reducible assumption) ?_ (by first | omega | (simp; done) | (simp; omega)))))⟩
  · have HF := Lib.hid (show s + t + Q = readV s r t by rw [HV.out, d2])
    clear d2
    go_enter Tryd.func15, Tryd.ntmps15
    go_wp2_with fail
    go_quiet (fail)
    go_wp2_with fail
    go_quiet (fail)
    go_wp2_with fail
    go_ret
    exact ⟨ret_int HF.out, (by repeat (first | with_reducible exact Below.refl _ _ | (with_reducible refine Below.alloc ?_ (by first | omega | (simp; done) | (simp; omega)) _) | (with_reducible refine Below.setCell ?_ (by first | omega | (simp; done) | (simp; omega)) _) | (with_reducible refine Below.drew ?_) | (with_reducible refine below_drewN ?_ _) | (with_reducible assumption) | (with_reducible refine bel_step (by with_reducible assumption) ?_ (by first | omega | (simp; done) | (simp; omega)))))⟩
end Go.Proofs.YtloniibmmajlbaaDoor
