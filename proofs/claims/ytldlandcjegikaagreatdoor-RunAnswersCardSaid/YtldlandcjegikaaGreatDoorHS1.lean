/- Texts that serve many laws, one behind the other. -/
import Derived.BigQuiet
import Derived.BigRegion
import Derived.Deep.AppendLies
import Derived.Deep.DeepCutAuto
import Derived.Deep.RegionHeld3
import Derived.Test.YtldlandcjegikaaGreatDoorHK2
set_option linter.unusedVariables false
set_option linter.unusedSimpArgs false
namespace Go.Proofs.YtldlandcjegikaaGreatDoor

section
open Go.RowKit
variable {qv : Value}
structure RWorld (qv : Value) (W0 w : World) (M B n : Nat) (A1 A2 : Option Addr) (c1 c2 : Nat) (t : Int) (uv : Value) (us : List RLetter) : Prop where
 blk : Blk w M 63 #[.slice A1 n c1, .slice A2 n c2, .int .i64 t, uv, qv]
 old : Below W0.heap.size W0 w
 Mo : W0.heap.size ≤ M
 MB : M < B
 Bw : B ≤ w.heap.size
 row : w.ownsRow B 110 6 uv us.length (us.flatMap RLetter.cells)
 l40 : us.length ≤ 40
 lok : ∀ z ∈ us, RLetter.ok z
 t0 : 0 ≤ t
 t1 : t ≤ 1000000000
theorem RWorld.low {W0 w : World} {M B n : Nat} {A1 A2 : Option Addr} {c1 c2 : Nat} {t : Int} {uv : Value} {us : List RLetter} (h : RWorld qv W0 w M B n A1 A2 c1 c2 t uv us) : ∀ k, uv.ownBlock = some k → B ≤ k ∧ k < w.heap.size := h.row.lt
theorem RWorld.next {W0 w w' : World} {M B n : Nat} {A1 A2 : Option Addr} {c1 c2 : Nat} {t t' : Int} {uv uv' : Value} {us us' : List RLetter} (h : RWorld qv W0 w M B n A1 A2 c1 c2 t uv us) (hk : Kept (Mine M uv) w w')
  (hb : Blk w' M 63 #[.slice A1 n c1, .slice A2 n c2, .int .i64 t', uv', qv])
  (row : w'.ownsRow B 110 6 uv' us'.length (us'.flatMap RLetter.cells)) (l40 : us'.length ≤ 40) (lok : ∀ z ∈ us', RLetter.ok z) (t0 : 0 ≤ t') (t1 : t' ≤ 1000000000) : RWorld qv W0 w' M B n A1 A2 c1 c2 t' uv' us' := by
 have hlow := h.low
 have hMo := h.Mo
 have hMB := h.MB
 refine ⟨hb, h.old.trans (hk.toBelow h.old.size fun k e => ?_), h.Mo, h.MB, Nat.le_trans h.Bw hk.size, row, l40, lok, t0, t1⟩
 rcases e with e | e
 ·omega
 ·have := (hlow k e).1; omega
theorem RWorld.below {W0 w w' : World} {M B n : Nat} {A1 A2 : Option Addr} {c1 c2 : Nat} {t : Int} {uv : Value} {us : List RLetter} (h : RWorld qv W0 w M B n A1 A2 c1 c2 t uv us) (hb : Below w.heap.size w w') : RWorld qv W0 w' M B n A1 A2 c1 c2 t uv us :=
 h.next ((Kept.refl _ w).below hb) (h.blk.below hb h.blk.lt) (own_below h.row hb) h.l40 h.lok h.t0 h.t1
theorem RWorld.other {W0 w w' : World} {M B n : Nat} {A1 A2 : Option Addr} {c1 c2 : Nat} {t : Int} {uv : Value} {us : List RLetter} {P : Nat → Prop} (h : RWorld qv W0 w M B n A1 A2 c1 c2 t uv us) (hk : Kept P w w') (hP : ∀ k, P k → W0.heap.size ≤ k ∧ k ≠ M ∧ uv.ownBlock ≠ some k) : RWorld qv W0 w' M B n A1 A2 c1 c2 t uv us := by
 have hlow := h.low
 have hrow := h.row
 refine ⟨(hk.block M h.blk.lt (fun e => (hP M e).2.1 rfl)).trans h.blk, h.old.trans (hk.toBelow h.old.size fun k e => (hP k e).1), h.Mo, h.MB, Nat.le_trans h.Bw hk.size, ?_, h.l40, h.lok, h.t0, h.t1⟩
 refine ⟨hrow.1, ?_⟩
 rcases hrow.2 with h1 | ⟨q, cap, cur, rfl, hB, hg, hn, hm, hs, ht⟩
 ·exact .inl h1
 ·exact .inr ⟨q, cap, cur, rfl, hB, (hk.block q (hlow q rfl).2 (fun e => (hP q e).2.2 rfl)).trans hg, hn, hm, hs, ht⟩
def RSent (qv : Value) (W0 w : World) (M B n : Nat) (A1 A2 : Option Addr) (c1 c2 : Nat) (t : Int) (uv : Value) (us : List RLetter) (w' : World) : Prop := ∃ uv', RWorld qv W0 w' M B n A1 A2 c1 c2 t uv' us ∧ Kept (Mine M uv) w w' ∧ (∀ q, uv'.ownBlock = some q → uv.ownBlock = some q ∨ w.heap.size ≤ q)
theorem rsent_done {W0 w W w5 : World} {M B n gg m cap : Nat} {A1 A2 : Option Addr} {c1 c2 : Nat} {t : Int} {uv : Value} {us : List RLetter} {L : RLetter} (h : RWorld qv W0 w M B n A1 A2 c1 c2 t uv us) (hW : Below w.heap.size w W) (hg5 : W.grownBy w5 uv.ownBlock) (hgg : uv.ownBlock = some gg ∨ gg = W.heap.size)
  (ho5 : w5.ownsRow B 110 6 (.slice (some ⟨gg, 0, none⟩) m cap) (us.length + 1) (us.flatMap RLetter.cells ++ RLetter.cells L)) (hl : us.length < 40) (hok : RLetter.ok L) : RSent qv W0 w M B n A1 A2 c1 c2 t uv (us ++ [L]) (w5.setCell ⟨M, 3, none⟩ (.slice (some ⟨gg, 0, none⟩) m cap)) := by
 have hlow := h.low
 have hgB := h.MB
 have hBw := h.Bw
 have hne : some M ≠ uv.ownBlock := fun e => by have := (hlow _ e.symm).1; omega
 have hK : Kept (Mine M uv) w (w5.setCell ⟨M, 3, none⟩ (.slice (some ⟨gg, 0, none⟩) m cap)) := (((Kept.refl _ w).below hW).grown hg5 (fun k e => .inl (.inr e))).set M 3 _ (.inl (.inl rfl))
 refine ⟨.slice (some ⟨gg, 0, none⟩) m cap, h.next hK ?_ ?_ ?_ ?_ h.t0 h.t1, hK, fun q e => ?_⟩
 ·exact (((h.blk.below hW h.blk.lt).grown hg5 hne).set 3 _).conv rfl
 ·exact own_touched (own_snoc RLetter.cells ho5) ((Touched.refl M w5).set 3 _) hgB
 ·rw [List.length_append]; simp; omega
 ·intro z hz
  rcases List.mem_append.1 hz with h1 | h1
  ·exact h.lok z h1
  ·simp at h1; subst h1; exact hok
 ·have e : gg = q := by simpa [Value.ownBlock] using e
  subst e
  rcases hgg with h1 | h1
  ·exact .inl h1
  ·right; have := hW.size; omega
theorem r2_has (W0 : World) (M B n : Nat) (A1 A2 : Option Addr) (c1 c2 : Nat) (t : Int) (uv : Value) (us : List RLetter) (i : Int) (w : World) (h : RWorld qv W0 w M B n A1 A2 c1 c2 t uv us) :
  Calls Tryz.prog 76 #[.pointer (some ⟨M, 0, none⟩), .int .i64 i] w fun e w' => e = .returned (.bool (hasN n i)) ∧ Below w.heap.size w w' := by
 have c0 := h.blk.cell 0
 simp at c0
 clear h
 by_cases g1 : 0 ≤ i
 ·have hv := Lib.hid (show hasN n i = decide (i < n) by unfold hasN; simp [g1])
  go_enter Tryz.func76, Tryz.ntmps76
  go_wp2_with fail
  go_ret
  exact ⟨by rw [hv.out]; rfl, BeL⟩
 ·have hv := Lib.hid (show hasN n i = false by unfold hasN; simp [g1])
  go_enter Tryz.func76, Tryz.ntmps76
  go_wp2_with fail
  go_ret
  exact ⟨by rw [hv.out]; rfl, BeL⟩
theorem mod_down (N : Int) : ∃ Q, Int.tdiv N 1000000 = Q ∧ ((N < Q * 1000000 ∧ Q - 1 = N / 1000000) ∨ (¬ N < Q * 1000000 ∧ Q = N / 1000000)) := by
 have h1 := Int.mul_tdiv_add_tmod N 1000000
 have h2 : N.tmod 1000000 < 1000000 := Int.tmod_lt_of_pos N (by omega)
 have h3 : (-N).tmod 1000000 < 1000000 := Int.tmod_lt_of_pos (-N) (by omega)
 rw [Int.neg_tmod] at h3
 refine ⟨_, rfl, ?_⟩
 generalize N.tdiv 1000000 = q at *
 generalize N.tmod 1000000 = r at *
 omega
set_option maxRecDepth 100000 in
set_option maxHeartbeats 4000000 in
theorem r2_WRead (W0 : World) (M B n : Nat) (A1 A2 : Option Addr) (c1 c2 : Nat) (ss rs : List Int) (t : Int) (uv : Value) (us : List RLetter) (i : Nat) (s r : Int) (w : World) (h : RWorld qv W0 w M B n A1 A2 c1 c2 t uv us)
  (h1 : IsInts W0 A1 n c1 ss) (h2 : IsInts W0 A2 n c2 rs) (hs : ss[i]? = some s) (hr : rs[i]? = some r) (sb : 0 ≤ s ∧ s ≤ 1000000) (rb : -1000 ≤ r ∧ r ≤ 1000) :
  Calls Tryz.prog 22 #[.pointer (some ⟨M, 0, none⟩), .int .i64 i] w fun e w' => e = .returned (.int .i64 (readV s r t)) ∧ Below w.heap.size w w' := by
 have t0 := h.t0
 have t1 := h.t1
 have c0 := h.blk.cell 0
 have cc1 := h.blk.cell 1
 have cc2 := h.blk.cell 2
 simp at c0 cc1 cc2
 have hin : i < n := by rw [← h1.1]; exact (List.getElem?_eq_some_iff.1 hs).1
 obtain ⟨b1, o1, rfl, hb1, hc1⟩ := h1.2.2.2.2 (by omega)
 obtain ⟨b2, o2, rfl, hb2, hc2⟩ := h2.2.2.2.2 (by omega)
 have x0 : w.cell? ⟨b1, o1 + i, none⟩ = some (.int .i64 s) := (h.old.cell (p := ⟨b1, o1 + i, none⟩) hb1).trans (by simpa using hc1 i s hs 0 _ rfl)
 have x1 : w.cell? ⟨b2, o2 + i, none⟩ = some (.int .i64 r) := (h.old.cell (p := ⟨b2, o2 + i, none⟩) hb2).trans (by simpa using hc2 i r hr 0 _ rfl)
 have bd := mul_bd2 t0 t1 rb.1 rb.2
 obtain ⟨N, hN⟩ : ∃ N, t * r = N := ⟨_, rfl⟩
 have hv : readV s r t = s + t + N / 1000000 := by unfold readV; rw [hN]
 obtain ⟨Q, hQ, hD⟩ := mod_down N
 rw [hN] at bd
 have HV := Lib.hid hv
 have q0 : (0 : Int) ≤ (i : Int) := by omega
 have q1 : (i : Int) < (n : Int) := by omega
 have u1 := IntWalk.i64_in N (by omega)
 rw [← hN] at u1
 have hQb : -1000001 ≤ Q ∧ Q ≤ 1000001 := by omega
 have u2 := IntWalk.i64_in Q (by omega)
 have u3 := IntWalk.i64_in (Q * 1000000) (by omega)
 have u4 := IntWalk.i64_in (s + t) (by omega)
 have u5 := IntWalk.i64_in (s + t + Q) (by omega)
 have u6 := IntWalk.i64_in (Q - 1) (by omega)
 have u7 := IntWalk.i64_in (s + t + (Q - 1)) (by omega)
 clear h h1 h2 hs hr hc1 hc2 hv
 rcases hD with ⟨d1, d2⟩ | ⟨d1, d2⟩
 ·have HF := Lib.hid (show s + t + (Q - 1) = readV s r t by rw [HV.out, d2])
  clear d2
  go_enter Tryz.func22, Tryz.ntmps22
  go_wp2_with fail
  go_quiet (fail)
  go_wp2_with fail
  go_quiet (fail)
  go_wp2_with fail
  go_ret
  exact ⟨ret_int HF.out, BeL⟩
 ·have HF := Lib.hid (show s + t + Q = readV s r t by rw [HV.out, d2])
  clear d2
  go_enter Tryz.func22, Tryz.ntmps22
  go_wp2_with fail
  go_quiet (fail)
  go_wp2_with fail
  go_quiet (fail)
  go_wp2_with fail
  go_ret
  exact ⟨ret_int HF.out, BeL⟩
end


section
open Go.RowKit
variable {qv : Value}
set_option maxRecDepth 100000 in
set_option maxHeartbeats 8000000 in
theorem r2_Answer (W0 : World) (M B n : Nat) (A1 A2 : Option Addr) (c1 c2 : Nat) (ss rs : List Int) (t : Int) (uv : Value) (us : List RLetter) (i k : Nat) (s r t1 t2 lt : Int) (w : World) (h : RWorld qv W0 w M B n A1 A2 c1 c2 t uv us)
  (h1 : IsInts W0 A1 n c1 ss) (h2 : IsInts W0 A2 n c2 rs) (n6 : n ≤ 6) (hs : ss[k]? = some s) (hr : rs[k]? = some r) (sb : 0 ≤ s ∧ s ≤ 1000000) (rb : -1000 ≤ r ∧ r ≤ 1000) (hin : i < n) (hl : us.length < 40) (hlt : i64B lt) :
  Calls Tryz.prog 43 #[.pointer (some ⟨M, 0, none⟩), .agg #[.int .i64 i, .int .i64 k, .bool false, .int .i64 t1, .int .i64 t2, .int .i64 lt]] w fun e w' => e = .returned (.int .i64 0) ∧ RSent qv W0 w M B n A1 A2 c1 c2 t uv (us ++ [⟨k, i, true, lt, readV s r t, readV s r t⟩]) w' := by
 obtain ⟨i0, hi, hz0, hz1, hz2⟩ := info_parts infoLt
 have hk : k < n := by rw [← h1.1]; exact (List.getElem?_eq_some_iff.1 hs).1
 have HU := Lib.hid h
 have CH := Lib.hid (fun (j : Nat) (hj : j < n) w' (hb : Below w.heap.size w w') => by have := r2_has W0 M B n A1 A2 c1 c2 t uv us j w' (h.below hb); rw [hasN_nat hj] at this; exact this)
 have CRd := Lib.hid (fun w' (hb : Below w.heap.size w w') => r2_WRead W0 M B n A1 A2 c1 c2 ss rs t uv us k s r w' (h.below hb) h1 h2 hs hr sb rb)
 obtain ⟨A, c, rfl, hAc, hcm⟩ := own_slice h.row
 unfold maxLen at hcm
 have HG := Lib.hid (fun w' (hb : Below w.heap.size w w') => show w'.cell? ⟨M, 3, none⟩ = some (.slice A us.length c) ∧ w'.frozen? ⟨M, 3, none⟩ = false from ⟨by rw [(h.below hb).blk.cell]; rfl, (h.below hb).blk.fz 3⟩)
 have hrd := readV_bd sb.1 sb.2 h.t0 h.t1 rb.1 rb.2
 have hgw := Nat.lt_of_lt_of_le h.MB h.Bw
 have hBw := h.Bw
 have hgB := h.MB
 have hlow := h.low
 obtain ⟨v, hv⟩ : ∃ v, readV s r t = v := ⟨_, rfl⟩
 rw [hv] at CRd hrd ⊢
 have HOk := Lib.hid (show RLetter.ok ⟨k, i, true, lt, v, v⟩ from by unfold i64B at hlt; unfold RLetter.ok i64B; simp only []; omega)
 have g1 : ¬ (40 : Int) ≤ (us.length : Int) := by omega
 clear h h1 h2 hs hr hv hlt sb rb
 go_enter Tryz.func43, Tryz.ntmps43
 go_wp2_with fail
 refine (CH.out i hin _ BeL).mono ?_
 rintro e w1 ⟨rfl, hb1⟩
 have hz1 := hb1.size
 (try simp at hz1)
 have agx : w.heap.size ≤ w.heap.size := by first | omega | (simp; done) | (simp; omega)
 have bx1 : Blk w1 (w.heap.size) 110 #[.int .i64 i, .int .i64 k, .bool false, .int .i64 t1, .int .i64 t2, .int .i64 lt] := BkD
 have cx1_0 : w1.cell? ⟨w.heap.size, 0, none⟩ = some (.int .i64 i) := bx1.cell 0
 have fx1_0 : w1.frozen? ⟨w.heap.size, 0, none⟩ = false := bx1.fz 0
 have cx1_1 : w1.cell? ⟨w.heap.size, 1, none⟩ = some (.int .i64 k) := bx1.cell 1
 have fx1_1 : w1.frozen? ⟨w.heap.size, 1, none⟩ = false := bx1.fz 1
 have cx1_2 : w1.cell? ⟨w.heap.size, 2, none⟩ = some (.bool false) := bx1.cell 2
 have fx1_2 : w1.frozen? ⟨w.heap.size, 2, none⟩ = false := bx1.fz 2
 have cx1_3 : w1.cell? ⟨w.heap.size, 3, none⟩ = some (.int .i64 t1) := bx1.cell 3
 have fx1_3 : w1.frozen? ⟨w.heap.size, 3, none⟩ = false := bx1.fz 3
 have cx1_4 : w1.cell? ⟨w.heap.size, 4, none⟩ = some (.int .i64 t2) := bx1.cell 4
 have fx1_4 : w1.frozen? ⟨w.heap.size, 4, none⟩ = false := bx1.fz 4
 have cx1_5 : w1.cell? ⟨w.heap.size, 5, none⟩ = some (.int .i64 lt) := bx1.cell 5
 have fx1_5 : w1.frozen? ⟨w.heap.size, 5, none⟩ = false := bx1.fz 5
 have lx1 : w.heap.size < w1.heap.size := bx1.lt
 have HB1 : Below w.heap.size w w1 := BeL
 have HZ1 := HB1.size
 clear hb1 hz1
 go_wp2_with fail
 refine (CH.out k hk _ BeL).mono ?_
 rintro e w2 ⟨rfl, hb2⟩
 have hz2 := hb2.size
 (try simp at hz2)
 have bx2 : Blk w2 (w.heap.size) 110 #[.int .i64 i, .int .i64 k, .bool false, .int .i64 t1, .int .i64 t2, .int .i64 lt] := BkD
 have cx2_0 : w2.cell? ⟨w.heap.size, 0, none⟩ = some (.int .i64 i) := bx2.cell 0
 have fx2_0 : w2.frozen? ⟨w.heap.size, 0, none⟩ = false := bx2.fz 0
 have cx2_1 : w2.cell? ⟨w.heap.size, 1, none⟩ = some (.int .i64 k) := bx2.cell 1
 have fx2_1 : w2.frozen? ⟨w.heap.size, 1, none⟩ = false := bx2.fz 1
 have cx2_2 : w2.cell? ⟨w.heap.size, 2, none⟩ = some (.bool false) := bx2.cell 2
 have fx2_2 : w2.frozen? ⟨w.heap.size, 2, none⟩ = false := bx2.fz 2
 have cx2_3 : w2.cell? ⟨w.heap.size, 3, none⟩ = some (.int .i64 t1) := bx2.cell 3
 have fx2_3 : w2.frozen? ⟨w.heap.size, 3, none⟩ = false := bx2.fz 3
 have cx2_4 : w2.cell? ⟨w.heap.size, 4, none⟩ = some (.int .i64 t2) := bx2.cell 4
 have fx2_4 : w2.frozen? ⟨w.heap.size, 4, none⟩ = false := bx2.fz 4
 have cx2_5 : w2.cell? ⟨w.heap.size, 5, none⟩ = some (.int .i64 lt) := bx2.cell 5
 have fx2_5 : w2.frozen? ⟨w.heap.size, 5, none⟩ = false := bx2.fz 5
 have lx2 : w.heap.size < w2.heap.size := bx2.lt
 have HB2 : Below w.heap.size w w2 := BeL
 have HZ2 := HB2.size
 clear hb2 hz2 HB1 HZ1 bx1 lx1 cx1_0 fx1_0 cx1_1 fx1_1 cx1_2 fx1_2 cx1_3 fx1_3 cx1_4 fx1_4 cx1_5 fx1_5 
 have y9 := (HG.out w2 HB2).1
 go_wp2_with fail
 refine (CRd.out _ BeL).mono ?_
 rintro e w3 ⟨rfl, hb3⟩
 have hz3 := hb3.size
 (try simp at hz3)
 have bx3 : Blk w3 (w.heap.size) 110 #[.int .i64 i, .int .i64 k, .bool false, .int .i64 t1, .int .i64 t2, .int .i64 lt] := BkD
 have cx3_0 : w3.cell? ⟨w.heap.size, 0, none⟩ = some (.int .i64 i) := bx3.cell 0
 have fx3_0 : w3.frozen? ⟨w.heap.size, 0, none⟩ = false := bx3.fz 0
 have cx3_1 : w3.cell? ⟨w.heap.size, 1, none⟩ = some (.int .i64 k) := bx3.cell 1
 have fx3_1 : w3.frozen? ⟨w.heap.size, 1, none⟩ = false := bx3.fz 1
 have cx3_2 : w3.cell? ⟨w.heap.size, 2, none⟩ = some (.bool false) := bx3.cell 2
 have fx3_2 : w3.frozen? ⟨w.heap.size, 2, none⟩ = false := bx3.fz 2
 have cx3_3 : w3.cell? ⟨w.heap.size, 3, none⟩ = some (.int .i64 t1) := bx3.cell 3
 have fx3_3 : w3.frozen? ⟨w.heap.size, 3, none⟩ = false := bx3.fz 3
 have cx3_4 : w3.cell? ⟨w.heap.size, 4, none⟩ = some (.int .i64 t2) := bx3.cell 4
 have fx3_4 : w3.frozen? ⟨w.heap.size, 4, none⟩ = false := bx3.fz 4
 have cx3_5 : w3.cell? ⟨w.heap.size, 5, none⟩ = some (.int .i64 lt) := bx3.cell 5
 have fx3_5 : w3.frozen? ⟨w.heap.size, 5, none⟩ = false := bx3.fz 5
 have lx3 : w.heap.size < w3.heap.size := bx3.lt
 have HB3 : Below w.heap.size w w3 := BeL
 have HZ3 := HB3.size
 clear hb3 hz3 HB2 HZ2 bx2 lx2 cx2_0 fx2_0 cx2_1 fx2_1 cx2_2 fx2_2 cx2_3 fx2_3 cx2_4 fx2_4 cx2_5 fx2_5 
 clear y9 CRd CH
 obtain ⟨u1, u2⟩ := HG.out w3 HB3
 have hgl : M < w3.heap.size := by omega
 have lbox := lx3
 have cb0 := cx3_0
 have cb1 := cx3_1
 have cb5 := cx3_5
 clear cx3_0 cx3_1 cx3_2 cx3_3 cx3_4 cx3_5 fx3_0 fx3_1 fx3_2 fx3_3 fx3_4 fx3_5 bx3
 go_wp2_with fail
 have KP := Lib.hid (fun w' (hb : Below w3.heap.size w3 w') => show w'.cell? ⟨w.heap.size, 0, none⟩ = some (.int .i64 i) ∧ w'.cell? ⟨w.heap.size, 1, none⟩ = some (.int .i64 k) ∧ w'.cell? ⟨w.heap.size, 5, none⟩ = some (.int .i64 lt) from ⟨(hb.cell (p := ⟨w.heap.size, 0, none⟩) lbox).trans cb0, (hb.cell (p := ⟨w.heap.size, 1, none⟩) lbox).trans cb1, (hb.cell (p := ⟨w.heap.size, 5, none⟩) lbox).trans cb5⟩)
 have KG := Lib.hid (fun W W' (hb : Below w3.heap.size w3 W) (hg : W.grownBy W' (Value.slice A us.length c).ownBlock) => show W'.cell? ⟨w.heap.size, 0, none⟩ = some (.int .i64 i) ∧ W'.cell? ⟨w.heap.size, 1, none⟩ = some (.int .i64 k) ∧ W'.cell? ⟨w.heap.size, 5, none⟩ = some (.int .i64 lt) from by
  have hne : some (w.heap.size) ≠ (Value.slice A us.length c).ownBlock := fun e => by have := (hlow _ e.symm).2; omega
  obtain ⟨y0, y1, y2⟩ := KP.out W hb
  exact ⟨hg.cell y0 hne, hg.cell y1 hne, hg.cell y2 hne⟩)
 have KN := Lib.hid (fun W W' (hb : Below w3.heap.size w3 W) (hg : W.grownBy W' (Value.slice A us.length c).ownBlock) => show W'.cell? ⟨M, 3, none⟩ = some (.slice A us.length c) ∧ W'.frozen? ⟨M, 3, none⟩ = false from by
  have hne : some M ≠ (Value.slice A us.length c).ownBlock := fun e => by have := (hlow _ e.symm).1; omega
  obtain ⟨k1, k2⟩ := HG.out W (HB3.trans (hb.mono HZ3))
  exact ⟨hg.cell k1 hne, (World.frozen?_of_block (hg.block M (Nat.lt_of_lt_of_le hgl hb.size) hne)).trans k2⟩)
 have KS := Lib.hid (fun (W : World) (v : Value) (hc : W.cell? ⟨w.heap.size, 0, none⟩ = some (.int .i64 i) ∧ W.cell? ⟨w.heap.size, 1, none⟩ = some (.int .i64 k) ∧ W.cell? ⟨w.heap.size, 5, none⟩ = some (.int .i64 lt)) => show (W.setCell ⟨M, 3, none⟩ v).cell? ⟨w.heap.size, 0, none⟩ = some (.int .i64 i) ∧ (W.setCell ⟨M, 3, none⟩ v).cell? ⟨w.heap.size, 1, none⟩ = some (.int .i64 k) ∧ (W.setCell ⟨M, 3, none⟩ v).cell? ⟨w.heap.size, 5, none⟩ = some (.int .i64 lt) from ⟨(World.cell?_setCell_other W _ _ v (fun e => by have := congrArg Addr.block e; simp at this; omega)).trans hc.1, (World.cell?_setCell_other W _ _ v (fun e => by have := congrArg Addr.block e; simp at this; omega)).trans hc.2.1, (World.cell?_setCell_other W _ _ v (fun e => by have := congrArg Addr.block e; simp at this; omega)).trans hc.2.2⟩)
 have HRow := Lib.hid (own_below HU.out.row HB3)
 have HBh := Lib.hid HB3
 have B0 := Lib.hid (show B ≤ w3.heap.size from Nat.le_trans hBw HB3.size)
 have B2 := Lib.hid (show us.length + 1 ≤ maxLen by unfold maxLen; omega)
 have B3 := Lib.hid (show (us.length + 1) * 48 ≤ 140737488355328 by omega)
 have hB4 : Below w3.heap.size w3 (w3.alloc (.cells (RLetter.cells ⟨k, i, true, lt, v, v⟩).toArray 110)).drew := ((Below.refl _ _).alloc (Nat.le_refl _) _).drew
 clear hlow
 refine wp_region_held_drew (S := fun w9 => w9.cell? ⟨w.heap.size, 0, none⟩ = some (.int .i64 i) ∧ w9.cell? ⟨w.heap.size, 1, none⟩ = some (.int .i64 k) ∧ w9.cell? ⟨w.heap.size, 5, none⟩ = some (.int .i64 lt)) kRf (⟨cb0, cb1, cb5⟩) (fun hHeld => ?_)
 refine tkH 0 (.pointer (some ⟨M, 0, none⟩)) (some 34) rfl hHeld ?_
 try simp only [Act.put,sI_,sZ_,sS_]
 refine tkH 1 (.pointer (some ⟨M, 0, none⟩)) (some 35) rfl hHeld ?_
 try simp only [Act.put,sI_,sZ_,sS_]
 refine tkH 2 (.pointer (some ⟨M, 0, none⟩)) (some 36) rfl hHeld ?_
 try simp only [Act.put,sI_,sZ_,sS_]
 refine tkH 3 (.pointer (some ⟨M, 3, none⟩)) (some 37) rfl hHeld ?_
 try simp only [Act.put,sI_,sZ_,sS_]
 refine tkH 5 (.pointer (some ⟨w.heap.size, 1, none⟩)) (some 39) rfl hHeld ?_
 try simp only [Act.put,sI_,sZ_,sS_]
 refine tkG 6 (.int .i64 k) (some 40) rfl (fun w9 hw9 => by (obtain ⟨y0, y1, y2⟩ := hw9; go_simp)) hHeld ?_
 try simp only [Act.put,sI_,sZ_,sS_]
 refine tkH 7 (.pointer (some ⟨w.heap.size, 0, none⟩)) (some 41) rfl hHeld ?_
 try simp only [Act.put,sI_,sZ_,sS_]
 refine tkG 8 (.int .i64 i) (some 42) rfl (fun w9 hw9 => by (obtain ⟨y0, y1, y2⟩ := hw9; go_simp)) hHeld ?_
 try simp only [Act.put,sI_,sZ_,sS_]
 refine tkH 9 (.pointer (some ⟨w.heap.size, 5, none⟩)) (some 43) rfl hHeld ?_
 try simp only [Act.put,sI_,sZ_,sS_]
 refine tkG 10 (.int .i64 lt) (some 44) rfl (fun w9 hw9 => by (obtain ⟨y0, y1, y2⟩ := hw9; go_simp)) hHeld ?_
 try simp only [Act.put,sI_,sZ_,sS_]
 refine tkH 11 (.int .i64 v) (some 45) rfl hHeld ?_
 try simp only [Act.put,sI_,sZ_,sS_]
 refine tkH 12 (.int .i64 v) (some 46) rfl hHeld ?_
 try simp only [Act.put,sI_,sZ_,sS_]
 refine tkH 13 (.agg #[.int .i64 k, .int .i64 i, .bool true, .int .i64 lt, .int .i64 v, .int .i64 v]) (some 47) rfl hHeld ?_
 try simp only [Act.put,sI_,sZ_,sS_]
 try simp only [Act.put,sI_,sZ_,sS_]
 refine wpAnyH_ready (rs := [4, 14]) kRf (by simp) ?_
 refine AllReadyH.cons rfl (fun K hK => ?_) (AllReadyH.cons rfl (fun K hK => ?_) AllReadyH.nil)
 ·go_simp
  refine hK.out _ _ (hHeld) (fun hHeld2 => ?_)
  clear hK K hHeld
  have hHeld := hHeld2
  clear hHeld2
  try simp only [Act.put,sI_,sZ_,sS_]
  try simp only [Act.put,sI_,sZ_,sS_]
  refine wpAnyH_ready (rs := [14]) kRf (by simp) ?_
  refine AllReadyH.cons rfl (fun K hK => ?_) AllReadyH.nil
  go_simp
  refine hK.out _ _ (KP.out _ hB4) (fun hHeld2 => ?_)
  clear hK K hHeld
  have hHeld := hHeld2
  clear hHeld2
  try simp only [Act.put,sI_,sZ_,sS_]
  try simp only [Act.put,sI_,sZ_,sS_]
  refine wpAnyH_ready (rs := [15]) kRf (by simp) ?_
  refine AllReadyH.cons rfl (fun K hK => ?_) AllReadyH.nil
  refine step_append_lies _ rfl _ _ 58 rfl B 110 i0 (.agg #[.int .i64 0, .int .i64 0, .bool false, .int .i64 0, .int .i64 0, .int .i64 0]) 6 48 Tryz.underlying58 hi hz0 hz1 hz2 rfl (by decide) (.slice A us.length c) us.length (us.flatMap RLetter.cells) (by simp [Act.eval, Act.put]) (HRow.out.alloc _) ⟨w3.heap.size, 0, none⟩ 1 1 (RLetter.cells ⟨k, i, true, lt, v, v⟩) (by simp [Act.eval, Act.put]) rfl (by exact cell_newAt w3 (RLetter.cells ⟨k, i, true, lt, v, v⟩) _ _ rfl) (letter_one _) (by decide) B2.out B3.out (by have := B0.out; simp; omega) _ rfl ?_
  intro gg cap w5 ho5 hg5 hgg hlt5
  refine hK.out _ _ (KG.out _ _ hB4 hg5) (fun hHeld2 => ?_)
  clear hK K hHeld
  have hHeld := hHeld2
  clear hHeld2
  change wpAnyH _ _ _ _ _ _ _ (Act.put _ (some 49) _) _
  try simp only [Act.put,sI_,sZ_,sS_]
  have hz5 := hg5.size
  have hc5 := KN.out _ _ hB4 hg5
  obtain ⟨u3, u4⟩ := hc5
  refine tkH 16 (.pointer (some ⟨M, 0, none⟩)) (some 50) rfl hHeld ?_
  try simp only [Act.put,sI_,sZ_,sS_]
  refine tkH 17 (.pointer (some ⟨M, 3, none⟩)) (some 51) rfl hHeld ?_
  try simp only [Act.put,sI_,sZ_,sS_]
  try simp only [Act.put,sI_,sZ_,sS_]
  refine wpAnyH_ready (rs := [18]) kRf (by simp) ?_
  refine AllReadyH.cons rfl (fun K hK => ?_) AllReadyH.nil
  go_simp
  refine hK.out _ _ (KS.out _ _ hHeld) (fun hHeld2 => ?_)
  clear hK K hHeld
  have hHeld := hHeld2
  clear hHeld2
  try simp only [Act.put,sI_,sZ_,sS_]
  refine wpAnyH_done kRf ?_ _
  try simp only [Act.put,sI_,sZ_,sS_]
  go_wp2_with fail
  go_ret
  exact ⟨rfl, rsent_done HU.out (HBh.out.trans (hB4.mono HZ3)) hg5 hgg ho5 hl HOk.out⟩
 ·go_simp
  refine hK.out _ _ (KP.out _ hB4) (fun hHeld2 => ?_)
  clear hK K hHeld
  have hHeld := hHeld2
  clear hHeld2
  try simp only [Act.put,sI_,sZ_,sS_]
  try simp only [Act.put,sI_,sZ_,sS_]
  refine wpAnyH_ready (rs := [4]) kRf (by simp) ?_
  refine AllReadyH.cons rfl (fun K hK => ?_) AllReadyH.nil
  go_simp
  refine hK.out _ _ (hHeld) (fun hHeld2 => ?_)
  clear hK K hHeld
  have hHeld := hHeld2
  clear hHeld2
  try simp only [Act.put,sI_,sZ_,sS_]
  try simp only [Act.put,sI_,sZ_,sS_]
  refine wpAnyH_ready (rs := [15]) kRf (by simp) ?_
  refine AllReadyH.cons rfl (fun K hK => ?_) AllReadyH.nil
  refine step_append_lies _ rfl _ _ 58 rfl B 110 i0 (.agg #[.int .i64 0, .int .i64 0, .bool false, .int .i64 0, .int .i64 0, .int .i64 0]) 6 48 Tryz.underlying58 hi hz0 hz1 hz2 rfl (by decide) (.slice A us.length c) us.length (us.flatMap RLetter.cells) (by simp [Act.eval, Act.put]) (HRow.out.alloc _) ⟨w3.heap.size, 0, none⟩ 1 1 (RLetter.cells ⟨k, i, true, lt, v, v⟩) (by simp [Act.eval, Act.put]) rfl (by exact cell_newAt w3 (RLetter.cells ⟨k, i, true, lt, v, v⟩) _ _ rfl) (letter_one _) (by decide) B2.out B3.out (by have := B0.out; simp; omega) _ rfl ?_
  intro gg cap w5 ho5 hg5 hgg hlt5
  refine hK.out _ _ (KG.out _ _ hB4 hg5) (fun hHeld2 => ?_)
  clear hK K hHeld
  have hHeld := hHeld2
  clear hHeld2
  change wpAnyH _ _ _ _ _ _ _ (Act.put _ (some 49) _) _
  try simp only [Act.put,sI_,sZ_,sS_]
  have hz5 := hg5.size
  have hc5 := KN.out _ _ hB4 hg5
  obtain ⟨u3, u4⟩ := hc5
  refine tkH 16 (.pointer (some ⟨M, 0, none⟩)) (some 50) rfl hHeld ?_
  try simp only [Act.put,sI_,sZ_,sS_]
  refine tkH 17 (.pointer (some ⟨M, 3, none⟩)) (some 51) rfl hHeld ?_
  try simp only [Act.put,sI_,sZ_,sS_]
  try simp only [Act.put,sI_,sZ_,sS_]
  refine wpAnyH_ready (rs := [18]) kRf (by simp) ?_
  refine AllReadyH.cons rfl (fun K hK => ?_) AllReadyH.nil
  go_simp
  refine hK.out _ _ (KS.out _ _ hHeld) (fun hHeld2 => ?_)
  clear hK K hHeld
  have hHeld := hHeld2
  clear hHeld2
  try simp only [Act.put,sI_,sZ_,sS_]
  refine wpAnyH_done kRf ?_ _
  try simp only [Act.put,sI_,sZ_,sS_]
  go_wp2_with fail
  go_ret
  exact ⟨rfl, rsent_done HU.out (HBh.out.trans (hB4.mono HZ3)) hg5 hgg ho5 hl HOk.out⟩
set_option maxRecDepth 100000 in
set_option maxHeartbeats 4000000 in
theorem r2_Answer_yes (M : Nat) (a b t1 t2 lt : Int) (w : World) :
  Calls Tryz.prog 43 #[.pointer (some ⟨M, 0, none⟩), .agg #[.int .i64 a, .int .i64 b, .bool true, .int .i64 t1, .int .i64 t2, .int .i64 lt]] w fun e w' => e = .returned (.int .i64 3) ∧ Below w.heap.size w w' := by
 go_enter Tryz.func43, Tryz.ntmps43
 go_wp2_with fail
 go_ret
 exact ⟨rfl, BeL⟩
set_option maxRecDepth 100000 in
set_option maxHeartbeats 4000000 in
theorem r2_Answer_no (W0 : World) (M B n : Nat) (A1 A2 : Option Addr) (c1 c2 : Nat) (t : Int) (uv : Value) (us : List RLetter) (a b t1 t2 lt : Int) (w : World) (h : RWorld qv W0 w M B n A1 A2 c1 c2 t uv us) (h0 : hasN n a = false ∨ hasN n b = false) :
  Calls Tryz.prog 43 #[.pointer (some ⟨M, 0, none⟩), .agg #[.int .i64 a, .int .i64 b, .bool false, .int .i64 t1, .int .i64 t2, .int .i64 lt]] w fun e w' => e = .returned (.int .i64 1) ∧ Below w.heap.size w w' := by
 have CH := Lib.hid (fun (j : Int) (q : Bool) (hq : hasN n j = q) w' (hb : Below w.heap.size w w') => by have := r2_has W0 M B n A1 A2 c1 c2 t uv us j w' (h.below hb); rw [hq] at this; exact this)
 clear h
 obtain ⟨p, q, d1, d2, hd⟩ : ∃ p q, hasN n a = p ∧ hasN n b = q ∧ (p = false ∨ (p = true ∧ q = false)) := ⟨_, _, rfl, rfl, by cases h1 : hasN n a; exact .inl rfl; rw [h1] at h0; rcases h0 with h | h; cases h; exact .inr ⟨rfl, h⟩⟩
 have C1 := Lib.hid (CH.out a p d1)
 have C2 := Lib.hid (CH.out b q d2)
 clear h0 d1 d2 CH
 rcases hd with rfl | ⟨rfl, rfl⟩
 all_goals
  as_aux_lemma =>
   go_enter Tryz.func43, Tryz.ntmps43
   go_wp2_with fail
   refine (C1.out _ BeL).mono ?_
   rintro e w1 ⟨rfl, hb1⟩
   have hz1 := hb1.size
   (try simp at hz1)
   have agx : w.heap.size ≤ w.heap.size := by first | omega | (simp; done) | (simp; omega)
   have bx1 : Blk w1 (w.heap.size) 110 #[.int .i64 a, .int .i64 b, .bool false, .int .i64 t1, .int .i64 t2, .int .i64 lt] := BkD
   have cx1_0 : w1.cell? ⟨w.heap.size, 0, none⟩ = some (.int .i64 a) := bx1.cell 0
   have fx1_0 : w1.frozen? ⟨w.heap.size, 0, none⟩ = false := bx1.fz 0
   have cx1_1 : w1.cell? ⟨w.heap.size, 1, none⟩ = some (.int .i64 b) := bx1.cell 1
   have fx1_1 : w1.frozen? ⟨w.heap.size, 1, none⟩ = false := bx1.fz 1
   have cx1_2 : w1.cell? ⟨w.heap.size, 2, none⟩ = some (.bool false) := bx1.cell 2
   have fx1_2 : w1.frozen? ⟨w.heap.size, 2, none⟩ = false := bx1.fz 2
   have cx1_3 : w1.cell? ⟨w.heap.size, 3, none⟩ = some (.int .i64 t1) := bx1.cell 3
   have fx1_3 : w1.frozen? ⟨w.heap.size, 3, none⟩ = false := bx1.fz 3
   have cx1_4 : w1.cell? ⟨w.heap.size, 4, none⟩ = some (.int .i64 t2) := bx1.cell 4
   have fx1_4 : w1.frozen? ⟨w.heap.size, 4, none⟩ = false := bx1.fz 4
   have cx1_5 : w1.cell? ⟨w.heap.size, 5, none⟩ = some (.int .i64 lt) := bx1.cell 5
   have fx1_5 : w1.frozen? ⟨w.heap.size, 5, none⟩ = false := bx1.fz 5
   have lx1 : w.heap.size < w1.heap.size := bx1.lt
   have HB1 : Below w.heap.size w w1 := BeL
   have HZ1 := HB1.size
   clear hb1 hz1
   go_wp2_with fail
   refine (C2.out _ BeL).mono ?_
   rintro e w2 ⟨rfl, hb2⟩
   have hz2 := hb2.size
   (try simp at hz2)
   have bx2 : Blk w2 (w.heap.size) 110 #[.int .i64 a, .int .i64 b, .bool false, .int .i64 t1, .int .i64 t2, .int .i64 lt] := BkD
   have cx2_0 : w2.cell? ⟨w.heap.size, 0, none⟩ = some (.int .i64 a) := bx2.cell 0
   have fx2_0 : w2.frozen? ⟨w.heap.size, 0, none⟩ = false := bx2.fz 0
   have cx2_1 : w2.cell? ⟨w.heap.size, 1, none⟩ = some (.int .i64 b) := bx2.cell 1
   have fx2_1 : w2.frozen? ⟨w.heap.size, 1, none⟩ = false := bx2.fz 1
   have cx2_2 : w2.cell? ⟨w.heap.size, 2, none⟩ = some (.bool false) := bx2.cell 2
   have fx2_2 : w2.frozen? ⟨w.heap.size, 2, none⟩ = false := bx2.fz 2
   have cx2_3 : w2.cell? ⟨w.heap.size, 3, none⟩ = some (.int .i64 t1) := bx2.cell 3
   have fx2_3 : w2.frozen? ⟨w.heap.size, 3, none⟩ = false := bx2.fz 3
   have cx2_4 : w2.cell? ⟨w.heap.size, 4, none⟩ = some (.int .i64 t2) := bx2.cell 4
   have fx2_4 : w2.frozen? ⟨w.heap.size, 4, none⟩ = false := bx2.fz 4
   have cx2_5 : w2.cell? ⟨w.heap.size, 5, none⟩ = some (.int .i64 lt) := bx2.cell 5
   have fx2_5 : w2.frozen? ⟨w.heap.size, 5, none⟩ = false := bx2.fz 5
   have lx2 : w.heap.size < w2.heap.size := bx2.lt
   have HB2 : Below w.heap.size w w2 := BeL
   have HZ2 := HB2.size
   clear hb2 hz2 HB1 HZ1 bx1 lx1 cx1_0 fx1_0 cx1_1 fx1_1 cx1_2 fx1_2 cx1_3 fx1_3 cx1_4 fx1_4 cx1_5 fx1_5 
   go_wp2_with fail
   go_ret
   exact ⟨rfl, HB2⟩
set_option maxRecDepth 100000 in
set_option maxHeartbeats 4000000 in
theorem r2_Answer_full (W0 : World) (M B n : Nat) (A1 A2 : Option Addr) (c1 c2 : Nat) (t : Int) (uv : Value) (us : List RLetter) (a b t1 t2 lt : Int) (w : World) (h : RWorld qv W0 w M B n A1 A2 c1 c2 t uv us) (h1 : hasN n a = true) (h2 : hasN n b = true) (hl : 40 ≤ us.length) :
  Calls Tryz.prog 43 #[.pointer (some ⟨M, 0, none⟩), .agg #[.int .i64 a, .int .i64 b, .bool false, .int .i64 t1, .int .i64 t2, .int .i64 lt]] w fun e w' => e = .returned (.int .i64 4) ∧ Below w.heap.size w w' := by
 have C1 := Lib.hid (fun w' (hb : Below w.heap.size w w') => by have := r2_has W0 M B n A1 A2 c1 c2 t uv us a w' (h.below hb); rw [h1] at this; exact this)
 have C2 := Lib.hid (fun w' (hb : Below w.heap.size w w') => by have := r2_has W0 M B n A1 A2 c1 c2 t uv us b w' (h.below hb); rw [h2] at this; exact this)
 obtain ⟨A, c, rfl, hAc, hcm⟩ := own_slice h.row
 unfold maxLen at hcm
 have HG := Lib.hid (fun w' (hb : Below w.heap.size w w') => show w'.cell? ⟨M, 3, none⟩ = some (.slice A us.length c) from by rw [(h.below hb).blk.cell]; rfl)
 have hgw := Nat.lt_of_lt_of_le h.MB h.Bw
 have g1 : (40 : Int) ≤ (us.length : Int) := by omega
 clear h h1 h2
 go_enter Tryz.func43, Tryz.ntmps43
 go_wp2_with fail
 refine (C1.out _ BeL).mono ?_
 rintro e w1 ⟨rfl, hb1⟩
 have hz1 := hb1.size
 (try simp at hz1)
 have agx : w.heap.size ≤ w.heap.size := by first | omega | (simp; done) | (simp; omega)
 have bx1 : Blk w1 (w.heap.size) 110 #[.int .i64 a, .int .i64 b, .bool false, .int .i64 t1, .int .i64 t2, .int .i64 lt] := BkD
 have cx1_0 : w1.cell? ⟨w.heap.size, 0, none⟩ = some (.int .i64 a) := bx1.cell 0
 have fx1_0 : w1.frozen? ⟨w.heap.size, 0, none⟩ = false := bx1.fz 0
 have cx1_1 : w1.cell? ⟨w.heap.size, 1, none⟩ = some (.int .i64 b) := bx1.cell 1
 have fx1_1 : w1.frozen? ⟨w.heap.size, 1, none⟩ = false := bx1.fz 1
 have cx1_2 : w1.cell? ⟨w.heap.size, 2, none⟩ = some (.bool false) := bx1.cell 2
 have fx1_2 : w1.frozen? ⟨w.heap.size, 2, none⟩ = false := bx1.fz 2
 have cx1_3 : w1.cell? ⟨w.heap.size, 3, none⟩ = some (.int .i64 t1) := bx1.cell 3
 have fx1_3 : w1.frozen? ⟨w.heap.size, 3, none⟩ = false := bx1.fz 3
 have cx1_4 : w1.cell? ⟨w.heap.size, 4, none⟩ = some (.int .i64 t2) := bx1.cell 4
 have fx1_4 : w1.frozen? ⟨w.heap.size, 4, none⟩ = false := bx1.fz 4
 have cx1_5 : w1.cell? ⟨w.heap.size, 5, none⟩ = some (.int .i64 lt) := bx1.cell 5
 have fx1_5 : w1.frozen? ⟨w.heap.size, 5, none⟩ = false := bx1.fz 5
 have lx1 : w.heap.size < w1.heap.size := bx1.lt
 have HB1 : Below w.heap.size w w1 := BeL
 have HZ1 := HB1.size
 clear hb1 hz1
 go_wp2_with fail
 refine (C2.out _ BeL).mono ?_
 rintro e w2 ⟨rfl, hb2⟩
 have hz2 := hb2.size
 (try simp at hz2)
 have bx2 : Blk w2 (w.heap.size) 110 #[.int .i64 a, .int .i64 b, .bool false, .int .i64 t1, .int .i64 t2, .int .i64 lt] := BkD
 have cx2_0 : w2.cell? ⟨w.heap.size, 0, none⟩ = some (.int .i64 a) := bx2.cell 0
 have fx2_0 : w2.frozen? ⟨w.heap.size, 0, none⟩ = false := bx2.fz 0
 have cx2_1 : w2.cell? ⟨w.heap.size, 1, none⟩ = some (.int .i64 b) := bx2.cell 1
 have fx2_1 : w2.frozen? ⟨w.heap.size, 1, none⟩ = false := bx2.fz 1
 have cx2_2 : w2.cell? ⟨w.heap.size, 2, none⟩ = some (.bool false) := bx2.cell 2
 have fx2_2 : w2.frozen? ⟨w.heap.size, 2, none⟩ = false := bx2.fz 2
 have cx2_3 : w2.cell? ⟨w.heap.size, 3, none⟩ = some (.int .i64 t1) := bx2.cell 3
 have fx2_3 : w2.frozen? ⟨w.heap.size, 3, none⟩ = false := bx2.fz 3
 have cx2_4 : w2.cell? ⟨w.heap.size, 4, none⟩ = some (.int .i64 t2) := bx2.cell 4
 have fx2_4 : w2.frozen? ⟨w.heap.size, 4, none⟩ = false := bx2.fz 4
 have cx2_5 : w2.cell? ⟨w.heap.size, 5, none⟩ = some (.int .i64 lt) := bx2.cell 5
 have fx2_5 : w2.frozen? ⟨w.heap.size, 5, none⟩ = false := bx2.fz 5
 have lx2 : w.heap.size < w2.heap.size := bx2.lt
 have HB2 : Below w.heap.size w w2 := BeL
 have HZ2 := HB2.size
 clear hb2 hz2 HB1 HZ1 bx1 lx1 cx1_0 fx1_0 cx1_1 fx1_1 cx1_2 fx1_2 cx1_3 fx1_3 cx1_4 fx1_4 cx1_5 fx1_5 
 have y0 := HG.out w2 HB2
 clear C1 C2
 go_wp2_with fail
 go_ret
 exact ⟨rfl, HB2⟩
end


section
open Go.RowKit
variable {qv : Value}
def noL : Value := .agg #[.int .i64 0, .int .i64 0, .bool false, .int .i64 0, .int .i64 0, .int .i64 0]
theorem do_results (W : World) (tmps : Array Value) (p : Nat) (a b : Int) (q : Bool) (c d e : Int) (z : Bool) (y : Int) (hb : Blk W p 110 #[.int .i64 a, .int .i64 b, .bool q, .int .i64 c, .int .i64 d, .int .i64 e])
  (h4 : tmps[4]?.getD undef = .pointer (some ⟨p, 0, none⟩)) (h5 : tmps[5]?.getD undef = .bool z) (h6 : tmps[6]?.getD undef = .int .i64 y) :
  (results Tryz.f41 tmps).run Tryz.prog W = .ok (.tuple #[.agg #[.int .i64 a, .int .i64 b, .bool q, .int .i64 c, .int .i64 d, .int .i64 e], .bool z, .int .i64 y]) W := by
 have x0 : W.cell? ⟨p, 0, none⟩ = some (.int .i64 a) := hb.cell 0
 have x1 : W.cell? ⟨p, 1, none⟩ = some (.int .i64 b) := hb.cell 1
 have x2 : W.cell? ⟨p, 2, none⟩ = some (.bool q) := hb.cell 2
 have x3 : W.cell? ⟨p, 3, none⟩ = some (.int .i64 c) := hb.cell 3
 have x4 : W.cell? ⟨p, 4, none⟩ = some (.int .i64 d) := hb.cell 4
 have x5 : W.cell? ⟨p, 5, none⟩ = some (.int .i64 e) := hb.cell 5
 clear hb
 simp [results, Tryz.results41, go_sem, h4, h5, h6, x0, x1, x2, x3, x4, x5]
set_option maxRecDepth 100000 in
set_option maxHeartbeats 4000000 in
theorem r2_Do_other (M : Nat) (k a b : Int) (w : World) (h1 : k ≠ 1) (h2 : k ≠ 2) (h3 : k ≠ 3) (h4 : k ≠ 4) (h5 : k ≠ 5) :
  Calls Tryz.prog 41 #[.pointer (some ⟨M, 0, none⟩), .agg #[.int .i64 k, .int .i64 a, .int .i64 b]] w fun e w' => e = .returned (.tuple #[noL, .bool false, .int .i64 1]) ∧ Below w.heap.size w w' := by
 have b1 : (k == 1) = false := by simp; exact h1
 have b2 : (k == 2) = false := by simp; exact h2
 have b3 : (k == 3) = false := by simp; exact h3
 have b4 : (k == 4) = false := by simp; exact h4
 have b5 : (k == 5) = false := by simp; exact h5
 go_enter Tryz.func41, Tryz.ntmps41
 go_wp2_with fail
 (try simp only [Exit.inBlock, Exit.then])
 refine bodyPost_ret (do_results _ _ (w.heap.size + 1) 0 0 false 0 0 0 false 1 BkD rfl rfl rfl) rfl ?_
 exact ⟨rfl, BeL⟩
set_option maxRecDepth 100000 in
set_option maxHeartbeats 4000000 in
theorem r2_Do_gone (W0 : World) (M B n : Nat) (A1 A2 : Option Addr) (c1 c2 : Nat) (t : Int) (uv : Value) (us : List RLetter) (a b : Int) (w : World) (h : RWorld qv W0 w M B n A1 A2 c1 c2 t uv us) (h0 : 0 ≤ a) (h1 : a ≤ 1000000) (h2 : t + a ≤ 1000000000) :
  Calls Tryz.prog 41 #[.pointer (some ⟨M, 0, none⟩), .agg #[.int .i64 1, .int .i64 a, .int .i64 b]] w fun e w' => e = .returned (.tuple #[noL, .bool false, .int .i64 0]) ∧ RWorld qv W0 w' M B n A1 A2 c1 c2 (t + a) uv us ∧ Kept (Mine M uv) w w' := by
 have t0 := h.t0
 have hgB := h.MB
 have hBw := h.Bw
 have k2 := h.blk.cell 2
 have kf := fun o => h.blk.fz o
 have kl := h.blk.lt
 simp at k2
 have HKey := Lib.hid (fun (W : World) (hT : Touched M w W) (hb : ∀ x y, Blk w M 63 #[x, y, .int .i64 t, uv, qv] → Blk W M 63 #[x, y, .int .i64 (t + a), uv, qv]) => show RWorld qv W0 W M B n A1 A2 c1 c2 (t + a) uv us ∧ Kept (Mine M uv) w W from by
  have hK := (Kept.refl (Mine M uv) w).touched hT (.inl (.inl rfl))
  exact ⟨h.next hK (hb _ _ h.blk) (own_touched h.row hT hgB) h.l40 h.lok (by omega) (by omega), hK⟩)
 clear h
 have u1 := IntWalk.i64_in (t + a) (by omega)
 have u2 := IntWalk.i64_in (1000000000 - t) (by omega)
 have d1 : decide (a < 0) = false := decide_eq_false (by omega)
 have d2 : decide (1000000 < a) = false := decide_eq_false (by omega)
 have d3 : decide (1000000000 - t < a) = false := decide_eq_false (by omega)
 go_enter Tryz.func41, Tryz.ntmps41
 go_wp2_with fail
 go_quiet (fail)
 go_wp2_with fail
 go_region
 all_goals
  go_wp2_with fail
  (try simp only [Exit.inBlock, Exit.then])
  refine bodyPost_ret (do_results _ _ (w.heap.size + 1) 0 0 false 0 0 0 false 0 BkD rfl rfl rfl) rfl ?_
 all_goals
  refine ⟨rfl, HKey.out _ (by repeat (first | with_reducible exact Touched.refl _ _ | (with_reducible refine Touched.alloc ?_ _) | (with_reducible refine Touched.setp ?_ _ (by first | exact .inl rfl | (right; first | omega | (simp; done) | (simp; omega))) _) | (with_reducible refine Touched.drew ?_) | (with_reducible refine Touched.drewN ?_ _) | (with_reducible assumption) | (with_reducible refine Touched.then (by with_reducible assumption) ?_))) (fun x y k => ?_)⟩
  exact BkD
end


section
open Go.RowKit
variable {qv : Value}
set_option maxRecDepth 100000 in
set_option maxHeartbeats 4000000 in
theorem r2_Do_stays (W0 : World) (M B n : Nat) (A1 A2 : Option Addr) (c1 c2 : Nat) (t : Int) (uv : Value) (us : List RLetter) (a b : Int) (w : World) (h : RWorld qv W0 w M B n A1 A2 c1 c2 t uv us) (ha : i64B a) (h0 : a < 0 ∨ 1000000 < a ∨ 1000000000 < t + a) :
  Calls Tryz.prog 41 #[.pointer (some ⟨M, 0, none⟩), .agg #[.int .i64 1, .int .i64 a, .int .i64 b]] w fun e w' => e = .returned (.tuple #[noL, .bool false, .int .i64 1]) ∧ Below w.heap.size w w' := by
 have t0 := h.t0
 have t1 := h.t1
 have k2 := h.blk.cell 2
 have kl := h.blk.lt
 simp at k2
 clear h
 have hd : decide (a < 0) = true ∨ (decide (a < 0) = false ∧ decide (1000000 < a) = true) ∨ (decide (a < 0) = false ∧ decide (1000000 < a) = false ∧ decide (1000000000 - t < a) = true ∧ IntKind.i64.wrap (1000000000 - t) = 1000000000 - t) := by
  by_cases d1 : a < 0
  ·exact .inl (decide_eq_true d1)
  ·by_cases d2 : 1000000 < a
   ·exact .inr (.inl ⟨decide_eq_false d1, decide_eq_true d2⟩)
   ·exact .inr (.inr ⟨decide_eq_false d1, decide_eq_false d2, decide_eq_true (by omega), IntWalk.i64_in (1000000000 - t) (by omega)⟩)
 clear h0
 rcases hd with d1 | ⟨d1, d2⟩ | ⟨d1, d2, d3, u1⟩
 all_goals
  have hle : w.heap.size ≤ w.heap.size + 1 := by omega
  go_enter Tryz.func41, Tryz.ntmps41
  go_wp2_with fail
  go_quiet (fail)
  go_wp2_with fail
  (try simp only [Exit.inBlock, Exit.then])
  refine bodyPost_ret (do_results _ _ (w.heap.size + 1) 0 0 false 0 0 0 false 1 BkD rfl rfl rfl) rfl ?_
  exact ⟨rfl, (((((((below_drewN (((Below.refl _ w).alloc (Nat.le_refl _) _).alloc (by simp) _) _).setCell hle _).setCell hle _).setCell hle _).setCell hle _).setCell hle _).setCell hle _)⟩
end


section
open Go.RowKit
variable {qv : Value}
set_option maxRecDepth 100000 in
set_option maxHeartbeats 4000000 in
theorem r2_Do_none (W0 : World) (M B n : Nat) (A1 A2 : Option Addr) (c1 c2 : Nat) (t : Int) (uv : Value) (us : List RLetter) (k a b : Int) (w : World) (h : RWorld qv W0 w M B n A1 A2 c1 c2 t uv us) (hk : k = 3 ∨ k = 4 ∨ k = 5) (ha : a < 0 ∨ (us.length : Int) ≤ a) :
  Calls Tryz.prog 41 #[.pointer (some ⟨M, 0, none⟩), .agg #[.int .i64 k, .int .i64 a, .int .i64 b]] w fun e w' => e = .returned (.tuple #[noL, .bool false, .int .i64 5]) ∧ Below w.heap.size w w' := by
 obtain ⟨A, c, rfl, hAc, hcm⟩ := own_slice h.row
 unfold maxLen at hcm
 have c3 := h.blk.cell 3
 have kl := h.blk.lt
 simp at c3
 clear h
 have key : a < 0 ∨ (¬ a < 0 ∧ (us.length : Int) ≤ a) := by omega
 rcases key with d1 | ⟨d1, d2⟩
 ·have e1 : decide (a < 0) = true := decide_eq_true d1
  clear ha
  rcases hk with rfl | rfl | rfl
  all_goals
   have hle : w.heap.size ≤ w.heap.size + 1 := by omega
   go_enter Tryz.func41, Tryz.ntmps41
   go_wp2_with fail
   go_quiet (fail)
   go_wp2_with fail
   (try simp only [Exit.inBlock, Exit.then])
   refine bodyPost_ret (do_results _ _ (w.heap.size + 1) 0 0 false 0 0 0 false 5 BkD rfl rfl rfl) rfl ?_
   exact ⟨rfl, (((((((below_drewN (((Below.refl _ w).alloc (Nat.le_refl _) _).alloc (by simp) _) _).setCell hle _).setCell hle _).setCell hle _).setCell hle _).setCell hle _).setCell hle _)⟩
 ·have e1 : decide (a < 0) = false := decide_eq_false d1
  clear ha
  rcases hk with rfl | rfl | rfl
  all_goals
   have hle : w.heap.size ≤ w.heap.size + 1 := by omega
   go_enter Tryz.func41, Tryz.ntmps41
   go_wp2_with fail
   go_quiet (fail)
   go_wp2_with fail
   (try simp only [Exit.inBlock, Exit.then])
   refine bodyPost_ret (do_results _ _ (w.heap.size + 1) 0 0 false 0 0 0 false 5 BkD rfl rfl rfl) rfl ?_
   exact ⟨rfl, (((((((below_drewN (((Below.refl _ w).alloc (Nat.le_refl _) _).alloc (by simp) _) _).setCell hle _).setCell hle _).setCell hle _).setCell hle _).setCell hle _).setCell hle _)⟩
end


section
open Go.RowKit
theorem step_append_any {P : Program} (w : World) {ops : Array Oper} {o : Oper} {a : Act} {K : Act → World → Prop} {Q : Exit → Act → World → Prop} {E : Prop} (hgd : o.guard = none) (s x : Operand) (t : TypeId)
  (ho : o.op = .call { callee := .builtin .append, args := #[s, x], argTypes := #[t, t] })
  (base : Nat) (e : TypeId) (i : TypeInfo) (z : Value) (size bytes : Nat) (ht : P.underlying t = some (.slice e)) (hi : P.info? e = some i) (hz : i.zero = some z)
  (hsize : i.size = size) (hby : i.bytes = bytes) (hzs : z.cells.size = size) (hsz : 0 < size)
  (v : Value) (n : Nat) (xs : List Value) (hs : a.eval s = v) (hown : w.ownsRow base e size v n xs)
  (ad : Addr) (m c : Nat) (news : List Value) (hx : a.eval x = .slice (some ad) m c) (hl : news.length = m * size) (hnews : ∀ j u, news[j]? = some u → w.cell? (ad.add j) = some u) (h1 : ∀ u ∈ news, u.oneCell' = true)
  (h63 : n + m ≤ maxLen) (hbytes : (n + m) * bytes ≤ 140737488355328) (hbase : base ≤ w.heap.size)
  (h : ∀ v' w', w'.ownsRow base e size v' (n + m) (xs ++ news) → w.grownBy w' v.ownBlock → (v'.ownBlock = v.ownBlock ∨ v'.ownBlock = some w.heap.size) → K (a.put o.dst v') w') :
  if Region.wanted o (yielded ops a.tmps) = true then Oper.wp P o a w K Q else E := by
 have hw : Region.wanted o (yielded ops a.tmps) = true := by simp [Region.wanted, hgd]
 rw [if_pos hw]
 obtain ⟨v', w', hr, h2, h3, _, h5⟩ := run_append_own_at (P := P) w base t o.type e i z size bytes ht hi hz hsize hby hzs hsz v n xs hown ad m c news hl hnews h1 h63 hbytes hbase
 unfold Oper.wp execOp
 simp only [ho, resolve, invoke, builtin, Sem.run_bind, Sem.run_pure, Result.andThen_ok, List.map_toArray, List.map_cons, List.map_nil, hs, hx, hr]
 exact h v' w' h2 h3 h5
end


section
open Go.RowKit
def hasV (s : NSt) (x : Int) : Value := .bool (s.f x).isSome
def loV (s : NSt) (x : Int) : Value := .int .i64 (((s.f x).map Kn.lo).getD 0)
def hiV (s : NSt) (x : Int) : Value := .int .i64 (((s.f x).map Kn.hi).getD 0)
def atV (s : NSt) (x : Int) : Value := .int .i64 (((s.f x).map Kn.at_).getD 0)
def rcells (s : NSt) : Array Value := #[.int .i64 s.id, .int .i64 s.N, .int .i64 s.p, .int .i64 s.h, hasV s 0, hasV s 1, hasV s 2, hasV s 3, hasV s 4, hasV s 5,
 loV s 0, hiV s 0, loV s 1, hiV s 1, loV s 2, hiV s 2, loV s 3, hiV s 3, loV s 4, hiV s 4, loV s 5, hiV s 5, atV s 0, atV s 1, atV s 2, atV s 3, atV s 4, atV s 5]
theorem six {x : Nat} (h : x < 6) : x = 0 ∨ x = 1 ∨ x = 2 ∨ x = 3 ∨ x = 4 ∨ x = 5 := by omega
theorem rcell_has (s : NSt) {x : Nat} (h : x < 6) : (rcells s)[4 + x]? = some (hasV s x) := by
 rcases six h with rfl | rfl | rfl | rfl | rfl | rfl <;> rfl
theorem rcell_lo (s : NSt) {x : Nat} (h : x < 6) : (rcells s)[10 + x * 2]? = some (loV s x) := by
 rcases six h with rfl | rfl | rfl | rfl | rfl | rfl <;> rfl
theorem rcell_hi (s : NSt) {x : Nat} (h : x < 6) : (rcells s)[10 + x * 2 + 1]? = some (hiV s x) := by
 rcases six h with rfl | rfl | rfl | rfl | rfl | rfl <;> rfl
theorem rcell_at (s : NSt) {x : Nat} (h : x < 6) : (rcells s)[22 + x]? = some (atV s x) := by
 rcases six h with rfl | rfl | rfl | rfl | rfl | rfl <;> rfl
theorem rcells_learn (s : NSt) {x : Nat} (h : x < 6) (here lo hi : Int) :
  ((((((rcells s).setIfInBounds 3 (.int .i64 here)).setIfInBounds (4 + x) (.bool true)).setIfInBounds (10 + x * 2) (.int .i64 lo)).setIfInBounds (10 + x * 2 + 1) (.int .i64 hi)).setIfInBounds (22 + x) (.int .i64 here)) = rcells (s.learn x here lo hi) := by
 rcases six h with rfl | rfl | rfl | rfl | rfl | rfl <;> simp [rcells, NSt.learn, hasV, loV, hiV, atV]
end


section
open Go.RowKit
theorem r1_Least (a b : Int) (w : World) :
  Calls Tryz.prog 113 #[.int .i64 a, .int .i64 b] w fun e w' => e = .returned (.int .i64 (min a b)) ∧ w = w' := by
 go_enter Tryz.func113, Tryz.ntmps113
 go_wp2
 all_goals (go_ret; exact ⟨ret_int (by omega), rfl⟩)
theorem r1_Greatest (a b : Int) (w : World) :
  Calls Tryz.prog 112 #[.int .i64 a, .int .i64 b] w fun e w' => e = .returned (.int .i64 (max a b)) ∧ w = w' := by
 go_enter Tryz.func112, Tryz.ntmps112
 go_wp2
 all_goals (go_ret; exact ⟨ret_int (by omega), rfl⟩)
set_option maxHeartbeats 1000000 in
theorem r1_Meet (a b c d : Int) (w : World) :
  Calls Tryz.prog 79 #[.agg #[.int .i64 a, .int .i64 b], .agg #[.int .i64 c, .int .i64 d]] w fun e w' => e = .returned (.tuple #[.agg #[.int .i64 (max a c), .int .i64 (min b d)], .bool (commonB a b c d)]) ∧ Below w.heap.size w w' := by
 have g0 : ∀ n : Nat, n < n + 1 := fun n => by omega
 go_enter Tryz.func79, Tryz.ntmps79
 go_wp2_with fail
 go_region_held3 (fun w' => w'.cell? ⟨w.heap.size, 0, none⟩ = some (.int .i64 a) ∧ w'.cell? ⟨w.heap.size, 1, none⟩ = some (.int .i64 b) ∧ w'.cell? ⟨w.heap.size + 1, 0, none⟩ = some (.int .i64 c) ∧ w'.cell? ⟨w.heap.size + 1, 1, none⟩ = some (.int .i64 d)) (go_keep)
  (first | (go_at_call 112; refine (r1_Greatest _ _ _).mono ?_; rintro e w' ⟨rfl, rfl⟩) | (go_at_call 113; refine (r1_Least _ _ _).mono ?_; rintro e w' ⟨rfl, rfl⟩))
 all_goals
  go_wp2_with fail
  (try go_region)
  (try go_wp2_with fail)
  refine bodyPost_ret (v := .tuple #[.agg #[.int .i64 (max a c), .int .i64 (min b d)], .bool (commonB a b c d)]) (by simp [results, Tryz.results79, go_sem, commonB]) rfl ⟨rfl, ?_⟩
  exact BeL
end


section
open Go.RowKit
structure RNodeAt (w : World) (M : Nat) (s : NSt) : Prop where
 blk : Blk w M 69 (rcells s)
 ok : s.Ok
theorem RNodeAt.below {w w' : World} {M : Nat} {s : NSt} (h : RNodeAt w M s) (hb : Below w.heap.size w w') : RNodeAt w' M s := ⟨h.blk.below hb h.blk.lt, h.ok⟩
theorem RNodeAt.other {w w' : World} {M : Nat} {s : NSt} {P : Nat → Prop} (h : RNodeAt w M s) (hk : Kept P w w') (h1 : ¬ P M) : RNodeAt w' M s := ⟨(hk.block M h.blk.lt h1).trans h.blk, h.ok⟩
theorem RNodeAt.c0 {w : World} {M : Nat} {s : NSt} (h : RNodeAt w M s) : w.cell? ⟨M, 0, none⟩ = some (.int .i64 s.id) := h.blk.cell 0
theorem RNodeAt.c1 {w : World} {M : Nat} {s : NSt} (h : RNodeAt w M s) : w.cell? ⟨M, 1, none⟩ = some (.int .i64 s.N) := h.blk.cell 1
theorem RNodeAt.c2 {w : World} {M : Nat} {s : NSt} (h : RNodeAt w M s) : w.cell? ⟨M, 2, none⟩ = some (.int .i64 s.p) := h.blk.cell 2
theorem RNodeAt.c3 {w : World} {M : Nat} {s : NSt} (h : RNodeAt w M s) : w.cell? ⟨M, 3, none⟩ = some (.int .i64 s.h) := h.blk.cell 3
theorem RNodeAt.chas {w : World} {M : Nat} {s : NSt} (h : RNodeAt w M s) {x : Nat} (hx : x < 6) : w.cell? ⟨M, 4 + x, none⟩ = some (.bool (s.f x).isSome) := (h.blk.cell (4 + x)).trans (rcell_has s hx)
theorem RNodeAt.clo {w : World} {M : Nat} {s : NSt} (h : RNodeAt w M s) {x : Nat} {k : Kn} (hx : x < 6) (hk : s.f x = some k) : w.cell? ⟨M, 10 + x * 2, none⟩ = some (.int .i64 k.lo) := (h.blk.cell (10 + x * 2)).trans ((rcell_lo s hx).trans (by unfold loV; rw [hk]; rfl))
theorem RNodeAt.chi {w : World} {M : Nat} {s : NSt} (h : RNodeAt w M s) {x : Nat} {k : Kn} (hx : x < 6) (hk : s.f x = some k) : w.cell? ⟨M, 10 + x * 2 + 1, none⟩ = some (.int .i64 k.hi) := (h.blk.cell (10 + x * 2 + 1)).trans ((rcell_hi s hx).trans (by unfold hiV; rw [hk]; rfl))
theorem RNodeAt.cat {w : World} {M : Nat} {s : NSt} (h : RNodeAt w M s) {x : Nat} {k : Kn} (hx : x < 6) (hk : s.f x = some k) : w.cell? ⟨M, 22 + x, none⟩ = some (.int .i64 k.at_) := (h.blk.cell (22 + x)).trans ((rcell_at s hx).trans (by unfold atV; rw [hk]; rfl))
set_option maxRecDepth 100000 in
set_option maxHeartbeats 4000000 in
theorem r2_Back (M : Nat) (s : NSt) (here : Int) (w : World) (h : RNodeAt w M s) :
  Calls Tryz.prog 77 #[.pointer (some ⟨M, 0, none⟩), .int .i64 here] w fun e w' => e = .returned (.bool (s.backB here)) ∧ w = w' := by
 have c3 := h.c3
 have hd : (here < 0 ∧ s.backB here = true) ∨ (¬ here < 0 ∧ 1000000000000 < here ∧ s.backB here = true) ∨ (¬ here < 0 ∧ ¬ 1000000000000 < here ∧ here < s.h ∧ s.backB here = true) ∨ (¬ here < 0 ∧ ¬ 1000000000000 < here ∧ ¬ here < s.h ∧ s.backB here = false) := by
  unfold NSt.backB
  by_cases d1 : here < 0
  ·left; exact ⟨d1, by rw [decide_eq_true d1]; rfl⟩
  ·by_cases d2 : 1000000000000 < here
   ·right; left; exact ⟨d1, d2, by rw [decide_eq_true d2]; simp⟩
   ·by_cases d3 : here < s.h
    ·right; right; left; exact ⟨d1, d2, d3, by rw [decide_eq_true d3]; simp⟩
    ·right; right; right; exact ⟨d1, d2, d3, by rw [decide_eq_false d1, decide_eq_false d2, decide_eq_false d3]; rfl⟩
 clear h
 obtain ⟨q, hq⟩ : ∃ q, s.backB here = q := ⟨_, rfl⟩
 rw [hq] at hd ⊢
 clear hq
 rcases hd with ⟨d1, rfl⟩ | ⟨d1, d2, rfl⟩ | ⟨d1, d2, d3, rfl⟩ | ⟨d1, d2, d3, rfl⟩
 all_goals
  go_enter Tryz.func77, Tryz.ntmps77
  go_wp2_with fail
  go_ret
  exact ⟨rfl, rfl⟩
set_option maxRecDepth 100000 in
set_option maxHeartbeats 8000000 in
theorem r2_aged (M : Nat) (s : NSt) (x : Nat) (here : Int) (k : Kn) (w : World) (h : RNodeAt w M s) (hx : x < 6) (hk : s.f x = some k) (hb : s.backB here = false) :
  Calls Tryz.prog 80 #[.pointer (some ⟨M, 0, none⟩), .int .i64 x, .int .i64 here] w fun e w' => e = .returned (.agg #[.int .i64 (ageL k s.p here), .int .i64 (ageH k s.p here)]) ∧ Below w.heap.size w w' := by
 obtain ⟨b1, b2, b3, b4, b5, b6, b7⟩ := age_bd h.ok hk hb
 have c2 := h.c2
 have ca := h.cat hx hk
 have cl := h.clo hx hk
 have ch := h.chi hx hk
 have kl := h.blk.lt
 have CS := Lib.hid (fun w => r1_Slack (here - k.at_) s.p w b1 (by omega) h.ok.p0 h.ok.p1)
 obtain ⟨v, hv⟩ : ∃ v, slackD (here - k.at_) s.p = v := ⟨_, rfl⟩
 have HA := Lib.hid (show ageL k s.p here = k.lo - v by unfold ageL; rw [hv])
 have HH := Lib.hid (show ageH k s.p here = k.hi + v by unfold ageH; rw [hv])
 rw [hv] at CS b3 b4
 rw [HA.out, HH.out]
 have u1 := IntWalk.i64_in (here - k.at_) (by omega)
 have u2 := IntWalk.i64_in (k.lo - v) (by omega)
 have u3 := IntWalk.i64_in (k.hi + v) (by omega)
 have q0 : (0 : Int) ≤ (x : Int) := by omega
 have q1 : (x : Int) < 6 := by omega
 clear h hk hb hv HA HH
 go_enter Tryz.func80, Tryz.ntmps80
 go_wp2_with fail
 go_quiet ((go_at_call 111; exact quiet_left (CS.out _)))
 go_wp2_with fail
 go_region
 go_wp2_with fail
 refine bodyPost_ret (v := .agg #[.int .i64 (k.lo - v), .int .i64 (k.hi + v)]) (by simp [results, Tryz.results80, go_sem]) rfl ⟨rfl, BeL⟩
end
end Go.Proofs.YtldlandcjegikaaGreatDoor
