/- vote.Safe, walked. -/
import Derived.Test.YtfocabghbapncaaDoorMostV
namespace Go.Proofs.YtfocabghbapncaaDoor
open Go.RowKit Go.Shelf
set_option linter.unusedVariables false
set_option linter.unusedSimpArgs false
/-- the least and the greatest number of the stretches that are in so many. -/
def safeStep (need : Int) (st : Bool × Int × Int) (g : Int × Int × Int) : Bool × Int × Int :=
  if g.2.2 < need then st else if st.1 = true then (true, st.2.1, g.2.1 - 1) else (true, g.1, g.2.1 - 1)
def safeF (need : Int) (s : List (Int × Int × Int)) : Bool × Int × Int := s.foldl (safeStep need) (false, 0, 0)
theorem safeF_snoc (need : Int) (s : List (Int × Int × Int)) (g : Int × Int × Int) : safeF need (s ++ [g]) = safeStep need (safeF need s) g := by unfold safeF; rw [List.foldl_append]; rfl
structure SafeJ (w0 : World) (a ba ra oa fa : Nat) (need : Int) (L bad : Value) (s : List (Int × Int × Int)) (W : World) : Prop where
  sl : Blk W a 22 #[L]
  bd : Blk W ba 3 #[bad]
  res : Blk W ra 25 #[.int .i64 0, .int .i64 0]
  out : Blk W oa 25 #[.int .i64 (safeF need s).2.1, .int .i64 (safeF need s).2.2]
  fd : Blk W fa 4 #[.bool (safeF need s).1]
  below : Below w0.heap.size w0 W
set_option maxRecDepth 100000 in
set_option maxHeartbeats 4000000 in
theorem safe_1 (w0 : World) (a ba ra oa fa n N : Nat) (A : Option Addr) (c : Nat) (bad : Int) (s : List (Int × Int × Int)) (f t m : Int) (W : World) (h : SafeJ w0 a ba ra oa fa ((N : Int) - bad) (.slice A N c) (.int .i64 bad) s W) (q3 : oa < n) (han : fa < n) (q4 : w0.heap.size ≤ oa) (q5 : w0.heap.size ≤ fa) (n1 : a ≠ oa) (n2 : a ≠ fa) (n3 : ba ≠ oa) (n4 : ba ≠ fa) (n5 : ra ≠ oa) (n6 : ra ≠ fa) (n7 : oa ≠ fa)
    (hN : N ≤ 40) (hb : 0 ≤ bad ∧ bad < N) (hf : -1000000000000 ≤ f) (hft : f < t) (ht : t ≤ 1000000000001) :
    Calls Tryd.prog 26 #[.int .i64 f, .int .i64 t, .int .i64 m, .pointer (some ⟨a, 0, none⟩), .pointer (some ⟨ba, 0, none⟩), .pointer (some ⟨fa, 0, none⟩), .pointer (some ⟨oa, 0, none⟩)] W fun e W' =>
      e = .returned (.tuple #[]) ∧ SafeJ w0 a ba ra oa fa ((N : Int) - bad) (.slice A N c) (.int .i64 bad) (s ++ [(f, t, m)]) W' ∧ Keeps n W W' := by
  obtain ⟨k1, k2, k3, k4, k5, k6⟩ := h
  have e := safeF_snoc ((N : Int) - bad) s (f, t, m)
  generalize safeF ((N : Int) - bad) s = st at k4 k5 e
  obtain ⟨fd, lo, hi⟩ := st
  simp only [] at k4 k5
  have K1 := Lib.hid k1
  have K2 := Lib.hid k2
  have K3 := Lib.hid k3
  have K4 := Lib.hid k4
  have K5 := Lib.hid k5
  have K6 := Lib.hid k6
  have HE := Lib.hid e
  have x0 : W.cell? ⟨a, 0, none⟩ = some (.slice A N c) := k1.cell 0
  have x1 : W.cell? ⟨ba, 0, none⟩ = some (.int .i64 bad) := k2.cell 0
  have x2 : W.cell? ⟨oa, 0, none⟩ = some (.int .i64 lo) := k4.cell 0
  have x3 : W.cell? ⟨oa, 1, none⟩ = some (.int .i64 hi) := k4.cell 1
  have x4 : W.cell? ⟨fa, 0, none⟩ = some (.bool fd) := k5.cell 0
  have f2 := k4.fz 0
  have f3 := k4.fz 1
  have f4 := k5.fz 0
  have w1 := IntWalk.i64_in (t - 1) (by omega)
  have w2 := IntWalk.i64_in ((N : Int) - bad) (by omega)
  have n8 : fa ≠ oa := fun h => n7 h.symm
  obtain ⟨need, hneed⟩ : ∃ v, (N : Int) - bad = v := ⟨_, rfl⟩
  rw [hneed] at w2 HE ⊢
  have DONE := Lib.hid (fun (W' : World) (b : Bool) (p q : Int) (he : safeStep need (fd, lo, hi) (f, t, m) = (b, p, q)) (g1 : Blk W' a 22 #[.slice A N c]) (g2 : Blk W' ba 3 #[.int .i64 bad]) (g3 : Blk W' ra 25 #[.int .i64 0, .int .i64 0])
      (g4 : Blk W' oa 25 #[.int .i64 p, .int .i64 q]) (g5 : Blk W' fa 4 #[.bool b]) (g6 : Below w0.heap.size w0 W') =>
    show SafeJ w0 a ba ra oa fa need (.slice A N c) (.int .i64 bad) (s ++ [(f, t, m)]) W' from ⟨g1, g2, g3, by rw [HE.out, he]; exact g4, by rw [HE.out, he]; exact g5, g6⟩)
  clear k1 k2 k3 k4 k5 k6 e
  by_cases c1 : m < need
  · have hv := Lib.hid (show safeStep need (fd, lo, hi) (f, t, m) = (fd, lo, hi) from if_pos c1)
    as_aux_lemma =>
      go_enter Tryd.func26, Tryd.ntmps26
      go_wp2_with fail
      refine bodyPost_ret (results_none rfl _ _ _) rfl ?_
      exact ⟨rfl, DONE.out _ _ _ _ hv.out K1.out K2.out K3.out K4.out K5.out K6.out, Keeps.refl _ _⟩
  · cases fd
    · have hv := Lib.hid (show safeStep need (false, lo, hi) (f, t, m) = (true, f, t - 1) from by unfold safeStep; rw [if_neg c1, if_neg (by simp)])
      as_aux_lemma =>
        go_enter Tryd.func26, Tryd.ntmps26
        go_wp2_with fail
        go_end0
        exact ⟨rfl, DONE.out _ _ _ _ hv.out (((K1.out.far (p := ⟨oa, 0, none⟩) n1 _).far (p := ⟨fa, 0, none⟩) n2 _).far (p := ⟨oa, 1, none⟩) n1 _) (((K2.out.far (p := ⟨oa, 0, none⟩) n3 _).far (p := ⟨fa, 0, none⟩) n4 _).far (p := ⟨oa, 1, none⟩) n3 _) (((K3.out.far (p := ⟨oa, 0, none⟩) n5 _).far (p := ⟨fa, 0, none⟩) n6 _).far (p := ⟨oa, 1, none⟩) n5 _) ((((K4.out.set 0 (.int .i64 f)).far (p := ⟨fa, 0, none⟩) n7 _).set 1 (.int .i64 (t - 1))).conv rfl) ((((K5.out.far (p := ⟨oa, 0, none⟩) n8 _).set 0 (.bool true)).far (p := ⟨oa, 1, none⟩) n8 _).conv rfl) (((K6.out.setCell (p := ⟨oa, 0, none⟩) q4 _).setCell (p := ⟨fa, 0, none⟩) q5 _).setCell (p := ⟨oa, 1, none⟩) q4 _), (keeps_set ⟨oa, 0, none⟩ q3 _).trans ((keeps_set ⟨fa, 0, none⟩ han _).trans (keeps_set ⟨oa, 1, none⟩ q3 _))⟩
    · have hv := Lib.hid (show safeStep need (true, lo, hi) (f, t, m) = (true, lo, t - 1) from by unfold safeStep; rw [if_neg c1, if_pos rfl])
      as_aux_lemma =>
        go_enter Tryd.func26, Tryd.ntmps26
        go_wp2_with fail
        go_end0
        exact ⟨rfl, DONE.out _ _ _ _ hv.out (K1.out.far (p := ⟨oa, 1, none⟩) n1 _) (K2.out.far (p := ⟨oa, 1, none⟩) n3 _) (K3.out.far (p := ⟨oa, 1, none⟩) n5 _) ((K4.out.set 1 (.int .i64 (t - 1))).conv rfl) (K5.out.far (p := ⟨oa, 1, none⟩) n8 _) (K6.out.setCell (p := ⟨oa, 1, none⟩) q4 _), keeps_set ⟨oa, 1, none⟩ q3 _⟩
set_option maxRecDepth 100000 in
set_option maxHeartbeats 8000000 in
theorem vote_Safe (A : Option Addr) (n c : Nat) (bad : Int) (zs : List RSpan) (w : World) (h : IsRecs w RSpan.cells RSpan.ok 2 A n c zs) (e0 : spansC zs = 0) (hb : 0 ≤ bad ∧ bad < n) :
    Calls Tryd.prog 14 #[.slice A n c, .int .i64 bad] w fun e w' => ∃ (es : List RSpan) (fd : Bool) (lo hi : Int), e = .returned (.tuple #[.agg #[.int .i64 (if fd = true then lo else 0), .int .i64 (if fd = true then hi else 0)], errV (if fd = true then 0 else 7)]) ∧ es.Perm (edgesL zs) ∧ es.Pairwise (fun x y => x.lo ≤ y.lo) ∧ safeF ((n : Int) - bad) (segsA es (n * 2 - 1)) = (fd, lo, hi) ∧ Below w.heap.size w w' := by
  obtain ⟨p1, p2, p3⟩ := spansC_0 e0
  rw [h.1] at p1 p2
  have eg : ∀ args w, (callFunc 26 args).run Tryd.prog w = .ok (.enter 26 args) w := enters_of Tryd.func26 (by kernel_rfl) rfl
  have C1 := Lib.hid (fun w' (hb : Below w.heap.size w w') => by
    have := vote_Check A n c zs w' (h.below hb)
    rw [e0, errV_0] at this
    exact this)
  have H := Lib.hid h
  have P3 := Lib.hid p3
  have d0 : decide (bad < 0) = false := by simp; omega
  have d1 : decide ((n : Int) ≤ bad) = false := by simp; omega
  have EG := Lib.hid eg
  clear h p3 e0 eg
  go_enter Tryd.func14, Tryd.ntmps14
  go_wp2_with fail
  have hb0 : Below w.heap.size w (((w.alloc (.cells #[.slice A n c] 22)).alloc (.cells #[.int .i64 bad] 3)).alloc (.cells #[.int .i64 0, .int .i64 0] 25)) := (((Below.refl _ w).alloc (Nat.le_refl _) _).alloc (by simp) _).alloc (by simp; omega) _
  refine (C1.out _ hb0).mono ?_
  rintro e w1 ⟨rfl, hb1⟩
  have hz1 := hb1.size
  simp at hz1
  have HB1 := Lib.hid (hb0.trans (hb1.mono (by simp; omega)))
  have bL : Blk w1 w.heap.size 22 #[.slice A n c] := (((Blk.new w _ _).alloc _).alloc _).below hb1 (by simp; omega)
  have bB : Blk w1 (w.heap.size + 1) 3 #[.int .i64 bad] := by
    have := ((Blk.new (w.alloc (.cells #[.slice A n c] 22)) 3 #[.int .i64 bad]).alloc (.cells #[.int .i64 0, .int .i64 0] 25)).below hb1 (by simp)
    simpa using this
  have bR : Blk w1 (w.heap.size + 1 + 1) 25 #[.int .i64 0, .int .i64 0] := by
    have := (Blk.new ((w.alloc (.cells #[.slice A n c] 22)).alloc (.cells #[.int .i64 bad] 3)) 25 #[.int .i64 0, .int .i64 0]).below hb1 (by simp)
    simpa using this
  have x0 : w1.cell? ⟨w.heap.size, 0, none⟩ = some (.slice A n c) := bL.cell 0
  have x1 : w1.cell? ⟨w.heap.size + 1, 0, none⟩ = some (.int .i64 bad) := bB.cell 0
  have BL := Lib.hid bL
  have BB := Lib.hid bB
  have BR := Lib.hid bR
  have lt0 : w.heap.size < w1.heap.size := by omega
  have lt1 : w.heap.size + 1 < w1.heap.size := by omega
  clear hb0 hb1 bL bB bR C1
  go_wp2_with fail
  obtain ⟨W0, hW0⟩ : ∃ W0, (w1.alloc (.cells #[.int .i64 0, .int .i64 0] 25)).alloc (.cells #[.bool false] 4) = W0 := ⟨_, rfl⟩
  have hz0 : W0.heap.size = w1.heap.size + 2 := by rw [← hW0]; simp
  have hb0 : Below w1.heap.size w1 W0 := by rw [← hW0]; exact ((Below.refl _ w1).alloc (Nat.le_refl _) _).alloc (by simp) _
  have hbw : Below w.heap.size w W0 := HB1.out.trans (hb0.mono (by omega))
  have bO : Blk W0 w1.heap.size 25 #[.int .i64 0, .int .i64 0] := by rw [← hW0]; exact (Blk.new w1 _ _).alloc _
  have bF : Blk W0 (w1.heap.size + 1) 4 #[.bool false] := by
    rw [← hW0]
    have := Blk.new (w1.alloc (.cells #[.int .i64 0, .int .i64 0] 25)) 4 #[.bool false]
    simpa using this
  have C := vote_walk 26 #[.pointer (some ⟨w.heap.size, 0, none⟩), .pointer (some ⟨w.heap.size + 1, 0, none⟩), .pointer (some ⟨w1.heap.size + 1, 0, none⟩), .pointer (some ⟨w1.heap.size, 0, none⟩)] EG.out
    (fun s W => SafeJ w w.heap.size (w.heap.size + 1) (w.heap.size + 1 + 1) w1.heap.size (w1.heap.size + 1) ((n : Int) - bad) (.slice A n c) (.int .i64 bad) s W) A n c zs W0 (H.out.below hbw) P3.out p2 p1
    (fun s W W' hj hs hb => ⟨hj.sl.below hb (by omega), hj.bd.below hb (by omega), hj.res.below hb (by omega), hj.out.below hb (by omega), hj.fd.below hb (by omega), hj.below.trans (hb.mono (by omega))⟩)
    (fun s f t m W hj hs q1 q2 q3 _ _ => safe_1 w w.heap.size (w.heap.size + 1) (w.heap.size + 1 + 1) w1.heap.size (w1.heap.size + 1) W0.heap.size n A c bad s f t m W hj (by omega) (by omega) (by omega) (by omega) (by omega) (by omega) (by omega) (by omega) (by omega) (by omega) (by omega) p1 hb q1 q2 q3)
    ⟨BL.out.below hb0 (by omega), BB.out.below hb0 (by omega), BR.out.below hb0 (by omega), bO, bF, hbw⟩
  have HC := Lib.hid C
  rw [← hW0] at HC
  clear C bO bF hb0 hz0 hbw hW0 BL BB BR H P3 EG x0 x1
  refine HC.out.mono ?_
  rintro e w5 ⟨es, rfl, hp, hs, hj, hsz⟩
  have lt5 : w1.heap.size + 2 ≤ w5.heap.size := by simpa using hsz
  obtain ⟨j1, j2, j3, j4, j5, j6⟩ := hj
  obtain ⟨st, hst⟩ : ∃ st, safeF ((n : Int) - bad) (segsA es (n * 2 - 1)) = st := ⟨_, rfl⟩
  obtain ⟨fd, lo, hi⟩ := st
  rw [hst] at j4 j5
  simp only [] at j4 j5
  have r0 : w5.cell? ⟨w.heap.size + 1 + 1, 0, none⟩ = some (.int .i64 0) := j3.cell 0
  have r1 : w5.cell? ⟨w.heap.size + 1 + 1, 1, none⟩ = some (.int .i64 0) := j3.cell 1
  have f0 := j3.fz 0
  have f1 := j3.fz 1
  have o0 : w5.cell? ⟨w1.heap.size, 0, none⟩ = some (.int .i64 lo) := j4.cell 0
  have o1 : w5.cell? ⟨w1.heap.size, 1, none⟩ = some (.int .i64 hi) := j4.cell 1
  have b0 : w5.cell? ⟨w1.heap.size + 1, 0, none⟩ = some (.bool fd) := j5.cell 0
  have HST := Lib.hid hst
  have HP := Lib.hid hp
  have HS := Lib.hid hs
  have HB5 := Lib.hid j6
  clear j1 j2 j3 j4 j5 j6 hst hp hs hsz HC
  cases fd
  · as_aux_lemma =>
      go_wp2_with fail
      refine bodyPost_ret (v := .tuple #[.agg #[.int .i64 0, .int .i64 0], .iface 49 (.int .i64 7)]) (by simp [results, Tryd.results14, go_sem, *]) rfl ⟨es, false, lo, hi, by simp [errV], HP.out, HS.out, HST.out, ?_⟩
      exact (HB5.out.setCell (p := ⟨w.heap.size + 1 + 1, 0, none⟩) (by show w.heap.size ≤ w.heap.size + 1 + 1; omega) _).setCell (p := ⟨w.heap.size + 1 + 1, 1, none⟩) (by show w.heap.size ≤ w.heap.size + 1 + 1; omega) _
  · as_aux_lemma =>
      go_wp2_with fail
      refine bodyPost_ret (v := .tuple #[.agg #[.int .i64 lo, .int .i64 hi], .nilIface]) (by simp [results, Tryd.results14, go_sem, *]) rfl ⟨es, true, lo, hi, by simp [errV], HP.out, HS.out, HST.out, ?_⟩
      exact (HB5.out.setCell (p := ⟨w.heap.size + 1 + 1, 0, none⟩) (by show w.heap.size ≤ w.heap.size + 1 + 1; omega) _).setCell (p := ⟨w.heap.size + 1 + 1, 1, none⟩) (by show w.heap.size ≤ w.heap.size + 1 + 1; omega) _
end Go.Proofs.YtfocabghbapncaaDoor
