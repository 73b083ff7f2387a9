/- vote.most and vote.Most, walked. -/
import Derived.Test.YtfocabghbapncaaDoorVoteP
namespace Go.Proofs.YtfocabghbapncaaDoor
open Go.RowKit Go.Shelf
set_option linter.unusedVariables false
set_option linter.unusedSimpArgs false
/-- the best stretch so far: from, to, how many. -/
def mostStep (st : Int × Int × Int) (g : Int × Int × Int) : Int × Int × Int :=
  if st.2.2 < g.2.2 then (g.1, g.2.1 - 1, g.2.2) else if g.2.2 = st.2.2 ∧ st.2.1 = g.1 - 1 then (st.1, g.2.1 - 1, st.2.2) else st
def mostF (s : List (Int × Int × Int)) : Int × Int × Int := s.foldl mostStep (0, 0, 0)
theorem mostF_snoc (s : List (Int × Int × Int)) (g : Int × Int × Int) : mostF (s ++ [g]) = mostStep (mostF s) g := by unfold mostF; rw [List.foldl_append]; rfl
theorem most_step_le (st g : Int × Int × Int) : st.2.2 ≤ (mostStep st g).2.2 ∧ g.2.2 ≤ (mostStep st g).2.2 := by
  unfold mostStep
  split
  · simp only []; omega
  · split
    · simp only []; omega
    · omega
theorem most_step_in (st g : Int × Int × Int) : (mostStep st g).2.2 = st.2.2 ∨ (mostStep st g).2.2 = g.2.2 := by
  unfold mostStep
  split
  · exact .inr rfl
  · split
    · exact .inl rfl
    · exact .inl rfl
theorem fold_le : ∀ (s : List (Int × Int × Int)) (st : Int × Int × Int), st.2.2 ≤ (s.foldl mostStep st).2.2 ∧ ∀ g ∈ s, g.2.2 ≤ (s.foldl mostStep st).2.2
  | [], st => ⟨Int.le_refl _, fun g hg => by cases hg⟩
  | h :: s, st => by
    have h1 := most_step_le st h
    have h2 := fold_le s (mostStep st h)
    refine ⟨Int.le_trans h1.1 h2.1, fun g hg => ?_⟩
    rcases List.mem_cons.1 hg with rfl | hg
    · exact Int.le_trans h1.2 h2.1
    · exact h2.2 g hg
theorem fold_in : ∀ (s : List (Int × Int × Int)) (st : Int × Int × Int), (s.foldl mostStep st).2.2 = st.2.2 ∨ ∃ g ∈ s, (s.foldl mostStep st).2.2 = g.2.2
  | [], st => .inl rfl
  | h :: s, st => by
    rcases fold_in s (mostStep st h) with h2 | ⟨g, hg, h2⟩
    · rcases most_step_in st h with h1 | h1
      · exact .inl (h2.trans h1)
      · exact .inr ⟨h, List.mem_cons_self .., h2.trans h1⟩
    · exact .inr ⟨g, List.mem_cons_of_mem _ hg, h2⟩
structure MostJ (w0 : World) (T B : Nat) (s : List (Int × Int × Int)) (W : World) : Prop where
  top : Blk W T 3 #[.int .i64 (mostF s).2.2]
  best : Blk W B 25 #[.int .i64 (mostF s).1, .int .i64 (mostF s).2.1]
  below : Below w0.heap.size w0 W
theorem keeps_set {n : Nat} {W : World} (p : Addr) (hp : p.block < n) (u : Value) : Keeps n W (W.setCell p u) :=
  ⟨by simp, fun b h1 _ => Below.heap_setCell W p u b (by omega)⟩
set_option maxRecDepth 100000 in
set_option maxHeartbeats 4000000 in
theorem most_1 (w0 : World) (T B n : Nat) (s : List (Int × Int × Int)) (f t m : Int) (W : World) (h : MostJ w0 T B s W) (hTB : T ≠ B) (hT : T < n) (hB : B < n) (h0T : w0.heap.size ≤ T) (h0B : w0.heap.size ≤ B)
    (hf : -1000000000000 ≤ f) (hft : f < t) (ht : t ≤ 1000000000001) :
    Calls Tryd.prog 32 #[.int .i64 f, .int .i64 t, .int .i64 m, .pointer (some ⟨T, 0, none⟩), .pointer (some ⟨B, 0, none⟩)] W fun e W' => e = .returned (.tuple #[]) ∧ MostJ w0 T B (s ++ [(f, t, m)]) W' ∧ Keeps n W W' ∧ (∀ g ty cs, g ≠ T → g ≠ B → Blk W g ty cs → Blk W' g ty cs) := by
  obtain ⟨k1, k2, k3⟩ := h
  have e := mostF_snoc s (f, t, m)
  have hz := k3.size
  have hTl := k1.lt
  have hBl := k2.lt
  generalize mostF s = st at k1 k2 e
  obtain ⟨lo, hi, top⟩ := st
  simp only [] at k1 k2
  have HT := Lib.hid k1
  have HBk := Lib.hid k2
  have HB0 := Lib.hid k3
  have HE := Lib.hid e
  have x0 : W.cell? ⟨T, 0, none⟩ = some (.int .i64 top) := k1.cell 0
  have y0 : W.cell? ⟨B, 0, none⟩ = some (.int .i64 lo) := k2.cell 0
  have y1 : W.cell? ⟨B, 1, none⟩ = some (.int .i64 hi) := k2.cell 1
  have fx := k1.fz 0
  have fy0 := k2.fz 0
  have fy1 := k2.fz 1
  have hBT : B ≠ T := fun h => hTB h.symm
  have w1 := IntWalk.i64_in (t - 1) (by omega)
  have w2 := IntWalk.i64_in (f - 1) (by omega)
  have DONE := Lib.hid (fun (W' : World) (a b c : Int) (he : mostStep (lo, hi, top) (f, t, m) = (a, b, c)) (h1 : Blk W' T 3 #[.int .i64 c]) (h2 : Blk W' B 25 #[.int .i64 a, .int .i64 b]) (h3 : Below w0.heap.size w0 W') =>
    show MostJ w0 T B (s ++ [(f, t, m)]) W' from ⟨by rw [HE.out, he]; exact h1, by rw [HE.out, he]; exact h2, h3⟩)
  have hs0 : w0.heap.size ≤ W.heap.size := hz
  clear k1 k2 k3 e hz
  by_cases c1 : top < m
  · have hv := Lib.hid (show mostStep (lo, hi, top) (f, t, m) = (f, t - 1, m) from if_pos c1)
    as_aux_lemma =>
      go_enter Tryd.func32, Tryd.ntmps32
      go_wp2_with fail
      go_end0
      exact ⟨rfl, DONE.out _ _ _ _ hv.out ((((HT.out.far (p := ⟨B, 0, none⟩) hTB _).far (p := ⟨B, 1, none⟩) hTB _).set 0 (.int .i64 m)).conv rfl) ((((HBk.out.set 0 (.int .i64 f)).set 1 (.int .i64 (t - 1))).far (p := ⟨T, 0, none⟩) hBT _).conv rfl) (((HB0.out.setCell (p := ⟨B, 0, none⟩) h0B _).setCell (p := ⟨B, 1, none⟩) h0B _).setCell (p := ⟨T, 0, none⟩) h0T _), (keeps_set ⟨B, 0, none⟩ hB _).trans ((keeps_set ⟨B, 1, none⟩ hB _).trans (keeps_set ⟨T, 0, none⟩ hT _)), fun g ty cs h1 h2 hb => ((hb.far (p := ⟨B, 0, none⟩) h2 _).far (p := ⟨B, 1, none⟩) h2 _).far (p := ⟨T, 0, none⟩) h1 _⟩
  · by_cases c2 : m = top
    · subst c2
      by_cases c3 : hi = f - 1
      · have hv := Lib.hid (show mostStep (lo, hi, m) (f, t, m) = (lo, t - 1, m) from by unfold mostStep; rw [if_neg c1, if_pos ⟨rfl, c3⟩])
        as_aux_lemma =>
          go_enter Tryd.func32, Tryd.ntmps32
          go_wp2_with fail
          go_end0
          exact ⟨rfl, DONE.out _ _ _ _ hv.out (HT.out.far (p := ⟨B, 1, none⟩) hTB _) ((HBk.out.set 1 (.int .i64 (t - 1))).conv rfl) (HB0.out.setCell (p := ⟨B, 1, none⟩) h0B _), keeps_set ⟨B, 1, none⟩ hB _, fun g ty cs h1 h2 hb => hb.far (p := ⟨B, 1, none⟩) h2 _⟩
      · have hv := Lib.hid (show mostStep (lo, hi, m) (f, t, m) = (lo, hi, m) from by unfold mostStep; rw [if_neg c1, if_neg fun h => c3 h.2])
        as_aux_lemma =>
          go_enter Tryd.func32, Tryd.ntmps32
          go_wp2_with fail
          go_end0
          exact ⟨rfl, DONE.out _ _ _ _ hv.out HT.out HBk.out HB0.out, Keeps.refl _ _, fun g ty cs _ _ hb => hb⟩
    · have hv := Lib.hid (show mostStep (lo, hi, top) (f, t, m) = (lo, hi, top) from by unfold mostStep; rw [if_neg c1, if_neg fun h => c2 h.1])
      as_aux_lemma =>
        go_enter Tryd.func32, Tryd.ntmps32
        go_wp2_with fail
        go_end0
        exact ⟨rfl, DONE.out _ _ _ _ hv.out HT.out HBk.out HB0.out, Keeps.refl _ _, fun g ty cs _ _ hb => hb⟩
set_option maxRecDepth 100000 in
set_option maxHeartbeats 4000000 in
theorem vote_most (A : Option Addr) (n c : Nat) (zs : List RSpan) (w : World) (h : IsRecs w RSpan.cells RSpan.ok 2 A n c zs) (hr : ∀ x ∈ zs, spB x = true) (h0 : 0 < n) (h40 : n ≤ 40) :
    Calls Tryd.prog 24 #[.slice A n c] w fun e w' => ∃ (es : List RSpan) (lo hi top : Int), e = .returned (.tuple #[.agg #[.int .i64 lo, .int .i64 hi], .int .i64 top]) ∧ es.Perm (edgesL zs) ∧ es.Pairwise (fun x y => x.lo ≤ y.lo) ∧ mostF (segsA es (n * 2 - 1)) = (lo, hi, top) ∧ Below w.heap.size w w' := by
  have eg : ∀ args w, (callFunc 32 args).run Tryd.prog w = .ok (.enter 32 args) w := enters_of Tryd.func32 (by kernel_rfl) rfl
  obtain ⟨W0, hW0⟩ : ∃ W0, ((w.alloc (.cells #[.int .i64 0, .int .i64 0] 25)).alloc (.cells #[.int .i64 0, .int .i64 0] 25)).alloc (.cells #[.int .i64 0] 3) = W0 := ⟨_, rfl⟩
  have hz0 : W0.heap.size = w.heap.size + 3 := by rw [← hW0]; simp
  have hb0 : Below w.heap.size w W0 := by rw [← hW0]; exact (((Below.refl _ w).alloc (Nat.le_refl _) _).alloc (by simp) _).alloc (by simp; omega) _
  have bR : Blk W0 w.heap.size 25 #[.int .i64 0, .int .i64 0] := by rw [← hW0]; exact ((Blk.new w _ _).alloc _).alloc _
  have bB : Blk W0 (w.heap.size + 1) 25 #[.int .i64 0, .int .i64 0] := by
    rw [← hW0]
    have := (Blk.new (w.alloc (.cells #[.int .i64 0, .int .i64 0] 25)) 25 #[.int .i64 0, .int .i64 0]).alloc (.cells #[.int .i64 0] 3)
    simpa using this
  have bT : Blk W0 (w.heap.size + 2) 3 #[.int .i64 0] := by
    rw [← hW0]
    have := Blk.new ((w.alloc (.cells #[.int .i64 0, .int .i64 0] 25)).alloc (.cells #[.int .i64 0, .int .i64 0] 25)) 3 #[.int .i64 0]
    simpa using this
  have C := vote_walk 32 #[.pointer (some ⟨w.heap.size + 2, 0, none⟩), .pointer (some ⟨w.heap.size + 1, 0, none⟩)] eg (fun s W => MostJ w (w.heap.size + 2) (w.heap.size + 1) s W ∧ Blk W w.heap.size 25 #[.int .i64 0, .int .i64 0]) A n c zs W0 (h.below hb0) hr h0 h40
    (fun s W W' hj hs hb => ⟨⟨hj.1.top.below hb (by omega), hj.1.best.below hb (by omega), hj.1.below.trans (hb.mono (by omega))⟩, hj.2.below hb (by omega)⟩)
    (fun s f t m W hj hs q1 q2 q3 _ _ => (most_1 w (w.heap.size + 2) (w.heap.size + 1) W0.heap.size s f t m W hj.1 (by omega) (by omega) (by omega) (by omega) (by omega) q1 q2 q3).mono fun e W' ⟨he, h1, h2, h3⟩ => ⟨he, ⟨h1, h3 _ _ _ (by omega) (by omega) hj.2⟩, h2⟩)
    ⟨⟨bT, bB, hb0⟩, bR⟩
  have HC := Lib.hid C
  rw [← hW0] at HC
  clear C bR bB bT hb0 hz0 h hr eg hW0
  go_enter Tryd.func24, Tryd.ntmps24
  go_wp2_with fail
  refine HC.out.mono ?_
  rintro e w5 ⟨es, rfl, hp, hs, ⟨hj, bR⟩, hsz⟩
  obtain ⟨j1, j2, j3⟩ := hj
  obtain ⟨st, hst⟩ : ∃ st, mostF (segsA es (n * 2 - 1)) = st := ⟨_, rfl⟩
  obtain ⟨lo, hi, top⟩ := st
  rw [hst] at j1 j2
  simp only [] at j1 j2
  have t0 : w5.cell? ⟨w.heap.size + 1 + 1, 0, none⟩ = some (.int .i64 top) := j1.cell 0
  have b0 : w5.cell? ⟨w.heap.size + 1, 0, none⟩ = some (.int .i64 lo) := j2.cell 0
  have b1 : w5.cell? ⟨w.heap.size + 1, 1, none⟩ = some (.int .i64 hi) := j2.cell 1
  have r0 : w5.cell? ⟨w.heap.size, 0, none⟩ = some (.int .i64 0) := bR.cell 0
  have r1 : w5.cell? ⟨w.heap.size, 1, none⟩ = some (.int .i64 0) := bR.cell 1
  have f0 := bR.fz 0
  have f1 := bR.fz 1
  have lt5 : w.heap.size < w5.heap.size := bR.lt
  have HST := Lib.hid hst
  have HP := Lib.hid hp
  have HS := Lib.hid hs
  have HB5 := Lib.hid j3
  clear j1 j2 j3 bR hst hp hs hsz HC
  go_wp2_with fail
  go_region
  go_wp2_with fail
  refine bodyPost_ret (v := .tuple #[.agg #[.int .i64 lo, .int .i64 hi], .int .i64 top]) (by simp [results, Tryd.results24, go_sem, *]) rfl ⟨es, lo, hi, top, rfl, HP.out, HS.out, HST.out, ?_⟩
  exact ((HB5.out.setCell (p := ⟨w.heap.size, 0, none⟩) (Nat.le_refl _) _).setCell (p := ⟨w.heap.size, 1, none⟩) (Nat.le_refl _) _).drew
set_option maxRecDepth 100000 in
set_option maxHeartbeats 4000000 in
theorem vote_Most (A : Option Addr) (n c : Nat) (zs : List RSpan) (w : World) (h : IsRecs w RSpan.cells RSpan.ok 2 A n c zs) (e0 : spansC zs = 0) :
    Calls Tryd.prog 10 #[.slice A n c] w fun e w' => ∃ (es : List RSpan) (lo hi top : Int), e = .returned (.tuple #[.agg #[.int .i64 lo, .int .i64 hi], .int .i64 top, .nilIface]) ∧ es.Perm (edgesL zs) ∧ es.Pairwise (fun x y => x.lo ≤ y.lo) ∧ mostF (segsA es (n * 2 - 1)) = (lo, hi, top) ∧ Below w.heap.size w w' := by
  obtain ⟨p1, p2, p3⟩ := spansC_0 e0
  rw [h.1] at p1 p2
  have C1 := Lib.hid (fun w' (hb : Below w.heap.size w w') => by
    have := vote_Check A n c zs w' (h.below hb)
    rw [e0, errV_0] at this
    exact this)
  have C2 := Lib.hid (fun w' (hb : Below w.heap.size w w') => vote_most A n c zs w' (h.below hb) p3 p2 p1)
  clear h p3 e0
  go_enter Tryd.func10, Tryd.ntmps10
  go_wp2_with fail
  refine (C1.out _ ((Below.refl _ w).alloc (Nat.le_refl _) _)).mono ?_
  rintro e w1 ⟨rfl, hb1⟩
  obtain ⟨hc1, hf1⟩ := bcell hb1
  have hz1 := hb1.size
  simp at hz1
  have HB1 := Lib.hid (((Below.refl _ w).alloc (Nat.le_refl _) _).trans (hb1.mono (by simp)))
  have bR : Blk w1 w.heap.size 25 #[.int .i64 0, .int .i64 0] := (Blk.new w _ _).below hb1 (by simp)
  clear hb1 hc1 hf1
  go_wp2_with fail
  refine (C2.out _ HB1.out).mono ?_
  rintro e w2 ⟨es, lo, hi, top, rfl, hp, hs, hm, hb2⟩
  have HB2 := Lib.hid (HB1.out.trans (hb2.mono (by omega)))
  have bR2 := bR.below hb2 (by omega)
  have HP := Lib.hid hp
  have HS := Lib.hid hs
  have HM := Lib.hid hm
  have r0 : w2.cell? ⟨w.heap.size, 0, none⟩ = some (.int .i64 0) := bR2.cell 0
  have r1 : w2.cell? ⟨w.heap.size, 1, none⟩ = some (.int .i64 0) := bR2.cell 1
  have f0 := bR2.fz 0
  have f1 := bR2.fz 1
  have lt2 : w.heap.size < w2.heap.size := bR2.lt
  clear bR bR2 hb2 hp hs hm C1 C2
  go_wp2_with fail
  refine bodyPost_ret (v := .tuple #[.agg #[.int .i64 lo, .int .i64 hi], .int .i64 top, .nilIface]) (by simp [results, Tryd.results10, go_sem, *]) rfl ⟨es, lo, hi, top, rfl, HP.out, HS.out, HM.out, ?_⟩
  first
    | exact ((HB2.out.alloc (by omega) _).setCell (p := ⟨w.heap.size, 0, none⟩) (Nat.le_refl _) _).setCell (p := ⟨w.heap.size, 1, none⟩) (Nat.le_refl _) _
    | exact ((HB2.out.setCell (p := ⟨w.heap.size, 0, none⟩) (Nat.le_refl _) _).setCell (p := ⟨w.heap.size, 1, none⟩) (Nat.le_refl _) _).alloc (by simp; omega) _
set_option maxRecDepth 100000 in
theorem vote_Most_bad (A : Option Addr) (n c : Nat) (zs : List RSpan) (w : World) (h : IsRecs w RSpan.cells RSpan.ok 2 A n c zs) (E : Int) (e1 : spansC zs = E) (e0 : E ≠ 0) :
    Calls Tryd.prog 10 #[.slice A n c] w fun e w' => e = .returned (.tuple #[.agg #[.int .i64 0, .int .i64 0], .int .i64 0, .iface 49 (.int .i64 E)]) ∧ Below w.heap.size w w' := by
  have C1 := Lib.hid (fun w' (hb : Below w.heap.size w w') => by
    have := vote_Check A n c zs w' (h.below hb)
    rw [e1, errV_ne e0] at this
    exact this)
  clear h e1
  go_enter Tryd.func10, Tryd.ntmps10
  go_wp2_with fail
  refine (C1.out _ ((Below.refl _ w).alloc (Nat.le_refl _) _)).mono ?_
  rintro e w1 ⟨rfl, hb1⟩
  have hz1 := hb1.size
  simp at hz1
  have HB1 := Lib.hid (((Below.refl _ w).alloc (Nat.le_refl _) _).trans (hb1.mono (by simp)))
  have bR : Blk w1 w.heap.size 25 #[.int .i64 0, .int .i64 0] := (Blk.new w _ _).below hb1 (by simp)
  have r0 : w1.cell? ⟨w.heap.size, 0, none⟩ = some (.int .i64 0) := bR.cell 0
  have r1 : w1.cell? ⟨w.heap.size, 1, none⟩ = some (.int .i64 0) := bR.cell 1
  have f0 := bR.fz 0
  have f1 := bR.fz 1
  have lt2 : w.heap.size < w1.heap.size := bR.lt
  clear bR hb1 C1
  go_wp2_with fail
  refine bodyPost_ret (v := .tuple #[.agg #[.int .i64 0, .int .i64 0], .int .i64 0, .iface 49 (.int .i64 E)]) (by simp [results, Tryd.results10, go_sem, *]) rfl ⟨rfl, ?_⟩
  exact (HB1.out.setCell (p := ⟨w.heap.size, 0, none⟩) (Nat.le_refl _) _).setCell (p := ⟨w.heap.size, 1, none⟩) (Nat.le_refl _) _
end Go.Proofs.YtfocabghbapncaaDoor
