/- vote.Liars, vote.Safe where it refuses, vote.Meet for any spans; two lists of numbers that are the same, walked. -/
import Derived.Test.YtfocabghbapncaaDoorRVote
import Derived.Test.YtfocabghbapncaaDoorArr
import Derived.Test.YtfocabghbapncaaDoorErrs
namespace Go.Proofs.YtfocabghbapncaaDoor
open Go.RowKit Go.Shelf
set_option linter.unusedVariables false
set_option linter.unusedSimpArgs false
/-- the numbers of the spans that have nothing of one. -/
def liarsL (lo hi : Int) (zs : List RSpan) : Nat → List Int
  | 0 => []
  | k + 1 => if commonB lo hi (zs.getD k default).lo (zs.getD k default).hi = true then liarsL lo hi zs k else liarsL lo hi zs k ++ [(k : Int)]
theorem liarsL_ok (lo hi : Int) (zs : List RSpan) : ∀ k, (liarsL lo hi zs k).length ≤ k ∧ ∀ x ∈ liarsL lo hi zs k, 0 ≤ x ∧ x < k
  | 0 => ⟨Nat.le_refl _, fun x hx => by cases hx⟩
  | k + 1 => by
    obtain ⟨h1, h2⟩ := liarsL_ok lo hi zs k
    unfold liarsL
    split
    · exact ⟨by omega, fun x hx => by have := h2 x hx; omega⟩
    · refine ⟨by simp; omega, fun x hx => ?_⟩
      rcases List.mem_append.1 hx with h | h
      · have := h2 x h; omega
      · simp at h; omega
set_option maxRecDepth 100000 in
set_option maxHeartbeats 8000000 in
theorem vote_Liars (A : Option Addr) (n c : Nat) (zs : List RSpan) (w : World) (h : IsRecs w RSpan.cells RSpan.ok 2 A n c zs) (e0 : spansC zs = 0) :
    Calls Tryd.prog 11 #[.slice A n c] w fun e w' => ∃ (lo hi top : Int) (B : Option Addr) (m d : Nat), e = .returned (.tuple #[.slice B m d, .nilIface]) ∧ IsMost zs lo hi top ∧ IsInts w' B m d (liarsL lo hi zs n) ∧ Below w.heap.size w w' := by
  obtain ⟨i0, hi0, hz0, hz1, hz2⟩ := info_parts infoI
  obtain ⟨p1, p2, p3⟩ := spansC_0 e0
  have C1 := Lib.hid (fun w' (hb : Below w.heap.size w w') => by
    have := vote_Check A n c zs w' (h.below hb)
    rw [e0, errV_0] at this
    exact this)
  have C2 := Lib.hid (fun w' (hb : Below w.heap.size w w') => (vote_most A n c zs w' (h.below hb) p3 (by rw [← h.1]; exact p2) (by rw [← h.1]; exact p1)).mono (R' := fun e w'' => ∃ lo hi top : Int, e = .returned (.tuple #[.agg #[.int .i64 lo, .int .i64 hi], .int .i64 top]) ∧ IsMost zs lo hi top ∧ Below w'.heap.size w' w'') fun e w'' ⟨es, lo, hi, top, he, hp, hs, hm, hb⟩ => ⟨lo, hi, top, he, most_is hp hs p3 p2 (by rw [hp.length_eq, edgesL_len, h.1]; exact hm), hb⟩)
  rw [h.1] at p1 p2
  obtain ⟨l1, l2, l3, l4, l5⟩ := h
  unfold maxLen at l3
  obtain ⟨b, off, rfl, hb, hc⟩ := l5 p2
  have L1 := Lib.hid l1
  have HC := Lib.hid (show ∀ wr, Below w.heap.size w wr → ∀ k z, zs[k]? = some z → wr.cell? ⟨b, off + k * 2, none⟩ = some (.int .i64 z.lo) ∧ wr.cell? ⟨b, off + k * 2 + 1, none⟩ = some (.int .i64 z.hi) from fun wr hB k z hz =>
    ⟨(hB.cell (p := ⟨b, off + k * 2, none⟩) hb).trans (hc k z hz 0 _ rfl), (hB.cell (p := ⟨b, off + k * 2 + 1, none⟩) hb).trans (hc k z hz 1 _ rfl)⟩)
  clear l1 l4 l5 hc p3 e0
  go_enter Tryd.func11, Tryd.ntmps11
  go_wp2_with fail
  refine (C1.out _ (Below.refl _ w)).mono ?_
  rintro e w1 ⟨rfl, hb1⟩
  have HB1 := Lib.hid hb1
  clear hb1 C1
  go_wp2_with fail
  refine (C2.out _ HB1.out).mono ?_
  rintro e w2 ⟨lo, hi, top, rfl, hm, hb2⟩
  have HB2 := Lib.hid (HB1.out.trans (hb2.mono HB1.out.size))
  have HM := Lib.hid hm
  have hz2' := HB2.out.size
  clear hb2 hm C2 HB1
  go_wp2_with fail
  obtain ⟨W0, hW0⟩ : ∃ W0, w2.alloc (.cells #[.int .i64 lo, .int .i64 hi] 25) = W0 := ⟨_, rfl⟩
  obtain ⟨G, hG⟩ : ∃ G, w2.heap.size = G := ⟨_, rfl⟩
  have bM : Blk W0 G 25 #[.int .i64 lo, .int .i64 hi] := by rw [← hW0, ← hG]; exact Blk.new w2 _ _
  have hB0 : Below w.heap.size w W0 := by rw [← hW0]; exact HB2.out.alloc (by omega) _
  rw [hW0]
  have BM := Lib.hid bM
  have HB0 := Lib.hid hB0
  have hGW := bM.lt
  rw [hG] at hz2' ⊢
  clear bM hB0 hW0 HB2 hG
  go_loopw [7, 24] (fun ov kv wr => ∃ (k : Nat) (ys : List Int), kv = .int .i64 k ∧ k ≤ n ∧ ys = liarsL lo hi zs k ∧ wr.ownsRow (G + 1) 3 1 ov ys.length (ys.flatMap intCells) ∧ Blk wr G 25 #[.int .i64 lo, .int .i64 hi] ∧ Below w.heap.size w wr) (fun _ kv _ => n - (intOf kv).toNat)
  case atStart => exact ⟨0, [], rfl, by omega, rfl, own_nil _ _ _ _, BM.out, HB0.out⟩
  case round =>
    obtain ⟨k, ys, rfl, hk, hys, ho, hM, hB⟩ := hrel
    have HO := Lib.hid ho
    have HB := Lib.hid hB
    have HBl := Lib.hid hM
    have HY := Lib.hid hys
    have hlen : ys.length ≤ k := by rw [hys]; exact (liarsL_ok lo hi zs k).1
    have g0 : wr.cell? ⟨G, 0, none⟩ = some (.int .i64 lo) := hM.cell 0
    have g1 : wr.cell? ⟨G, 1, none⟩ = some (.int .i64 hi) := hM.cell 1
    have hGr := hM.lt
    have hzw := hB.size
    clear ho hys hM HB0 BM hGW
    by_cases d1 : k < n
    · obtain ⟨z, hz⟩ : ∃ z, zs[k]? = some z := ⟨_, List.getElem?_eq_getElem (by rw [L1.out]; omega)⟩
      obtain ⟨x0, x1⟩ := HC.out wr HB.out k z hz
      have hD : zs.getD k default = z := by rw [List.getD_eq_getElem?_getD, hz]; rfl
      have CM := Lib.hid (fun W' => Common_any lo hi z.lo z.hi W')
      have HS : liarsL lo hi zs (k + 1) = if commonB lo hi z.lo z.hi = true then liarsL lo hi zs k else liarsL lo hi zs k ++ [(k : Int)] := by
        show (if commonB lo hi (zs.getD k default).lo (zs.getD k default).hi = true then liarsL lo hi zs k else liarsL lo hi zs k ++ [(k : Int)]) = _
        rw [hD]
      clear hz hD hB
      cases e1 : commonB lo hi z.lo z.hi
      · rw [e1] at CM HS
        have HS := Lib.hid HS
        as_aux_lemma =>
          go_wp2_with fail
          refine (CM.out _).mono ?_
          rintro e w3 ⟨rfl, hb3⟩
          have hz3 := hb3.size
          simp at hz3
          have HB3 := Lib.hid ((HB.out.alloc (by omega) _).trans (hb3.mono (by simp; omega)))
          have HO3 := Lib.hid (own_below (HO.out.alloc _) hb3)
          have BM3 := Lib.hid ((HBl.out.alloc _).below hb3 (by simp; omega))
          have hz4 : G < w3.heap.size := by omega
          have hz5 := HB3.out.size
          clear hb3 CM x0 x1 g0 g1
          go_wp2_with (at_builtin; refine wpList_append_own _ rfl _ _ 33 rfl (G + 1) 3 i0 (.int .i64 0) 1 8 Tryd.underlying33 hi0 hz0 hz1 hz2 rfl (by decide) _ _ _ rfl ((HO3.out.alloc _).alloc _) ⟨w3.heap.size + 1, 0, none⟩ 1 1 _ rfl rfl (cell_newAt (w3.alloc _) (intCells (k : Int)) _ _ (by simp)) (int_one _) (by unfold maxLen; omega) (by omega) (by simp; omega) ?_; intro v' w4 ho4 hg4 _)
          have HB4 := Lib.hid (show Below w.heap.size w w4 from ((HB3.out.alloc (by omega) _).alloc (by simp; omega) _).grown hg4 (by simp; omega) (fun q hq => by have := (HO3.out.lt q hq).1; omega))
          have HO4 := Lib.hid (own_snoc intCells (z := (k : Int)) ho4)
          have BM4 := Lib.hid (((BM3.out.alloc _).alloc _).grown hg4 (fun hq => by have := (HO3.out.lt G hq.symm).1; omega))
          clear ho4 hg4
          go_wp2_with fail
          go_roundw
          case rel => exact ⟨k + 1, ys ++ [(k : Int)], by go_num, by omega, by rw [HS.out, HY.out]; rfl, HO4.out, BM4.out, HB4.out⟩
          case measure => simp [intOf]; omega
      · rw [e1] at CM HS
        have HS := Lib.hid HS
        as_aux_lemma =>
          go_wp2_with fail
          refine (CM.out _).mono ?_
          rintro e w3 ⟨rfl, hb3⟩
          have hz3 := hb3.size
          simp at hz3
          have HB3 := Lib.hid ((HB.out.alloc (by omega) _).trans (hb3.mono (by simp; omega)))
          have HO3 := Lib.hid (own_below (HO.out.alloc _) hb3)
          have BM3 := Lib.hid ((HBl.out.alloc _).below hb3 (by simp; omega))
          have hz4 : G < w3.heap.size := by omega
          clear hb3 CM
          go_wp2_with fail
          go_roundw
          case rel => exact ⟨k + 1, ys, by go_num, by omega, by rw [HS.out, HY.out]; rfl, HO3.out.alloc _, BM3.out.alloc _, HB3.out.alloc (by omega) _⟩
          case measure => simp [intOf]; omega
    · obtain rfl : k = n := by omega
      have hy : ys = liarsL lo hi zs k := HY.out
      subst hy
      obtain ⟨B, m, d, rfl, hI⟩ := own_recs intCells i64B 1 (fun _ => rfl) HO.out (fun x hx => by have := (liarsL_ok lo hi zs k).2 x hx; unfold i64B; omega)
      have HI := Lib.hid hI
      clear HO hI hlen hB
      go_wp2_with fail
      go_ret2
      exact ⟨lo, hi, top, B, m, d, rfl, HM.out, HI.out, HB.out⟩
/-- the greatest beginning of the first ones, and the least end. -/
def mLo (zs : List RSpan) : Nat → Int
  | 0 => (zs.getD 0 default).lo
  | k + 1 => max (mLo zs k) (zs.getD (k + 1) default).lo
def mHi (zs : List RSpan) : Nat → Int
  | 0 => (zs.getD 0 default).hi
  | k + 1 => min (mHi zs k) (zs.getD (k + 1) default).hi
theorem meet_mono (zs : List RSpan) (a b : Nat) (h : a ≤ b) : mLo zs a ≤ mLo zs b ∧ mHi zs b ≤ mHi zs a := by
  induction b with
  | zero => obtain rfl : a = 0 := by omega
            exact ⟨Int.le_refl _, Int.le_refl _⟩
  | succ b ih =>
    by_cases e : a = b + 1
    · subst e; exact ⟨Int.le_refl _, Int.le_refl _⟩
    · have := ih (by omega)
      show mLo zs a ≤ max (mLo zs b) _ ∧ min (mHi zs b) _ ≤ mHi zs a
      omega
/-- what is in all, or none. -/
def MeetRet (zs : List RSpan) (n : Nat) (w : World) (e : Ending) (w' : World) : Prop :=
  ((∃ lo hi : Int, lo = mLo zs (n - 1) ∧ hi = mHi zs (n - 1) ∧ lo ≤ hi ∧ e = .returned (.tuple #[.agg #[.int .i64 lo, .int .i64 hi], .nilIface])) ∨ (mHi zs (n - 1) < mLo zs (n - 1) ∧ e = .returned (.tuple #[.agg #[.int .i64 0, .int .i64 0], .iface 49 (.int .i64 7)]))) ∧ Below w.heap.size w w'
set_option maxRecDepth 100000 in
set_option maxHeartbeats 8000000 in
theorem vote_Meet_any (A : Option Addr) (n c : Nat) (zs : List RSpan) (w : World) (h : IsRecs w RSpan.cells RSpan.ok 2 A n c zs) (e0 : spansC zs = 0) :
    Calls Tryd.prog 7 #[.slice A n c] w (MeetRet zs n w) := by
  obtain ⟨p1, p2, p3⟩ := spansC_0 e0
  rw [h.1] at p1 p2
  have C1 := Lib.hid (fun w' (hb : Below w.heap.size w w') => by
    have := vote_Check A n c zs w' (h.below hb)
    rw [e0, errV_0] at this
    exact this)
  obtain ⟨l1, l2, l3, l4, l5⟩ := h
  unfold maxLen at l3
  obtain ⟨b, off, rfl, hb, hc⟩ := l5 p2
  have L1 := Lib.hid l1
  have HXA := Lib.hid (fun z hz => bounds_S (p3 z hz))
  have HC := Lib.hid (show ∀ wr, Below w.heap.size w wr → ∀ k z, zs[k]? = some z → wr.cell? ⟨b, off + k * 2, none⟩ = some (.int .i64 z.lo) ∧ wr.cell? ⟨b, off + k * 2 + 1, none⟩ = some (.int .i64 z.hi) from fun wr hB k z hz =>
    ⟨(hB.cell (p := ⟨b, off + k * 2, none⟩) hb).trans (hc k z hz 0 _ rfl), (hB.cell (p := ⟨b, off + k * 2 + 1, none⟩) hb).trans (hc k z hz 1 _ rfl)⟩)
  obtain ⟨z0, hz0⟩ : ∃ z, zs[0]? = some z := ⟨_, List.getElem?_eq_getElem (by omega)⟩
  have HZ0 := Lib.hid hz0
  clear l1 l4 l5 hc p3 e0 hz0
  go_enter Tryd.func7, Tryd.ntmps7
  go_wp2_with fail
  refine (C1.out _ ((Below.refl _ w).alloc (Nat.le_refl _) _)).mono ?_
  rintro e w1 ⟨rfl, hb1⟩
  have hz1 := hb1.size
  simp at hz1
  have HB1 := Lib.hid (((Below.refl _ w).alloc (Nat.le_refl _) _).trans (hb1.mono (by simp)))
  have bR : Blk w1 w.heap.size 25 #[.int .i64 0, .int .i64 0] := (Blk.new w _ _).below hb1 (by simp)
  have BR := Lib.hid bR
  obtain ⟨x0, x1⟩ := HC.out w1 HB1.out 0 z0 HZ0.out
  simp only [Nat.zero_mul, Nat.add_zero] at x0 x1
  have k1 : (1 : Int) ≤ (n : Int) := by omega
  have k2 : (1 : Int) ≤ (c : Int) := by omega
  have hx0 := HXA.out z0 (List.mem_of_getElem? HZ0.out)
  have M0 := Lib.hid (show mLo zs 0 = z0.lo ∧ mHi zs 0 = z0.hi from by simp [mLo, mHi, List.getD_eq_getElem?_getD, HZ0.out])
  have lt1 : w.heap.size < w1.heap.size := by omega
  clear hb1 bR C1
  by_cases c1 : n = 1
  · subst c1
    rcases (by omega : c = 1 ∨ 1 < c) with c2 | c2
    · subst c2
      as_aux_lemma =>
        go_wp2_with fail
        refine wp_loop_rounds 1 ?_
        rw [rounds_succ]
        have r0 : w1.cell? ⟨w.heap.size, 0, none⟩ = some (.int .i64 0) := BR.out.cell 0
        have r1 : w1.cell? ⟨w.heap.size, 1, none⟩ = some (.int .i64 0) := BR.out.cell 1
        have f0 := BR.out.fz 0
        have f1 := BR.out.fz 1
        go_wp2_with fail
        refine bodyPost_ret (v := .tuple #[.agg #[.int .i64 z0.lo, .int .i64 z0.hi], .nilIface]) (by simp [results, Tryd.results7, go_sem, *]) rfl ⟨.inl ⟨z0.lo, z0.hi, M0.out.1.symm, M0.out.2.symm, hx0.1, rfl⟩, ?_⟩
        first
          | exact ((HB1.out.alloc (by omega) _).setCell (p := ⟨w.heap.size, 0, none⟩) (Nat.le_refl _) _).setCell (p := ⟨w.heap.size, 1, none⟩) (Nat.le_refl _) _
          | exact ((HB1.out.setCell (p := ⟨w.heap.size, 0, none⟩) (Nat.le_refl _) _).setCell (p := ⟨w.heap.size, 1, none⟩) (Nat.le_refl _) _).alloc (by simp; omega) _
    · have c3 : ¬ c - 1 = 0 := by omega
      as_aux_lemma =>
        go_wp2_with fail
        refine wp_loop_rounds 1 ?_
        rw [rounds_succ]
        have r0 : w1.cell? ⟨w.heap.size, 0, none⟩ = some (.int .i64 0) := BR.out.cell 0
        have r1 : w1.cell? ⟨w.heap.size, 1, none⟩ = some (.int .i64 0) := BR.out.cell 1
        have f0 := BR.out.fz 0
        have f1 := BR.out.fz 1
        go_wp2_with fail
        refine bodyPost_ret (v := .tuple #[.agg #[.int .i64 z0.lo, .int .i64 z0.hi], .nilIface]) (by simp [results, Tryd.results7, go_sem, *]) rfl ⟨.inl ⟨z0.lo, z0.hi, M0.out.1.symm, M0.out.2.symm, hx0.1, rfl⟩, ?_⟩
        first
          | exact ((HB1.out.alloc (by omega) _).setCell (p := ⟨w.heap.size, 0, none⟩) (Nat.le_refl _) _).setCell (p := ⟨w.heap.size, 1, none⟩) (Nat.le_refl _) _
          | exact ((HB1.out.setCell (p := ⟨w.heap.size, 0, none⟩) (Nat.le_refl _) _).setCell (p := ⟨w.heap.size, 1, none⟩) (Nat.le_refl _) _).alloc (by simp; omega) _
  · have c3 : ¬ c - 1 = 0 := by omega
    as_aux_lemma =>
      go_wp2_with fail
      obtain ⟨W0, hW0⟩ : ∃ W0, w1.alloc (.cells #[.int .i64 z0.lo, .int .i64 z0.hi] 25) = W0 := ⟨_, rfl⟩
      rw [hW0]
      have bO : Blk W0 w1.heap.size 25 #[.int .i64 z0.lo, .int .i64 z0.hi] := by rw [← hW0]; exact Blk.new w1 _ _
      have bR0 : Blk W0 w.heap.size 25 #[.int .i64 0, .int .i64 0] := by rw [← hW0]; exact BR.out.alloc _
      have hB0 : Below w.heap.size w W0 := by rw [← hW0]; exact HB1.out.alloc (by omega) _
      have BO := Lib.hid bO
      have BR0 := Lib.hid bR0
      have HB0 := Lib.hid hB0
      obtain ⟨OB, hOB⟩ : ∃ O, w1.heap.size = O := ⟨_, rfl⟩
      rw [hOB] at BO lt1 ⊢
      clear bO bR0 hB0 hW0 x0 x1 BR HB1 hz1
      go_loopw [22] (fun kv wr => ∃ (k : Nat) (lo hi : Int), kv = .int .i64 k ∧ k ≤ n - 1 ∧ (lo = mLo zs k ∧ hi = mHi zs k ∧ lo ≤ hi ∧ -1000000000000 ≤ lo ∧ hi ≤ 1000000000000) ∧ Blk wr OB 25 #[.int .i64 lo, .int .i64 hi] ∧ Blk wr w.heap.size 25 #[.int .i64 0, .int .i64 0] ∧ Below w.heap.size w wr) (fun kv _ => n - (intOf kv).toNat)
      case atStart => exact ⟨0, z0.lo, z0.hi, rfl, by omega, ⟨M0.out.1.symm, M0.out.2.symm, hx0.1, hx0.2.1, hx0.2.2⟩, BO.out, BR0.out, HB0.out⟩
      case round =>
        obtain ⟨k, lo, hi, rfl, hk, ⟨hlo, hhi, hle, hl1, hh1⟩, bO, bR, hB⟩ := hrel
        have HLH := Lib.hid (And.intro hlo hhi)
        clear hlo hhi
        have BO := Lib.hid bO
        have BR := Lib.hid bR
        have HB := Lib.hid hB
        have o0 : wr.cell? ⟨OB, 0, none⟩ = some (.int .i64 lo) := bO.cell 0
        have o1 : wr.cell? ⟨OB, 1, none⟩ = some (.int .i64 hi) := bO.cell 1
        have fo0 := bO.fz 0
        have fo1 := bO.fz 1
        have r0 : wr.cell? ⟨w.heap.size, 0, none⟩ = some (.int .i64 0) := bR.cell 0
        have r1 : wr.cell? ⟨w.heap.size, 1, none⟩ = some (.int .i64 0) := bR.cell 1
        have f0 := bR.fz 0
        have f1 := bR.fz 1
        have ltO : OB < wr.heap.size := bO.lt
        have hzw := hB.size
        have hne : w.heap.size ≠ OB := by omega
        clear bO bR hB HB0 BR0
        by_cases d1 : k < n - 1
        · obtain ⟨z, hz⟩ : ∃ z, zs[k + 1]? = some z := ⟨_, List.getElem?_eq_getElem (by rw [L1.out]; omega)⟩
          obtain ⟨y0, y1⟩ := HC.out wr HB.out (k + 1) z hz
          have hxz := HXA.out z (List.mem_of_getElem? hz)
          rw [show off + (k + 1) * 2 = off + 2 + k * 2 by omega] at y0 y1
          have CM := Lib.hid (fun W' => Common_any lo hi z.lo z.hi W')
          have MS := Lib.hid (show mLo zs (k + 1) = max lo z.lo ∧ mHi zs (k + 1) = min hi z.hi from by
            have hD : zs.getD (k + 1) default = z := by rw [List.getD_eq_getElem?_getD, hz]; rfl
            exact ⟨by show max (mLo zs k) (zs.getD (k + 1) default).lo = _; rw [hD, HLH.out.1], by show min (mHi zs k) (zs.getD (k + 1) default).hi = _; rw [hD, HLH.out.2]⟩)
          have MM := Lib.hid (meet_mono zs (k + 1) (n - 1) (by omega))
          obtain ⟨p, hp⟩ : ∃ p, max lo z.lo = p := ⟨_, rfl⟩
          obtain ⟨q, hq⟩ : ∃ q, min hi z.hi = q := ⟨_, rfl⟩
          have hpq : -1000000000000 ≤ p ∧ q ≤ 1000000000000 := by omega
          have hcm : commonB lo hi z.lo z.hi = decide (p ≤ q) := by unfold commonB; rw [hp, hq]
          rw [hp, hq, hcm] at CM
          rw [hp, hq] at MS
          clear hz hp hq hcm
          by_cases c5 : p ≤ q
          · rw [show decide (p ≤ q) = true from decide_eq_true c5] at CM
            as_aux_lemma =>
              go_wp2_with fail
              refine (CM.out _).mono ?_
              rintro e w3 ⟨rfl, hb3⟩
              have hz3 := hb3.size
              simp at hz3
              have bO3 := (BO.out.alloc (.cells #[.int .i64 z.lo, .int .i64 z.hi] 25)).below hb3 (by simp; omega)
              have bR3 := (BR.out.alloc (.cells #[.int .i64 z.lo, .int .i64 z.hi] 25)).below hb3 (by simp; omega)
              have HB3 := Lib.hid ((HB.out.alloc hzw (.cells #[.int .i64 z.lo, .int .i64 z.hi] 25)).trans (hb3.mono (by simp; omega)))
              have BO3 := Lib.hid bO3
              have BR3 := Lib.hid bR3
              have o30 : w3.cell? ⟨OB, 0, none⟩ = some (.int .i64 lo) := bO3.cell 0
              have o31 : w3.cell? ⟨OB, 1, none⟩ = some (.int .i64 hi) := bO3.cell 1
              have fo30 := bO3.fz 0
              have fo31 := bO3.fz 1
              have lt3 : OB < w3.heap.size := bO3.lt
              have h03 : w.heap.size ≤ w3.heap.size := by omega
              have h04 : w.heap.size ≤ OB := by omega
              have HK := Lib.hid (show k + 1 ≤ n - 1 by omega)
              clear hb3 bO3 bR3 CM o0 o1 fo0 fo1 r0 r1 f0 f1 y0 y1 hz3
              go_wp2_with fail
              go_roundw
              case rel => exact ⟨k + 1, p, q, by go_num, HK.out, ⟨MS.out.1.symm, MS.out.2.symm, c5, hpq.1, hpq.2⟩, (((BO3.out.set 0 (.int .i64 p)).set 1 (.int .i64 q)).conv rfl).alloc _, ((BR3.out.far (p := ⟨OB, 0, none⟩) hne _).far (p := ⟨OB, 1, none⟩) hne _).alloc _, ((HB3.out.setCell (p := ⟨OB, 0, none⟩) h04 _).setCell (p := ⟨OB, 1, none⟩) h04 _).alloc (by simp; exact h03) _⟩
              case measure => go_light; simp [intOf]; omega
          · rw [show decide (p ≤ q) = false from decide_eq_false c5] at CM
            as_aux_lemma =>
              go_wp2_with fail
              refine (CM.out _).mono ?_
              rintro e w3 ⟨rfl, hb3⟩
              have hz3 := hb3.size
              simp at hz3
              have bR3 := (BR.out.alloc (.cells #[.int .i64 z.lo, .int .i64 z.hi] 25)).below hb3 (by simp; omega)
              have HB3 := Lib.hid ((HB.out.alloc hzw (.cells #[.int .i64 z.lo, .int .i64 z.hi] 25)).trans (hb3.mono (by simp; omega)))
              have r30 : w3.cell? ⟨w.heap.size, 0, none⟩ = some (.int .i64 0) := bR3.cell 0
              have r31 : w3.cell? ⟨w.heap.size, 1, none⟩ = some (.int .i64 0) := bR3.cell 1
              have f30 := bR3.fz 0
              have f31 := bR3.fz 1
              have lt3 : w.heap.size < w3.heap.size := bR3.lt
              have HNO := Lib.hid (show mHi zs (n - 1) < mLo zs (n - 1) from by have := MM.out; rw [MS.out.1, MS.out.2] at this; omega)
              clear hb3 bR3 CM o0 o1 fo0 fo1 r0 r1 f0 f1 y0 y1 hz3
              go_wp2_with fail
              refine bodyPost_ret (v := .tuple #[.agg #[.int .i64 0, .int .i64 0], .iface 49 (.int .i64 7)]) (by simp [results, Tryd.results7, go_sem, *]) rfl ⟨.inr ⟨HNO.out, rfl⟩, ?_⟩
              first
                | exact ((HB3.out.alloc (by omega) _).setCell (p := ⟨w.heap.size, 0, none⟩) (Nat.le_refl _) _).setCell (p := ⟨w.heap.size, 1, none⟩) (Nat.le_refl _) _
                | exact ((HB3.out.setCell (p := ⟨w.heap.size, 0, none⟩) (Nat.le_refl _) _).setCell (p := ⟨w.heap.size, 1, none⟩) (Nat.le_refl _) _).alloc (by simp; omega) _
        · as_aux_lemma =>
            go_wp2_with fail
            refine bodyPost_ret (v := .tuple #[.agg #[.int .i64 lo, .int .i64 hi], .nilIface]) (by simp [results, Tryd.results7, go_sem, *]) rfl ⟨.inl ⟨lo, hi, by rw [HLH.out.1, show n - 1 = k by omega], by rw [HLH.out.2, show n - 1 = k by omega], hle, rfl⟩, ?_⟩
            exact (HB.out.setCell (p := ⟨w.heap.size, 0, none⟩) (Nat.le_refl _) _).setCell (p := ⟨w.heap.size, 1, none⟩) (Nat.le_refl _) _
set_option maxRecDepth 100000 in
set_option maxHeartbeats 4000000 in
theorem vote_Meet_bad (A : Option Addr) (n c : Nat) (zs : List RSpan) (w : World) (h : IsRecs w RSpan.cells RSpan.ok 2 A n c zs) (E : Int) (e1 : spansC zs = E) (e0 : E ≠ 0) :
    Calls Tryd.prog 7 #[.slice A n c] w fun e w' => e = .returned (.tuple #[.agg #[.int .i64 0, .int .i64 0], .iface 49 (.int .i64 E)]) ∧ Below w.heap.size w w' := by
  have C1 := Lib.hid (fun w' (hb : Below w.heap.size w w') => by
    have := vote_Check A n c zs w' (h.below hb)
    rw [e1, errV_ne e0] at this
    exact this)
  clear h e1
  go_enter Tryd.func7, Tryd.ntmps7
  go_wp2_with fail
  refine (C1.out _ ((Below.refl _ w).alloc (Nat.le_refl _) _)).mono ?_
  rintro e w1 ⟨rfl, hb1⟩
  have hz1 := hb1.size
  simp at hz1
  have HB1 := Lib.hid (((Below.refl _ w).alloc (Nat.le_refl _) _).trans (hb1.mono (by simp)))
  have bR : Blk w1 w.heap.size 25 #[.int .i64 0, .int .i64 0] := (Blk.new w _ _).below hb1 (by simp)
  have r0 : w1.cell? ⟨w.heap.size, 0, none⟩ = some (.int .i64 0) := bR.cell 0
  have r1 : w1.cell? ⟨w.heap.size, 1, none⟩ = some (.int .i64 0) := bR.cell 1
  have f0 := bR.fz 0
  have f1 := bR.fz 1
  have lt2 : w.heap.size < w1.heap.size := bR.lt
  clear bR hb1 C1
  go_wp2_with fail
  refine bodyPost_ret (v := .tuple #[.agg #[.int .i64 0, .int .i64 0], .iface 49 (.int .i64 E)]) (by simp [results, Tryd.results7, go_sem, *]) rfl ⟨rfl, ?_⟩
  exact (HB1.out.setCell (p := ⟨w.heap.size, 0, none⟩) (Nat.le_refl _) _).setCell (p := ⟨w.heap.size, 1, none⟩) (Nat.le_refl _) _
set_option maxRecDepth 100000 in
set_option maxHeartbeats 4000000 in
theorem vote_Liars_bad (A : Option Addr) (n c : Nat) (zs : List RSpan) (w : World) (h : IsRecs w RSpan.cells RSpan.ok 2 A n c zs) (E : Int) (e1 : spansC zs = E) (e0 : E ≠ 0) :
    Calls Tryd.prog 11 #[.slice A n c] w fun e w' => e = .returned (.tuple #[.slice none 0 0, .iface 49 (.int .i64 E)]) ∧ Below w.heap.size w w' := by
  have C1 := Lib.hid (fun w' (hb : Below w.heap.size w w') => by
    have := vote_Check A n c zs w' (h.below hb)
    rw [e1, errV_ne e0] at this
    exact this)
  clear h e1
  go_enter Tryd.func11, Tryd.ntmps11
  go_wp2_with fail
  refine (C1.out _ (Below.refl _ w)).mono ?_
  rintro e w1 ⟨rfl, hb1⟩
  clear C1
  go_wp2_with fail
  go_ret2
  exact ⟨rfl, hb1⟩
set_option maxRecDepth 100000 in
set_option maxHeartbeats 8000000 in
theorem vote_Safe_bad (A : Option Addr) (n c : Nat) (bad : Int) (zs : List RSpan) (w : World) (h : IsRecs w RSpan.cells RSpan.ok 2 A n c zs) (E : Int) (e1 : spansC zs = E) (e0 : E ≠ 0) :
    Calls Tryd.prog 14 #[.slice A n c, .int .i64 bad] w fun e w' => e = .returned (.tuple #[.agg #[.int .i64 0, .int .i64 0], .iface 49 (.int .i64 E)]) ∧ Below w.heap.size w w' := by
  have C1 := Lib.hid (fun w' (hb : Below w.heap.size w w') => by
    have := vote_Check A n c zs w' (h.below hb)
    rw [e1, errV_ne e0] at this
    exact this)
  clear h e1
  go_enter Tryd.func14, Tryd.ntmps14
  go_wp2_with fail
  have hb0 : Below w.heap.size w (((w.alloc (.cells #[.slice A n c] 22)).alloc (.cells #[.int .i64 bad] 3)).alloc (.cells #[.int .i64 0, .int .i64 0] 25)) := (((Below.refl _ w).alloc (Nat.le_refl _) _).alloc (by simp) _).alloc (by simp; omega) _
  refine (C1.out _ hb0).mono ?_
  rintro e w1 ⟨rfl, hb1⟩
  have hz1 := hb1.size
  simp at hz1
  have HB1 := Lib.hid (hb0.trans (hb1.mono (by simp; omega)))
  have bL : Blk w1 w.heap.size 22 #[.slice A n c] := (((Blk.new w _ _).alloc _).alloc _).below hb1 (by simp; omega)
  have bB : Blk w1 (w.heap.size + 1) 3 #[.int .i64 bad] := by
    have := ((Blk.new (w.alloc (.cells #[.slice A n c] 22)) 3 #[.int .i64 bad]).alloc (.cells #[.int .i64 0, .int .i64 0] 25)).below hb1 (by simp)
    simpa using this
  have bR : Blk w1 (w.heap.size + 1 + 1) 25 #[.int .i64 0, .int .i64 0] := by
    have := (Blk.new ((w.alloc (.cells #[.slice A n c] 22)).alloc (.cells #[.int .i64 bad] 3)) 25 #[.int .i64 0, .int .i64 0]).below hb1 (by simp)
    simpa using this
  have x0 : w1.cell? ⟨w.heap.size, 0, none⟩ = some (.slice A n c) := bL.cell 0
  have x1 : w1.cell? ⟨w.heap.size + 1, 0, none⟩ = some (.int .i64 bad) := bB.cell 0
  have r0 : w1.cell? ⟨w.heap.size + 1 + 1, 0, none⟩ = some (.int .i64 0) := bR.cell 0
  have r1 : w1.cell? ⟨w.heap.size + 1 + 1, 1, none⟩ = some (.int .i64 0) := bR.cell 1
  have f0 := bR.fz 0
  have f1 := bR.fz 1
  have lt2 : w.heap.size + 1 + 1 < w1.heap.size := bR.lt
  clear bR bL bB hb1 C1 hb0
  go_wp2_with fail
  refine bodyPost_ret (v := .tuple #[.agg #[.int .i64 0, .int .i64 0], .iface 49 (.int .i64 E)]) (by simp [results, Tryd.results14, go_sem, *]) rfl ⟨rfl, ?_⟩
  exact (HB1.out.setCell (p := ⟨w.heap.size + 1 + 1, 0, none⟩) (by simp; omega) _).setCell (p := ⟨w.heap.size + 1 + 1, 1, none⟩) (by simp; omega) _
set_option maxRecDepth 100000 in
set_option maxHeartbeats 8000000 in
theorem vote_Safe_rng (A : Option Addr) (n c : Nat) (bad : Int) (zs : List RSpan) (w : World) (h : IsRecs w RSpan.cells RSpan.ok 2 A n c zs) (e0 : spansC zs = 0) (hb : bad < 0 ∨ (n : Int) ≤ bad) :
    Calls Tryd.prog 14 #[.slice A n c, .int .i64 bad] w fun e w' => e = .returned (.tuple #[.agg #[.int .i64 0, .int .i64 0], .iface 49 (.int .i64 1)]) ∧ Below w.heap.size w w' := by
  have C1 := Lib.hid (fun w' (hb : Below w.heap.size w w') => by
    have := vote_Check A n c zs w' (h.below hb)
    rw [e0, errV_0] at this
    exact this)
  have hc := h.2.2.1
  unfold maxLen at hc
  clear h e0
  go_enter Tryd.func14, Tryd.ntmps14
  go_wp2_with fail
  have hb0 : Below w.heap.size w (((w.alloc (.cells #[.slice A n c] 22)).alloc (.cells #[.int .i64 bad] 3)).alloc (.cells #[.int .i64 0, .int .i64 0] 25)) := (((Below.refl _ w).alloc (Nat.le_refl _) _).alloc (by simp) _).alloc (by simp; omega) _
  refine (C1.out _ hb0).mono ?_
  rintro e w1 ⟨rfl, hb1⟩
  have hz1 := hb1.size
  simp at hz1
  have HB1 := Lib.hid (hb0.trans (hb1.mono (by simp; omega)))
  have bL : Blk w1 w.heap.size 22 #[.slice A n c] := (((Blk.new w _ _).alloc _).alloc _).below hb1 (by simp; omega)
  have bB : Blk w1 (w.heap.size + 1) 3 #[.int .i64 bad] := by
    have := ((Blk.new (w.alloc (.cells #[.slice A n c] 22)) 3 #[.int .i64 bad]).alloc (.cells #[.int .i64 0, .int .i64 0] 25)).below hb1 (by simp)
    simpa using this
  have bR : Blk w1 (w.heap.size + 1 + 1) 25 #[.int .i64 0, .int .i64 0] := by
    have := (Blk.new ((w.alloc (.cells #[.slice A n c] 22)).alloc (.cells #[.int .i64 bad] 3)) 25 #[.int .i64 0, .int .i64 0]).below hb1 (by simp)
    simpa using this
  have x0 : w1.cell? ⟨w.heap.size, 0, none⟩ = some (.slice A n c) := bL.cell 0
  have x1 : w1.cell? ⟨w.heap.size + 1, 0, none⟩ = some (.int .i64 bad) := bB.cell 0
  have r0 : w1.cell? ⟨w.heap.size + 1 + 1, 0, none⟩ = some (.int .i64 0) := bR.cell 0
  have r1 : w1.cell? ⟨w.heap.size + 1 + 1, 1, none⟩ = some (.int .i64 0) := bR.cell 1
  have f0 := bR.fz 0
  have f1 := bR.fz 1
  have lt2 : w.heap.size + 1 + 1 < w1.heap.size := bR.lt
  clear bR bL bB hb1 C1 hb0
  by_cases d0 : bad < 0
  · have d1 : decide (bad < 0) = true := by simp; exact d0
    go_wp2_with fail
    refine bodyPost_ret (v := .tuple #[.agg #[.int .i64 0, .int .i64 0], .iface 49 (.int .i64 1)]) (by simp [results, Tryd.results14, go_sem, *]) rfl ⟨rfl, ?_⟩
    exact (HB1.out.setCell (p := ⟨w.heap.size + 1 + 1, 0, none⟩) (by simp; omega) _).setCell (p := ⟨w.heap.size + 1 + 1, 1, none⟩) (by simp; omega) _
  have d1 : decide (bad < 0) = false := by simp; omega
  have d2 : decide ((n : Int) ≤ bad) = true := by simp; omega
  have d3 : (n : Int) ≤ bad := by omega
  go_wp2_with fail
  refine bodyPost_ret (v := .tuple #[.agg #[.int .i64 0, .int .i64 0], .iface 49 (.int .i64 1)]) (by simp [results, Tryd.results14, go_sem, *]) rfl ⟨rfl, ?_⟩
  exact (HB1.out.setCell (p := ⟨w.heap.size + 1 + 1, 0, none⟩) (by simp; omega) _).setCell (p := ⟨w.heap.size + 1 + 1, 1, none⟩) (by simp; omega) _
end Go.Proofs.YtfocabghbapncaaDoor
