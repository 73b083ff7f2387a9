/- Proved: noonlaw1.VoteTells answers true for every input and leaves its arguments as they were. Its conditions: none beyond the tied card's own. -/
import Derived.Test.YtfocabghbapncaaDoorVoteTellsB
namespace Go.Proofs.YtfocabghbapncaaDoor.lVoteTells
open Go.ChangeShapes Go.WideShapes Go.ChangeAt Go.RowKit
set_option linter.unusedVariables false
set_option linter.unusedSimpArgs false
/-- what is in the first k, or nothing is in all. -/
def MeetI (zs : List RSpan) (n k : Nat) (f lo hi : Int) : Prop := (f = 0 ∧ lo = mLo zs (k - 1) ∧ hi = mHi zs (k - 1) ∧ lo ≤ hi) ∨ (f = 7 ∧ mHi zs (n - 1) < mLo zs (n - 1))
/-- what the law holds then. -/
def MeetF (zs : List RSpan) (n : Nat) (f lo hi : Int) : Prop := (f = 0 ∧ lo = mLo zs (n - 1) ∧ hi = mHi zs (n - 1) ∧ lo ≤ hi) ∨ (f = 7 ∧ lo = 0 ∧ hi = 0 ∧ mHi zs (n - 1) < mLo zs (n - 1))
theorem MeetI.next {zs : List RSpan} {n k : Nat} {lo hi : Int} {z : RSpan} (h : MeetI zs n k 0 lo hi) (h1 : 1 ≤ k) (hk : k < n) (hz : zs[k]? = some z) : (max lo z.lo ≤ min hi z.hi → MeetI zs n (k + 1) 0 (max lo z.lo) (min hi z.hi)) ∧ (¬ max lo z.lo ≤ min hi z.hi → MeetI zs n (k + 1) 7 (max lo z.lo) (min hi z.hi)) := by
  rcases h with ⟨_, a, b, c⟩ | ⟨h, _⟩
  · have hD : zs.getD k default = z := by rw [List.getD_eq_getElem?_getD, hz]; rfl
    obtain ⟨q, rfl⟩ : ∃ q, k = q + 1 := ⟨k - 1, by omega⟩
    have e1 : mLo zs (q + 1) = max lo z.lo := by show max (mLo zs q) (zs.getD (q + 1) default).lo = _; rw [hD, a]; rfl
    have e2 : mHi zs (q + 1) = min hi z.hi := by show min (mHi zs q) (zs.getD (q + 1) default).hi = _; rw [hD, b]; rfl
    have m := meet_mono zs (q + 1) (n - 1) (by omega)
    rw [e1, e2] at m
    exact ⟨fun h => .inl ⟨rfl, e1.symm, e2.symm, h⟩, fun h => .inr ⟨rfl, by omega⟩⟩
  · omega
set_option maxRecDepth 100000 in
set_option maxHeartbeats 32000000 in
theorem good (a0 : Option Addr) (n0 c0 : Nat) (z0 : List RSpan) (a1 : Int) (w : World) (h0 : IsRecs w RSpan.cells RSpan.ok 2 a0 n0 c0 z0) (ha : i64B a1) (hg : HandleAt w) (e0 : spansC z0 = 0) :
    Calls Tryd.prog 3 #[.slice a0 n0 c0, .int .i64 a1] w fun e w' => e = .returned (.bool true) ∧ Below w.heap.size w w' := by
  obtain ⟨i0, hi0, hz0, hz1, hz2⟩ := info_parts infoI
  obtain ⟨p1, p2, p3⟩ := spansC_0 e0
  have CS := Lib.hid (fun w' (hb : Below w.heap.size w w') => by have := r1_Spans a0 n0 c0 z0 w' (h0.below hb); rw [e0] at this; exact this)
  have C1 := Lib.hid (fun w' (hb : Below w.heap.size w w') => vote_Meet_any a0 n0 c0 z0 w' (h0.below hb) e0)
  have CR := Lib.hid (fun w' (hb : Below w.heap.size w w') => r1_Most a0 n0 c0 z0 w' (h0.below hb) p3 (by rw [← h0.1]; exact p2) (by rw [← h0.1]; exact p1))
  have C2 := Lib.hid (fun w' (hb : Below w.heap.size w w') => vote_Most a0 n0 c0 z0 w' (h0.below hb) e0)
  have C3 := Lib.hid (fun w' (hb : Below w.heap.size w w') => vote_Liars a0 n0 c0 z0 w' (h0.below hb) e0)
  have CE := Lib.hid (fun c w' (hb : Below w.heap.size w w') => show Calls Tryd.prog 8 #[errV c, .int .i64 c] w' fun e w'' => e = .returned (.bool true) ∧ Below w'.heap.size w' w'' by have := Error_any c c w' (hg.below hb); simpa using this)
  have P3 := Lib.hid p3
  have E0 := Lib.hid e0
  have H0 := Lib.hid h0
  rw [h0.1] at p1 p2
  obtain ⟨l1, l2, l3, l4, l5⟩ := h0
  unfold maxLen at l3
  obtain ⟨b, off, rfl, hb, hc⟩ := l5 p2
  have L1 := Lib.hid l1
  have HC := Lib.hid (show ∀ wr, Below w.heap.size w wr → ∀ k z, z0[k]? = some z → wr.cell? ⟨b, off + k * 2, none⟩ = some (.int .i64 z.lo) ∧ wr.cell? ⟨b, off + k * 2 + 1, none⟩ = some (.int .i64 z.hi) from fun wr hB k z hz =>
    ⟨(hB.cell (p := ⟨b, off + k * 2, none⟩) hb).trans (hc k z hz 0 _ rfl), (hB.cell (p := ⟨b, off + k * 2 + 1, none⟩) hb).trans (hc k z hz 1 _ rfl)⟩)
  obtain ⟨y, hy⟩ : ∃ z, z0[0]? = some z := ⟨_, List.getElem?_eq_getElem (by omega)⟩
  have HY := Lib.hid hy
  have hyb := bounds_S (p3 y (List.mem_of_getElem? hy))
  have HI0 := Lib.hid (show MeetI z0 n0 1 0 y.lo y.hi from .inl ⟨rfl, by simp [mLo, List.getD_eq_getElem?_getD, hy], by simp [mHi, List.getD_eq_getElem?_getD, hy], hyb.1⟩)
  clear l1 l4 l5 hc p3 e0 hg hy hyb
  go_enter Tryd.func3, Tryd.ntmps3
  go_wp2_with fail
  refine (CS.out _ (Below.refl _ w)).mono ?_
  rintro e w1 ⟨rfl, hb1⟩
  have hz1 := hb1.size
  (try simp at hz1)
  have HB1 : Below w.heap.size w w1 := (by repeat (first | with_reducible exact Below.refl _ _ | (with_reducible refine Below.alloc ?_ (by first | omega | (simp; done) | (simp; omega)) _) | (with_reducible refine Below.setCell ?_ (by first | omega | (simp; done) | (simp; omega)) _) | (with_reducible refine Below.drew ?_) | (with_reducible refine below_drewN ?_ _) | (with_reducible assumption) | (with_reducible refine bel_step (by with_reducible assumption) ?_ (by first | omega | (simp; done) | (simp; omega)))))
  have HZ1 := HB1.size
  clear hb1 hz1
  have k0 : (1 : Int) ≤ (n0 : Int) := by omega
  go_upto_if 33 with (fail)
  obtain ⟨W0, hW0⟩ : ∃ W0, w1.alloc (.cells #[.int .i64 0, .int .i64 0] 25) = W0 := ⟨_, rfl⟩
  obtain ⟨G, hG⟩ : ∃ G, w1.heap.size = G := ⟨_, rfl⟩
  have bM : Blk W0 G 25 #[.int .i64 0, .int .i64 0] := by rw [← hW0, ← hG]; exact Blk.new w1 _ _
  have HB0 : Below w.heap.size w W0 := by rw [← hW0]; exact HB1.alloc (by omega) _
  rw [hW0]
  have lG := bM.lt
  rw [hG] at HZ1 ⊢
  have x0 : W0.cell? ⟨b, off, none⟩ = some (.int .i64 y.lo) := by simpa using (HC.out W0 HB0 0 y HY.out).1
  have x1 : W0.cell? ⟨b, off + 1, none⟩ = some (.int .i64 y.hi) := by simpa using (HC.out W0 HB0 0 y HY.out).2
  have lb1 : b < W0.heap.size := by have := HB0.size; omega
  have cm0 : W0.cell? ⟨G, 0, none⟩ = some (.int .i64 0) := bM.cell 0
  have cm1 : W0.cell? ⟨G, 1, none⟩ = some (.int .i64 0) := bM.cell 1
  have fm0 : W0.frozen? ⟨G, 0, none⟩ = false := bM.fz 0
  have fm1 : W0.frozen? ⟨G, 1, none⟩ = false := bM.fz 1
  clear HB1 hW0 hG
  go_cut [6] (fun fv wx => ∃ f lo hi : Int, fv = .int .i64 f ∧ MeetF z0 n0 f lo hi ∧ Blk wx G 25 #[.int .i64 lo, .int .i64 hi] ∧ Below w.heap.size w wx)
  case first =>
    as_aux_lemma =>
      go_wp2_with fail
      go_loopw [6, 8] (fun fv iv wr => ∃ (k : Nat) (f lo hi : Int), iv = .int .i64 k ∧ fv = .int .i64 f ∧ 1 ≤ k ∧ k ≤ n0 ∧ MeetI z0 n0 k f lo hi ∧ Blk wr G 25 #[.int .i64 lo, .int .i64 hi] ∧ Below w.heap.size w wr) (fun _ iv _ => n0 - (intOf iv).toNat)
      case atStart => exact ⟨1, 0, y.lo, y.hi, rfl, rfl, by omega, by omega, HI0.out, (by refine BlkG.start ?_; (repeat (first | ((with_reducible apply BlkG.done); (with_reducible assumption); exact rfl) | (with_reducible exact BlkG.newAt (by first | (with_reducible rfl) | omega | (simp; done) | (simp; omega)) rfl) | (with_reducible refine BlkG.drew ?_) | (with_reducible refine BlkG.drewN ?_) | (with_reducible refine BlkG.set ?_) | (with_reducible refine BlkG.far (by first | omega | (simp; done) | (simp; omega)) ?_) | (with_reducible refine BlkG.alloc ?_) | (with_reducible refine BlkG.bel (by with_reducible assumption) (by first | omega | (simp; done) | (simp; omega)) ?_)))), (by repeat (first | with_reducible exact Below.refl _ _ | (with_reducible refine Below.alloc ?_ (by first | omega | (simp; done) | (simp; omega)) _) | (with_reducible refine Below.setCell ?_ (by first | omega | (simp; done) | (simp; omega)) _) | (with_reducible refine Below.drew ?_) | (with_reducible refine below_drewN ?_ _) | (with_reducible assumption) | (with_reducible refine bel_step (by with_reducible assumption) ?_ (by first | omega | (simp; done) | (simp; omega)))))⟩
      case round =>
        clear bM HB0 lG x0 x1 lb1 cm0 cm1 fm0 fm1
        obtain ⟨k, f, lo, hi, rfl, rfl, h1, hk, hI, bM, hB⟩ := hrel
        have HI := Lib.hid hI
        have HBr := Lib.hid hB
        have cm0 : wr.cell? ⟨G, 0, none⟩ = some (.int .i64 lo) := bM.cell 0
        have cm1 : wr.cell? ⟨G, 1, none⟩ = some (.int .i64 hi) := bM.cell 1
        have fm0 : wr.frozen? ⟨G, 0, none⟩ = false := bM.fz 0
        have fm1 : wr.frozen? ⟨G, 1, none⟩ = false := bM.fz 1
        have lm := bM.lt
        have hzr := hB.size
        clear hI
        have hcs : (k < n0 ∧ f = 0) ∨ (k = n0 ∧ f = 0) ∨ f = 7 := by
          rcases HI.out with ⟨h, _⟩ | ⟨h, _⟩
          · omega
          · exact .inr (.inr h)
        rcases hcs with ⟨d1, rfl⟩ | ⟨rfl, rfl⟩ | rfl
        · obtain ⟨z, hz⟩ : ∃ z, z0[k]? = some z := ⟨_, List.getElem?_eq_getElem (by rw [L1.out]; omega)⟩
          obtain ⟨x0, x1⟩ := HC.out wr hB k z hz
          obtain ⟨N1, N2⟩ := HI.out.next h1 d1 hz
          have HZ := Lib.hid hz
          have N1 := Lib.hid N1
          have N2 := Lib.hid N2
          have q0 : (0 : Int) ≤ (k : Int) := by omega
          have q1 : (k : Int) < (n0 : Int) := by omega
          have lbr : b < wr.heap.size := by omega
          have CM := Lib.hid (fun W' => r1_Meet lo hi z.lo z.hi W')
          obtain ⟨p, hp⟩ : ∃ p, max lo z.lo = p := ⟨_, rfl⟩
          obtain ⟨q, hq⟩ : ∃ q, min hi z.hi = q := ⟨_, rfl⟩
          have hcm : commonB lo hi z.lo z.hi = decide (p ≤ q) := by unfold commonB; rw [hp, hq]
          rw [hp, hq] at N1 N2
          rw [hp, hq, hcm] at CM
          clear hz hcm hp hq
          have hlG : w.heap.size ≤ G := HZ1
          have HK := Lib.hid (show 1 ≤ k + 1 ∧ k + 1 ≤ n0 by omega)
          by_cases hpq : p ≤ q
          · rw [show decide (p ≤ q) = true from decide_eq_true hpq] at CM
            have HN := Lib.hid (N1.out hpq)
            clear N1 N2 hpq
            as_aux_lemma =>
              go_wp2_with fail
              go_region_held3 (fun w' => w'.cell? ⟨G, 0, none⟩ = some (.int .i64 lo) ∧ w'.cell? ⟨G, 1, none⟩ = some (.int .i64 hi) ∧ w'.cell? ⟨b, off + k * 2, none⟩ = some (.int .i64 z.lo) ∧ w'.cell? ⟨b, off + k * 2 + 1, none⟩ = some (.int .i64 z.hi)) (first | ((repeat' apply And.intro) <;> assumption) | ((repeat' apply And.intro) <;> ((repeat (rw [World.cell?_setCell_other _ _ _ _ (by first | omega | (simp; done) | (simp; omega))])); assumption)) | go_keep) (first | ((go_at_call 6; refine (CM.out _).mono ?_; rintro e w3 ⟨rfl, hb3⟩; obtain ⟨hc3, hf3⟩ := bcell hb3; have hz3 := hb3.size; (try simp at hz3); (try have q3_0_0_0 : w.heap.size < w3.heap.size := by omega); (try have q3_0_0_2 : w.heap.size < w3.heap.size + 1 + 1 := by omega); (try have q3_0_0_3 : w.heap.size < w3.heap.size + 1 + 1 + 1 := by omega); (try have q3_0_1_0 : w.heap.size + 1 < w3.heap.size := by omega); (try have q3_0_1_2 : w.heap.size + 1 < w3.heap.size + 1 + 1 := by omega); (try have q3_0_1_3 : w.heap.size + 1 < w3.heap.size + 1 + 1 + 1 := by omega); (try have q3_0_2_0 : w.heap.size + 1 + 1 < w3.heap.size := by omega); (try have q3_0_2_2 : w.heap.size + 1 + 1 < w3.heap.size + 1 + 1 := by omega); (try have q3_0_2_3 : w.heap.size + 1 + 1 < w3.heap.size + 1 + 1 + 1 := by omega); (try have q3_0_3_0 : w.heap.size + 1 + 1 + 1 < w3.heap.size := by omega); (try have q3_0_3_2 : w.heap.size + 1 + 1 + 1 < w3.heap.size + 1 + 1 := by omega); (try have q3_0_3_3 : w.heap.size + 1 + 1 + 1 < w3.heap.size + 1 + 1 + 1 := by omega); (try have q3_1_0_0 : w1.heap.size < w3.heap.size := by omega); (try have q3_1_0_2 : w1.heap.size < w3.heap.size + 1 + 1 := by omega); (try have q3_1_1_0 : w1.heap.size + 1 < w3.heap.size := by omega); (try have q3_1_1_2 : w1.heap.size + 1 < w3.heap.size + 1 + 1 := by omega); (try have q3_2_0_0 : w2.heap.size < w3.heap.size := by omega); (try have q3_2_0_2 : w2.heap.size < w3.heap.size + 1 + 1 := by omega); (try have q3_2_1_0 : w2.heap.size + 1 < w3.heap.size := by omega); (try have q3_2_1_2 : w2.heap.size + 1 < w3.heap.size + 1 + 1 := by omega)); have lg3 : G < w3.heap.size := (by omega); have bG3 : Blk w3 G 25 #[.int .i64 lo, .int .i64 hi] := (by first | exact (bM.drew).below hb3 (by simp; exact lm) | exact ((bM.drew).alloc _).below hb3 (by simp; omega) | exact ((bM.alloc _).drew).below hb3 (by simp; omega)); have cg0 : w3.cell? ⟨G, 0, none⟩ = some (.int .i64 lo) := bG3.cell 0; have cg1 : w3.cell? ⟨G, 1, none⟩ = some (.int .i64 hi) := bG3.cell 1; have fg0 : w3.frozen? ⟨G, 0, none⟩ = false := bG3.fz 0; have fg1 : w3.frozen? ⟨G, 1, none⟩ = false := bG3.fz 1; have hB3 : Below w.heap.size w w3 := (by repeat (first | with_reducible exact Below.refl _ _ | (with_reducible refine Below.alloc ?_ (by first | omega | (simp; done) | (simp; omega)) _) | (with_reducible refine Below.setCell ?_ (by first | omega | (simp; done) | (simp; omega)) _) | (with_reducible refine Below.drew ?_) | (with_reducible refine below_drewN ?_ _) | (with_reducible assumption) | (with_reducible refine bel_step (by with_reducible assumption) ?_ (by first | omega | (simp; done) | (simp; omega))))); obtain ⟨cx0, cx1⟩ := HC.out w3 hB3 k z HZ.out; clear hB3; (try have lw3 : wr.heap.size < w3.heap.size := (by omega))))
              all_goals go_wp2_with fail
              all_goals
                go_roundw
                case rel => exact ⟨k + 1, 0, p, q, by go_num, rfl, HK.out.1, HK.out.2, HN.out, (by refine BlkG.start ?_; (repeat (first | ((with_reducible apply BlkG.done); (with_reducible assumption); exact rfl) | (with_reducible exact BlkG.newAt (by first | (with_reducible rfl) | omega | (simp; done) | (simp; omega)) rfl) | (with_reducible refine BlkG.drew ?_) | (with_reducible refine BlkG.drewN ?_) | (with_reducible refine BlkG.set ?_) | (with_reducible refine BlkG.far (by first | omega | (simp; done) | (simp; omega)) ?_) | (with_reducible refine BlkG.alloc ?_) | (with_reducible refine BlkG.bel (by with_reducible assumption) (by first | omega | (simp; done) | (simp; omega)) ?_)))), (by repeat (first | with_reducible exact Below.refl _ _ | (with_reducible refine Below.alloc ?_ (by first | omega | (simp; done) | (simp; omega)) _) | (with_reducible refine Below.setCell ?_ (by first | omega | (simp; done) | (simp; omega)) _) | (with_reducible refine Below.drew ?_) | (with_reducible refine below_drewN ?_ _) | (with_reducible assumption) | (with_reducible refine bel_step (by with_reducible assumption) ?_ (by first | omega | (simp; done) | (simp; omega)))))⟩
                case measure => go_light; simp [intOf]; omega
          · rw [show decide (p ≤ q) = false from decide_eq_false hpq] at CM
            have HN := Lib.hid (N2.out hpq)
            clear N1 N2 hpq
            as_aux_lemma =>
              go_wp2_with fail
              go_region_held3 (fun w' => w'.cell? ⟨G, 0, none⟩ = some (.int .i64 lo) ∧ w'.cell? ⟨G, 1, none⟩ = some (.int .i64 hi) ∧ w'.cell? ⟨b, off + k * 2, none⟩ = some (.int .i64 z.lo) ∧ w'.cell? ⟨b, off + k * 2 + 1, none⟩ = some (.int .i64 z.hi)) (first | ((repeat' apply And.intro) <;> assumption) | ((repeat' apply And.intro) <;> ((repeat (rw [World.cell?_setCell_other _ _ _ _ (by first | omega | (simp; done) | (simp; omega))])); assumption)) | go_keep) (first | ((go_at_call 6; refine (CM.out _).mono ?_; rintro e w3 ⟨rfl, hb3⟩; obtain ⟨hc3, hf3⟩ := bcell hb3; have hz3 := hb3.size; (try simp at hz3); (try have q3_0_0_0 : w.heap.size < w3.heap.size := by omega); (try have q3_0_0_2 : w.heap.size < w3.heap.size + 1 + 1 := by omega); (try have q3_0_0_3 : w.heap.size < w3.heap.size + 1 + 1 + 1 := by omega); (try have q3_0_1_0 : w.heap.size + 1 < w3.heap.size := by omega); (try have q3_0_1_2 : w.heap.size + 1 < w3.heap.size + 1 + 1 := by omega); (try have q3_0_1_3 : w.heap.size + 1 < w3.heap.size + 1 + 1 + 1 := by omega); (try have q3_0_2_0 : w.heap.size + 1 + 1 < w3.heap.size := by omega); (try have q3_0_2_2 : w.heap.size + 1 + 1 < w3.heap.size + 1 + 1 := by omega); (try have q3_0_2_3 : w.heap.size + 1 + 1 < w3.heap.size + 1 + 1 + 1 := by omega); (try have q3_0_3_0 : w.heap.size + 1 + 1 + 1 < w3.heap.size := by omega); (try have q3_0_3_2 : w.heap.size + 1 + 1 + 1 < w3.heap.size + 1 + 1 := by omega); (try have q3_0_3_3 : w.heap.size + 1 + 1 + 1 < w3.heap.size + 1 + 1 + 1 := by omega); (try have q3_1_0_0 : w1.heap.size < w3.heap.size := by omega); (try have q3_1_0_2 : w1.heap.size < w3.heap.size + 1 + 1 := by omega); (try have q3_1_1_0 : w1.heap.size + 1 < w3.heap.size := by omega); (try have q3_1_1_2 : w1.heap.size + 1 < w3.heap.size + 1 + 1 := by omega); (try have q3_2_0_0 : w2.heap.size < w3.heap.size := by omega); (try have q3_2_0_2 : w2.heap.size < w3.heap.size + 1 + 1 := by omega); (try have q3_2_1_0 : w2.heap.size + 1 < w3.heap.size := by omega); (try have q3_2_1_2 : w2.heap.size + 1 < w3.heap.size + 1 + 1 := by omega)); have lg3 : G < w3.heap.size := (by omega); have bG3 : Blk w3 G 25 #[.int .i64 lo, .int .i64 hi] := (by first | exact (bM.drew).below hb3 (by simp; exact lm) | exact ((bM.drew).alloc _).below hb3 (by simp; omega) | exact ((bM.alloc _).drew).below hb3 (by simp; omega)); have cg0 : w3.cell? ⟨G, 0, none⟩ = some (.int .i64 lo) := bG3.cell 0; have cg1 : w3.cell? ⟨G, 1, none⟩ = some (.int .i64 hi) := bG3.cell 1; have fg0 : w3.frozen? ⟨G, 0, none⟩ = false := bG3.fz 0; have fg1 : w3.frozen? ⟨G, 1, none⟩ = false := bG3.fz 1; have hB3 : Below w.heap.size w w3 := (by repeat (first | with_reducible exact Below.refl _ _ | (with_reducible refine Below.alloc ?_ (by first | omega | (simp; done) | (simp; omega)) _) | (with_reducible refine Below.setCell ?_ (by first | omega | (simp; done) | (simp; omega)) _) | (with_reducible refine Below.drew ?_) | (with_reducible refine below_drewN ?_ _) | (with_reducible assumption) | (with_reducible refine bel_step (by with_reducible assumption) ?_ (by first | omega | (simp; done) | (simp; omega))))); obtain ⟨cx0, cx1⟩ := HC.out w3 hB3 k z HZ.out; clear hB3; (try have lw3 : wr.heap.size < w3.heap.size := (by omega))))
              all_goals
                go_wp2_with fail
                go_roundw
                case rel => exact ⟨k + 1, 7, p, q, by go_num, rfl, HK.out.1, HK.out.2, HN.out, (by refine BlkG.start ?_; (repeat (first | ((with_reducible apply BlkG.done); (with_reducible assumption); exact rfl) | (with_reducible exact BlkG.newAt (by first | (with_reducible rfl) | omega | (simp; done) | (simp; omega)) rfl) | (with_reducible refine BlkG.drew ?_) | (with_reducible refine BlkG.drewN ?_) | (with_reducible refine BlkG.set ?_) | (with_reducible refine BlkG.far (by first | omega | (simp; done) | (simp; omega)) ?_) | (with_reducible refine BlkG.alloc ?_) | (with_reducible refine BlkG.bel (by with_reducible assumption) (by first | omega | (simp; done) | (simp; omega)) ?_)))), (by repeat (first | with_reducible exact Below.refl _ _ | (with_reducible refine Below.alloc ?_ (by first | omega | (simp; done) | (simp; omega)) _) | (with_reducible refine Below.setCell ?_ (by first | omega | (simp; done) | (simp; omega)) _) | (with_reducible refine Below.drew ?_) | (with_reducible refine below_drewN ?_ _) | (with_reducible assumption) | (with_reducible refine bel_step (by with_reducible assumption) ?_ (by first | omega | (simp; done) | (simp; omega)))))⟩
                case measure => go_light; simp [intOf]; omega
        · have HF := Lib.hid (show MeetF z0 k 0 lo hi from by
            rcases HI.out with h | ⟨h, _⟩
            · exact .inl h
            · cases h)
          as_aux_lemma =>
            go_wp2_with fail
            go_meet
            case rel => exact ⟨0, lo, hi, rfl, HF.out, bM, hB⟩
        · have H7 := Lib.hid (show MeetF z0 n0 7 0 0 from by
            rcases HI.out with ⟨h, _⟩ | h
            · cases h
            · exact .inr ⟨rfl, rfl, rfl, h.2⟩)
          rcases (by omega : k < n0 ∨ ¬ k < n0) with d1 | d1
          all_goals
            as_aux_lemma =>
              go_wp2_with fail
              go_meet
              case rel => exact ⟨7, 0, 0, rfl, H7.out, (by refine BlkG.start ?_; (repeat (first | ((with_reducible apply BlkG.done); (with_reducible assumption); exact rfl) | (with_reducible exact BlkG.newAt (by first | (with_reducible rfl) | omega | (simp; done) | (simp; omega)) rfl) | (with_reducible refine BlkG.drew ?_) | (with_reducible refine BlkG.drewN ?_) | (with_reducible refine BlkG.set ?_) | (with_reducible refine BlkG.far (by first | omega | (simp; done) | (simp; omega)) ?_) | (with_reducible refine BlkG.alloc ?_) | (with_reducible refine BlkG.bel (by with_reducible assumption) (by first | omega | (simp; done) | (simp; omega)) ?_)))), (by repeat (first | with_reducible exact Below.refl _ _ | (with_reducible refine Below.alloc ?_ (by first | omega | (simp; done) | (simp; omega)) _) | (with_reducible refine Below.setCell ?_ (by first | omega | (simp; done) | (simp; omega)) _) | (with_reducible refine Below.drew ?_) | (with_reducible refine below_drewN ?_ _) | (with_reducible assumption) | (with_reducible refine bel_step (by with_reducible assumption) ?_ (by first | omega | (simp; done) | (simp; omega)))))⟩
  case rest =>
    obtain ⟨f1, lo1, hi1, rfl, hF, bM2, hB2⟩ := hcut
    obtain ⟨w2, hw2⟩ : ∃ w2 : World, w2 = wc := ⟨_, rfl⟩
    rw [← hw2] at bM2 hB2 ⊢
    clear bM HB0 lG x0 x1 lb1 cm0 cm1 fm0 fm1 hw2
    have HB2 : Below w.heap.size w w2 := hB2
    have HZ2 := HB2.size
    have agm : w.heap.size ≤ G := HZ1
    have bm2 : Blk w2 G 25 #[.int .i64 lo1, .int .i64 hi1] := bM2
    have cm2_0 : w2.cell? ⟨G, 0, none⟩ = some (.int .i64 lo1) := bm2.cell 0
    have fm2_0 : w2.frozen? ⟨G, 0, none⟩ = false := bm2.fz 0
    have cm2_1 : w2.cell? ⟨G, 1, none⟩ = some (.int .i64 hi1) := bm2.cell 1
    have fm2_1 : w2.frozen? ⟨G, 1, none⟩ = false := bm2.fz 1
    have lm2 := bm2.lt
    have CM1 := Lib.hid (fun w' hb => (C1.out w' hb).mono (R' := fun e w'' => e = .returned (.tuple #[.agg #[.int .i64 lo1, .int .i64 hi1], errV f1]) ∧ Below w'.heap.size w' w'') fun e w'' ⟨h, hb⟩ => by
      refine ⟨?_, hb⟩
      rcases hF with ⟨rfl, rfl, rfl, g⟩ | ⟨rfl, rfl, rfl, g⟩ <;> rcases h with ⟨lo, hi, rfl, rfl, g2, rfl⟩ | ⟨g2, rfl⟩ <;> first | rfl | (exfalso; omega))
    have CE0 := Lib.hid (fun w' hb => show Calls Tryd.prog 8 #[.nilIface, .int .i64 0] w' fun e w'' => e = .returned (.bool true) ∧ Below w'.heap.size w' w'' from CE.out 0 w' hb)
    clear bM2 hB2 hF C1
    go_wp2_with fail
    refine (CM1.out _ (by repeat (first | with_reducible exact Below.refl _ _ | (with_reducible refine Below.alloc ?_ (by first | omega | (simp; done) | (simp; omega)) _) | (with_reducible refine Below.setCell ?_ (by first | omega | (simp; done) | (simp; omega)) _) | (with_reducible refine Below.drew ?_) | (with_reducible refine below_drewN ?_ _) | (with_reducible assumption) | (with_reducible refine bel_step (by with_reducible assumption) ?_ (by first | omega | (simp; done) | (simp; omega)))))).mono ?_
    rintro e w3 ⟨rfl, hb3⟩
    have hz3 := hb3.size
    (try simp at hz3)
    have bm3 : Blk w3 (G) 25 #[.int .i64 lo1, .int .i64 hi1] := (by refine BlkG.start ?_; (repeat (first | ((with_reducible apply BlkG.done); (with_reducible assumption); exact rfl) | (with_reducible exact BlkG.newAt (by first | (with_reducible rfl) | omega | (simp; done) | (simp; omega)) rfl) | (with_reducible refine BlkG.drew ?_) | (with_reducible refine BlkG.drewN ?_) | (with_reducible refine BlkG.set ?_) | (with_reducible refine BlkG.far (by first | omega | (simp; done) | (simp; omega)) ?_) | (with_reducible refine BlkG.alloc ?_) | (with_reducible refine BlkG.bel (by with_reducible assumption) (by first | omega | (simp; done) | (simp; omega)) ?_))))
    have cm3_0 : w3.cell? ⟨G, 0, none⟩ = some (.int .i64 lo1) := bm3.cell 0
    have fm3_0 : w3.frozen? ⟨G, 0, none⟩ = false := bm3.fz 0
    have cm3_1 : w3.cell? ⟨G, 1, none⟩ = some (.int .i64 hi1) := bm3.cell 1
    have fm3_1 : w3.frozen? ⟨G, 1, none⟩ = false := bm3.fz 1
    have lm3 : G < w3.heap.size := bm3.lt
    have HB3 : Below w.heap.size w w3 := (by repeat (first | with_reducible exact Below.refl _ _ | (with_reducible refine Below.alloc ?_ (by first | omega | (simp; done) | (simp; omega)) _) | (with_reducible refine Below.setCell ?_ (by first | omega | (simp; done) | (simp; omega)) _) | (with_reducible refine Below.drew ?_) | (with_reducible refine below_drewN ?_ _) | (with_reducible assumption) | (with_reducible refine bel_step (by with_reducible assumption) ?_ (by first | omega | (simp; done) | (simp; omega)))))
    have HZ3 := HB3.size
    clear hb3 hz3 HB2 HZ2 bm2 lm2 cm2_0 fm2_0 cm2_1 fm2_1 
    go_wp2_with fail
    refine (CE.out f1 _ (by repeat (first | with_reducible exact Below.refl _ _ | (with_reducible refine Below.alloc ?_ (by first | omega | (simp; done) | (simp; omega)) _) | (with_reducible refine Below.setCell ?_ (by first | omega | (simp; done) | (simp; omega)) _) | (with_reducible refine Below.drew ?_) | (with_reducible refine below_drewN ?_ _) | (with_reducible assumption) | (with_reducible refine bel_step (by with_reducible assumption) ?_ (by first | omega | (simp; done) | (simp; omega)))))).mono ?_
    rintro e w4 ⟨rfl, hb4⟩
    have hz4 := hb4.size
    (try simp at hz4)
    have agx : w.heap.size ≤ w3.heap.size := by (try simp); omega
    have oxm : G < w3.heap.size := by (try simp); omega
    have bm4 : Blk w4 (G) 25 #[.int .i64 lo1, .int .i64 hi1] := (by refine BlkG.start ?_; (repeat (first | ((with_reducible apply BlkG.done); (with_reducible assumption); exact rfl) | (with_reducible exact BlkG.newAt (by first | (with_reducible rfl) | omega | (simp; done) | (simp; omega)) rfl) | (with_reducible refine BlkG.drew ?_) | (with_reducible refine BlkG.drewN ?_) | (with_reducible refine BlkG.set ?_) | (with_reducible refine BlkG.far (by first | omega | (simp; done) | (simp; omega)) ?_) | (with_reducible refine BlkG.alloc ?_) | (with_reducible refine BlkG.bel (by with_reducible assumption) (by first | omega | (simp; done) | (simp; omega)) ?_))))
    have cm4_0 : w4.cell? ⟨G, 0, none⟩ = some (.int .i64 lo1) := bm4.cell 0
    have fm4_0 : w4.frozen? ⟨G, 0, none⟩ = false := bm4.fz 0
    have cm4_1 : w4.cell? ⟨G, 1, none⟩ = some (.int .i64 hi1) := bm4.cell 1
    have fm4_1 : w4.frozen? ⟨G, 1, none⟩ = false := bm4.fz 1
    have lm4 : G < w4.heap.size := bm4.lt
    have bx4 : Blk w4 (w3.heap.size) 25 #[.int .i64 lo1, .int .i64 hi1] := (by refine BlkG.start ?_; (repeat (first | ((with_reducible apply BlkG.done); (with_reducible assumption); exact rfl) | (with_reducible exact BlkG.newAt (by first | (with_reducible rfl) | omega | (simp; done) | (simp; omega)) rfl) | (with_reducible refine BlkG.drew ?_) | (with_reducible refine BlkG.drewN ?_) | (with_reducible refine BlkG.set ?_) | (with_reducible refine BlkG.far (by first | omega | (simp; done) | (simp; omega)) ?_) | (with_reducible refine BlkG.alloc ?_) | (with_reducible refine BlkG.bel (by with_reducible assumption) (by first | omega | (simp; done) | (simp; omega)) ?_))))
    have cx4_0 : w4.cell? ⟨w3.heap.size, 0, none⟩ = some (.int .i64 lo1) := bx4.cell 0
    have fx4_0 : w4.frozen? ⟨w3.heap.size, 0, none⟩ = false := bx4.fz 0
    have cx4_1 : w4.cell? ⟨w3.heap.size, 1, none⟩ = some (.int .i64 hi1) := bx4.cell 1
    have fx4_1 : w4.frozen? ⟨w3.heap.size, 1, none⟩ = false := bx4.fz 1
    have lx4 : w3.heap.size < w4.heap.size := bx4.lt
    have HB4 : Below w.heap.size w w4 := (by repeat (first | with_reducible exact Below.refl _ _ | (with_reducible refine Below.alloc ?_ (by first | omega | (simp; done) | (simp; omega)) _) | (with_reducible refine Below.setCell ?_ (by first | omega | (simp; done) | (simp; omega)) _) | (with_reducible refine Below.drew ?_) | (with_reducible refine below_drewN ?_ _) | (with_reducible assumption) | (with_reducible refine bel_step (by with_reducible assumption) ?_ (by first | omega | (simp; done) | (simp; omega)))))
    have HZ4 := HB4.size
    clear hb4 hz4 HB3 HZ3 bm3 lm3 cm3_0 fm3_0 cm3_1 fm3_1 
    go_wp2_with fail
    refine (CR.out _ (by repeat (first | with_reducible exact Below.refl _ _ | (with_reducible refine Below.alloc ?_ (by first | omega | (simp; done) | (simp; omega)) _) | (with_reducible refine Below.setCell ?_ (by first | omega | (simp; done) | (simp; omega)) _) | (with_reducible refine Below.drew ?_) | (with_reducible refine below_drewN ?_ _) | (with_reducible assumption) | (with_reducible refine bel_step (by with_reducible assumption) ?_ (by first | omega | (simp; done) | (simp; omega)))))).mono ?_
    rintro e w5 ⟨lo, hi, top, rfl, hm, hb5⟩
    have hz5 := hb5.size
    (try simp at hz5)
    have agt : w.heap.size ≤ w4.heap.size := by (try simp); omega
    have otx : w3.heap.size < w4.heap.size := by (try simp); omega
    have bx5 : Blk w5 (w3.heap.size) 25 #[.int .i64 lo1, .int .i64 hi1] := (by refine BlkG.start ?_; (repeat (first | ((with_reducible apply BlkG.done); (with_reducible assumption); exact rfl) | (with_reducible exact BlkG.newAt (by first | (with_reducible rfl) | omega | (simp; done) | (simp; omega)) rfl) | (with_reducible refine BlkG.drew ?_) | (with_reducible refine BlkG.drewN ?_) | (with_reducible refine BlkG.set ?_) | (with_reducible refine BlkG.far (by first | omega | (simp; done) | (simp; omega)) ?_) | (with_reducible refine BlkG.alloc ?_) | (with_reducible refine BlkG.bel (by with_reducible assumption) (by first | omega | (simp; done) | (simp; omega)) ?_))))
    have cx5_0 : w5.cell? ⟨w3.heap.size, 0, none⟩ = some (.int .i64 lo1) := bx5.cell 0
    have fx5_0 : w5.frozen? ⟨w3.heap.size, 0, none⟩ = false := bx5.fz 0
    have cx5_1 : w5.cell? ⟨w3.heap.size, 1, none⟩ = some (.int .i64 hi1) := bx5.cell 1
    have fx5_1 : w5.frozen? ⟨w3.heap.size, 1, none⟩ = false := bx5.fz 1
    have lx5 : w3.heap.size < w5.heap.size := bx5.lt
    have bt5 : Blk w5 (w4.heap.size) 25 #[.int .i64 0, .int .i64 0] := (by refine BlkG.start ?_; (repeat (first | ((with_reducible apply BlkG.done); (with_reducible assumption); exact rfl) | (with_reducible exact BlkG.newAt (by first | (with_reducible rfl) | omega | (simp; done) | (simp; omega)) rfl) | (with_reducible refine BlkG.drew ?_) | (with_reducible refine BlkG.drewN ?_) | (with_reducible refine BlkG.set ?_) | (with_reducible refine BlkG.far (by first | omega | (simp; done) | (simp; omega)) ?_) | (with_reducible refine BlkG.alloc ?_) | (with_reducible refine BlkG.bel (by with_reducible assumption) (by first | omega | (simp; done) | (simp; omega)) ?_))))
    have ct5_0 : w5.cell? ⟨w4.heap.size, 0, none⟩ = some (.int .i64 0) := bt5.cell 0
    have ft5_0 : w5.frozen? ⟨w4.heap.size, 0, none⟩ = false := bt5.fz 0
    have ct5_1 : w5.cell? ⟨w4.heap.size, 1, none⟩ = some (.int .i64 0) := bt5.cell 1
    have ft5_1 : w5.frozen? ⟨w4.heap.size, 1, none⟩ = false := bt5.fz 1
    have lt5 : w4.heap.size < w5.heap.size := bt5.lt
    have HB5 : Below w.heap.size w w5 := (by repeat (first | with_reducible exact Below.refl _ _ | (with_reducible refine Below.alloc ?_ (by first | omega | (simp; done) | (simp; omega)) _) | (with_reducible refine Below.setCell ?_ (by first | omega | (simp; done) | (simp; omega)) _) | (with_reducible refine Below.drew ?_) | (with_reducible refine below_drewN ?_ _) | (with_reducible assumption) | (with_reducible refine bel_step (by with_reducible assumption) ?_ (by first | omega | (simp; done) | (simp; omega)))))
    have HZ5 := HB5.size
    clear hb5 hz5 HB4 HZ4 bx4 lx4 cx4_0 fx4_0 cx4_1 fx4_1 
    have HM := Lib.hid hm
    clear hm CR CM1 CS
    have C2m := Lib.hid (fun w' hb => (C2.out w' hb).mono (R' := fun e w'' => e = .returned (.tuple #[.agg #[.int .i64 lo, .int .i64 hi], .int .i64 top, .nilIface]) ∧ Below w'.heap.size w' w'') fun e w'' ⟨es, lo', hi', top', he, hp, hs, hm, hb⟩ => by
      have h2 : IsMost z0 lo' hi' top' := most_is hp hs P3.out (by rw [L1.out]; exact p2) (by rw [hp.length_eq, edgesL_len, L1.out]; exact hm)
      obtain ⟨rfl, rfl, rfl⟩ := HM.out.uniq h2
      exact ⟨he, hb⟩)
    have C3m := Lib.hid (fun w' hb => (C3.out w' hb).mono (R' := fun e w'' => ∃ (B : Option Addr) (m d : Nat), e = .returned (.tuple #[.slice B m d, .nilIface]) ∧ IsInts w'' B m d (liarsL lo hi z0 n0) ∧ Below w'.heap.size w' w'') fun e w'' ⟨lo', hi', top', B, m, d, he, hm, hI, hb⟩ => by
      obtain ⟨rfl, rfl, rfl⟩ := HM.out.uniq hm
      exact ⟨B, m, d, he, hI, hb⟩)
    obtain ⟨X, hX⟩ : ∃ X, w3.heap.size = X := ⟨_, rfl⟩
    obtain ⟨T, hT⟩ : ∃ T, w4.heap.size = T := ⟨_, rfl⟩
    rw [hX] at bx5 cx5_0 cx5_1 fx5_0 fx5_1 lx5 otx agx ⊢
    rw [hT] at bt5 ct5_0 ct5_1 ft5_0 ft5_1 lt5 otx agt ⊢
    clear C2 C3 hX hT HM
    go_wp2_with fail
    go_loopw [16, 17] (fun ov kv wr => ∃ (k : Nat) (ys : List Int), kv = .int .i64 k ∧ k ≤ n0 ∧ ys = liarsL lo hi z0 k ∧ wr.ownsRow (T + 1) 3 1 ov ys.length (ys.flatMap intCells) ∧ Blk wr T 25 #[.int .i64 lo, .int .i64 hi] ∧ Blk wr X 25 #[.int .i64 lo1, .int .i64 hi1] ∧ Below w.heap.size w wr) (fun _ kv _ => n0 - (intOf kv).toNat)
    case atStart => exact ⟨0, [], rfl, by omega, rfl, own_nil _ _ _ _, (by refine BlkG.start ?_; (repeat (first | ((with_reducible apply BlkG.done); (with_reducible assumption); exact rfl) | (with_reducible exact BlkG.newAt (by first | (with_reducible rfl) | omega | (simp; done) | (simp; omega)) rfl) | (with_reducible refine BlkG.drew ?_) | (with_reducible refine BlkG.drewN ?_) | (with_reducible refine BlkG.set ?_) | (with_reducible refine BlkG.far (by first | omega | (simp; done) | (simp; omega)) ?_) | (with_reducible refine BlkG.alloc ?_) | (with_reducible refine BlkG.bel (by with_reducible assumption) (by first | omega | (simp; done) | (simp; omega)) ?_)))), (by refine BlkG.start ?_; (repeat (first | ((with_reducible apply BlkG.done); (with_reducible assumption); exact rfl) | (with_reducible exact BlkG.newAt (by first | (with_reducible rfl) | omega | (simp; done) | (simp; omega)) rfl) | (with_reducible refine BlkG.drew ?_) | (with_reducible refine BlkG.drewN ?_) | (with_reducible refine BlkG.set ?_) | (with_reducible refine BlkG.far (by first | omega | (simp; done) | (simp; omega)) ?_) | (with_reducible refine BlkG.alloc ?_) | (with_reducible refine BlkG.bel (by with_reducible assumption) (by first | omega | (simp; done) | (simp; omega)) ?_)))), (by repeat (first | with_reducible exact Below.refl _ _ | (with_reducible refine Below.alloc ?_ (by first | omega | (simp; done) | (simp; omega)) _) | (with_reducible refine Below.setCell ?_ (by first | omega | (simp; done) | (simp; omega)) _) | (with_reducible refine Below.drew ?_) | (with_reducible refine below_drewN ?_ _) | (with_reducible assumption) | (with_reducible refine bel_step (by with_reducible assumption) ?_ (by first | omega | (simp; done) | (simp; omega)))))⟩
    case round =>
      obtain ⟨k, ys, rfl, hk, hys, ho, btr, bxr, HBr⟩ := hrel
      have HO := Lib.hid ho
      have HY := Lib.hid hys
      have hlen : ys.length ≤ k := by rw [hys]; exact (liarsL_ok lo hi z0 k).1
      have HZr := HBr.size
      have ctr_0 : wr.cell? ⟨T, 0, none⟩ = some (.int .i64 lo) := btr.cell 0
      have ftr_0 : wr.frozen? ⟨T, 0, none⟩ = false := btr.fz 0
      have ctr_1 : wr.cell? ⟨T, 1, none⟩ = some (.int .i64 hi) := btr.cell 1
      have ftr_1 : wr.frozen? ⟨T, 1, none⟩ = false := btr.fz 1
      have ltr := btr.lt
      have cxr_0 : wr.cell? ⟨X, 0, none⟩ = some (.int .i64 lo1) := bxr.cell 0
      have fxr_0 : wr.frozen? ⟨X, 0, none⟩ = false := bxr.fz 0
      have cxr_1 : wr.cell? ⟨X, 1, none⟩ = some (.int .i64 hi1) := bxr.cell 1
      have fxr_1 : wr.frozen? ⟨X, 1, none⟩ = false := bxr.fz 1
      have lxr := bxr.lt
      clear ho hys bt5 ct5_0 ct5_1 ft5_0 ft5_1 bx5 cx5_0 cx5_1 fx5_0 fx5_1 HB5 lx5
      by_cases d1 : k < n0
      · obtain ⟨z, hz⟩ : ∃ z, z0[k]? = some z := ⟨_, List.getElem?_eq_getElem (by rw [L1.out]; omega)⟩
        obtain ⟨x0, x1⟩ := HC.out wr HBr k z hz
        have HZ := Lib.hid hz
        have hD : z0.getD k default = z := by rw [List.getD_eq_getElem?_getD, hz]; rfl
        have CM := Lib.hid (fun W' => r1_Meet lo hi z.lo z.hi W')
        have HS := Lib.hid (show liarsL lo hi z0 (k + 1) = if commonB lo hi z.lo z.hi = true then liarsL lo hi z0 k else liarsL lo hi z0 k ++ [(k : Int)] from by
          show (if commonB lo hi (z0.getD k default).lo (z0.getD k default).hi = true then liarsL lo hi z0 k else liarsL lo hi z0 k ++ [(k : Int)]) = _
          rw [hD])
        have q0 : (0 : Int) ≤ (k : Int) := by omega
        have q1 : (k : Int) < (n0 : Int) := by omega
        have lbr : b < wr.heap.size := by omega
        obtain ⟨q, hq⟩ : ∃ q, commonB lo hi z.lo z.hi = q := ⟨_, rfl⟩
        rw [hq] at CM HS
        clear hz hD hq
        go_upto_region 25 with (fail)
        obtain ⟨wo, rfl⟩ : ∃ wo : World, wo = wr := ⟨_, rfl⟩
        go_cut [19] (fun s wx => s = .bool q ∧ wx.ownsRow (T + 1) 3 1 _ ys.length (ys.flatMap intCells) ∧ Blk wx T 25 #[.int .i64 lo, .int .i64 hi] ∧ Blk wx X 25 #[.int .i64 lo1, .int .i64 hi1] ∧ Below w.heap.size w wx)
        case first =>
          as_aux_lemma =>
            go_region_held3 (fun w' => w'.cell? ⟨T, 0, none⟩ = some (.int .i64 lo) ∧ w'.cell? ⟨T, 1, none⟩ = some (.int .i64 hi) ∧ w'.cell? ⟨b, off + k * 2, none⟩ = some (.int .i64 z.lo) ∧ w'.cell? ⟨b, off + k * 2 + 1, none⟩ = some (.int .i64 z.hi)) (first | ((repeat' apply And.intro) <;> assumption) | ((repeat' apply And.intro) <;> ((repeat (rw [World.cell?_setCell_other _ _ _ _ (by first | omega | (simp; done) | (simp; omega))])); assumption)) | go_keep) (first | ((go_at_call 6; refine (CM.out _).mono ?_; rintro e w3 ⟨rfl, hb3⟩; obtain ⟨hc3, hf3⟩ := bcell hb3; have hz3 := hb3.size; (try simp at hz3); (try have q3_0_0_0 : w.heap.size < w3.heap.size := by omega); (try have q3_0_0_2 : w.heap.size < w3.heap.size + 1 + 1 := by omega); (try have q3_0_0_3 : w.heap.size < w3.heap.size + 1 + 1 + 1 := by omega); (try have q3_0_1_0 : w.heap.size + 1 < w3.heap.size := by omega); (try have q3_0_1_2 : w.heap.size + 1 < w3.heap.size + 1 + 1 := by omega); (try have q3_0_1_3 : w.heap.size + 1 < w3.heap.size + 1 + 1 + 1 := by omega); (try have q3_0_2_0 : w.heap.size + 1 + 1 < w3.heap.size := by omega); (try have q3_0_2_2 : w.heap.size + 1 + 1 < w3.heap.size + 1 + 1 := by omega); (try have q3_0_2_3 : w.heap.size + 1 + 1 < w3.heap.size + 1 + 1 + 1 := by omega); (try have q3_0_3_0 : w.heap.size + 1 + 1 + 1 < w3.heap.size := by omega); (try have q3_0_3_2 : w.heap.size + 1 + 1 + 1 < w3.heap.size + 1 + 1 := by omega); (try have q3_0_3_3 : w.heap.size + 1 + 1 + 1 < w3.heap.size + 1 + 1 + 1 := by omega); (try have q3_1_0_0 : w1.heap.size < w3.heap.size := by omega); (try have q3_1_0_2 : w1.heap.size < w3.heap.size + 1 + 1 := by omega); (try have q3_1_1_0 : w1.heap.size + 1 < w3.heap.size := by omega); (try have q3_1_1_2 : w1.heap.size + 1 < w3.heap.size + 1 + 1 := by omega); (try have q3_2_0_0 : w2.heap.size < w3.heap.size := by omega); (try have q3_2_0_2 : w2.heap.size < w3.heap.size + 1 + 1 := by omega); (try have q3_2_1_0 : w2.heap.size + 1 < w3.heap.size := by omega); (try have q3_2_1_2 : w2.heap.size + 1 < w3.heap.size + 1 + 1 := by omega)); have bG3 : Blk w3 T 25 #[.int .i64 lo, .int .i64 hi] := (by first | exact (btr.drew).below hb3 (by simp; exact ltr) | exact ((btr.drew).alloc _).below hb3 (by simp; omega) | exact ((btr.alloc _).drew).below hb3 (by simp; omega)); have cg0 : w3.cell? ⟨T, 0, none⟩ = some (.int .i64 lo) := bG3.cell 0; have cg1 : w3.cell? ⟨T, 1, none⟩ = some (.int .i64 hi) := bG3.cell 1; have hB3 : Below w.heap.size w w3 := (by repeat (first | with_reducible exact Below.refl _ _ | (with_reducible refine Below.alloc ?_ (by first | omega | (simp; done) | (simp; omega)) _) | (with_reducible refine Below.setCell ?_ (by first | omega | (simp; done) | (simp; omega)) _) | (with_reducible refine Below.drew ?_) | (with_reducible refine below_drewN ?_ _) | (with_reducible assumption) | (with_reducible refine bel_step (by with_reducible assumption) ?_ (by first | omega | (simp; done) | (simp; omega))))); obtain ⟨cx0, cx1⟩ := HC.out w3 hB3 k z HZ.out; clear hB3))
            all_goals
              go_wp2_with fail
              go_meet
              case rel => exact ⟨rfl, own_below HO.out (by repeat (first | with_reducible exact Below.refl _ _ | (with_reducible refine Below.alloc ?_ (by first | omega | (simp; done) | (simp; omega)) _) | (with_reducible refine Below.setCell ?_ (by first | omega | (simp; done) | (simp; omega)) _) | (with_reducible refine Below.drew ?_) | (with_reducible refine below_drewN ?_ _) | (with_reducible assumption) | (with_reducible refine bel_step (by with_reducible assumption) ?_ (by first | omega | (simp; done) | (simp; omega))))), (by refine BlkG.start ?_; (repeat (first | ((with_reducible apply BlkG.done); (with_reducible assumption); exact rfl) | (with_reducible exact BlkG.newAt (by first | (with_reducible rfl) | omega | (simp; done) | (simp; omega)) rfl) | (with_reducible refine BlkG.drew ?_) | (with_reducible refine BlkG.drewN ?_) | (with_reducible refine BlkG.set ?_) | (with_reducible refine BlkG.far (by first | omega | (simp; done) | (simp; omega)) ?_) | (with_reducible refine BlkG.alloc ?_) | (with_reducible refine BlkG.bel (by with_reducible assumption) (by first | omega | (simp; done) | (simp; omega)) ?_)))), (by refine BlkG.start ?_; (repeat (first | ((with_reducible apply BlkG.done); (with_reducible assumption); exact rfl) | (with_reducible exact BlkG.newAt (by first | (with_reducible rfl) | omega | (simp; done) | (simp; omega)) rfl) | (with_reducible refine BlkG.drew ?_) | (with_reducible refine BlkG.drewN ?_) | (with_reducible refine BlkG.set ?_) | (with_reducible refine BlkG.far (by first | omega | (simp; done) | (simp; omega)) ?_) | (with_reducible refine BlkG.alloc ?_) | (with_reducible refine BlkG.bel (by with_reducible assumption) (by first | omega | (simp; done) | (simp; omega)) ?_)))), (by repeat (first | with_reducible exact Below.refl _ _ | (with_reducible refine Below.alloc ?_ (by first | omega | (simp; done) | (simp; omega)) _) | (with_reducible refine Below.setCell ?_ (by first | omega | (simp; done) | (simp; omega)) _) | (with_reducible refine Below.drew ?_) | (with_reducible refine below_drewN ?_ _) | (with_reducible assumption) | (with_reducible refine bel_step (by with_reducible assumption) ?_ (by first | omega | (simp; done) | (simp; omega)))))⟩
        case rest =>
          obtain ⟨rfl, ho6, bt6, bx6, HB6⟩ := hcut
          obtain ⟨w6, rfl⟩ : ∃ w6 : World, w6 = wc := ⟨_, rfl⟩
          have HO6 := Lib.hid ho6
          have hz6 := HB6.size
          have hlt6 := bt6.lt
          clear ho6 HO btr ctr_0 ftr_0 ctr_1 ftr_1 ltr bxr cxr_0 fxr_0 cxr_1 fxr_1 lxr HBr HZr x0 x1 lbr
          cases q
          · have HS := Lib.hid (show liarsL lo hi z0 (k + 1) = liarsL lo hi z0 k ++ [(k : Int)] from HS.out)
            as_aux_lemma =>
              go_wp2_with (at_builtin; refine wpList_append_own _ rfl _ _ 33 rfl (T + 1) 3 i0 (.int .i64 0) 1 8 Tryd.underlying33 hi0 hz0 hz1 hz2 rfl (by decide) _ _ _ rfl (HO6.out.alloc _) ⟨w6.heap.size, 0, none⟩ 1 1 _ rfl rfl (cell_newAt w6 (intCells (k : Int)) _ _ rfl) (int_one _) (by unfold maxLen; omega) (by omega) (by simp; omega) ?_; intro v' w7 ho7 hg7 _)
              have HB7 : Below w.heap.size w w7 := (HB6.alloc (by omega) _).grown hg7 (by simp; omega) (fun q hq => by have := (HO6.out.lt q hq).1; omega)
              have HO7 := Lib.hid (own_snoc intCells (z := (k : Int)) ho7)
              have BT7 := Lib.hid ((bt6.alloc _).grown hg7 (fun hq => by have := (HO6.out.lt T hq.symm).1; omega))
              have BX7 := Lib.hid ((bx6.alloc _).grown hg7 (fun hq => by have := (HO6.out.lt X hq.symm).1; omega))
              clear ho7 hg7
              go_wp2_with fail
              go_roundw
              case rel => exact ⟨k + 1, ys ++ [(k : Int)], by go_num, by omega, by rw [HS.out, HY.out], HO7.out, BT7.out, BX7.out, HB7⟩
              case measure => go_light; simp [intOf]; omega
          · have HS := Lib.hid (show liarsL lo hi z0 (k + 1) = liarsL lo hi z0 k from HS.out)
            as_aux_lemma =>
              go_wp2_with fail
              go_roundw
              case rel => exact ⟨k + 1, ys, by go_num, by omega, by rw [HS.out, HY.out], HO6.out, bt6, bx6, HB6⟩
              case measure => go_light; simp [intOf]; omega
      · obtain rfl : k = n0 := by omega
        have hy : ys = liarsL lo hi z0 k := HY.out
        subst hy
        obtain ⟨B1, m1, d1', rfl, hI⟩ := own_recs intCells i64B 1 (fun _ => rfl) HO.out (fun x hx => by have := (liarsL_ok lo hi z0 k).2 x hx; unfold i64B; omega)
        obtain ⟨L, hL⟩ : ∃ L, liarsL lo hi z0 k = L := ⟨_, rfl⟩
        have HOr : wr.ownsRow (T + 1) 3 1 (.slice B1 m1 d1') L.length (L.flatMap intCells) := by rw [← hL]; exact HO.out
        have HLk := Lib.hid (show ∀ x ∈ L, i64B x from fun x hx => by rw [← hL] at hx; have := (liarsL_ok lo hi z0 k).2 x hx; unfold i64B; omega)
        rw [hL] at C3m
        clear HO hI hlen d1 hL HY
        go_wp2_with fail
        refine (C2m.out _ (by repeat (first | with_reducible exact Below.refl _ _ | (with_reducible refine Below.alloc ?_ (by first | omega | (simp; done) | (simp; omega)) _) | (with_reducible refine Below.setCell ?_ (by first | omega | (simp; done) | (simp; omega)) _) | (with_reducible refine Below.drew ?_) | (with_reducible refine below_drewN ?_ _) | (with_reducible assumption) | (with_reducible refine bel_step (by with_reducible assumption) ?_ (by first | omega | (simp; done) | (simp; omega)))))).mono ?_
        rintro e w8 ⟨rfl, hb8⟩
        have hz8 := hb8.size
        (try simp at hz8)
        have bx8 : Blk w8 (X) 25 #[.int .i64 lo1, .int .i64 hi1] := (by refine BlkG.start ?_; (repeat (first | ((with_reducible apply BlkG.done); (with_reducible assumption); exact rfl) | (with_reducible exact BlkG.newAt (by first | (with_reducible rfl) | omega | (simp; done) | (simp; omega)) rfl) | (with_reducible refine BlkG.drew ?_) | (with_reducible refine BlkG.drewN ?_) | (with_reducible refine BlkG.set ?_) | (with_reducible refine BlkG.far (by first | omega | (simp; done) | (simp; omega)) ?_) | (with_reducible refine BlkG.alloc ?_) | (with_reducible refine BlkG.bel (by with_reducible assumption) (by first | omega | (simp; done) | (simp; omega)) ?_))))
        have cx8_0 : w8.cell? ⟨X, 0, none⟩ = some (.int .i64 lo1) := bx8.cell 0
        have fx8_0 : w8.frozen? ⟨X, 0, none⟩ = false := bx8.fz 0
        have cx8_1 : w8.cell? ⟨X, 1, none⟩ = some (.int .i64 hi1) := bx8.cell 1
        have fx8_1 : w8.frozen? ⟨X, 1, none⟩ = false := bx8.fz 1
        have lx8 : X < w8.heap.size := bx8.lt
        have bt8 : Blk w8 (T) 25 #[.int .i64 lo, .int .i64 hi] := (by refine BlkG.start ?_; (repeat (first | ((with_reducible apply BlkG.done); (with_reducible assumption); exact rfl) | (with_reducible exact BlkG.newAt (by first | (with_reducible rfl) | omega | (simp; done) | (simp; omega)) rfl) | (with_reducible refine BlkG.drew ?_) | (with_reducible refine BlkG.drewN ?_) | (with_reducible refine BlkG.set ?_) | (with_reducible refine BlkG.far (by first | omega | (simp; done) | (simp; omega)) ?_) | (with_reducible refine BlkG.alloc ?_) | (with_reducible refine BlkG.bel (by with_reducible assumption) (by first | omega | (simp; done) | (simp; omega)) ?_))))
        have ct8_0 : w8.cell? ⟨T, 0, none⟩ = some (.int .i64 lo) := bt8.cell 0
        have ft8_0 : w8.frozen? ⟨T, 0, none⟩ = false := bt8.fz 0
        have ct8_1 : w8.cell? ⟨T, 1, none⟩ = some (.int .i64 hi) := bt8.cell 1
        have ft8_1 : w8.frozen? ⟨T, 1, none⟩ = false := bt8.fz 1
        have lt8 : T < w8.heap.size := bt8.lt
        have HO8 : w8.ownsRow (T + 1) 3 1 (.slice B1 m1 d1') L.length (L.flatMap intCells) := (by repeat (first | with_reducible exact HOr | (with_reducible refine own_drewN ?_ _) | (with_reducible refine own_set ?_ (by first | omega | (simp; omega)) _) | (with_reducible refine World.ownsRow.alloc ?_ _) | (with_reducible refine own_below ?_ (by with_reducible assumption))))
        have HB8 : Below w.heap.size w w8 := (by repeat (first | with_reducible exact Below.refl _ _ | (with_reducible refine Below.alloc ?_ (by first | omega | (simp; done) | (simp; omega)) _) | (with_reducible refine Below.setCell ?_ (by first | omega | (simp; done) | (simp; omega)) _) | (with_reducible refine Below.drew ?_) | (with_reducible refine below_drewN ?_ _) | (with_reducible assumption) | (with_reducible refine bel_step (by with_reducible assumption) ?_ (by first | omega | (simp; done) | (simp; omega)))))
        have HZ8 := HB8.size
        clear hb8 hz8 HBr HZr bxr lxr cxr_0 fxr_0 cxr_1 fxr_1 btr ltr ctr_0 ftr_0 ctr_1 ftr_1  HOr
        go_wp2_with fail
        refine (CE0.out _ (by repeat (first | with_reducible exact Below.refl _ _ | (with_reducible refine Below.alloc ?_ (by first | omega | (simp; done) | (simp; omega)) _) | (with_reducible refine Below.setCell ?_ (by first | omega | (simp; done) | (simp; omega)) _) | (with_reducible refine Below.drew ?_) | (with_reducible refine below_drewN ?_ _) | (with_reducible assumption) | (with_reducible refine bel_step (by with_reducible assumption) ?_ (by first | omega | (simp; done) | (simp; omega)))))).mono ?_
        rintro e w9 ⟨rfl, hb9⟩
        have hz9 := hb9.size
        (try simp at hz9)
        have bx9 : Blk w9 (X) 25 #[.int .i64 lo, .int .i64 hi] := (by refine BlkG.start ?_; (repeat (first | ((with_reducible apply BlkG.done); (with_reducible assumption); exact rfl) | (with_reducible exact BlkG.newAt (by first | (with_reducible rfl) | omega | (simp; done) | (simp; omega)) rfl) | (with_reducible refine BlkG.drew ?_) | (with_reducible refine BlkG.drewN ?_) | (with_reducible refine BlkG.set ?_) | (with_reducible refine BlkG.far (by first | omega | (simp; done) | (simp; omega)) ?_) | (with_reducible refine BlkG.alloc ?_) | (with_reducible refine BlkG.bel (by with_reducible assumption) (by first | omega | (simp; done) | (simp; omega)) ?_))))
        have cx9_0 : w9.cell? ⟨X, 0, none⟩ = some (.int .i64 lo) := bx9.cell 0
        have fx9_0 : w9.frozen? ⟨X, 0, none⟩ = false := bx9.fz 0
        have cx9_1 : w9.cell? ⟨X, 1, none⟩ = some (.int .i64 hi) := bx9.cell 1
        have fx9_1 : w9.frozen? ⟨X, 1, none⟩ = false := bx9.fz 1
        have lx9 : X < w9.heap.size := bx9.lt
        have bt9 : Blk w9 (T) 25 #[.int .i64 lo, .int .i64 hi] := (by refine BlkG.start ?_; (repeat (first | ((with_reducible apply BlkG.done); (with_reducible assumption); exact rfl) | (with_reducible exact BlkG.newAt (by first | (with_reducible rfl) | omega | (simp; done) | (simp; omega)) rfl) | (with_reducible refine BlkG.drew ?_) | (with_reducible refine BlkG.drewN ?_) | (with_reducible refine BlkG.set ?_) | (with_reducible refine BlkG.far (by first | omega | (simp; done) | (simp; omega)) ?_) | (with_reducible refine BlkG.alloc ?_) | (with_reducible refine BlkG.bel (by with_reducible assumption) (by first | omega | (simp; done) | (simp; omega)) ?_))))
        have ct9_0 : w9.cell? ⟨T, 0, none⟩ = some (.int .i64 lo) := bt9.cell 0
        have ft9_0 : w9.frozen? ⟨T, 0, none⟩ = false := bt9.fz 0
        have ct9_1 : w9.cell? ⟨T, 1, none⟩ = some (.int .i64 hi) := bt9.cell 1
        have ft9_1 : w9.frozen? ⟨T, 1, none⟩ = false := bt9.fz 1
        have lt9 : T < w9.heap.size := bt9.lt
        have HO9 : w9.ownsRow (T + 1) 3 1 (.slice B1 m1 d1') L.length (L.flatMap intCells) := (by repeat (first | with_reducible exact HO8 | (with_reducible refine own_drewN ?_ _) | (with_reducible refine own_set ?_ (by first | omega | (simp; omega)) _) | (with_reducible refine World.ownsRow.alloc ?_ _) | (with_reducible refine own_below ?_ (by with_reducible assumption))))
        have HB9 : Below w.heap.size w w9 := (by repeat (first | with_reducible exact Below.refl _ _ | (with_reducible refine Below.alloc ?_ (by first | omega | (simp; done) | (simp; omega)) _) | (with_reducible refine Below.setCell ?_ (by first | omega | (simp; done) | (simp; omega)) _) | (with_reducible refine Below.drew ?_) | (with_reducible refine below_drewN ?_ _) | (with_reducible assumption) | (with_reducible refine bel_step (by with_reducible assumption) ?_ (by first | omega | (simp; done) | (simp; omega)))))
        have HZ9 := HB9.size
        clear hb9 hz9 HB8 HZ8 bx8 lx8 cx8_0 fx8_0 cx8_1 fx8_1 bt8 lt8 ct8_0 ft8_0 ct8_1 ft8_1  HO8
        go_wp2_with fail
        refine (C3m.out _ (by repeat (first | with_reducible exact Below.refl _ _ | (with_reducible refine Below.alloc ?_ (by first | omega | (simp; done) | (simp; omega)) _) | (with_reducible refine Below.setCell ?_ (by first | omega | (simp; done) | (simp; omega)) _) | (with_reducible refine Below.drew ?_) | (with_reducible refine below_drewN ?_ _) | (with_reducible assumption) | (with_reducible refine bel_step (by with_reducible assumption) ?_ (by first | omega | (simp; done) | (simp; omega)))))).mono ?_
        rintro e w10 ⟨B2, m2, d2, rfl, hI2, hb10⟩
        have hz10 := hb10.size
        (try simp at hz10)
        have bx10 : Blk w10 (X) 25 #[.int .i64 lo, .int .i64 hi] := (by refine BlkG.start ?_; (repeat (first | ((with_reducible apply BlkG.done); (with_reducible assumption); exact rfl) | (with_reducible exact BlkG.newAt (by first | (with_reducible rfl) | omega | (simp; done) | (simp; omega)) rfl) | (with_reducible refine BlkG.drew ?_) | (with_reducible refine BlkG.drewN ?_) | (with_reducible refine BlkG.set ?_) | (with_reducible refine BlkG.far (by first | omega | (simp; done) | (simp; omega)) ?_) | (with_reducible refine BlkG.alloc ?_) | (with_reducible refine BlkG.bel (by with_reducible assumption) (by first | omega | (simp; done) | (simp; omega)) ?_))))
        have cx10_0 : w10.cell? ⟨X, 0, none⟩ = some (.int .i64 lo) := bx10.cell 0
        have fx10_0 : w10.frozen? ⟨X, 0, none⟩ = false := bx10.fz 0
        have cx10_1 : w10.cell? ⟨X, 1, none⟩ = some (.int .i64 hi) := bx10.cell 1
        have fx10_1 : w10.frozen? ⟨X, 1, none⟩ = false := bx10.fz 1
        have lx10 : X < w10.heap.size := bx10.lt
        have HO10 : w10.ownsRow (T + 1) 3 1 (.slice B1 m1 d1') L.length (L.flatMap intCells) := (by repeat (first | with_reducible exact HO9 | (with_reducible refine own_drewN ?_ _) | (with_reducible refine own_set ?_ (by first | omega | (simp; omega)) _) | (with_reducible refine World.ownsRow.alloc ?_ _) | (with_reducible refine own_below ?_ (by with_reducible assumption))))
        have HB10 : Below w.heap.size w w10 := (by repeat (first | with_reducible exact Below.refl _ _ | (with_reducible refine Below.alloc ?_ (by first | omega | (simp; done) | (simp; omega)) _) | (with_reducible refine Below.setCell ?_ (by first | omega | (simp; done) | (simp; omega)) _) | (with_reducible refine Below.drew ?_) | (with_reducible refine below_drewN ?_ _) | (with_reducible assumption) | (with_reducible refine bel_step (by with_reducible assumption) ?_ (by first | omega | (simp; done) | (simp; omega)))))
        have HZ10 := HB10.size
        clear hb10 hz10 HB9 HZ9 bx9 lx9 cx9_0 fx9_0 cx9_1 fx9_1  HO9
        have HI10 : IsInts w10 B2 m2 d2 L := hI2
        clear hI2
        go_wp2_with fail
        refine (CE0.out _ (by repeat (first | with_reducible exact Below.refl _ _ | (with_reducible refine Below.alloc ?_ (by first | omega | (simp; done) | (simp; omega)) _) | (with_reducible refine Below.setCell ?_ (by first | omega | (simp; done) | (simp; omega)) _) | (with_reducible refine Below.drew ?_) | (with_reducible refine below_drewN ?_ _) | (with_reducible assumption) | (with_reducible refine bel_step (by with_reducible assumption) ?_ (by first | omega | (simp; done) | (simp; omega)))))).mono ?_
        rintro e w11 ⟨rfl, hb11⟩
        have hz11 := hb11.size
        (try simp at hz11)
        have bx11 : Blk w11 (X) 25 #[.int .i64 lo, .int .i64 hi] := (by refine BlkG.start ?_; (repeat (first | ((with_reducible apply BlkG.done); (with_reducible assumption); exact rfl) | (with_reducible exact BlkG.newAt (by first | (with_reducible rfl) | omega | (simp; done) | (simp; omega)) rfl) | (with_reducible refine BlkG.drew ?_) | (with_reducible refine BlkG.drewN ?_) | (with_reducible refine BlkG.set ?_) | (with_reducible refine BlkG.far (by first | omega | (simp; done) | (simp; omega)) ?_) | (with_reducible refine BlkG.alloc ?_) | (with_reducible refine BlkG.bel (by with_reducible assumption) (by first | omega | (simp; done) | (simp; omega)) ?_))))
        have cx11_0 : w11.cell? ⟨X, 0, none⟩ = some (.int .i64 lo) := bx11.cell 0
        have fx11_0 : w11.frozen? ⟨X, 0, none⟩ = false := bx11.fz 0
        have cx11_1 : w11.cell? ⟨X, 1, none⟩ = some (.int .i64 hi) := bx11.cell 1
        have fx11_1 : w11.frozen? ⟨X, 1, none⟩ = false := bx11.fz 1
        have lx11 : X < w11.heap.size := bx11.lt
        have HO11 : w11.ownsRow (T + 1) 3 1 (.slice B1 m1 d1') L.length (L.flatMap intCells) := (by repeat (first | with_reducible exact HO10 | (with_reducible refine own_drewN ?_ _) | (with_reducible refine own_set ?_ (by first | omega | (simp; omega)) _) | (with_reducible refine World.ownsRow.alloc ?_ _) | (with_reducible refine own_below ?_ (by with_reducible assumption))))
        have HI11 : IsInts w11 B2 m2 d2 L := IsRecs.below HI10 (show Below w10.heap.size w10 w11 from (by repeat (first | with_reducible exact Below.refl _ _ | (with_reducible refine Below.alloc ?_ (by first | omega | (simp; done) | (simp; omega)) _) | (with_reducible refine Below.setCell ?_ (by first | omega | (simp; done) | (simp; omega)) _) | (with_reducible refine Below.drew ?_) | (with_reducible refine below_drewN ?_ _) | (with_reducible assumption) | (with_reducible refine bel_step (by with_reducible assumption) ?_ (by first | omega | (simp; done) | (simp; omega))))))
        have HB11 : Below w.heap.size w w11 := (by repeat (first | with_reducible exact Below.refl _ _ | (with_reducible refine Below.alloc ?_ (by first | omega | (simp; done) | (simp; omega)) _) | (with_reducible refine Below.setCell ?_ (by first | omega | (simp; done) | (simp; omega)) _) | (with_reducible refine Below.drew ?_) | (with_reducible refine below_drewN ?_ _) | (with_reducible assumption) | (with_reducible refine bel_step (by with_reducible assumption) ?_ (by first | omega | (simp; done) | (simp; omega)))))
        have HZ11 := HB11.size
        clear hb11 hz11 HB10 HZ10 bx10 lx10 cx10_0 fx10_0 cx10_1 fx10_1  HI10 HO10
        have CI : Calls Tryd.prog 12 #[.slice B2 m2 d2, .slice B1 m1 d1'] w11 fun e w' => e = .returned (.bool true) ∧ Below w11.heap.size w11 w' := by
          obtain ⟨A, n, c, he, hI⟩ := own_recs intCells i64B 1 (fun _ => rfl) HO11 HLk.out
          simp only [Value.slice.injEq] at he
          obtain ⟨rfl, rfl, rfl⟩ := he
          exact same_Ints _ _ _ _ _ _ L w11 HI11 hI
        have CI := Lib.hid CI
        clear HI11 HO11 HLk C3m C2m
        go_wp2_with fail
        refine (CI.out).mono ?_
        rintro e w12 ⟨rfl, hb12⟩
        have hz12 := hb12.size
        (try simp at hz12)
        have bx12 : Blk w12 (X) 25 #[.int .i64 lo, .int .i64 hi] := (by refine BlkG.start ?_; (repeat (first | ((with_reducible apply BlkG.done); (with_reducible assumption); exact rfl) | (with_reducible exact BlkG.newAt (by first | (with_reducible rfl) | omega | (simp; done) | (simp; omega)) rfl) | (with_reducible refine BlkG.drew ?_) | (with_reducible refine BlkG.drewN ?_) | (with_reducible refine BlkG.set ?_) | (with_reducible refine BlkG.far (by first | omega | (simp; done) | (simp; omega)) ?_) | (with_reducible refine BlkG.alloc ?_) | (with_reducible refine BlkG.bel (by with_reducible assumption) (by first | omega | (simp; done) | (simp; omega)) ?_))))
        have cx12_0 : w12.cell? ⟨X, 0, none⟩ = some (.int .i64 lo) := bx12.cell 0
        have fx12_0 : w12.frozen? ⟨X, 0, none⟩ = false := bx12.fz 0
        have cx12_1 : w12.cell? ⟨X, 1, none⟩ = some (.int .i64 hi) := bx12.cell 1
        have fx12_1 : w12.frozen? ⟨X, 1, none⟩ = false := bx12.fz 1
        have lx12 : X < w12.heap.size := bx12.lt
        have HB12 : Below w.heap.size w w12 := (by repeat (first | with_reducible exact Below.refl _ _ | (with_reducible refine Below.alloc ?_ (by first | omega | (simp; done) | (simp; omega)) _) | (with_reducible refine Below.setCell ?_ (by first | omega | (simp; done) | (simp; omega)) _) | (with_reducible refine Below.drew ?_) | (with_reducible refine below_drewN ?_ _) | (with_reducible assumption) | (with_reducible refine bel_step (by with_reducible assumption) ?_ (by first | omega | (simp; done) | (simp; omega)))))
        have HZ12 := HB12.size
        clear hb12 hz12 HB11 HZ11 bx11 lx11 cx11_0 fx11_0 cx11_1 fx11_1 
        clear CI
        by_cases hr : 0 ≤ a1 ∧ a1 < (k : Int)
        · have CSf := Lib.hid (fun w' (hb : Below w.heap.size w w') => r1_Safe (some ⟨b, off, none⟩) k c0 z0 ((k : Int) - a1) w' (H0.out.below hb) (by omega) p2 p1)
          have CV := Lib.hid (fun fd lo2 hi2 (h : IsSafe z0 ((k : Int) - a1) fd lo2 hi2) w' (hb : Below w.heap.size w w') => (vote_Safe (some ⟨b, off, none⟩) k c0 a1 z0 w' (H0.out.below hb) E0.out hr).mono (R' := fun e w'' => e = .returned (.tuple #[.agg #[.int .i64 (if fd = true then lo2 else 0), .int .i64 (if fd = true then hi2 else 0)], errV (if fd = true then 0 else 7)]) ∧ Below w'.heap.size w' w'') fun e w'' ⟨es, fd', lo', hi', he, hp, hs, hm, hb⟩ => by
            have h2 : IsSafe z0 ((k : Int) - a1) fd' lo' hi' := safe_is hp hs P3.out (by rw [L1.out]; exact p2) (by omega) (by rw [hp.length_eq, edgesL_len, L1.out]; exact hm)
            obtain ⟨rfl, h3⟩ := h.uniq h2
            refine ⟨?_, hb⟩
            cases fd
            · exact he
            · obtain ⟨rfl, rfl⟩ := h3 rfl
              exact he)
          have hw9 := IntWalk.i64_in ((k : Int) - a1) (by omega)
          have g1 : ¬ a1 < 0 := by omega
          have g2 : ¬ (k : Int) ≤ a1 := by omega
          clear hr
          go_wp2_with fail
          refine (CSf.out _ (by repeat (first | with_reducible exact Below.refl _ _ | (with_reducible refine Below.alloc ?_ (by first | omega | (simp; done) | (simp; omega)) _) | (with_reducible refine Below.setCell ?_ (by first | omega | (simp; done) | (simp; omega)) _) | (with_reducible refine Below.drew ?_) | (with_reducible refine below_drewN ?_ _) | (with_reducible assumption) | (with_reducible refine bel_step (by with_reducible assumption) ?_ (by first | omega | (simp; done) | (simp; omega)))))).mono ?_
          rintro e w13 ⟨fd, lo2, hi2, rfl, hsf, hb13⟩
          have hz13 := hb13.size
          (try simp at hz13)
          have ags : w.heap.size ≤ w12.heap.size := by (try simp); omega
          have osx : X < w12.heap.size := by (try simp); omega
          have bx13 : Blk w13 (X) 25 #[.int .i64 lo, .int .i64 hi] := (by refine BlkG.start ?_; (repeat (first | ((with_reducible apply BlkG.done); (with_reducible assumption); exact rfl) | (with_reducible exact BlkG.newAt (by first | (with_reducible rfl) | omega | (simp; done) | (simp; omega)) rfl) | (with_reducible refine BlkG.drew ?_) | (with_reducible refine BlkG.drewN ?_) | (with_reducible refine BlkG.set ?_) | (with_reducible refine BlkG.far (by first | omega | (simp; done) | (simp; omega)) ?_) | (with_reducible refine BlkG.alloc ?_) | (with_reducible refine BlkG.bel (by with_reducible assumption) (by first | omega | (simp; done) | (simp; omega)) ?_))))
          have cx13_0 : w13.cell? ⟨X, 0, none⟩ = some (.int .i64 lo) := bx13.cell 0
          have fx13_0 : w13.frozen? ⟨X, 0, none⟩ = false := bx13.fz 0
          have cx13_1 : w13.cell? ⟨X, 1, none⟩ = some (.int .i64 hi) := bx13.cell 1
          have fx13_1 : w13.frozen? ⟨X, 1, none⟩ = false := bx13.fz 1
          have lx13 : X < w13.heap.size := bx13.lt
          have bs13 : Blk w13 (w12.heap.size) 25 #[.int .i64 0, .int .i64 0] := (by refine BlkG.start ?_; (repeat (first | ((with_reducible apply BlkG.done); (with_reducible assumption); exact rfl) | (with_reducible exact BlkG.newAt (by first | (with_reducible rfl) | omega | (simp; done) | (simp; omega)) rfl) | (with_reducible refine BlkG.drew ?_) | (with_reducible refine BlkG.drewN ?_) | (with_reducible refine BlkG.set ?_) | (with_reducible refine BlkG.far (by first | omega | (simp; done) | (simp; omega)) ?_) | (with_reducible refine BlkG.alloc ?_) | (with_reducible refine BlkG.bel (by with_reducible assumption) (by first | omega | (simp; done) | (simp; omega)) ?_))))
          have cs13_0 : w13.cell? ⟨w12.heap.size, 0, none⟩ = some (.int .i64 0) := bs13.cell 0
          have fs13_0 : w13.frozen? ⟨w12.heap.size, 0, none⟩ = false := bs13.fz 0
          have cs13_1 : w13.cell? ⟨w12.heap.size, 1, none⟩ = some (.int .i64 0) := bs13.cell 1
          have fs13_1 : w13.frozen? ⟨w12.heap.size, 1, none⟩ = false := bs13.fz 1
          have ls13 : w12.heap.size < w13.heap.size := bs13.lt
          have HB13 : Below w.heap.size w w13 := (by repeat (first | with_reducible exact Below.refl _ _ | (with_reducible refine Below.alloc ?_ (by first | omega | (simp; done) | (simp; omega)) _) | (with_reducible refine Below.setCell ?_ (by first | omega | (simp; done) | (simp; omega)) _) | (with_reducible refine Below.drew ?_) | (with_reducible refine below_drewN ?_ _) | (with_reducible assumption) | (with_reducible refine bel_step (by with_reducible assumption) ?_ (by first | omega | (simp; done) | (simp; omega)))))
          have HZ13 := HB13.size
          clear hb13 hz13 HB12 HZ12 bx12 lx12 cx12_0 fx12_0 cx12_1 fx12_1 
          have CV := Lib.hid (CV.out fd lo2 hi2 hsf)
          clear hsf CSf hw9
          cases fd
          · have CV := Lib.hid (fun w' hb => show Calls Tryd.prog 14 #[.slice (some ⟨b, off, none⟩) k c0, .int .i64 a1] w' fun e w'' => e = .returned (.tuple #[.agg #[.int .i64 0, .int .i64 0], .iface 49 (.int .i64 7)]) ∧ Below w'.heap.size w' w'' from CV.out w' hb)
            have CE7 := Lib.hid (fun w' hb => show Calls Tryd.prog 8 #[.iface 49 (.int .i64 7), .int .i64 7] w' fun e w'' => e = .returned (.bool true) ∧ Below w'.heap.size w' w'' from CE.out 7 w' hb)
            as_aux_lemma =>
              go_wp2_with fail
              refine (CV.out _ (by repeat (first | with_reducible exact Below.refl _ _ | (with_reducible refine Below.alloc ?_ (by first | omega | (simp; done) | (simp; omega)) _) | (with_reducible refine Below.setCell ?_ (by first | omega | (simp; done) | (simp; omega)) _) | (with_reducible refine Below.drew ?_) | (with_reducible refine below_drewN ?_ _) | (with_reducible assumption) | (with_reducible refine bel_step (by with_reducible assumption) ?_ (by first | omega | (simp; done) | (simp; omega)))))).mono ?_
              rintro e w14 ⟨rfl, hb14⟩
              have hz14 := hb14.size
              (try simp at hz14)
              have bx14 : Blk w14 (X) 25 #[.int .i64 lo, .int .i64 hi] := (by refine BlkG.start ?_; (repeat (first | ((with_reducible apply BlkG.done); (with_reducible assumption); exact rfl) | (with_reducible exact BlkG.newAt (by first | (with_reducible rfl) | omega | (simp; done) | (simp; omega)) rfl) | (with_reducible refine BlkG.drew ?_) | (with_reducible refine BlkG.drewN ?_) | (with_reducible refine BlkG.set ?_) | (with_reducible refine BlkG.far (by first | omega | (simp; done) | (simp; omega)) ?_) | (with_reducible refine BlkG.alloc ?_) | (with_reducible refine BlkG.bel (by with_reducible assumption) (by first | omega | (simp; done) | (simp; omega)) ?_))))
              have cx14_0 : w14.cell? ⟨X, 0, none⟩ = some (.int .i64 lo) := bx14.cell 0
              have fx14_0 : w14.frozen? ⟨X, 0, none⟩ = false := bx14.fz 0
              have cx14_1 : w14.cell? ⟨X, 1, none⟩ = some (.int .i64 hi) := bx14.cell 1
              have fx14_1 : w14.frozen? ⟨X, 1, none⟩ = false := bx14.fz 1
              have lx14 : X < w14.heap.size := bx14.lt
              have bs14 : Blk w14 (w12.heap.size) 25 #[.int .i64 0, .int .i64 0] := (by refine BlkG.start ?_; (repeat (first | ((with_reducible apply BlkG.done); (with_reducible assumption); exact rfl) | (with_reducible exact BlkG.newAt (by first | (with_reducible rfl) | omega | (simp; done) | (simp; omega)) rfl) | (with_reducible refine BlkG.drew ?_) | (with_reducible refine BlkG.drewN ?_) | (with_reducible refine BlkG.set ?_) | (with_reducible refine BlkG.far (by first | omega | (simp; done) | (simp; omega)) ?_) | (with_reducible refine BlkG.alloc ?_) | (with_reducible refine BlkG.bel (by with_reducible assumption) (by first | omega | (simp; done) | (simp; omega)) ?_))))
              have cs14_0 : w14.cell? ⟨w12.heap.size, 0, none⟩ = some (.int .i64 0) := bs14.cell 0
              have fs14_0 : w14.frozen? ⟨w12.heap.size, 0, none⟩ = false := bs14.fz 0
              have cs14_1 : w14.cell? ⟨w12.heap.size, 1, none⟩ = some (.int .i64 0) := bs14.cell 1
              have fs14_1 : w14.frozen? ⟨w12.heap.size, 1, none⟩ = false := bs14.fz 1
              have ls14 : w12.heap.size < w14.heap.size := bs14.lt
              have HB14 : Below w.heap.size w w14 := (by repeat (first | with_reducible exact Below.refl _ _ | (with_reducible refine Below.alloc ?_ (by first | omega | (simp; done) | (simp; omega)) _) | (with_reducible refine Below.setCell ?_ (by first | omega | (simp; done) | (simp; omega)) _) | (with_reducible refine Below.drew ?_) | (with_reducible refine below_drewN ?_ _) | (with_reducible assumption) | (with_reducible refine bel_step (by with_reducible assumption) ?_ (by first | omega | (simp; done) | (simp; omega)))))
              have HZ14 := HB14.size
              clear hb14 hz14 HB13 HZ13 bx13 lx13 cx13_0 fx13_0 cx13_1 fx13_1 bs13 ls13 cs13_0 fs13_0 cs13_1 fs13_1 
              go_wp2_with fail
              refine (CE7.out _ (by repeat (first | with_reducible exact Below.refl _ _ | (with_reducible refine Below.alloc ?_ (by first | omega | (simp; done) | (simp; omega)) _) | (with_reducible refine Below.setCell ?_ (by first | omega | (simp; done) | (simp; omega)) _) | (with_reducible refine Below.drew ?_) | (with_reducible refine below_drewN ?_ _) | (with_reducible assumption) | (with_reducible refine bel_step (by with_reducible assumption) ?_ (by first | omega | (simp; done) | (simp; omega)))))).mono ?_
              rintro e w15 ⟨rfl, hb15⟩
              have hz15 := hb15.size
              (try simp at hz15)
              have bx15 : Blk w15 (X) 25 #[.int .i64 0, .int .i64 0] := (by refine BlkG.start ?_; (repeat (first | ((with_reducible apply BlkG.done); (with_reducible assumption); exact rfl) | (with_reducible exact BlkG.newAt (by first | (with_reducible rfl) | omega | (simp; done) | (simp; omega)) rfl) | (with_reducible refine BlkG.drew ?_) | (with_reducible refine BlkG.drewN ?_) | (with_reducible refine BlkG.set ?_) | (with_reducible refine BlkG.far (by first | omega | (simp; done) | (simp; omega)) ?_) | (with_reducible refine BlkG.alloc ?_) | (with_reducible refine BlkG.bel (by with_reducible assumption) (by first | omega | (simp; done) | (simp; omega)) ?_))))
              have cx15_0 : w15.cell? ⟨X, 0, none⟩ = some (.int .i64 0) := bx15.cell 0
              have fx15_0 : w15.frozen? ⟨X, 0, none⟩ = false := bx15.fz 0
              have cx15_1 : w15.cell? ⟨X, 1, none⟩ = some (.int .i64 0) := bx15.cell 1
              have fx15_1 : w15.frozen? ⟨X, 1, none⟩ = false := bx15.fz 1
              have lx15 : X < w15.heap.size := bx15.lt
              have bs15 : Blk w15 (w12.heap.size) 25 #[.int .i64 0, .int .i64 0] := (by refine BlkG.start ?_; (repeat (first | ((with_reducible apply BlkG.done); (with_reducible assumption); exact rfl) | (with_reducible exact BlkG.newAt (by first | (with_reducible rfl) | omega | (simp; done) | (simp; omega)) rfl) | (with_reducible refine BlkG.drew ?_) | (with_reducible refine BlkG.drewN ?_) | (with_reducible refine BlkG.set ?_) | (with_reducible refine BlkG.far (by first | omega | (simp; done) | (simp; omega)) ?_) | (with_reducible refine BlkG.alloc ?_) | (with_reducible refine BlkG.bel (by with_reducible assumption) (by first | omega | (simp; done) | (simp; omega)) ?_))))
              have cs15_0 : w15.cell? ⟨w12.heap.size, 0, none⟩ = some (.int .i64 0) := bs15.cell 0
              have fs15_0 : w15.frozen? ⟨w12.heap.size, 0, none⟩ = false := bs15.fz 0
              have cs15_1 : w15.cell? ⟨w12.heap.size, 1, none⟩ = some (.int .i64 0) := bs15.cell 1
              have fs15_1 : w15.frozen? ⟨w12.heap.size, 1, none⟩ = false := bs15.fz 1
              have ls15 : w12.heap.size < w15.heap.size := bs15.lt
              have HB15 : Below w.heap.size w w15 := (by repeat (first | with_reducible exact Below.refl _ _ | (with_reducible refine Below.alloc ?_ (by first | omega | (simp; done) | (simp; omega)) _) | (with_reducible refine Below.setCell ?_ (by first | omega | (simp; done) | (simp; omega)) _) | (with_reducible refine Below.drew ?_) | (with_reducible refine below_drewN ?_ _) | (with_reducible assumption) | (with_reducible refine bel_step (by with_reducible assumption) ?_ (by first | omega | (simp; done) | (simp; omega)))))
              have HZ15 := HB15.size
              clear hb15 hz15 HB14 HZ14 bx14 lx14 cx14_0 fx14_0 cx14_1 fx14_1 bs14 ls14 cs14_0 fs14_0 cs14_1 fs14_1 
              go_wp2_with fail
              go_ret
              exact ⟨rfl, HB15⟩
          · have CV := Lib.hid (fun w' hb => show Calls Tryd.prog 14 #[.slice (some ⟨b, off, none⟩) k c0, .int .i64 a1] w' fun e w'' => e = .returned (.tuple #[.agg #[.int .i64 lo2, .int .i64 hi2], .nilIface]) ∧ Below w'.heap.size w' w'' from CV.out w' hb)
            as_aux_lemma =>
              go_wp2_with fail
              refine (CV.out _ (by repeat (first | with_reducible exact Below.refl _ _ | (with_reducible refine Below.alloc ?_ (by first | omega | (simp; done) | (simp; omega)) _) | (with_reducible refine Below.setCell ?_ (by first | omega | (simp; done) | (simp; omega)) _) | (with_reducible refine Below.drew ?_) | (with_reducible refine below_drewN ?_ _) | (with_reducible assumption) | (with_reducible refine bel_step (by with_reducible assumption) ?_ (by first | omega | (simp; done) | (simp; omega)))))).mono ?_
              rintro e w14 ⟨rfl, hb14⟩
              have hz14 := hb14.size
              (try simp at hz14)
              have bx14 : Blk w14 (X) 25 #[.int .i64 lo, .int .i64 hi] := (by refine BlkG.start ?_; (repeat (first | ((with_reducible apply BlkG.done); (with_reducible assumption); exact rfl) | (with_reducible exact BlkG.newAt (by first | (with_reducible rfl) | omega | (simp; done) | (simp; omega)) rfl) | (with_reducible refine BlkG.drew ?_) | (with_reducible refine BlkG.drewN ?_) | (with_reducible refine BlkG.set ?_) | (with_reducible refine BlkG.far (by first | omega | (simp; done) | (simp; omega)) ?_) | (with_reducible refine BlkG.alloc ?_) | (with_reducible refine BlkG.bel (by with_reducible assumption) (by first | omega | (simp; done) | (simp; omega)) ?_))))
              have cx14_0 : w14.cell? ⟨X, 0, none⟩ = some (.int .i64 lo) := bx14.cell 0
              have fx14_0 : w14.frozen? ⟨X, 0, none⟩ = false := bx14.fz 0
              have cx14_1 : w14.cell? ⟨X, 1, none⟩ = some (.int .i64 hi) := bx14.cell 1
              have fx14_1 : w14.frozen? ⟨X, 1, none⟩ = false := bx14.fz 1
              have lx14 : X < w14.heap.size := bx14.lt
              have bs14 : Blk w14 (w12.heap.size) 25 #[.int .i64 lo2, .int .i64 hi2] := (by refine BlkG.start ?_; (repeat (first | ((with_reducible apply BlkG.done); (with_reducible assumption); exact rfl) | (with_reducible exact BlkG.newAt (by first | (with_reducible rfl) | omega | (simp; done) | (simp; omega)) rfl) | (with_reducible refine BlkG.drew ?_) | (with_reducible refine BlkG.drewN ?_) | (with_reducible refine BlkG.set ?_) | (with_reducible refine BlkG.far (by first | omega | (simp; done) | (simp; omega)) ?_) | (with_reducible refine BlkG.alloc ?_) | (with_reducible refine BlkG.bel (by with_reducible assumption) (by first | omega | (simp; done) | (simp; omega)) ?_))))
              have cs14_0 : w14.cell? ⟨w12.heap.size, 0, none⟩ = some (.int .i64 lo2) := bs14.cell 0
              have fs14_0 : w14.frozen? ⟨w12.heap.size, 0, none⟩ = false := bs14.fz 0
              have cs14_1 : w14.cell? ⟨w12.heap.size, 1, none⟩ = some (.int .i64 hi2) := bs14.cell 1
              have fs14_1 : w14.frozen? ⟨w12.heap.size, 1, none⟩ = false := bs14.fz 1
              have ls14 : w12.heap.size < w14.heap.size := bs14.lt
              have HB14 : Below w.heap.size w w14 := (by repeat (first | with_reducible exact Below.refl _ _ | (with_reducible refine Below.alloc ?_ (by first | omega | (simp; done) | (simp; omega)) _) | (with_reducible refine Below.setCell ?_ (by first | omega | (simp; done) | (simp; omega)) _) | (with_reducible refine Below.drew ?_) | (with_reducible refine below_drewN ?_ _) | (with_reducible assumption) | (with_reducible refine bel_step (by with_reducible assumption) ?_ (by first | omega | (simp; done) | (simp; omega)))))
              have HZ14 := HB14.size
              clear hb14 hz14 HB13 HZ13 bx13 lx13 cx13_0 fx13_0 cx13_1 fx13_1 bs13 ls13 cs13_0 fs13_0 cs13_1 fs13_1 
              go_wp2_with fail
              refine (CE0.out _ (by repeat (first | with_reducible exact Below.refl _ _ | (with_reducible refine Below.alloc ?_ (by first | omega | (simp; done) | (simp; omega)) _) | (with_reducible refine Below.setCell ?_ (by first | omega | (simp; done) | (simp; omega)) _) | (with_reducible refine Below.drew ?_) | (with_reducible refine below_drewN ?_ _) | (with_reducible assumption) | (with_reducible refine bel_step (by with_reducible assumption) ?_ (by first | omega | (simp; done) | (simp; omega)))))).mono ?_
              rintro e w15 ⟨rfl, hb15⟩
              have hz15 := hb15.size
              (try simp at hz15)
              have bx15 : Blk w15 (X) 25 #[.int .i64 lo2, .int .i64 hi2] := (by refine BlkG.start ?_; (repeat (first | ((with_reducible apply BlkG.done); (with_reducible assumption); exact rfl) | (with_reducible exact BlkG.newAt (by first | (with_reducible rfl) | omega | (simp; done) | (simp; omega)) rfl) | (with_reducible refine BlkG.drew ?_) | (with_reducible refine BlkG.drewN ?_) | (with_reducible refine BlkG.set ?_) | (with_reducible refine BlkG.far (by first | omega | (simp; done) | (simp; omega)) ?_) | (with_reducible refine BlkG.alloc ?_) | (with_reducible refine BlkG.bel (by with_reducible assumption) (by first | omega | (simp; done) | (simp; omega)) ?_))))
              have cx15_0 : w15.cell? ⟨X, 0, none⟩ = some (.int .i64 lo2) := bx15.cell 0
              have fx15_0 : w15.frozen? ⟨X, 0, none⟩ = false := bx15.fz 0
              have cx15_1 : w15.cell? ⟨X, 1, none⟩ = some (.int .i64 hi2) := bx15.cell 1
              have fx15_1 : w15.frozen? ⟨X, 1, none⟩ = false := bx15.fz 1
              have lx15 : X < w15.heap.size := bx15.lt
              have bs15 : Blk w15 (w12.heap.size) 25 #[.int .i64 lo2, .int .i64 hi2] := (by refine BlkG.start ?_; (repeat (first | ((with_reducible apply BlkG.done); (with_reducible assumption); exact rfl) | (with_reducible exact BlkG.newAt (by first | (with_reducible rfl) | omega | (simp; done) | (simp; omega)) rfl) | (with_reducible refine BlkG.drew ?_) | (with_reducible refine BlkG.drewN ?_) | (with_reducible refine BlkG.set ?_) | (with_reducible refine BlkG.far (by first | omega | (simp; done) | (simp; omega)) ?_) | (with_reducible refine BlkG.alloc ?_) | (with_reducible refine BlkG.bel (by with_reducible assumption) (by first | omega | (simp; done) | (simp; omega)) ?_))))
              have cs15_0 : w15.cell? ⟨w12.heap.size, 0, none⟩ = some (.int .i64 lo2) := bs15.cell 0
              have fs15_0 : w15.frozen? ⟨w12.heap.size, 0, none⟩ = false := bs15.fz 0
              have cs15_1 : w15.cell? ⟨w12.heap.size, 1, none⟩ = some (.int .i64 hi2) := bs15.cell 1
              have fs15_1 : w15.frozen? ⟨w12.heap.size, 1, none⟩ = false := bs15.fz 1
              have ls15 : w12.heap.size < w15.heap.size := bs15.lt
              have HB15 : Below w.heap.size w w15 := (by repeat (first | with_reducible exact Below.refl _ _ | (with_reducible refine Below.alloc ?_ (by first | omega | (simp; done) | (simp; omega)) _) | (with_reducible refine Below.setCell ?_ (by first | omega | (simp; done) | (simp; omega)) _) | (with_reducible refine Below.drew ?_) | (with_reducible refine below_drewN ?_ _) | (with_reducible assumption) | (with_reducible refine bel_step (by with_reducible assumption) ?_ (by first | omega | (simp; done) | (simp; omega)))))
              have HZ15 := HB15.size
              clear hb15 hz15 HB14 HZ14 bx14 lx14 cx14_0 fx14_0 cx14_1 fx14_1 bs14 ls14 cs14_0 fs14_0 cs14_1 fs14_1 
              go_wp2_with fail
              go_ret
              exact ⟨rfl, HB15⟩
        · have CV := Lib.hid (fun w' (hb : Below w.heap.size w w') => vote_Safe_rng (some ⟨b, off, none⟩) k c0 a1 z0 w' (H0.out.below hb) E0.out (by omega))
          have CE1 := Lib.hid (fun w' hb => show Calls Tryd.prog 8 #[.iface 49 (.int .i64 1), .int .i64 1] w' fun e w'' => e = .returned (.bool true) ∧ Below w'.heap.size w' w'' from CE.out 1 w' hb)
          rcases (by omega : a1 < 0 ∨ (¬ a1 < 0 ∧ (k : Int) ≤ a1)) with g1 | ⟨g1, g2⟩
          all_goals
            clear hr
            as_aux_lemma =>
              go_wp2_with fail
              refine (CV.out _ (by repeat (first | with_reducible exact Below.refl _ _ | (with_reducible refine Below.alloc ?_ (by first | omega | (simp; done) | (simp; omega)) _) | (with_reducible refine Below.setCell ?_ (by first | omega | (simp; done) | (simp; omega)) _) | (with_reducible refine Below.drew ?_) | (with_reducible refine below_drewN ?_ _) | (with_reducible assumption) | (with_reducible refine bel_step (by with_reducible assumption) ?_ (by first | omega | (simp; done) | (simp; omega)))))).mono ?_
              rintro e w14 ⟨rfl, hb14⟩
              have hz14 := hb14.size
              (try simp at hz14)
              have ags : w.heap.size ≤ w12.heap.size := by (try simp); omega
              have osx : X < w12.heap.size := by (try simp); omega
              have bx14 : Blk w14 (X) 25 #[.int .i64 lo, .int .i64 hi] := (by refine BlkG.start ?_; (repeat (first | ((with_reducible apply BlkG.done); (with_reducible assumption); exact rfl) | (with_reducible exact BlkG.newAt (by first | (with_reducible rfl) | omega | (simp; done) | (simp; omega)) rfl) | (with_reducible refine BlkG.drew ?_) | (with_reducible refine BlkG.drewN ?_) | (with_reducible refine BlkG.set ?_) | (with_reducible refine BlkG.far (by first | omega | (simp; done) | (simp; omega)) ?_) | (with_reducible refine BlkG.alloc ?_) | (with_reducible refine BlkG.bel (by with_reducible assumption) (by first | omega | (simp; done) | (simp; omega)) ?_))))
              have cx14_0 : w14.cell? ⟨X, 0, none⟩ = some (.int .i64 lo) := bx14.cell 0
              have fx14_0 : w14.frozen? ⟨X, 0, none⟩ = false := bx14.fz 0
              have cx14_1 : w14.cell? ⟨X, 1, none⟩ = some (.int .i64 hi) := bx14.cell 1
              have fx14_1 : w14.frozen? ⟨X, 1, none⟩ = false := bx14.fz 1
              have lx14 : X < w14.heap.size := bx14.lt
              have bs14 : Blk w14 (w12.heap.size) 25 #[.int .i64 0, .int .i64 0] := (by refine BlkG.start ?_; (repeat (first | ((with_reducible apply BlkG.done); (with_reducible assumption); exact rfl) | (with_reducible exact BlkG.newAt (by first | (with_reducible rfl) | omega | (simp; done) | (simp; omega)) rfl) | (with_reducible refine BlkG.drew ?_) | (with_reducible refine BlkG.drewN ?_) | (with_reducible refine BlkG.set ?_) | (with_reducible refine BlkG.far (by first | omega | (simp; done) | (simp; omega)) ?_) | (with_reducible refine BlkG.alloc ?_) | (with_reducible refine BlkG.bel (by with_reducible assumption) (by first | omega | (simp; done) | (simp; omega)) ?_))))
              have cs14_0 : w14.cell? ⟨w12.heap.size, 0, none⟩ = some (.int .i64 0) := bs14.cell 0
              have fs14_0 : w14.frozen? ⟨w12.heap.size, 0, none⟩ = false := bs14.fz 0
              have cs14_1 : w14.cell? ⟨w12.heap.size, 1, none⟩ = some (.int .i64 0) := bs14.cell 1
              have fs14_1 : w14.frozen? ⟨w12.heap.size, 1, none⟩ = false := bs14.fz 1
              have ls14 : w12.heap.size < w14.heap.size := bs14.lt
              have HB14 : Below w.heap.size w w14 := (by repeat (first | with_reducible exact Below.refl _ _ | (with_reducible refine Below.alloc ?_ (by first | omega | (simp; done) | (simp; omega)) _) | (with_reducible refine Below.setCell ?_ (by first | omega | (simp; done) | (simp; omega)) _) | (with_reducible refine Below.drew ?_) | (with_reducible refine below_drewN ?_ _) | (with_reducible assumption) | (with_reducible refine bel_step (by with_reducible assumption) ?_ (by first | omega | (simp; done) | (simp; omega)))))
              have HZ14 := HB14.size
              clear hb14 hz14 HB12 HZ12 bx12 lx12 cx12_0 fx12_0 cx12_1 fx12_1 
              go_wp2_with fail
              refine (CE1.out _ (by repeat (first | with_reducible exact Below.refl _ _ | (with_reducible refine Below.alloc ?_ (by first | omega | (simp; done) | (simp; omega)) _) | (with_reducible refine Below.setCell ?_ (by first | omega | (simp; done) | (simp; omega)) _) | (with_reducible refine Below.drew ?_) | (with_reducible refine below_drewN ?_ _) | (with_reducible assumption) | (with_reducible refine bel_step (by with_reducible assumption) ?_ (by first | omega | (simp; done) | (simp; omega)))))).mono ?_
              rintro e w15 ⟨rfl, hb15⟩
              have hz15 := hb15.size
              (try simp at hz15)
              have bx15 : Blk w15 (X) 25 #[.int .i64 0, .int .i64 0] := (by refine BlkG.start ?_; (repeat (first | ((with_reducible apply BlkG.done); (with_reducible assumption); exact rfl) | (with_reducible exact BlkG.newAt (by first | (with_reducible rfl) | omega | (simp; done) | (simp; omega)) rfl) | (with_reducible refine BlkG.drew ?_) | (with_reducible refine BlkG.drewN ?_) | (with_reducible refine BlkG.set ?_) | (with_reducible refine BlkG.far (by first | omega | (simp; done) | (simp; omega)) ?_) | (with_reducible refine BlkG.alloc ?_) | (with_reducible refine BlkG.bel (by with_reducible assumption) (by first | omega | (simp; done) | (simp; omega)) ?_))))
              have cx15_0 : w15.cell? ⟨X, 0, none⟩ = some (.int .i64 0) := bx15.cell 0
              have fx15_0 : w15.frozen? ⟨X, 0, none⟩ = false := bx15.fz 0
              have cx15_1 : w15.cell? ⟨X, 1, none⟩ = some (.int .i64 0) := bx15.cell 1
              have fx15_1 : w15.frozen? ⟨X, 1, none⟩ = false := bx15.fz 1
              have lx15 : X < w15.heap.size := bx15.lt
              have bs15 : Blk w15 (w12.heap.size) 25 #[.int .i64 0, .int .i64 0] := (by refine BlkG.start ?_; (repeat (first | ((with_reducible apply BlkG.done); (with_reducible assumption); exact rfl) | (with_reducible exact BlkG.newAt (by first | (with_reducible rfl) | omega | (simp; done) | (simp; omega)) rfl) | (with_reducible refine BlkG.drew ?_) | (with_reducible refine BlkG.drewN ?_) | (with_reducible refine BlkG.set ?_) | (with_reducible refine BlkG.far (by first | omega | (simp; done) | (simp; omega)) ?_) | (with_reducible refine BlkG.alloc ?_) | (with_reducible refine BlkG.bel (by with_reducible assumption) (by first | omega | (simp; done) | (simp; omega)) ?_))))
              have cs15_0 : w15.cell? ⟨w12.heap.size, 0, none⟩ = some (.int .i64 0) := bs15.cell 0
              have fs15_0 : w15.frozen? ⟨w12.heap.size, 0, none⟩ = false := bs15.fz 0
              have cs15_1 : w15.cell? ⟨w12.heap.size, 1, none⟩ = some (.int .i64 0) := bs15.cell 1
              have fs15_1 : w15.frozen? ⟨w12.heap.size, 1, none⟩ = false := bs15.fz 1
              have ls15 : w12.heap.size < w15.heap.size := bs15.lt
              have HB15 : Below w.heap.size w w15 := (by repeat (first | with_reducible exact Below.refl _ _ | (with_reducible refine Below.alloc ?_ (by first | omega | (simp; done) | (simp; omega)) _) | (with_reducible refine Below.setCell ?_ (by first | omega | (simp; done) | (simp; omega)) _) | (with_reducible refine Below.drew ?_) | (with_reducible refine below_drewN ?_ _) | (with_reducible assumption) | (with_reducible refine bel_step (by with_reducible assumption) ?_ (by first | omega | (simp; done) | (simp; omega)))))
              have HZ15 := HB15.size
              clear hb15 hz15 HB14 HZ14 bx14 lx14 cx14_0 fx14_0 cx14_1 fx14_1 bs14 ls14 cs14_0 fs14_0 cs14_1 fs14_1 
              go_wp2_with fail
              go_ret
              exact ⟨rfl, HB15⟩
set_option maxRecDepth 100000 in
set_option maxHeartbeats 32000000 in
theorem walk (a0 : Option Addr) (n0 c0 : Nat) (z0 : List RSpan) (a1 : Int) (w : World) (h0 : IsRecs w RSpan.cells RSpan.ok 2 a0 n0 c0 z0) (h1 : -9223372036854775808 ≤ a1 ∧ a1 ≤ 9223372036854775807) (hg : HandleAt w) :
    Calls Tryd.prog 3 #[.slice a0 n0 c0, .int .i64 a1] w fun e w' => e = .returned (.bool true) ∧ Below w.heap.size w w' := by
  by_cases e0 : spansC z0 = 0
  · exact good a0 n0 c0 z0 a1 w h0 h1 hg e0
  · exact bad a0 n0 c0 z0 a1 w h0 hg e0

set_option maxRecDepth 100000 in
theorem lifted (os : Os) (started : os.Started) (H : Type) (enc : TypeId × Value → H) :
    ReturnsInHanded {} Tryd.checked os 3 .any (fun w args => (Rows.voteTellsSpec.pre enc Tryd.prog Tryd.f3 [] false w args ∧ laidMetH Tryd.prog laidList w) ∧ sizedMet enc Tryd.prog Tryd.f3 (OpenSpec.ofChange Rows.voteTellsSpec) false w args)
      (Rows.voteTellsSpec.post enc Tryd.prog Tryd.f3 false true false false) := by
  refine returnsInHanded_of_change_and (C := Tryd.checked) (X := fun w _ => laidMetH Tryd.prog laidList w) (fun _ _ _ hh h => h.of_heap hh) own started (by kernel_rfl) Tryd.func3
    (ChangeSpec.witness_at (enc := enc) (C := Tryd.checked) (os := os) (X := fun w _ => laidMetH Tryd.prog laidList w) false (laidWorld os) #[.slice none 0 0, .int .i64 0] 8 rfl (by kernel_rfl) (by kernel_rfl) (by kernel_rfl) (by kernel_rfl) (by kernel_rfl) (laidWorld_met os _)) ?_
  intro W base args ds gs before hval0 hW hcnd hreach hL _
  have hval : ∀ (j : Nat) t v, Tryd.f3.params[j]? = some t → args[j]? = some v → Value.okWide Tryd.prog W .any base t v := hval0
  have hW' := hW
  obtain ⟨p, q, hA0, hV, rfl, hfz, hnd⟩ := hW
  have hA : DataW.TrodAll enc Tryd.prog W 0 (fun _ => true) true Tryd.f3.params.toList args.toList ds p := hA0
  rw [Tryd.params3] at hA hval
  obtain ⟨v0, vs0, d0, ds0, p0, q0, hargs, rfl, rfl, g0, r0⟩ := trodAll_cons hA
  obtain ⟨v1, vs1, d1, ds1, p1, q1, rfl, rfl, rfl, g1, r1⟩ := trodAll_cons r0
  obtain ⟨rfl, rfl, rfl⟩ := trodAll_nil r1
  obtain rfl : args = #[v0, v1] := by cases args; simp_all
  have hV2 : DataW.TrodVars enc Tryd.prog W (fun _ => true) [] gs q := hV
  obtain ⟨rfl, rfl⟩ : gs = [] ∧ q = [] := by
    cases gs with
    | nil => exact ⟨rfl, hV2⟩
    | cons g r => exact absurd hV2 (by intro h; cases h)
  have k0 := g0
  have lt0 : ∀ x ∈ p0, x.block < W.heap.size := by obtain ⟨m, hm⟩ := k0; exact DataW.trod_lt m _ _ _ hm
  have rd0 : Tryd.prog.readableRec 22 = true := by kernel_rfl
  have ls0 : 22 < Tryd.prog.types.size := of_decide_eq_true (by kernel_rfl)
  obtain ⟨a0, n0, c0, z0, rfl, h0⟩ := open_RSpans (hval 0 22 v0 rfl rfl) g0
  obtain ⟨a1, rfl, rfl, rfl, u1⟩ := open_int Tryd.underlying3 (hval 1 3 v1 rfl rfl) g1
  have h1 := bounds_i64 u1
  clear hA0 hval0
  refine (walk a0 n0 c0 z0 a1 W h0 h1 (handle_of_laid hL)).mono fun e W' ⟨he, bel⟩ => ?_
  subst he
  exact ⟨_, rfl, _, _, _, [], _, [], hW', trodAll_mk1 (shut_bool Tryd.underlying4 _), (trodAll_cons_mk (Below.trod laidOut rd0 ls0 k0 bel lt0) (trodAll_cons_mk (shut_int Tryd.underlying3 u1) trodAll_mk0)), rfl, bel.frame _, fun h => by cases h⟩

theorem over : Rows.voteTellsRow.holds Tryd.pinned (OpenSpec.ofChange Rows.voteTellsSpec) :=
  OpenClaim.holds_of_wide 3 Tryd.f3 rfl rfl rfl rfl rfl rfl rfl ⟨rfl, rfl, rfl, rfl, rfl⟩ rfl rfl rfl rfl rfl (by kernel_rfl) Tryd.func3 (by kernel_rfl)
    (of_decide_eq_true (by kernel_rfl)) (by unfold Func.isWrapper; rw [if_neg (of_decide_eq_false (by kernel_rfl))]; exact ⟨rfl, rfl⟩)
    (fun os started H enc _ => lifted os started H enc)

theorem card : Rows.VoteTellsCardSaid :=
  Claim7.holds_tied_plain_at .later [] [.handle] true (true, Rows.voteTellsCard.stood.harness.2) true
    over (fun _ h => by cases h) (by kernel_rfl) (fun _ h => by cases h) voteTells_row_tie rfl ⟨rfl, rfl⟩ (by kernel_rfl) rfl
    (fun f fn hf hfn => by
      obtain rfl : f = 3 := Option.some.inj ((show Tryd.prog.funcNamed "noonmark/noonlaw1.VoteTells" = some 3 by kernel_rfl).symm.trans hf) |>.symm
      obtain rfl : fn = Tryd.f3 := (Option.some.inj (Tryd.func3.symm.trans hfn)).symm
      exact ⟨by kernel_rfl, fun j t ht => by
        rw [Tryd.params3] at ht
        exact noStandIn (ps := #[22, 3]) (by kernel_rfl) ht⟩)
    (by kernel_rfl)

end Go.Proofs.YtfocabghbapncaaDoor.lVoteTells
