/- Proved: noonlaw4.ProbeBest answers true for every input and leaves its arguments as they were. No condition. -/
import Derived.Test.YtekhafhgodkkcaaOpen
import Derived.Test.YtekhafhgodkkcaaProbe
namespace Go.Proofs.Ytekhafhgodkkcaa.lProbeBest
open Go.ChangeShapes Go.WideShapes Go.ChangeAt Go.RowKit
set_option linter.unusedVariables false
set_option linter.unusedSimpArgs false
theorem bestGo_spec (p : Int) : ∀ (zs : List RProbe) (i : Nat) (a lo hi : Int), 0 < i → (bestGo p zs i a lo hi).c = 0 →
    (∀ (k : Nat) z, zs[k]? = some z → (offR z p).c = 0 ∧ (bestGo p zs i a lo hi).hi - (bestGo p zs i a lo hi).lo ≤ (offR z p).hi - (offR z p).lo) ∧ (bestGo p zs i a lo hi).hi - (bestGo p zs i a lo hi).lo ≤ hi - lo ∧
      (bestGo p zs i a lo hi = ⟨a, lo, hi, 0⟩ ∨ ∃ (j : Nat) (z : RProbe), zs[j]? = some z ∧ (bestGo p zs i a lo hi).at_ = ((i + j : Nat) : Int) ∧ offR z p = ⟨(bestGo p zs i a lo hi).lo, (bestGo p zs i a lo hi).hi, 0⟩)
  | [], i, a, lo, hi, _, _ => by simp [bestGo]
  | z :: zs, i, a, lo, hi, h0, h => by
    have e : bestGo p (z :: zs) i a lo hi = if (offR z p).c = 0 then (if betterB i (offR z p) lo hi = true then bestGo p zs (i + 1) i (offR z p).lo (offR z p).hi else bestGo p zs (i + 1) a lo hi) else ⟨0, 0, 0, (offR z p).c⟩ := rfl
    rw [e] at h ⊢
    by_cases hc : (offR z p).c = 0
    · rw [if_pos hc] at h ⊢
      by_cases hb : betterB i (offR z p) lo hi = true
      · rw [if_pos hb] at h ⊢
        obtain ⟨q1, q2, q3⟩ := bestGo_spec p zs (i + 1) i (offR z p).lo (offR z p).hi (by omega) h
        have hw : (offR z p).hi - (offR z p).lo < hi - lo := by
          simp only [betterB, Bool.or_eq_true, decide_eq_true_eq] at hb
          omega
        refine ⟨fun k y hy => ?_, by omega, .inr ?_⟩
        · cases k with
          | zero => simp at hy; subst hy; exact ⟨hc, q2⟩
          | succ k => exact q1 k y (by simpa using hy)
        · rcases q3 with q3 | ⟨j, y, r1, r2, r3⟩
          · exact ⟨0, z, rfl, by rw [q3]; rfl, by rw [q3]; cases hz : offR z p; simp [hz] at hc; simp [hc]⟩
          · exact ⟨j + 1, y, by simpa using r1, by rw [r2]; omega, r3⟩
      · rw [if_neg hb] at h ⊢
        obtain ⟨q1, q2, q3⟩ := bestGo_spec p zs (i + 1) a lo hi (by omega) h
        have hw : hi - lo ≤ (offR z p).hi - (offR z p).lo := by
          simp only [betterB, Bool.or_eq_true, decide_eq_true_eq] at hb
          omega
        refine ⟨fun k y hy => ?_, q2, ?_⟩
        · cases k with
          | zero => simp at hy; subst hy; exact ⟨hc, by omega⟩
          | succ k => exact q1 k y (by simpa using hy)
        · rcases q3 with q3 | ⟨j, y, r1, r2, r3⟩
          · exact .inl q3
          · exact .inr ⟨j + 1, y, by simpa using r1, by rw [r2]; omega, r3⟩
    · rw [if_neg hc] at h
      exact absurd h hc
theorem best_plain {p : Int} {zs : List RProbe} (h : (bestR p zs).c = 0) (k : Nat) (z : RProbe) (hz : zs[k]? = some z) :
    (offR z p).c = 0 ∧ (bestR p zs).hi - (bestR p zs).lo ≤ (offR z p).hi - (offR z p).lo ∧
      ∃ (j : Nat) (y : RProbe), zs[j]? = some y ∧ (bestR p zs).at_ = (j : Int) ∧ offR y p = ⟨(bestR p zs).lo, (bestR p zs).hi, 0⟩ := by
  unfold bestR at h ⊢
  by_cases c1 : 40 < zs.length
  · rw [if_pos c1] at h; simp at h
  rw [if_neg c1] at h ⊢
  by_cases c2 : zs.length = 0
  · rw [if_pos c2] at h; simp at h
  rw [if_neg c2] at h ⊢
  match zs, c2, hz, h with
  | x :: tl, _, hz, h =>
    have e : bestGo p (x :: tl) 0 0 0 0 = if (offR x p).c = 0 then (if betterB 0 (offR x p) 0 0 = true then bestGo p tl 1 ((0 : Nat) : Int) (offR x p).lo (offR x p).hi else bestGo p tl 1 0 0 0) else ⟨0, 0, 0, (offR x p).c⟩ := rfl
    rw [e] at h ⊢
    by_cases hc : (offR x p).c = 0
    · rw [if_pos hc, if_pos (by simp [betterB])] at h ⊢
      obtain ⟨q1, q2, q3⟩ := bestGo_spec p tl 1 ((0 : Nat) : Int) (offR x p).lo (offR x p).hi (by omega) h
      refine ⟨?_, ?_, ?_⟩
      · cases k with
        | zero => simp at hz; subst hz; exact hc
        | succ k => exact (q1 k z (by simpa using hz)).1
      · cases k with
        | zero => simp at hz; subst hz; exact q2
        | succ k => exact (q1 k z (by simpa using hz)).2
      · rcases q3 with q3 | ⟨j, y, r1, r2, r3⟩
        · exact ⟨0, x, rfl, by rw [q3], by rw [q3]; cases hz : offR x p; simp [hz] at hc; simp [hc]⟩
        · exact ⟨j + 1, y, by simpa using r1, by rw [r2]; omega, r3⟩
    · rw [if_neg hc] at h
      exact absurd h hc
theorem lit_recs (w : World) : IsRecs (w.alloc (.cells #[.int .i64 0, .int .i64 0, .int .i64 0, .int .i64 9, .int .i64 0, .int .i64 0, .int .i64 0, .int .i64 3, .int .i64 0, .int .i64 0, .int .i64 0, .int .i64 3] 52)) RProbe.cells RProbe.ok 4 (some ⟨w.heap.size, 0, none⟩) 3 3 [⟨0, 0, 0, 9⟩, ⟨0, 0, 0, 3⟩, ⟨0, 0, 0, 3⟩] := by
  refine ⟨rfl, by omega, by unfold maxLen; omega, ?_, fun _ => ⟨w.heap.size, 0, rfl, by simp, ?_⟩⟩
  · intro z hz
    simp only [List.mem_cons, List.not_mem_nil, or_false] at hz
    rcases hz with rfl | rfl | rfl <;> (unfold RProbe.ok i64B; simp)
  · intro i z hz j u hu
    have hi : i < 3 := by have := (List.getElem?_eq_some_iff.1 hz).1; simpa using this
    have hj : j < 4 := by have := (List.getElem?_eq_some_iff.1 hu).1; simpa [RProbe.cells] using this
    have hi' : i = 0 ∨ i = 1 ∨ i = 2 := by omega
    have hj' : j = 0 ∨ j = 1 ∨ j = 2 ∨ j = 3 := by omega
    rcases hi' with rfl | rfl | rfl <;> rcases hj' with rfl | rfl | rfl | rfl <;> (simp at hz; subst hz; simp [RProbe.cells] at hu; subst hu; simp)
set_option maxRecDepth 100000 in
set_option maxHeartbeats 4000000 in
theorem walk (a0 : Option Addr) (n0 c0 : Nat) (z0 : List RProbe) (a1 : Int) (a2 : Int) (w : World) (h0 : IsRecs w RProbe.cells RProbe.ok 4 a0 n0 c0 z0) (h1 : -9223372036854775808 ≤ a1 ∧ a1 ≤ 9223372036854775807) (h2 : -9223372036854775808 ≤ a2 ∧ a2 ≤ 9223372036854775807) :
    Calls Try.prog 11 #[.slice a0 n0 c0, .int .i64 a1, .int .i64 a2] w fun e w' => e = .returned (.bool true) ∧ Below w.heap.size w w' := by
  have f1 : bestR 0 [⟨0, 0, 0, 9⟩, ⟨0, 0, 0, 3⟩, ⟨0, 0, 0, 3⟩] = ⟨1, -3, 2, 0⟩ := rfl
  have hln := h0.1
  have hcc := h0.2.1
  have hmx := h0.2.2.1
  unfold maxLen at hmx
  have H0 := Lib.hid h0
  have HL := Lib.hid hln
  clear h0 hln
  by_cases d1 : (bestR a1 z0).c = 0
  · by_cases d2 : 0 ≤ a2 ∧ a2 < n0
    · obtain ⟨d3, d4⟩ := d2
      obtain ⟨k, rfl⟩ := Int.eq_ofNat_of_zero_le d3
      have hk : k < n0 := by omega
      obtain ⟨z, hz⟩ : ∃ z, z0[k]? = some z := ⟨_, List.getElem?_eq_getElem (by rw [HL.out]; exact hk)⟩
      obtain ⟨e1, e2, j, y, e3, e4, e5⟩ := best_plain d1 k z hz
      have hj : j < n0 := by have := (List.getElem?_eq_some_iff.1 e3).1; rw [HL.out] at this; exact this
      obtain ⟨b, off, rfl, hb, hcl⟩ := H0.out.2.2.2.2 (by omega)
      have x0 := hcl k z hz 0 _ rfl
      have x1 := hcl k z hz 1 _ rfl
      have x2 := hcl k z hz 2 _ rfl
      have x3 := hcl k z hz 3 _ rfl
      have y0 := hcl j y e3 0 _ rfl
      have y1 := hcl j y e3 1 _ rfl
      have y2 := hcl j y e3 2 _ rfl
      have y3 := hcl j y e3 3 _ rfl
      simp only [Nat.add_zero] at x0 y0
      unfold offR at e1 e2 e5
      have bd := offS_bd z.t1 z.t2 z.t3 z.t4 a1
      obtain ⟨g1, g2, g3, g4⟩ := bd
      have bd := offS_bd y.t1 y.t2 y.t3 y.t4 a1
      rw [e5] at bd
      obtain ⟨g5, g6, g7, g8⟩ := bd
      dsimp only at g5 g6 g7 g8
      have E5 := Lib.hid e5
      have X := Lib.hid (And.intro x0 (And.intro x1 (And.intro x2 x3)))
      have Y := Lib.hid (And.intro y0 (And.intro y1 (And.intro y2 y3)))
      clear hz e3 hcl d3 e5 x0 x1 x2 x3 y0 y1 y2 y3
      go_enter Try.func11, Try.ntmps11
      go_wp2_with fail
      refine (Best_any _ _ _ _ _ _ (lit_recs w)).mono ?_
      rintro e w1 ⟨rfl, hb1⟩
      have hz1 := hb1.size
      simp at hz1
      have HB1 := Lib.hid (show Below w.heap.size w w1 from bel_step hb1 (by repeat (first | exact Below.refl _ _ | (refine Below.alloc ?_ (by first | omega | (simp; done) | (simp; omega)) _) | (refine Below.setCell ?_ (by first | omega | (simp; done) | (simp; omega)) _) | (refine Below.drew ?_) | (refine below_drewN ?_ _) | (exact (by assumption)) | (refine bel_step (by assumption) ?_ (by first | omega | (simp; done) | (simp; omega))))) (by simp))
      clear hb1
      go_wp2_with fail
      refine (Best_any _ _ _ _ _ _ ((H0.out.below HB1.out).keep (by simp) (fun b' o h' => World.cell?_alloc_lt _ _ ⟨b', o, none⟩ h'))).mono ?_
      rintro e w2 ⟨rfl, hb2⟩
      have hz2 := hb2.size
      simp at hz2
      have HB2 := Lib.hid (show Below w.heap.size w w2 from bel_step hb2 (HB1.out.alloc (by omega) _) (by simp; omega))
      have e0 := HB2.out
      have x0 := (e0.cell (p := ⟨b, off + k * 4, none⟩) hb).trans X.out.1
      have x1 := (e0.cell (p := ⟨b, off + k * 4 + 1, none⟩) hb).trans X.out.2.1
      have x2 := (e0.cell (p := ⟨b, off + k * 4 + 2, none⟩) hb).trans X.out.2.2.1
      have x3 := (e0.cell (p := ⟨b, off + k * 4 + 3, none⟩) hb).trans X.out.2.2.2
      have hbw2 : b < w2.heap.size := by omega
      clear hb2 e0
      go_wp2_with fail
      refine (Offset_any _ _ _ _ _ _).mono ?_
      rintro e w3 ⟨rfl, hb3⟩
      have hz3 := hb3.size
      simp at hz3
      have s0 : w3.cell? ⟨w2.heap.size, 0, none⟩ = some (.int .i64 (bestR a1 z0).lo) := by rw [(bcell hb3).1 _ _ (by simp)]; simp
      have s1 : w3.cell? ⟨w2.heap.size, 1, none⟩ = some (.int .i64 (bestR a1 z0).hi) := by rw [(bcell hb3).1 _ _ (by simp)]; simp
      have HB3 := Lib.hid (show Below w.heap.size w w3 from bel_step hb3 (HB2.out.alloc (by omega) _) (by simp; omega))
      have e0 := HB3.out
      have y0 := (e0.cell (p := ⟨b, off + j * 4, none⟩) hb).trans Y.out.1
      have y1 := (e0.cell (p := ⟨b, off + j * 4 + 1, none⟩) hb).trans Y.out.2.1
      have y2 := (e0.cell (p := ⟨b, off + j * 4 + 2, none⟩) hb).trans Y.out.2.2.1
      have y3 := (e0.cell (p := ⟨b, off + j * 4 + 3, none⟩) hb).trans Y.out.2.2.2
      have hbw3 : b < w3.heap.size := by omega
      have hs3 : w2.heap.size < w3.heap.size := by omega
      clear hb3 e0 x0 x1 x2 x3
      have e5 := E5.out
      go_wp2_with fail
      refine (Offset_any _ _ _ _ _ _).mono ?_
      rintro e w4 ⟨rfl, hb4⟩
      have hz4 := hb4.size
      simp at hz4
      have s2 : w4.cell? ⟨w2.heap.size, 0, none⟩ = some (.int .i64 (bestR a1 z0).lo) := by rw [(bcell hb4).1 _ _ (by simp; omega), World.cell?_alloc_lt _ _ ⟨w2.heap.size, 0, none⟩ (by simp; omega)]; exact s0
      have s3 : w4.cell? ⟨w2.heap.size, 1, none⟩ = some (.int .i64 (bestR a1 z0).hi) := by rw [(bcell hb4).1 _ _ (by simp; omega), World.cell?_alloc_lt _ _ ⟨w2.heap.size, 1, none⟩ (by simp; omega)]; exact s1
      have t0 : w4.cell? ⟨w3.heap.size, 0, none⟩ = some (.int .i64 (offS z.t1 z.t2 z.t3 z.t4 a1).lo) := by rw [(bcell hb4).1 _ _ (by simp)]; simp
      have t1 : w4.cell? ⟨w3.heap.size, 1, none⟩ = some (.int .i64 (offS z.t1 z.t2 z.t3 z.t4 a1).hi) := by rw [(bcell hb4).1 _ _ (by simp)]; simp
      have HB4 := Lib.hid (show Below w.heap.size w w4 from bel_step hb4 (HB3.out.alloc (by omega) _) (by simp; omega))
      have hs4 : w3.heap.size < w4.heap.size := by omega
      have hs5 : w2.heap.size < w4.heap.size := by omega
      clear hb4 y0 y1 y2 y3 s0 s1
      go_wp2_with fail
      (try (go_quiet (fail); go_wp2_with fail))
      go_ret
      have HB5 := HB4.out
      exact ⟨by first | rfl | simp, (by repeat (first | exact Below.refl _ _ | (refine Below.alloc ?_ (by first | omega | (simp; done) | (simp; omega)) _) | (refine Below.setCell ?_ (by first | omega | (simp; done) | (simp; omega)) _) | (refine Below.drew ?_) | (refine below_drewN ?_ _) | (exact (by assumption)) | (refine bel_step (by assumption) ?_ (by first | omega | (simp; done) | (simp; omega)))))⟩
    · go_enter Try.func11, Try.ntmps11
      go_wp2_with fail
      refine (Best_any _ _ _ _ _ _ (lit_recs w)).mono ?_
      rintro e w1 ⟨rfl, hb1⟩
      have hz1 := hb1.size
      simp at hz1
      have HB1 := Lib.hid (show Below w.heap.size w w1 from bel_step hb1 (by repeat (first | exact Below.refl _ _ | (refine Below.alloc ?_ (by first | omega | (simp; done) | (simp; omega)) _) | (refine Below.setCell ?_ (by first | omega | (simp; done) | (simp; omega)) _) | (refine Below.drew ?_) | (refine below_drewN ?_ _) | (exact (by assumption)) | (refine bel_step (by assumption) ?_ (by first | omega | (simp; done) | (simp; omega))))) (by simp))
      clear hb1
      go_wp2_with fail
      refine (Best_any _ _ _ _ _ _ ((H0.out.below HB1.out).keep (by simp) (fun b' o h' => World.cell?_alloc_lt _ _ ⟨b', o, none⟩ h'))).mono ?_
      rintro e w2 ⟨rfl, hb2⟩
      have HB2 := (show Below w.heap.size w w2 from bel_step hb2 (HB1.out.alloc (by omega) _) (by simp; omega))
      have hz2 := HB2.size
      clear hb2
      have D2 := Lib.hid d2
      clear d2
      go_wp2_with fail
      all_goals first | (go_ret; exact ⟨by first | rfl | simp, (by repeat (first | exact Below.refl _ _ | (refine Below.alloc ?_ (by first | omega | (simp; done) | (simp; omega)) _) | (refine Below.setCell ?_ (by first | omega | (simp; done) | (simp; omega)) _) | (refine Below.drew ?_) | (refine below_drewN ?_ _) | (exact (by assumption)) | (refine bel_step (by assumption) ?_ (by first | omega | (simp; done) | (simp; omega)))))⟩) | (exfalso; have := D2.out; omega)
  · have he := errV_ne d1
    go_enter Try.func11, Try.ntmps11
    go_wp2_with fail
    refine (Best_any _ _ _ _ _ _ (lit_recs w)).mono ?_
    rintro e w1 ⟨rfl, hb1⟩
    have hz1 := hb1.size
    simp at hz1
    have HB1 := Lib.hid (show Below w.heap.size w w1 from bel_step hb1 (by repeat (first | exact Below.refl _ _ | (refine Below.alloc ?_ (by first | omega | (simp; done) | (simp; omega)) _) | (refine Below.setCell ?_ (by first | omega | (simp; done) | (simp; omega)) _) | (refine Below.drew ?_) | (refine below_drewN ?_ _) | (exact (by assumption)) | (refine bel_step (by assumption) ?_ (by first | omega | (simp; done) | (simp; omega))))) (by simp))
    clear hb1
    go_wp2_with fail
    refine (Best_any _ _ _ _ _ _ ((H0.out.below HB1.out).keep (by simp) (fun b' o h' => World.cell?_alloc_lt _ _ ⟨b', o, none⟩ h'))).mono ?_
    rintro e w2 ⟨rfl, hb2⟩
    have HB2 := (show Below w.heap.size w w2 from bel_step hb2 (HB1.out.alloc (by omega) _) (by simp; omega))
    have hz2 := HB2.size
    clear hb2
    go_wp2_with fail
    go_ret
    exact ⟨by first | rfl | simp, (by repeat (first | exact Below.refl _ _ | (refine Below.alloc ?_ (by first | omega | (simp; done) | (simp; omega)) _) | (refine Below.setCell ?_ (by first | omega | (simp; done) | (simp; omega)) _) | (refine Below.drew ?_) | (refine below_drewN ?_ _) | (exact (by assumption)) | (refine bel_step (by assumption) ?_ (by first | omega | (simp; done) | (simp; omega)))))⟩

set_option maxRecDepth 100000 in
theorem lifted (os : Os) (started : os.Started) (H : Type) (enc : TypeId × Value → H) :
    ReturnsInHanded {} Try.checked os 11 .any (Rows.probeBestSpec.pre6 enc Try.prog Try.f11 Rows.probeBestRow.domain false) (Rows.probeBestSpec.post enc Try.prog Try.f11 false true false false) := by
  refine returnsInHanded_of_change (C := Try.checked) own started (by kernel_rfl) Try.func11
    (ChangeSpec.witness6 (enc := enc) (C := Try.checked) false ⟨#[], #[.slice none 0 0, .int .i64 0, .int .i64 0], []⟩ 8 (by kernel_rfl) (by kernel_rfl) (by kernel_rfl) (by kernel_rfl)) ?_
  intro W base args ds gs before hval0 hW hcnd hreach
  have hval : ∀ (j : Nat) t v, Try.f11.params[j]? = some t → args[j]? = some v → Value.okWide Try.prog W .any base t v := hval0
  have hW' := hW
  obtain ⟨p, q, hA0, hV, rfl, hfz, hnd⟩ := hW
  have hA : DataW.TrodAll enc Try.prog W 0 (fun _ => true) true Try.f11.params.toList args.toList ds p := hA0
  rw [Try.params11] at hA hval
  obtain ⟨v0, vs0, d0, ds0, p0, q0, hargs, rfl, rfl, g0, r0⟩ := trodAll_cons hA
  obtain ⟨v1, vs1, d1, ds1, p1, q1, rfl, rfl, rfl, g1, r1⟩ := trodAll_cons r0
  obtain ⟨v2, vs2, d2, ds2, p2, q2, rfl, rfl, rfl, g2, r2⟩ := trodAll_cons r1
  obtain ⟨rfl, rfl, rfl⟩ := trodAll_nil r2
  obtain rfl : args = #[v0, v1, v2] := by cases args; simp_all
  obtain ⟨rfl, rfl⟩ := trodVars_none hV
  have k0 := g0
  have lt0 : ∀ x ∈ p0, x.block < W.heap.size := by obtain ⟨m, hm⟩ := k0; exact DataW.trod_lt m _ _ _ hm
  have rd0 : Try.prog.readableRec 56 = true := by kernel_rfl
  have ls0 : 56 < Try.prog.types.size := of_decide_eq_true (by kernel_rfl)
  obtain ⟨a0, n0, c0, z0, rfl, h0⟩ := open_RProbes (hval 0 56 v0 rfl rfl) g0
  obtain ⟨a1, rfl, rfl, rfl, u1⟩ := open_int Try.underlying3 (hval 1 3 v1 rfl rfl) g1
  have h1 := bounds_i64 u1
  obtain ⟨a2, rfl, rfl, rfl, u2⟩ := open_int Try.underlying3 (hval 2 3 v2 rfl rfl) g2
  have h2 := bounds_i64 u2
  clear hA0 hval0
  refine (walk a0 n0 c0 z0 a1 a2 W h0 h1 h2).mono fun e W' ⟨he, bel⟩ => ?_
  subst he
  exact ⟨_, rfl, _, _, _, [], _, [], hW', trodAll_mk1 (shut_bool Try.underlying4 _), (trodAll_cons_mk (Below.trod laidOut rd0 ls0 k0 bel lt0) (trodAll_cons_mk (shut_int Try.underlying3 u1) (trodAll_cons_mk (shut_int Try.underlying3 u2) trodAll_mk0))), rfl, bel.frame _, fun h => by cases h⟩

theorem over : Rows.probeBestRow.holds Try.pinned (OpenSpec.ofChange Rows.probeBestSpec) :=
  OpenClaim.holds_of_wide 11 Try.f11 rfl rfl rfl rfl rfl rfl rfl ⟨rfl, rfl, rfl, rfl, rfl⟩ rfl rfl rfl rfl rfl (by kernel_rfl) Try.func11 (by kernel_rfl)
    (of_decide_eq_true (by kernel_rfl)) (by unfold Func.isWrapper; rw [if_neg (of_decide_eq_false (by kernel_rfl))]; exact ⟨rfl, rfl⟩)
    (fun os started H enc _ => lifted os started H enc)

/-- the statement -/
theorem proved : Rows.ProbeBestSaid := over

#print axioms proved
end Go.Proofs.Ytekhafhgodkkcaa.lProbeBest
