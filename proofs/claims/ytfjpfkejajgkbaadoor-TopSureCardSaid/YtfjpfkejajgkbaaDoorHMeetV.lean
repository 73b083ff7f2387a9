/- vote.Meet, walked, for spans that have a number in all of them. -/
import Derived.Test.YtfjpfkejajgkbaaDoorHSpansC
import Derived.Test.YtfjpfkejajgkbaaDoorHG1
import Derived.Deep.Light
namespace Go.Proofs.YtfjpfkejajgkbaaDoor
open Go.RowKit
set_option linter.unusedVariables false
set_option linter.unusedSimpArgs false
theorem bounds_S {z : RSpan} (h : spB z = true) : z.lo ≤ z.hi ∧ -1000000000000 ≤ z.lo ∧ z.hi ≤ 1000000000000 := rightB_iff.1 h
set_option maxRecDepth 100000 in
set_option maxHeartbeats 8000000 in
/-- if all spans have x, then so has what all have. -/
theorem vote_Meet_in (A : Option Addr) (n c : Nat) (zs : List RSpan) (x : Int) (w : World) (h : IsRecs w RSpan.cells RSpan.ok 2 A n c zs) (e0 : spansC zs = 0) (hx : ∀ z ∈ zs, z.lo ≤ x ∧ x ≤ z.hi) :
    Calls Tryd.prog 25 #[.slice A n c] w fun e w' => ∃ lo hi : Int, e = .returned (.tuple #[.agg #[.int .i64 lo, .int .i64 hi], .nilIface]) ∧ (-1000000000000 ≤ lo ∧ lo ≤ x ∧ x ≤ hi ∧ hi ≤ 1000000000000) ∧ Below w.heap.size w w' := by
  obtain ⟨p1, p2, p3⟩ := spansC_0 e0
  rw [h.1] at p1 p2
  have C1 := Lib.hid (fun w' (hb : Below w.heap.size w w') => by
    have := vote_Check A n c zs w' (h.below hb)
    rw [e0, errV_0] at this
    exact this)
  obtain ⟨l1, l2, l3, l4, l5⟩ := h
  unfold maxLen at l3
  obtain ⟨b, off, rfl, hb, hc⟩ := l5 p2
  have L1 := Lib.hid l1
  have HXA := Lib.hid (fun z hz => And.intro (hx z hz) (bounds_S (p3 z hz)))
  have HC := Lib.hid (show ∀ wr, Below w.heap.size w wr → ∀ k z, zs[k]? = some z → wr.cell? ⟨b, off + k * 2, none⟩ = some (.int .i64 z.lo) ∧ wr.cell? ⟨b, off + k * 2 + 1, none⟩ = some (.int .i64 z.hi) from fun wr hB k z hz =>
    ⟨(hB.cell (p := ⟨b, off + k * 2, none⟩) hb).trans (hc k z hz 0 _ rfl), (hB.cell (p := ⟨b, off + k * 2 + 1, none⟩) hb).trans (hc k z hz 1 _ rfl)⟩)
  obtain ⟨z0, hz0⟩ : ∃ z, zs[0]? = some z := ⟨_, List.getElem?_eq_getElem (by omega)⟩
  have HZ0 := Lib.hid hz0
  clear l1 l4 l5 hc hx p3 e0 hz0
  go_enter Tryd.func25, Tryd.ntmps25
  go_wp2_with fail
  refine (C1.out _ ((Below.refl _ w).alloc (Nat.le_refl _) _)).mono ?_
  rintro e w1 ⟨rfl, hb1⟩
  have hz1 := hb1.size
  simp at hz1
  have HB1 := Lib.hid (((Below.refl _ w).alloc (Nat.le_refl _) _).trans (hb1.mono (by simp)))
  have bR : Blk w1 w.heap.size 41 #[.int .i64 0, .int .i64 0] := (Blk.new w _ _).below hb1 (by simp)
  have BR := Lib.hid bR
  obtain ⟨x0, x1⟩ := HC.out w1 HB1.out 0 z0 HZ0.out
  simp only [Nat.zero_mul, Nat.add_zero] at x0 x1
  have k1 : (1 : Int) ≤ (n : Int) := by omega
  have k2 : (1 : Int) ≤ (c : Int) := by omega
  have hx0 := HXA.out z0 (List.mem_of_getElem? HZ0.out)
  have lt1 : w.heap.size < w1.heap.size := by omega
  clear hb1 bR C1
  by_cases c1 : n = 1
  · subst c1
    rcases (by omega : c = 1 ∨ 1 < c) with c2 | c2
    · subst c2
      as_aux_lemma =>
        go_wp2_with fail
        refine wp_loop_rounds 1 ?_
        rw [rounds_succ]
        have r0 : w1.cell? ⟨w.heap.size, 0, none⟩ = some (.int .i64 0) := BR.out.cell 0
        have r1 : w1.cell? ⟨w.heap.size, 1, none⟩ = some (.int .i64 0) := BR.out.cell 1
        have f0 := BR.out.fz 0
        have f1 := BR.out.fz 1
        go_wp2_with fail
        refine bodyPost_ret (v := .tuple #[.agg #[.int .i64 z0.lo, .int .i64 z0.hi], .nilIface]) (by simp [results, Tryd.results25, go_sem, *]) rfl ⟨z0.lo, z0.hi, rfl, by omega, ?_⟩
        first
          | exact ((HB1.out.alloc (by omega) _).setCell (p := ⟨w.heap.size, 0, none⟩) (Nat.le_refl _) _).setCell (p := ⟨w.heap.size, 1, none⟩) (Nat.le_refl _) _
          | exact ((HB1.out.setCell (p := ⟨w.heap.size, 0, none⟩) (Nat.le_refl _) _).setCell (p := ⟨w.heap.size, 1, none⟩) (Nat.le_refl _) _).alloc (by simp; omega) _
    · have c3 : ¬ c - 1 = 0 := by omega
      as_aux_lemma =>
        go_wp2_with fail
        refine wp_loop_rounds 1 ?_
        rw [rounds_succ]
        have r0 : w1.cell? ⟨w.heap.size, 0, none⟩ = some (.int .i64 0) := BR.out.cell 0
        have r1 : w1.cell? ⟨w.heap.size, 1, none⟩ = some (.int .i64 0) := BR.out.cell 1
        have f0 := BR.out.fz 0
        have f1 := BR.out.fz 1
        go_wp2_with fail
        refine bodyPost_ret (v := .tuple #[.agg #[.int .i64 z0.lo, .int .i64 z0.hi], .nilIface]) (by simp [results, Tryd.results25, go_sem, *]) rfl ⟨z0.lo, z0.hi, rfl, by omega, ?_⟩
        first
          | exact ((HB1.out.alloc (by omega) _).setCell (p := ⟨w.heap.size, 0, none⟩) (Nat.le_refl _) _).setCell (p := ⟨w.heap.size, 1, none⟩) (Nat.le_refl _) _
          | exact ((HB1.out.setCell (p := ⟨w.heap.size, 0, none⟩) (Nat.le_refl _) _).setCell (p := ⟨w.heap.size, 1, none⟩) (Nat.le_refl _) _).alloc (by simp; omega) _
  · have c3 : ¬ c - 1 = 0 := by omega
    as_aux_lemma =>
      go_wp2_with fail
      obtain ⟨W0, hW0⟩ : ∃ W0, w1.alloc (.cells #[.int .i64 z0.lo, .int .i64 z0.hi] 41) = W0 := ⟨_, rfl⟩
      rw [hW0]
      have bO : Blk W0 w1.heap.size 41 #[.int .i64 z0.lo, .int .i64 z0.hi] := by rw [← hW0]; exact Blk.new w1 _ _
      have bR0 : Blk W0 w.heap.size 41 #[.int .i64 0, .int .i64 0] := by rw [← hW0]; exact BR.out.alloc _
      have hB0 : Below w.heap.size w W0 := by rw [← hW0]; exact HB1.out.alloc (by omega) _
      have BO := Lib.hid bO
      have BR0 := Lib.hid bR0
      have HB0 := Lib.hid hB0
      obtain ⟨OB, hOB⟩ : ∃ O, w1.heap.size = O := ⟨_, rfl⟩
      rw [hOB] at BO lt1 ⊢
      clear bO bR0 hB0 hW0 x0 x1 BR HB1 hz1
      go_loopw [22] (fun kv wr => ∃ (k : Nat) (lo hi : Int), kv = .int .i64 k ∧ k ≤ n - 1 ∧ (-1000000000000 ≤ lo ∧ lo ≤ x ∧ x ≤ hi ∧ hi ≤ 1000000000000) ∧ Blk wr OB 41 #[.int .i64 lo, .int .i64 hi] ∧ Blk wr w.heap.size 41 #[.int .i64 0, .int .i64 0] ∧ Below w.heap.size w wr) (fun kv _ => n - (intOf kv).toNat)
      case atStart => exact ⟨0, z0.lo, z0.hi, rfl, by omega, by omega, BO.out, BR0.out, HB0.out⟩
      case round =>
        obtain ⟨k, lo, hi, rfl, hk, hbd, bO, bR, hB⟩ := hrel
        have BO := Lib.hid bO
        have BR := Lib.hid bR
        have HB := Lib.hid hB
        have o0 : wr.cell? ⟨OB, 0, none⟩ = some (.int .i64 lo) := bO.cell 0
        have o1 : wr.cell? ⟨OB, 1, none⟩ = some (.int .i64 hi) := bO.cell 1
        have fo0 := bO.fz 0
        have fo1 := bO.fz 1
        have r0 : wr.cell? ⟨w.heap.size, 0, none⟩ = some (.int .i64 0) := bR.cell 0
        have r1 : wr.cell? ⟨w.heap.size, 1, none⟩ = some (.int .i64 0) := bR.cell 1
        have f0 := bR.fz 0
        have f1 := bR.fz 1
        have ltO : OB < wr.heap.size := bO.lt
        have hzw := hB.size
        have hne : w.heap.size ≠ OB := by omega
        clear bO bR hB HB0 BR0
        by_cases d1 : k < n - 1
        · obtain ⟨z, hz⟩ : ∃ z, zs[k + 1]? = some z := ⟨_, List.getElem?_eq_getElem (by rw [L1.out]; omega)⟩
          obtain ⟨y0, y1⟩ := HC.out wr HB.out (k + 1) z hz
          have hxz := HXA.out z (List.mem_of_getElem? hz)
          rw [show off + (k + 1) * 2 = off + 2 + k * 2 by omega] at y0 y1
          have hcm : commonB lo hi z.lo z.hi = true := by unfold commonB; simp; omega
          have CM := Lib.hid (fun W' => Common_any lo hi z.lo z.hi W')
          rw [hcm] at CM
          obtain ⟨p, hp⟩ : ∃ p, max lo z.lo = p := ⟨_, rfl⟩
          obtain ⟨q, hq⟩ : ∃ q, min hi z.hi = q := ⟨_, rfl⟩
          have hpq : -1000000000000 ≤ p ∧ p ≤ x ∧ x ≤ q ∧ q ≤ 1000000000000 := by omega
          rw [hp, hq] at CM
          clear hz hp hq hcm
          as_aux_lemma =>
            go_wp2_with fail
            refine (CM.out _).mono ?_
            rintro e w3 ⟨rfl, hb3⟩
            have hz3 := hb3.size
            simp at hz3
            have bO3 := (BO.out.alloc (.cells #[.int .i64 z.lo, .int .i64 z.hi] 41)).below hb3 (by simp; omega)
            have bR3 := (BR.out.alloc (.cells #[.int .i64 z.lo, .int .i64 z.hi] 41)).below hb3 (by simp; omega)
            have HB3 := Lib.hid ((HB.out.alloc hzw (.cells #[.int .i64 z.lo, .int .i64 z.hi] 41)).trans (hb3.mono (by simp; omega)))
            have BO3 := Lib.hid bO3
            have BR3 := Lib.hid bR3
            have o30 : w3.cell? ⟨OB, 0, none⟩ = some (.int .i64 lo) := bO3.cell 0
            have o31 : w3.cell? ⟨OB, 1, none⟩ = some (.int .i64 hi) := bO3.cell 1
            have fo30 := bO3.fz 0
            have fo31 := bO3.fz 1
            have lt3 : OB < w3.heap.size := bO3.lt
            have h03 : w.heap.size ≤ w3.heap.size := by omega
            have h04 : w.heap.size ≤ OB := by omega
            have HK := Lib.hid (show k + 1 ≤ n - 1 by omega)
            clear hb3 bO3 bR3 CM o0 o1 fo0 fo1 r0 r1 f0 f1 y0 y1 hz3
            go_wp2_with fail
            go_roundw
            case rel => exact ⟨k + 1, p, q, by go_num, HK.out, hpq, (((BO3.out.set 0 (.int .i64 p)).set 1 (.int .i64 q)).conv rfl).alloc _, ((BR3.out.far (p := ⟨OB, 0, none⟩) hne _).far (p := ⟨OB, 1, none⟩) hne _).alloc _, ((HB3.out.setCell (p := ⟨OB, 0, none⟩) h04 _).setCell (p := ⟨OB, 1, none⟩) h04 _).alloc (by simp; exact h03) _⟩
            case measure => go_light; simp [intOf]; omega
        · as_aux_lemma =>
            go_wp2_with fail
            refine bodyPost_ret (v := .tuple #[.agg #[.int .i64 lo, .int .i64 hi], .nilIface]) (by simp [results, Tryd.results25, go_sem, *]) rfl ⟨lo, hi, rfl, hbd, ?_⟩
            exact (HB.out.setCell (p := ⟨w.heap.size, 0, none⟩) (Nat.le_refl _) _).setCell (p := ⟨w.heap.size, 1, none⟩) (Nat.le_refl _) _
end Go.Proofs.YtfjpfkejajgkbaaDoor
