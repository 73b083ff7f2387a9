/- bounds.Between, walked. -/
import Derived.Test.YtfjpfkejajgkbaaDoorHAll
namespace Go.Proofs.YtfjpfkejajgkbaaDoor
open Go.RowKit
set_option linter.unusedVariables false
set_option linter.unusedSimpArgs false
/-- what of two nodes is told; the fault. -/
def BetS (N : Int) (zs : List REdge) (a b : Int) (x : RSpan) (c : Int) : Prop :=
  (edgesC N zs ≠ 0 ∧ c = edgesC N zs ∧ x = ⟨0, 0⟩) ∨ (edgesC N zs = 0 ∧ (nodeB N a && nodeB N b) = false ∧ c = 1 ∧ x = ⟨0, 0⟩) ∨
  (edgesC N zs = 0 ∧ (nodeB N a && nodeB N b) = true ∧ ((Sunk (Arc zs) N.toNat ∧ c = 7 ∧ x = ⟨0, 0⟩) ∨ (¬ Sunk (Arc zs) N.toNat ∧ ∃ D : Nat → Nat → Int, Tells (Arc zs) N.toNat D (fun a b => decide (D a b < farI)) ∧
    (((∃ i j, i < N.toNat ∧ j < N.toNat ∧ ¬ timeD D i j) ∧ c = 1 ∧ x = ⟨0, 0⟩) ∨ ((∀ i j, i < N.toNat → j < N.toNat → timeD D i j) ∧
      ((¬ D a.toNat b.toNat < farI ∧ c = 5 ∧ x = ⟨0, 0⟩) ∨ (D a.toNat b.toNat < farI ∧ c = 0 ∧ x = ⟨-(D b.toNat a.toNat), D a.toNat b.toNat⟩)))))))
def BetP (N : Int) (zs : List REdge) (a b : Int) (w w' : World) (e : Ending) : Prop :=
  ∃ (x : RSpan) (c : Int), e = .returned (.tuple #[.agg #[.int .i64 x.lo, .int .i64 x.hi], errV c]) ∧ BetS N zs a b x c ∧ Below w.heap.size w w'
set_option maxHeartbeats 4000000 in
theorem bounds_Between (N : Int) (A : Option Addr) (n c : Nat) (zs : List REdge) (a b : Int) (w : World) (hz : IsRecs w REdge.cells REdge.ok 4 A n c zs) :
    Calls Tryd.prog 35 #[.int .i64 N, .slice A n c, .int .i64 a, .int .i64 b] w fun e w' => BetP N zs a b w w' e := by
  have hm1 := hz.2.1
  have hm2 := hz.2.2.1
  unfold maxLen at hm2
  have C := Lib.hid (fun w' (hb : Below w.heap.size w w') => bounds_Check N A n c zs w' (hz.below hb))
  have HZ := Lib.hid hz
  clear hz
  by_cases c0 : edgesC N zs = 0
  · rw [c0] at C
    have C0 := Lib.hid c0
    obtain ⟨c4, c5, c6, c7⟩ := edgesC_0 c0
    obtain ⟨N', rfl⟩ := Int.eq_ofNat_of_zero_le (show 0 ≤ N by omega)
    clear c6 c7
    cases hnd : (nodeB N' a && nodeB N' b)
    · have HND := Lib.hid hnd
      have hnd2 : nodeB N' a = false ∨ nodeB N' a = true ∧ nodeB N' b = false := by
        cases h1 : nodeB N' a
        · exact .inl rfl
        · rw [h1] at hnd; exact .inr ⟨rfl, by simpa using hnd⟩
      clear hnd c0
      rcases hnd2 with h1 | ⟨h1, h2⟩
      all_goals
        go_enter Tryd.func35, Tryd.ntmps35
        go_wp2_with fail
        refine (C.out _ (by repeat (first | with_reducible exact Below.refl _ _ | (with_reducible refine Below.alloc ?_ (by first | omega | (simp; done) | (simp; omega)) _) | (with_reducible refine Below.setCell ?_ (by first | omega | (simp; done) | (simp; omega)) _) | (with_reducible refine Below.drew ?_) | (with_reducible refine below_drewN ?_ _) | (with_reducible assumption) | (with_reducible refine bel_step (by with_reducible assumption) ?_ (by first | omega | (simp; done) | (simp; omega)))))).mono ?_
        rintro e w1 ⟨rfl, hb1⟩
        have hr0 : w1.cell? ⟨w.heap.size, 0, none⟩ = some (.int .i64 0) := (hb1.cell (p := ⟨w.heap.size, 0, none⟩) (by simp)).trans (by simp)
        have hr1 : w1.cell? ⟨w.heap.size, 1, none⟩ = some (.int .i64 0) := (hb1.cell (p := ⟨w.heap.size, 1, none⟩) (by simp)).trans (by simp)
        have hf0 := fun o => (hb1.frozen (p := ⟨w.heap.size, o, none⟩) (by simp)).trans (by simp : (w.alloc (.cells #[.int .i64 0, .int .i64 0] 41)).frozen? ⟨w.heap.size, o, none⟩ = false)
        have hlt := hb1.size
        simp at hlt
        have HB1 := Lib.hid hb1
        clear hb1
        go_wp2_with (go_at_call 34; refine (Node_any _ _ _).mono ?_; rintro e w' ⟨rfl, rfl⟩)
        refine bodyPost_ret (v := .tuple #[.agg #[.int .i64 0, .int .i64 0], .iface 87 (.int .i64 1)]) (by simp [results, Tryd.results35, go_sem, hr0, hr1, hf0]) rfl ?_
        exact ⟨⟨0, 0⟩, 1, rfl, .inr (.inl ⟨C0.out, HND.out, rfl, rfl⟩), by have := HB1.out; exact (by repeat (first | with_reducible exact Below.refl _ _ | (with_reducible refine Below.alloc ?_ (by first | omega | (simp; done) | (simp; omega)) _) | (with_reducible refine Below.setCell ?_ (by first | omega | (simp; done) | (simp; omega)) _) | (with_reducible refine Below.drew ?_) | (with_reducible refine below_drewN ?_ _) | (with_reducible assumption) | (with_reducible refine bel_step (by with_reducible assumption) ?_ (by first | omega | (simp; done) | (simp; omega)))))⟩
    · have HND := Lib.hid hnd
      have h1 : nodeB N' a = true := by cases h : nodeB N' a; (rw [h] at hnd; cases hnd); rfl
      have h2 : nodeB N' b = true := by rw [h1] at hnd; simpa using hnd
      have CA := Lib.hid (fun w' (hb : Below w.heap.size w w') => bounds_All_ok N' A n c zs w' (HZ.out.below hb) C0.out)
      obtain ⟨n1, n2⟩ := nodeB_iff.1 h1
      obtain ⟨n3, n4⟩ := nodeB_iff.1 h2
      clear hnd c0
      go_enter Tryd.func35, Tryd.ntmps35
      go_wp2_with fail
      refine (C.out _ (by repeat (first | with_reducible exact Below.refl _ _ | (with_reducible refine Below.alloc ?_ (by first | omega | (simp; done) | (simp; omega)) _) | (with_reducible refine Below.setCell ?_ (by first | omega | (simp; done) | (simp; omega)) _) | (with_reducible refine Below.drew ?_) | (with_reducible refine below_drewN ?_ _) | (with_reducible assumption) | (with_reducible refine bel_step (by with_reducible assumption) ?_ (by first | omega | (simp; done) | (simp; omega)))))).mono ?_
      rintro e w1 ⟨rfl, hb1⟩
      have HB1 := Lib.hid hb1
      have hz1 := hb1.size
      simp at hz1
      clear hb1
      go_wp2_with (go_at_call 34; refine (Node_any _ _ _).mono ?_; rintro e w' ⟨rfl, rfl⟩)
      refine (CA.out _ (show Below w.heap.size w w1 by have := HB1.out; exact (by repeat (first | with_reducible exact Below.refl _ _ | (with_reducible refine Below.alloc ?_ (by first | omega | (simp; done) | (simp; omega)) _) | (with_reducible refine Below.setCell ?_ (by first | omega | (simp; done) | (simp; omega)) _) | (with_reducible refine Below.drew ?_) | (with_reducible refine below_drewN ?_ _) | (with_reducible assumption) | (with_reducible refine bel_step (by with_reducible assumption) ?_ (by first | omega | (simp; done) | (simp; omega))))))).mono ?_
      rintro e w2 ⟨B1, m1, d1, B2, m2, d2, k, rfl, hb2, hA⟩
      have hz2 := hb2.size
      have hbb : Below (w.alloc (.cells #[.int .i64 0, .int .i64 0] 41)).heap.size (w.alloc (.cells #[.int .i64 0, .int .i64 0] 41)) w2 := HB1.out.trans (hb2.mono (by simp; omega))
      have hr0 : w2.cell? ⟨w.heap.size, 0, none⟩ = some (.int .i64 0) := (hbb.cell (p := ⟨w.heap.size, 0, none⟩) (by simp)).trans (by simp)
      have hr1 : w2.cell? ⟨w.heap.size, 1, none⟩ = some (.int .i64 0) := (hbb.cell (p := ⟨w.heap.size, 1, none⟩) (by simp)).trans (by simp)
      have hf0 := fun o => (hbb.frozen (p := ⟨w.heap.size, o, none⟩) (by simp)).trans (by simp : (w.alloc (.cells #[.int .i64 0, .int .i64 0] 41)).frozen? ⟨w.heap.size, o, none⟩ = false)
      have hlt : w.heap.size < w2.heap.size := by omega
      have HB2 := Lib.hid (show Below w.heap.size w w2 by exact (show Below w.heap.size w (w.alloc (.cells #[.int .i64 0, .int .i64 0] 41)) from (by repeat (first | with_reducible exact Below.refl _ _ | (with_reducible refine Below.alloc ?_ (by first | omega | (simp; done) | (simp; omega)) _) | (with_reducible refine Below.setCell ?_ (by first | omega | (simp; done) | (simp; omega)) _) | (with_reducible refine Below.drew ?_) | (with_reducible refine below_drewN ?_ _) | (with_reducible assumption) | (with_reducible refine bel_step (by with_reducible assumption) ?_ (by first | omega | (simp; done) | (simp; omega)))))).trans (hbb.mono (by simp)))
      clear hb2 hbb HB1
      rcases hA with ⟨s1, rfl⟩ | ⟨s1, D, s2, ⟨rfl, s3⟩ | ⟨rfl, s3, s4, s5⟩⟩
      · have S1 := Lib.hid s1
        clear s1
        go_wp2_with fail
        refine bodyPost_ret (v := .tuple #[.agg #[.int .i64 0, .int .i64 0], .iface 87 (.int .i64 7)]) (by simp [results, Tryd.results35, go_sem, hr0, hr1, hf0]) rfl ?_
        exact ⟨⟨0, 0⟩, 7, rfl, .inr (.inr ⟨C0.out, HND.out, .inl ⟨S1.out, rfl, rfl⟩⟩), by have := HB2.out; exact (by repeat (first | with_reducible exact Below.refl _ _ | (with_reducible refine Below.alloc ?_ (by first | omega | (simp; done) | (simp; omega)) _) | (with_reducible refine Below.setCell ?_ (by first | omega | (simp; done) | (simp; omega)) _) | (with_reducible refine Below.drew ?_) | (with_reducible refine below_drewN ?_ _) | (with_reducible assumption) | (with_reducible refine bel_step (by with_reducible assumption) ?_ (by first | omega | (simp; done) | (simp; omega)))))⟩
      · have S1 := Lib.hid s1
        have S2 := Lib.hid s2
        have S3 := Lib.hid s3
        clear s1 s2 s3
        go_wp2_with fail
        refine bodyPost_ret (v := .tuple #[.agg #[.int .i64 0, .int .i64 0], .iface 87 (.int .i64 1)]) (by simp [results, Tryd.results35, go_sem, hr0, hr1, hf0]) rfl ?_
        exact ⟨⟨0, 0⟩, 1, rfl, .inr (.inr ⟨C0.out, HND.out, .inr ⟨S1.out, D, S2.out, .inl ⟨S3.out, rfl, rfl⟩⟩⟩), by have := HB2.out; exact (by repeat (first | with_reducible exact Below.refl _ _ | (with_reducible refine Below.alloc ?_ (by first | omega | (simp; done) | (simp; omega)) _) | (with_reducible refine Below.setCell ?_ (by first | omega | (simp; done) | (simp; omega)) _) | (with_reducible refine Below.drew ?_) | (with_reducible refine below_drewN ?_ _) | (with_reducible assumption) | (with_reducible refine bel_step (by with_reducible assumption) ?_ (by first | omega | (simp; done) | (simp; omega)))))⟩
      · have S1 := Lib.hid s1
        have S2 := Lib.hid s2
        have S3 := Lib.hid s3
        obtain ⟨a', rfl⟩ := Int.eq_ofNat_of_zero_le n1
        obtain ⟨b', rfl⟩ := Int.eq_ofNat_of_zero_le n3
        have la : a' < N' := by omega
        have lb : b' < N' := by omega
        obtain ⟨q1, r1, e1, rfl, em1, x1, x2, x3, x4, x5, x6⟩ := s4.at_ la lb
        obtain ⟨q2, r2, e2, rfl, em2, y1, y2, y3, y4, y5, y6⟩ := s5.at_ la lb
        subst em1 em2
        have hc1 := s4.2.1
        have hc2 := s4.2.2.1
        have hc3 := s5.2.1
        have hc4 := s5.2.2.1
        unfold maxLen at hc2 hc4 x3 y3
        by_cases hf : D a' b' < farI
        · have z0 := x6 0 _ (by simp only [hf, if_true]; rfl)
          have z1 := x6 1 _ (by simp only [hf, if_true]; rfl)
          have z2 := y6 0 _ (by simp only [hf, decide_true]; rfl)
          have HF := Lib.hid hf
          obtain ⟨v1, hv1⟩ : ∃ v, D a' b' = v := ⟨_, rfl⟩
          obtain ⟨v2, hv2⟩ : ∃ v, -(D b' a') = v := ⟨_, rfl⟩
          simp only [RSpan.cells, Nat.add_zero, Nat.mul_one] at z0 z1 z2
          rw [hv2] at z0
          rw [hv1] at z1
          have HV1 := Lib.hid hv1
          have HV2 := Lib.hid hv2
          clear s1 s2 s3 s4 s5 x6 y6 hf hv1 hv2
          go_wp2_with fail
          refine bodyPost_ret (v := .tuple #[.agg #[.int .i64 v2, .int .i64 v1], .nilIface]) (by simp [results, Tryd.results35, go_sem, hr0, hr1, hf0]) rfl ?_
          exact ⟨⟨v2, v1⟩, 0, rfl, .inr (.inr ⟨C0.out, HND.out, .inr ⟨S1.out, D, S2.out, .inr ⟨S3.out, .inr ⟨HF.out, rfl, by simp [HV1.out, HV2.out]⟩⟩⟩⟩), by have := HB2.out; exact (by repeat (first | with_reducible exact Below.refl _ _ | (with_reducible refine Below.alloc ?_ (by first | omega | (simp; done) | (simp; omega)) _) | (with_reducible refine Below.setCell ?_ (by first | omega | (simp; done) | (simp; omega)) _) | (with_reducible refine Below.drew ?_) | (with_reducible refine below_drewN ?_ _) | (with_reducible assumption) | (with_reducible refine bel_step (by with_reducible assumption) ?_ (by first | omega | (simp; done) | (simp; omega)))))⟩
        · have z2 := y6 0 _ (by simp only [hf, decide_false]; rfl)
          have HF := Lib.hid hf
          simp only [Nat.add_zero, Nat.mul_one] at z2
          clear s1 s2 s3 s4 s5 x6 y6 hf
          go_wp2_with fail
          refine bodyPost_ret (v := .tuple #[.agg #[.int .i64 0, .int .i64 0], .iface 87 (.int .i64 5)]) (by simp [results, Tryd.results35, go_sem, hr0, hr1, hf0]) rfl ?_
          exact ⟨⟨0, 0⟩, 5, rfl, .inr (.inr ⟨C0.out, HND.out, .inr ⟨S1.out, D, S2.out, .inr ⟨S3.out, .inl ⟨fun q => by have := HF.out; simp only [Int.toNat_natCast] at q; omega, rfl, rfl⟩⟩⟩⟩), by have := HB2.out; exact (by repeat (first | with_reducible exact Below.refl _ _ | (with_reducible refine Below.alloc ?_ (by first | omega | (simp; done) | (simp; omega)) _) | (with_reducible refine Below.setCell ?_ (by first | omega | (simp; done) | (simp; omega)) _) | (with_reducible refine Below.drew ?_) | (with_reducible refine below_drewN ?_ _) | (with_reducible assumption) | (with_reducible refine bel_step (by with_reducible assumption) ?_ (by first | omega | (simp; done) | (simp; omega)))))⟩
  · rw [errV_ne c0] at C
    have C0 := Lib.hid c0
    clear c0
    go_enter Tryd.func35, Tryd.ntmps35
    go_wp2_with fail
    refine (C.out _ (by repeat (first | with_reducible exact Below.refl _ _ | (with_reducible refine Below.alloc ?_ (by first | omega | (simp; done) | (simp; omega)) _) | (with_reducible refine Below.setCell ?_ (by first | omega | (simp; done) | (simp; omega)) _) | (with_reducible refine Below.drew ?_) | (with_reducible refine below_drewN ?_ _) | (with_reducible assumption) | (with_reducible refine bel_step (by with_reducible assumption) ?_ (by first | omega | (simp; done) | (simp; omega)))))).mono ?_
    rintro e w1 ⟨rfl, hb1⟩
    have hr0 : w1.cell? ⟨w.heap.size, 0, none⟩ = some (.int .i64 0) := (hb1.cell (p := ⟨w.heap.size, 0, none⟩) (by simp)).trans (by simp)
    have hr1 : w1.cell? ⟨w.heap.size, 1, none⟩ = some (.int .i64 0) := (hb1.cell (p := ⟨w.heap.size, 1, none⟩) (by simp)).trans (by simp)
    have hf0 := fun o => (hb1.frozen (p := ⟨w.heap.size, o, none⟩) (by simp)).trans (by simp : (w.alloc (.cells #[.int .i64 0, .int .i64 0] 41)).frozen? ⟨w.heap.size, o, none⟩ = false)
    have hlt := hb1.size
    simp at hlt
    have HB1 := Lib.hid hb1
    clear hb1
    go_wp2_with fail
    refine bodyPost_ret (v := .tuple #[.agg #[.int .i64 0, .int .i64 0], .iface 87 (.int .i64 (edgesC N zs))]) (by simp [results, Tryd.results35, go_sem, hr0, hr1, hf0]) rfl ?_
    exact ⟨⟨0, 0⟩, edgesC N zs, by rw [errV_ne C0.out], .inl ⟨C0.out, rfl, rfl⟩, by have := HB1.out; exact (by repeat (first | with_reducible exact Below.refl _ _ | (with_reducible refine Below.alloc ?_ (by first | omega | (simp; done) | (simp; omega)) _) | (with_reducible refine Below.setCell ?_ (by first | omega | (simp; done) | (simp; omega)) _) | (with_reducible refine Below.drew ?_) | (with_reducible refine below_drewN ?_ _) | (with_reducible assumption) | (with_reducible refine bel_step (by with_reducible assumption) ?_ (by first | omega | (simp; done) | (simp; omega)))))⟩
end Go.Proofs.YtfjpfkejajgkbaaDoor
