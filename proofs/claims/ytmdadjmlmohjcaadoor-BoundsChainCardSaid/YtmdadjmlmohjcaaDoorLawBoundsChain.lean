/- Proved: the tied card of noonlaw4.BoundsChain: it answers true for every input and leaves its arguments as they were. The card's own condition: errors.errorType holds what the program's text lays there. -/
import Derived.Test.YtmdadjmlmohjcaaDoorDoor
import Derived.Test.YtmdadjmlmohjcaaDoorChainP
namespace Go.Proofs.YtmdadjmlmohjcaaDoor.lBoundsChain
open Go.ChangeShapes Go.WideShapes Go.ChangeAt Go.RowKit
set_option linter.unusedVariables false
set_option linter.unusedSimpArgs false
theorem mul_bd {N t : Int} (h1 : 2 ≤ N) (h2 : N ≤ 6) (h3 : -1000 ≤ t) (h4 : t ≤ 1000) : -5000 ≤ (N - 1) * t ∧ (N - 1) * t ≤ 5000 := by
  have : N = 2 ∨ N = 3 ∨ N = 4 ∨ N = 5 ∨ N = 6 := by omega
  rcases this with rfl | rfl | rfl | rfl | rfl <;> omega
theorem bad0 {zs : List REdge} {a b : Int} {x : RSpan} {c : Int} (h : BetS 0 zs a b x c) : x = ⟨0, 0⟩ ∧ c = 1 := by
  have h0 : edgesC 0 zs = 1 := by unfold edgesC; rw [if_pos (.inl (by omega))]
  unfold BetS at h
  rw [h0] at h
  rcases h with ⟨_, h1, h2⟩ | ⟨h1, _⟩ | ⟨h1, _⟩
  · exact ⟨h2, h1⟩
  · omega
  · omega
set_option maxRecDepth 100000 in
set_option maxHeartbeats 8000000 in
theorem walk (a0 : Int) (a1 : Int) (a2 : Int) (w : World) (h0 : -9223372036854775808 ≤ a0 ∧ a0 ≤ 9223372036854775807) (h1 : -9223372036854775808 ≤ a1 ∧ a1 ≤ 9223372036854775807) (h2 : -9223372036854775808 ≤ a2 ∧ a2 ≤ 9223372036854775807) (hg : HandleAt w) :
    Calls Tryd.prog 3 #[.int .i64 a0, .int .i64 a1, .int .i64 a2] w fun e w' => e = .returned (.bool true) ∧ Below w.heap.size w w' := by
  have HG := Lib.hid hg
  clear hg
  obtain ⟨i0, hi, hz0, hz1, hz2⟩ := info_parts infoEdge
  by_cases c0 : 2 ≤ a0 ∧ a0 ≤ 6 ∧ -1000 ≤ a1 ∧ a1 ≤ a2 ∧ a2 ≤ 1000
  · obtain ⟨c1, c2, c3, c4, c5⟩ := c0
    obtain ⟨N, rfl⟩ := Int.eq_ofNat_of_zero_le (show 0 ≤ a0 by omega)
    clear h0 h1 h2
    go_enter Tryd.func3, Tryd.ntmps3
    go_wp2_with fail
    go_loopw [9, 10] (fun lv iv wr => ∃ i : Nat, iv = .int .i64 i ∧ 1 ≤ i ∧ i ≤ N ∧ wr.ownsRow w.heap.size 31 4 lv (chainL a1 a2 (i - 1)).length ((chainL a1 a2 (i - 1)).flatMap REdge.cells) ∧ Below w.heap.size w wr) (fun _ iv _ => N - (intOf iv).toNat)
    case atStart => exact ⟨1, rfl, by omega, by omega, own_nil _ _ _ _, Below.refl _ _⟩
    case round =>
      obtain ⟨i, rfl, hi1, hiN, ho, hB⟩ := hrel
      have HO := Lib.hid ho
      have HB := Lib.hid hB
      have hzw := hB.size
      have hlen := chainL_len a1 a2 (i - 1)
      have HS := Lib.hid (chainL_succ a1 a2 hi1)
      clear ho hB
      by_cases d1 : i < N
      · obtain ⟨xs, hxs⟩ : ∃ xs, chainL a1 a2 (i - 1) = xs := ⟨_, rfl⟩
        rw [hxs] at HO HS hlen
        have hlen : xs.length ≤ 6 := by omega
        clear hxs
        go_wp2_with (at_builtin; refine wpList_append_own _ rfl _ _ 29 rfl w.heap.size 31 i0 (.agg #[.int .i64 0, .int .i64 0, .int .i64 0, .int .i64 0]) 4 32 Tryd.underlying29 hi hz0 hz1 hz2 rfl (by decide) _ _ _ rfl (HO.out.alloc _) ⟨wr.heap.size, 0, none⟩ 1 1 _ rfl rfl (cell_newAt wr (REdge.cells ⟨(i : Int) - 1, i, a1, a2⟩) _ _ rfl) (edge_one _) (by unfold maxLen; omega) (by omega) (by simp; omega) ?_; intro v' w1 ho1 hg1 _)
        have HB2 := Lib.hid (show Below w.heap.size w w1 from (HB.out.alloc (by omega) _).grown hg1 (by simp; omega) (fun k hk => (HO.out.lt k hk).1))
        have HO2 := Lib.hid (own_snoc REdge.cells (z := ⟨(i : Int) - 1, i, a1, a2⟩) ho1)
        clear ho1 hg1
        go_wp2_with fail
        go_roundw
        case rel => exact ⟨i + 1, by go_num, by omega, by omega, by rw [HS.out]; exact HO2.out, HB2.out⟩
        case measure => simp [intOf]; omega
      · obtain rfl : i = N := by omega
        obtain ⟨A, n, c, rfl, hr⟩ := own_recs REdge.cells REdge.ok 4 (fun _ => rfl) HO.out (chainL_ok (by omega) (by omega) (by omega) (by omega))
        have hm1 := hr.2.1
        have hm2 := hr.2.2.1
        unfold maxLen at hm2
        have CB := Lib.hid (fun a b w' (hb : Below wr.heap.size wr w') => bounds_Between i A n c _ a b w' (hr.below hb))
        obtain ⟨p1, p2⟩ := mul_bd (N := i) (t := a1) (by omega) (by omega) (by omega) (by omega)
        obtain ⟨p3, p4⟩ := mul_bd (N := i) (t := a2) (by omega) (by omega) (by omega) (by omega)
        have ei : ((i - 1 : Nat) : Int) = (i : Int) - 1 := by omega
        have EI := Lib.hid ei
        clear hr HO HS hlen ei
        go_wp2_with fail
        refine (CB.out _ _ _ (Below.refl _ _)).mono ?_
        rintro e w2 ⟨x, k, rfl, hx, hb2⟩
        obtain ⟨D, hD, rfl, rfl, _⟩ := chain_bet (n := i) (a := 0) (b := i - 1) (by omega) (by omega) c3 c4 c5 (by omega) (by omega) (by rw [EI.out]; exact hx)
        obtain ⟨q1, q2⟩ := chain_ends (by omega) c4 hD
        rw [q1, q2, Int.neg_neg]
        have HB2 := Lib.hid hb2
        have hsz2 := hb2.size
        clear hD q1 q2 hx hb2
        go_wp2_with fail
        refine (CB.out _ _ _ (by have := HB2.out; exact (by repeat (first | with_reducible exact Below.refl _ _ | (with_reducible refine Below.alloc ?_ (by first | omega | (simp; done) | (simp; omega)) _) | (with_reducible refine Below.setCell ?_ (by first | omega | (simp; done) | (simp; omega)) _) | (with_reducible refine Below.drew ?_) | (with_reducible refine below_drewN ?_ _) | (with_reducible assumption) | (with_reducible refine bel_step (by with_reducible assumption) ?_ (by first | omega | (simp; done) | (simp; omega))))))).mono ?_
        rintro e w3 ⟨x, k, rfl, hx, hb3⟩
        obtain ⟨D, hD, rfl, rfl, _⟩ := chain_bet (n := i) (a := i - 1) (b := 0) (by omega) (by omega) c3 c4 c5 (by omega) (by omega) (by rw [EI.out]; exact hx)
        obtain ⟨q1, q2⟩ := chain_ends (by omega) c4 hD
        rw [q1, q2]
        have y0 : w3.cell? ⟨w2.heap.size, 0, none⟩ = some (.int .i64 (((i : Int) - 1) * a1)) := (hb3.cell (p := ⟨w2.heap.size, 0, none⟩) (by simp)).trans (by simp)
        have y1 : w3.cell? ⟨w2.heap.size, 1, none⟩ = some (.int .i64 (((i : Int) - 1) * a2)) := (hb3.cell (p := ⟨w2.heap.size, 1, none⟩) (by simp)).trans (by simp)
        have hz3 := hb3.size
        simp at hz3
        have hsz3 : w2.heap.size < w3.heap.size := by omega
        have HB3 := Lib.hid (show Below w.heap.size w w3 by
          have h1 := HB.out
          have h2 := HB2.out
          have h3 : Below w.heap.size w w2 := (by repeat (first | with_reducible exact Below.refl _ _ | (with_reducible refine Below.alloc ?_ (by first | omega | (simp; done) | (simp; omega)) _) | (with_reducible refine Below.setCell ?_ (by first | omega | (simp; done) | (simp; omega)) _) | (with_reducible refine Below.drew ?_) | (with_reducible refine below_drewN ?_ _) | (with_reducible assumption) | (with_reducible refine bel_step (by with_reducible assumption) ?_ (by first | omega | (simp; done) | (simp; omega)))))
          exact (h3.alloc h3.size _).trans (hb3.mono (by simp; exact Nat.le_trans h3.size (by omega))))
        clear hD q1 q2 hx hb3
        go_wp2_with fail
        go_ret
        exact ⟨rfl, HB3.out.alloc HB3.out.size _⟩
  · have d0 : a0 < 2 ∨ (¬ a0 < 2 ∧ 6 < a0) ∨ (¬ a0 < 2 ∧ ¬ 6 < a0 ∧ a1 < -1000) ∨ (¬ a0 < 2 ∧ ¬ 6 < a0 ∧ ¬ a1 < -1000 ∧ a2 < a1) ∨ (¬ a0 < 2 ∧ ¬ 6 < a0 ∧ ¬ a1 < -1000 ∧ ¬ a2 < a1 ∧ 1000 < a2) := by omega
    have CB := Lib.hid (bounds_Between 0 none 0 0 [] 0 0 w (recs_nil _ _ _ _))
    clear c0 h0 h1 h2 hi hz0 hz1 hz2
    rcases d0 with d1 | ⟨d1, d2⟩ | ⟨d1, d2, d3⟩ | ⟨d1, d2, d3, d4⟩ | ⟨d1, d2, d3, d4, d5⟩
    all_goals
      go_enter Tryd.func3, Tryd.ntmps3
      go_wp2_with fail
      refine CB.out.mono ?_
      rintro e w2 ⟨x, k, rfl, hx, hb2⟩
      obtain ⟨rfl, rfl⟩ := bad0 hx
      have HB2 := Lib.hid hb2
      clear hx hb2
      go_wp2_with fail
      (try (go_at_call 7; refine (Error_n 1 _ (by omega) _ (HG.out.below (HB2.out.alloc HB2.out.size _))).mono ?_; rintro e w3 ⟨rfl, hb3⟩; obtain ⟨hc3, hf3⟩ := bcell hb3; have hz3 := hb3.size; (try simp at hz3); (try have q3_0_0_0 : w.heap.size < w3.heap.size := by omega); (try have q3_0_0_2 : w.heap.size < w3.heap.size + 1 + 1 := by omega); (try have q3_0_0_3 : w.heap.size < w3.heap.size + 1 + 1 + 1 := by omega); (try have q3_0_1_0 : w.heap.size + 1 < w3.heap.size := by omega); (try have q3_0_1_2 : w.heap.size + 1 < w3.heap.size + 1 + 1 := by omega); (try have q3_0_1_3 : w.heap.size + 1 < w3.heap.size + 1 + 1 + 1 := by omega); (try have q3_0_2_0 : w.heap.size + 1 + 1 < w3.heap.size := by omega); (try have q3_0_2_2 : w.heap.size + 1 + 1 < w3.heap.size + 1 + 1 := by omega); (try have q3_0_2_3 : w.heap.size + 1 + 1 < w3.heap.size + 1 + 1 + 1 := by omega); (try have q3_0_3_0 : w.heap.size + 1 + 1 + 1 < w3.heap.size := by omega); (try have q3_0_3_2 : w.heap.size + 1 + 1 + 1 < w3.heap.size + 1 + 1 := by omega); (try have q3_0_3_3 : w.heap.size + 1 + 1 + 1 < w3.heap.size + 1 + 1 + 1 := by omega); (try have q3_1_0_0 : w1.heap.size < w3.heap.size := by omega); (try have q3_1_0_2 : w1.heap.size < w3.heap.size + 1 + 1 := by omega); (try have q3_1_1_0 : w1.heap.size + 1 < w3.heap.size := by omega); (try have q3_1_1_2 : w1.heap.size + 1 < w3.heap.size + 1 + 1 := by omega); (try have q3_2_0_0 : w2.heap.size < w3.heap.size := by omega); (try have q3_2_0_2 : w2.heap.size < w3.heap.size + 1 + 1 := by omega); (try have q3_2_1_0 : w2.heap.size + 1 < w3.heap.size := by omega); (try have q3_2_1_2 : w2.heap.size + 1 < w3.heap.size + 1 + 1 := by omega); (try go_wp2_with fail)))
      go_ret
      exact ⟨rfl, (HB2.out.alloc HB2.out.size _).trans (hb3.mono (by simp; exact Nat.le_trans HB2.out.size (by omega)))⟩

set_option maxRecDepth 100000 in
theorem lifted (os : Os) (started : os.Started) (H : Type) (enc : TypeId × Value → H) :
    ReturnsInHanded {} Tryd.checked os 3 .any (fun w args => (Rows.boundsChainSpec.pre enc Tryd.prog Tryd.f3 [] false w args ∧ laidMetH Tryd.prog laidList w) ∧ sizedMet enc Tryd.prog Tryd.f3 (OpenSpec.ofChange Rows.boundsChainSpec) false w args)
      (Rows.boundsChainSpec.post enc Tryd.prog Tryd.f3 false true false false) := by
  refine returnsInHanded_of_change_and (C := Tryd.checked) (X := fun w _ => laidMetH Tryd.prog laidList w) (fun _ _ _ hh h => h.of_heap hh) own started (by kernel_rfl) Tryd.func3
    (ChangeSpec.witness_at (enc := enc) (C := Tryd.checked) (os := os) (X := fun w _ => laidMetH Tryd.prog laidList w) false (laidWorld os) #[.int .i64 0, .int .i64 0, .int .i64 0] 8 rfl (by kernel_rfl) (by kernel_rfl) (by kernel_rfl) (by kernel_rfl) (by kernel_rfl) (laidWorld_met os _)) ?_
  intro W base args ds gs before hval0 hW hcnd hreach hL _
  have hval : ∀ (j : Nat) t v, Tryd.f3.params[j]? = some t → args[j]? = some v → Value.okWide Tryd.prog W .any base t v := hval0
  have hW' := hW
  obtain ⟨p, q, hA0, hV, rfl, hfz, hnd⟩ := hW
  have hA : DataW.TrodAll enc Tryd.prog W 0 (fun _ => true) true Tryd.f3.params.toList args.toList ds p := hA0
  rw [Tryd.params3] at hA hval
  obtain ⟨v0, vs0, d0, ds0, p0, q0, hargs, rfl, rfl, g0, r0⟩ := trodAll_cons hA
  obtain ⟨v1, vs1, d1, ds1, p1, q1, rfl, rfl, rfl, g1, r1⟩ := trodAll_cons r0
  obtain ⟨v2, vs2, d2, ds2, p2, q2, rfl, rfl, rfl, g2, r2⟩ := trodAll_cons r1
  obtain ⟨rfl, rfl, rfl⟩ := trodAll_nil r2
  obtain rfl : args = #[v0, v1, v2] := by cases args; simp_all
  have hV2 : DataW.TrodVars enc Tryd.prog W (fun _ => true) [] gs q := hV
  obtain ⟨rfl, rfl⟩ : gs = [] ∧ q = [] := by
    cases gs with
    | nil => exact ⟨rfl, hV2⟩
    | cons g r => exact absurd hV2 (by intro h; cases h)
  obtain ⟨a0, rfl, rfl, rfl, u0⟩ := open_int Tryd.underlying3 (hval 0 3 v0 rfl rfl) g0
  have h0 := bounds_i64 u0
  obtain ⟨a1, rfl, rfl, rfl, u1⟩ := open_int Tryd.underlying3 (hval 1 3 v1 rfl rfl) g1
  have h1 := bounds_i64 u1
  obtain ⟨a2, rfl, rfl, rfl, u2⟩ := open_int Tryd.underlying3 (hval 2 3 v2 rfl rfl) g2
  have h2 := bounds_i64 u2
  clear hA0 hval0
  refine (walk a0 a1 a2 W h0 h1 h2 (handle_of_laid hL)).mono fun e W' ⟨he, bel⟩ => ?_
  subst he
  exact ⟨_, rfl, _, _, _, [], _, [], hW', trodAll_mk1 (shut_bool Tryd.underlying4 _), (trodAll_cons_mk (shut_int Tryd.underlying3 u0) (trodAll_cons_mk (shut_int Tryd.underlying3 u1) (trodAll_cons_mk (shut_int Tryd.underlying3 u2) trodAll_mk0))), rfl, bel.frame _, fun h => by cases h⟩

theorem over : Rows.boundsChainRow.holds Tryd.pinned (OpenSpec.ofChange Rows.boundsChainSpec) :=
  OpenClaim.holds_of_wide 3 Tryd.f3 rfl rfl rfl rfl rfl rfl rfl ⟨rfl, rfl, rfl, rfl, rfl⟩ rfl rfl rfl rfl rfl (by kernel_rfl) Tryd.func3 (by kernel_rfl)
    (of_decide_eq_true (by kernel_rfl)) (by unfold Func.isWrapper; rw [if_neg (of_decide_eq_false (by kernel_rfl))]; exact ⟨rfl, rfl⟩)
    (fun os started H enc _ => lifted os started H enc)

theorem card : Rows.BoundsChainCardSaid :=
  Claim7.holds_tied_plain_at .later [] [.handle] true (true, Rows.boundsChainCard.stood.harness.2) true
    over (fun _ h => by cases h) (by kernel_rfl) (fun _ h => by cases h) boundsChain_row_tie rfl ⟨rfl, rfl⟩ (by kernel_rfl) rfl
    (fun f fn hf hfn => by
      obtain rfl : f = 3 := Option.some.inj ((show Tryd.prog.funcNamed "noonmark/noonlaw4.BoundsChain" = some 3 by kernel_rfl).symm.trans hf) |>.symm
      obtain rfl : fn = Tryd.f3 := (Option.some.inj (Tryd.func3.symm.trans hfn)).symm
      exact ⟨by kernel_rfl, fun j t ht => by
        rw [Tryd.params3] at ht
        exact noStandIn (ps := #[3, 3, 3]) (by kernel_rfl) ht⟩)
    (by kernel_rfl)

#print axioms card
end Go.Proofs.YtmdadjmlmohjcaaDoor.lBoundsChain
