/- Proved: the tied card of noonlaw4.LoopsAround: it answers true for every input and leaves its arguments as they were. The card's own condition: errors.errorType holds what the program's text lays there. -/
import Derived.Test.YtccjomkgfadidaaDoorDoor
import Derived.Test.YtccjomkgfadidaaDoorFind2
import Derived.Test.YtccjomkgfadidaaDoorRingP
namespace Go.Proofs.YtccjomkgfadidaaDoor.lLoopsAround
open Go.ChangeShapes Go.WideShapes Go.ChangeAt Go.RowKit
set_option linter.unusedVariables false
set_option linter.unusedSimpArgs false
theorem fault_1 {v c : Int} (h : FaultS 1 [] v c) : c = 5 := by
  rcases h with ⟨_, i, h, _⟩ | ⟨h, _⟩
  · simp at h
  · exact h
theorem fault_ring {n : Nat} {m v c : Int} (h3 : 3 ≤ n) (hm : m ≠ 0) (h : FaultS n (ringE n m n) v c) : c = 0 ∧ v = (n : Int) - 1 := by
  rcases h with ⟨h1, i, h2, h4, h5, _⟩ | ⟨_, _, h⟩
  · rw [ringE_len] at h2
    rw [ringE_take (by omega)] at h5
    have : i + 1 = n := by
      refine Classical.byContradiction fun hc => ?_
      exact ring_short (by omega) h5
    exact ⟨h1, by omega⟩
  · have := h (n - 1) (by rw [ringE_len]; omega)
    rw [ringE_take (by omega), show n - 1 + 1 = n by omega] at this
    exact absurd (ring_sunk h3 hm) this
theorem fault_zero {n : Nat} {v c : Int} (h : FaultS n (ringE n 0 n) v c) : c = 5 := by
  rcases h with ⟨h1, i, h2, h4, h5, _⟩ | ⟨h, _⟩
  · rw [ringE_len] at h2
    rw [ringE_take (by omega)] at h5
    exact absurd h5 ring_zero
  · exact h
theorem find_zero {n : Nat} {k : Int} {loop : List Int} (h : FindS n (ringE n 0 n) k loop) : k = 5 := by
  rcases h with ⟨h, _⟩ | ⟨_, h, _⟩
  · exact h
  · exact absurd h ring_zero
theorem find_ringE {n : Nat} {m k : Int} {loop : List Int} (h3 : 3 ≤ n) (h6 : n ≤ 6) (hm : m ≠ 0) (hb : -1000 ≤ m ∧ m ≤ 1000) (h : FindS n (ringE n m n) k loop) :
    k = 0 ∧ loop.length = n ∧ roomE n (ringE n m n) loop = 0 ∧ roomX n (ringE n m n) loop < 0 := by
  have hc := ringE_c (n := n) (m := m) (k := n) h3 h6 (Nat.le_refl _) hb
  obtain ⟨_, _, _, hl⟩ := edgesC_0 hc
  simp only [Int.toNat_natCast] at hl
  rcases h with ⟨_, h, _⟩ | ⟨h1, _, h2, h4, h5, h7⟩
  · exact absurd (ring_sunk h3 hm) h
  · obtain ⟨v, _, hw⟩ := room_way hl h5
    have := ring_long h3 hw h7
    refine ⟨h1, by omega, ?_, ?_⟩
    · unfold roomE; rw [if_pos hc]; exact h5
    · unfold roomX; rw [if_pos hc]; exact h7
set_option maxRecDepth 100000 in
set_option maxHeartbeats 8000000 in
theorem walk (a0 : Int) (a1 : Int) (w : World) (h0 : -9223372036854775808 ≤ a0 ∧ a0 ≤ 9223372036854775807) (h1 : -9223372036854775808 ≤ a1 ∧ a1 ≤ 9223372036854775807) (hg : HandleAt w) :
    Calls Tryd.prog 4 #[.int .i64 a0, .int .i64 a1] w fun e w' => e = .returned (.bool true) ∧ Below w.heap.size w w' := by
  have HG := Lib.hid hg
  clear hg
  obtain ⟨i0, hi, hz0, hz1, hz2⟩ := info_parts infoEdge
  by_cases c0 : 3 ≤ a0 ∧ a0 ≤ 6 ∧ -1000 ≤ a1 ∧ a1 ≤ 1000
  · obtain ⟨c1, c2, c3, c4⟩ := c0
    obtain ⟨N, rfl⟩ := Int.eq_ofNat_of_zero_le (show 0 ≤ a0 by omega)
    clear h0 h1
    go_enter Tryd.func4, Tryd.ntmps4
    go_wp2_with fail
    go_loopw [7, 8] (fun lv iv wr => ∃ i : Nat, iv = .int .i64 i ∧ i ≤ N ∧ wr.ownsRow w.heap.size 43 4 lv (ringE N a1 i).length ((ringE N a1 i).flatMap REdge.cells) ∧ Below w.heap.size w wr) (fun _ iv _ => N - (intOf iv).toNat)
    case atStart => exact ⟨0, rfl, by omega, own_nil _ _ _ _, Below.refl _ _⟩
    case round =>
      obtain ⟨i, rfl, hiN, ho, hB⟩ := hrel
      have HO := Lib.hid ho
      have HB := Lib.hid hB
      have hzw := hB.size
      have hlen := ringE_len N a1 i
      clear ho hB
      by_cases d1 : i < N
      · have HS := Lib.hid (show ringE N a1 (i + 1) = ringE N a1 i ++ [⟨(i : Int), (((i + 1) % N : Nat) : Int), a1, a1⟩] from rfl)
        obtain ⟨xs, hxs⟩ : ∃ xs, ringE N a1 i = xs := ⟨_, rfl⟩
        rw [hxs] at HO HS hlen
        have hlen : xs.length ≤ 6 := by omega
        have hn0 : ((N : Int) == 0) = false := by simp; omega
        have hn1 : ¬ (N : Int) = 0 := by omega
        have rm : Int.tmod ((i : Int) + 1) (N : Int) = (((i + 1) % N : Nat) : Int) := Int.ofNat_tmod (i + 1) N
        have rl : (i + 1) % N < N := Nat.mod_lt _ (by omega)
        obtain ⟨rr, hrr⟩ : ∃ r : Nat, (i + 1) % N = r := ⟨_, rfl⟩
        rw [hrr] at rm HS rl
        clear hxs hrr
        go_wp2_with (at_builtin; refine wpList_append_own _ rfl _ _ 22 rfl w.heap.size 43 i0 (.agg #[.int .i64 0, .int .i64 0, .int .i64 0, .int .i64 0]) 4 32 Tryd.underlying22 hi hz0 hz1 hz2 rfl (by decide) _ _ _ rfl (HO.out.alloc _) ⟨wr.heap.size, 0, none⟩ 1 1 _ rfl rfl (cell_newAt wr (REdge.cells ⟨(i : Int), rr, a1, a1⟩) _ _ rfl) (edge_one _) (by unfold maxLen; omega) (by omega) (by simp; omega) ?_; intro v' w1 ho1 hg1 _)
        have HB2 := Lib.hid (show Below w.heap.size w w1 from (HB.out.alloc (by omega) _).grown hg1 (by simp; omega) (fun k hk => (HO.out.lt k hk).1))
        have HO2 := Lib.hid (own_snoc REdge.cells (z := ⟨(i : Int), rr, a1, a1⟩) ho1)
        clear ho1 hg1
        go_wp2_with fail
        go_roundw
        case rel => exact ⟨i + 1, by go_num, by omega, by rw [HS.out]; exact HO2.out, HB2.out⟩
        case measure => simp [intOf]; omega
      · obtain rfl : i = N := by omega
        obtain ⟨A, n, c, rfl, hr⟩ := own_recs REdge.cells REdge.ok 4 (fun _ => rfl) HO.out (ringE_ok (by omega) (by omega) (Nat.le_refl _) ⟨c3, c4⟩)
        have hcz := ringE_c (n := i) (m := a1) (k := i) (by omega) (by omega) (Nat.le_refl _) ⟨c3, c4⟩
        have hm1 := hr.2.1
        have hm2 := hr.2.2.1
        unfold maxLen at hm2
        have CF := Lib.hid (fun w' (hb : Below wr.heap.size wr w') => loops_Fault i A n c _ w' (hr.below hb))
        have CX := Lib.hid (fun w' (hb : Below wr.heap.size wr w') => loops_Find i A n c _ w' (hr.below hb))
        have CR := Lib.hid (fun B m d loop w' (hb : Below wr.heap.size wr w') (hp : IsInts w' B m d loop) => loops_Room i A n c _ B m d loop w' (hr.below hb) hp)
        have HC := Lib.hid hcz
        clear hr HO hlen hcz
        by_cases cz : a1 = 0
        · subst cz
          go_wp2_with fail
          refine (CF.out _ (Below.refl _ _)).mono ?_
          rintro e w2 ⟨v, k, rfl, hb2, hv⟩
          have hk : k = 5 := by
            rcases hv with ⟨h, _⟩ | ⟨_, h⟩
            · exact absurd HC.out h
            · rw [Int.toNat_natCast] at h; exact fault_zero h
          subst hk
          have HB2 := Lib.hid hb2
          clear hb2 hv
          go_wp2_with fail
          refine (CX.out _ HB2.out).mono ?_
          rintro e w3 ⟨xa, xn, xc, k, rfl, hb3, hv⟩
          have hk : k = 5 := by
            rcases hv with ⟨h, _⟩ | ⟨_, loop, _, h⟩
            · exact absurd HC.out h
            · rw [Int.toNat_natCast] at h; exact find_zero h
          subst hk
          have HB3 := Lib.hid (HB.out.trans ((HB2.out.trans (hb3.mono HB2.out.size)).mono HB.out.size))
          clear hb3 hv
          rw [show errV 5 = .iface 53 (.int .i64 5) from rfl]
          go_wp2_with fail
          refine (Error_n 5 5 (by omega) _ (HG.out.below HB3.out)).mono ?_
          rintro e w4 ⟨rfl, hb4⟩
          have HB4 := Lib.hid (HB3.out.trans (hb4.mono HB3.out.size))
          clear hb4
          go_wp2_with fail
          refine (Error_n 5 5 (by omega) _ (HG.out.below HB4.out)).mono ?_
          rintro e w5 ⟨rfl, hb5⟩
          have HB5 := Lib.hid (HB4.out.trans (hb5.mono HB4.out.size))
          clear hb5
          go_wp2_with fail
          go_ret
          exact ⟨rfl, HB5.out⟩
        · have CZ := Lib.hid cz
          have cz' : (a1 == 0) = false := by simpa using cz
          clear cz
          go_wp2_with fail
          refine (CF.out _ (Below.refl _ _)).mono ?_
          rintro e w2 ⟨v, k, rfl, hb2, hv⟩
          have hk : k = 0 ∧ v = (i : Int) - 1 := by
            rcases hv with ⟨h, _⟩ | ⟨_, h⟩
            · exact absurd HC.out h
            · rw [Int.toNat_natCast] at h; exact fault_ring (by omega) CZ.out h
          obtain ⟨rfl, rfl⟩ := hk
          have HB2 := Lib.hid hb2
          clear hb2 hv
          go_wp2_with fail
          refine (CX.out _ HB2.out).mono ?_
          rintro e w3 ⟨xa, xn, xc, k, rfl, hb3, hv⟩
          have hk : ∃ loop, IsInts w3 xa xn xc loop ∧ k = 0 ∧ loop.length = i ∧ roomE i (ringE i a1 i) loop = 0 ∧ roomX i (ringE i a1 i) loop < 0 := by
            rcases hv with ⟨h, _⟩ | ⟨_, loop, hl, h⟩
            · exact absurd HC.out h
            · rw [Int.toNat_natCast] at h
              exact ⟨loop, hl, find_ringE (by omega) (by omega) CZ.out ⟨c3, c4⟩ h⟩
          obtain ⟨loop, hlp, rfl, hll, hre, hrx⟩ := hk
          have hxn : xn = i := by rw [← hlp.1]; exact hll
          subst hxn
          have HB3 := Lib.hid (HB2.out.trans (hb3.mono HB2.out.size))
          have C3 := Lib.hid (CR.out xa xn xc loop w3 HB3.out hlp)
          rw [hre] at C3
          obtain ⟨X, hX⟩ : ∃ X, roomX xn (ringE xn a1 xn) loop = X := ⟨_, rfl⟩
          rw [hX] at C3 hrx
          clear hb3 hv hlp hll hre hX
          go_wp2_with fail
          refine C3.out.mono ?_
          rintro e w4 ⟨rfl, hb4⟩
          have HB4 := Lib.hid (HB.out.trans ((HB3.out.trans (hb4.mono HB3.out.size)).mono HB.out.size))
          clear hb4
          go_wp2_with fail
          go_ret
          exact ⟨rfl, HB4.out⟩
  · have d0 : a0 < 3 ∨ (¬ a0 < 3 ∧ 6 < a0) ∨ (¬ a0 < 3 ∧ ¬ 6 < a0 ∧ a1 < -1000) ∨ (¬ a0 < 3 ∧ ¬ 6 < a0 ∧ ¬ a1 < -1000 ∧ 1000 < a1) := by omega
    have CB := Lib.hid (loops_Fault 1 none 0 0 [] w (recs_nil _ _ _ _))
    clear c0 h0 h1 hi hz0 hz1 hz2
    rcases d0 with d1 | ⟨d1, d2⟩ | ⟨d1, d2, d3⟩ | ⟨d1, d2, d3, d4⟩
    all_goals
      go_enter Tryd.func4, Tryd.ntmps4
      go_wp2_with fail
      refine CB.out.mono ?_
      rintro e w2 ⟨v, k, rfl, hb2, hv⟩
      have hk : k = 5 := by
        rcases hv with ⟨h, _⟩ | ⟨_, h⟩
        · exact absurd (by decide) h
        · exact fault_1 h
      subst hk
      have HB2 := Lib.hid hb2
      clear hb2 hv
      rw [show errV 5 = .iface 53 (.int .i64 5) from rfl]
      go_wp2_with fail
      refine (Error_n 5 5 (by omega) _ (HG.out.below HB2.out)).mono ?_
      rintro e w4 ⟨rfl, hb4⟩
      have HB4 := Lib.hid (HB2.out.trans (hb4.mono HB2.out.size))
      clear hb4
      go_wp2_with fail
      go_ret
      exact ⟨rfl, HB4.out⟩

set_option maxRecDepth 100000 in
theorem lifted (os : Os) (started : os.Started) (H : Type) (enc : TypeId × Value → H) :
    ReturnsInHanded {} Tryd.checked os 4 .any (fun w args => (Rows.loopsAroundSpec.pre enc Tryd.prog Tryd.f4 [] false w args ∧ laidMetH Tryd.prog laidList w) ∧ sizedMet enc Tryd.prog Tryd.f4 (OpenSpec.ofChange Rows.loopsAroundSpec) false w args)
      (Rows.loopsAroundSpec.post enc Tryd.prog Tryd.f4 false true false false) := by
  refine returnsInHanded_of_change_and (C := Tryd.checked) (X := fun w _ => laidMetH Tryd.prog laidList w) (fun _ _ _ hh h => h.of_heap hh) own started (by kernel_rfl) Tryd.func4
    (ChangeSpec.witness_at (enc := enc) (C := Tryd.checked) (os := os) (X := fun w _ => laidMetH Tryd.prog laidList w) false (laidWorld os) #[.int .i64 0, .int .i64 0] 8 rfl (by kernel_rfl) (by kernel_rfl) (by kernel_rfl) (by kernel_rfl) (by kernel_rfl) (laidWorld_met os _)) ?_
  intro W base args ds gs before hval0 hW hcnd hreach hL _
  have hval : ∀ (j : Nat) t v, Tryd.f4.params[j]? = some t → args[j]? = some v → Value.okWide Tryd.prog W .any base t v := hval0
  have hW' := hW
  obtain ⟨p, q, hA0, hV, rfl, hfz, hnd⟩ := hW
  have hA : DataW.TrodAll enc Tryd.prog W 0 (fun _ => true) true Tryd.f4.params.toList args.toList ds p := hA0
  rw [Tryd.params4] at hA hval
  obtain ⟨v0, vs0, d0, ds0, p0, q0, hargs, rfl, rfl, g0, r0⟩ := trodAll_cons hA
  obtain ⟨v1, vs1, d1, ds1, p1, q1, rfl, rfl, rfl, g1, r1⟩ := trodAll_cons r0
  obtain ⟨rfl, rfl, rfl⟩ := trodAll_nil r1
  obtain rfl : args = #[v0, v1] := by cases args; simp_all
  have hV2 : DataW.TrodVars enc Tryd.prog W (fun _ => true) [] gs q := hV
  obtain ⟨rfl, rfl⟩ : gs = [] ∧ q = [] := by
    cases gs with
    | nil => exact ⟨rfl, hV2⟩
    | cons g r => exact absurd hV2 (by intro h; cases h)
  obtain ⟨a0, rfl, rfl, rfl, u0⟩ := open_int Tryd.underlying3 (hval 0 3 v0 rfl rfl) g0
  have h0 := bounds_i64 u0
  obtain ⟨a1, rfl, rfl, rfl, u1⟩ := open_int Tryd.underlying3 (hval 1 3 v1 rfl rfl) g1
  have h1 := bounds_i64 u1
  clear hA0 hval0
  refine (walk a0 a1 W h0 h1 (handle_of_laid hL)).mono fun e W' ⟨he, bel⟩ => ?_
  subst he
  exact ⟨_, rfl, _, _, _, [], _, [], hW', trodAll_mk1 (shut_bool Tryd.underlying4 _), (trodAll_cons_mk (shut_int Tryd.underlying3 u0) (trodAll_cons_mk (shut_int Tryd.underlying3 u1) trodAll_mk0)), rfl, bel.frame _, fun h => by cases h⟩

theorem over : Rows.loopsAroundRow.holds Tryd.pinned (OpenSpec.ofChange Rows.loopsAroundSpec) :=
  OpenClaim.holds_of_wide 4 Tryd.f4 rfl rfl rfl rfl rfl rfl rfl ⟨rfl, rfl, rfl, rfl, rfl⟩ rfl rfl rfl rfl rfl (by kernel_rfl) Tryd.func4 (by kernel_rfl)
    (of_decide_eq_true (by kernel_rfl)) (by unfold Func.isWrapper; rw [if_neg (of_decide_eq_false (by kernel_rfl))]; exact ⟨rfl, rfl⟩)
    (fun os started H enc _ => lifted os started H enc)

theorem card : Rows.LoopsAroundCardSaid :=
  Claim7.holds_tied_plain_at .later [] [.handle] true (true, Rows.loopsAroundCard.stood.harness.2) true
    over (fun _ h => by cases h) (by kernel_rfl) (fun _ h => by cases h) loopsAround_row_tie rfl ⟨rfl, rfl⟩ (by kernel_rfl) rfl
    (fun f fn hf hfn => by
      obtain rfl : f = 4 := Option.some.inj ((show Tryd.prog.funcNamed "noonmark/noonlaw4.LoopsAround" = some 4 by kernel_rfl).symm.trans hf) |>.symm
      obtain rfl : fn = Tryd.f4 := (Option.some.inj (Tryd.func4.symm.trans hfn)).symm
      exact ⟨by kernel_rfl, fun j t ht => by
        rw [Tryd.params4] at ht
        exact noStandIn (ps := #[3, 3]) (by kernel_rfl) ht⟩)
    (by kernel_rfl)

#print axioms card
end Go.Proofs.YtccjomkgfadidaaDoor.lLoopsAround
