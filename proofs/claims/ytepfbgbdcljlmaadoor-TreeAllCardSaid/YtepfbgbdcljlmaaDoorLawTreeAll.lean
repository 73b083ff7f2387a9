/- Proved: the tied card of noonlaw4.TreeAll: it answers true for every input and leaves its arguments as they were. The card's own condition: errors.errorType holds what the program's text lays there. -/
import Derived.Test.YtepfbgbdcljlmaaDoorDoor
import Derived.Test.YtepfbgbdcljlmaaDoorTree
import Derived.Test.YtepfbgbdcljlmaaDoorChain
namespace Go.Proofs.YtepfbgbdcljlmaaDoor.lTreeAll
open Go.ChangeShapes Go.WideShapes Go.ChangeAt Go.RowKit
set_option linter.unusedVariables false
set_option linter.unusedSimpArgs false
def wantD (R i : Nat) : Int := if i = R then -1 else if R < i then (i : Int) - 1 else i
theorem want_all : ∀ N, N < 7 → ∀ R, R < N → ∀ i, i < N → (tFin (chainL 1 2 (N - 1)) N R).by_[i]? = some (wantD R i) := by decide
set_option maxRecDepth 100000 in
set_option maxHeartbeats 8000000 in
theorem walk (a0 : Int) (a1 : Int) (w : World) (h0 : -9223372036854775808 ≤ a0 ∧ a0 ≤ 9223372036854775807) (h1 : -9223372036854775808 ≤ a1 ∧ a1 ≤ 9223372036854775807) (hg : HandleAt w) :
    Calls Tryd.prog 3 #[.int .i64 a0, .int .i64 a1] w fun e w' => e = .returned (.bool true) ∧ Below w.heap.size w w' := by
  have HG := Lib.hid hg
  clear hg
  obtain ⟨i0, hi, hz0, hz1, hz2⟩ := info_parts infoEdge
  by_cases c1 : a0 < 1
  · go_enter Tryd.func3, Tryd.ntmps3
    go_wp2_with fail
    go_ret
    exact ⟨rfl, Below.refl _ _⟩
  by_cases c2 : 6 < a0
  · go_enter Tryd.func3, Tryd.ntmps3
    go_wp2_with fail
    go_ret
    exact ⟨rfl, Below.refl _ _⟩
  obtain ⟨N, rfl⟩ := Int.eq_ofNat_of_zero_le (show 0 ≤ a0 by omega)
  clear h0
  go_enter Tryd.func3, Tryd.ntmps3
  go_wp2_with fail
  go_loopw [5, 6] (fun lv iv wr => ∃ i : Nat, iv = .int .i64 i ∧ 1 ≤ i ∧ i ≤ N ∧ wr.ownsRow w.heap.size 26 4 lv (chainL 1 2 (i - 1)).length ((chainL 1 2 (i - 1)).flatMap REdge.cells) ∧ Below w.heap.size w wr) (fun _ iv _ => N - (intOf iv).toNat)
  case atStart => exact ⟨1, rfl, by omega, by omega, own_nil _ _ _ _, Below.refl _ _⟩
  case round =>
    obtain ⟨i, rfl, hi1, hiN, ho, hB⟩ := hrel
    have HO := Lib.hid ho
    have HB := Lib.hid hB
    have hzw := hB.size
    have hlen := chainL_len 1 2 (i - 1)
    have HS := Lib.hid (chainL_succ 1 2 hi1)
    clear ho hB
    by_cases d1 : i < N
    · obtain ⟨xs, hxs⟩ : ∃ xs, chainL 1 2 (i - 1) = xs := ⟨_, rfl⟩
      rw [hxs] at HO HS hlen
      have hlen : xs.length ≤ 6 := by omega
      clear hxs
      go_wp2_with (at_builtin; refine wpList_append_own _ rfl _ _ 22 rfl w.heap.size 26 i0 (.agg #[.int .i64 0, .int .i64 0, .int .i64 0, .int .i64 0]) 4 32 Tryd.underlying22 hi hz0 hz1 hz2 rfl (by decide) _ _ _ rfl (HO.out.alloc _) ⟨wr.heap.size, 0, none⟩ 1 1 _ rfl rfl (cell_newAt wr (REdge.cells ⟨(i : Int) - 1, i, 1, 2⟩) _ _ rfl) (edge_one _) (by unfold maxLen; omega) (by omega) (by simp; omega) ?_; intro v' w1 ho1 hg1 _)
      have HB2 := Lib.hid (show Below w.heap.size w w1 from (HB.out.alloc (by omega) _).grown hg1 (by simp; omega) (fun k hk => (HO.out.lt k hk).1))
      have HO2 := Lib.hid (own_snoc REdge.cells (z := ⟨(i : Int) - 1, i, 1, 2⟩) ho1)
      clear ho1 hg1
      go_wp2_with fail
      go_roundw
      case rel => exact ⟨i + 1, by go_num, by omega, by omega, by rw [HS.out]; exact HO2.out, HB2.out⟩
      case measure => simp [intOf]; omega
    · obtain rfl : i = N := by omega
      obtain ⟨A, n, c, rfl, hr⟩ := own_recs REdge.cells REdge.ok 4 (fun _ => rfl) HO.out (chainL_ok (by omega) (by omega) (by omega) (by omega))
      have hn := hr.1
      rw [chainL_len] at hn
      have hm1 := hr.2.1
      have hm2 := hr.2.2.1
      unfold maxLen at hm2
      have C0 := tree_Parents i A n c _ a1 wr hr
      have hc := chainL_c (lo := 1) (hi := 2) (n := i) (k := i - 1) (by omega) (by omega) (by omega) (by omega) (by omega) (by omega)
      by_cases e1 : 0 ≤ a1 ∧ a1 < i
      · obtain ⟨e2, e3⟩ := e1
        have ht : treeC i (chainL 1 2 (i - 1)) a1 = 0 := by simp [treeC, hc, nodeB_iff.2 ⟨e2, e3⟩]
        obtain ⟨R, rfl⟩ := Int.eq_ofNat_of_zero_le e2
        have hp : parD i (chainL 1 2 (i - 1)) R = (tFin (chainL 1 2 (i - 1)) i R).by_ := by simp [parD, ht]
        have hW := want_all i (by omega) R (by omega)
        rw [hp, ht] at C0
        have hbl := (TOk.st (l := chainL 1 2 (i - 1)) (n := i) (root := R) (by omega) (edgesC_0 hc).2.2.2 i).bl
        obtain ⟨ps, hps⟩ : ∃ ps, (tFin (chainL 1 2 (i - 1)) i R).by_ = ps := ⟨_, rfl⟩
        rw [hps] at C0 hW
        have hbl : ps.length = i := by rw [← hps]; exact hbl
        have HW := Lib.hid hW
        have C0 := Lib.hid C0
        have HBL := Lib.hid hbl
        clear hbl hps hp ht hW hc hr HO HS hlen hn
        go_wp2_with fail
        refine C0.out.mono ?_
        rintro e w2 ⟨P, pn, pc, rfl, hP, hb2⟩
        obtain ⟨p1, p2, p3, p4, p5⟩ := hP
        unfold maxLen at p3
        have p6 : pn = i := by rw [← p1, HBL.out]
        subst p6
        have P5 := Lib.hid p5
        have P1 := Lib.hid p1
        have HB2 := Lib.hid (HB.out.trans (hb2.mono HB.out.size))
        clear p1 p4 p5 hb2
        go_wp2_with fail
        go_loopw [9, 10] (fun kv _ wx => ∃ k : Nat, kv = .int .i64 k ∧ k ≤ pn ∧ wx = w2) (fun kv _ _ => pn - (intOf kv).toNat)
        case atStart => exact ⟨0, rfl, by omega, rfl⟩
        case round =>
          obtain ⟨k, rfl, hk, rfl⟩ := hrel
          by_cases d2 : k < pn
          · obtain ⟨b, off, rfl, hb, hc⟩ := P5.out (by omega)
            have x0 : wr.cell? ⟨b, off + k, none⟩ = some (.int .i64 (wantD R k)) := by have := hc k _ (HW.out k d2) 0 _ rfl; simpa using this
            have d3 : decide ((k : Int) < (pn : Int)) = true := by simp; omega
            clear hc
            unfold wantD at x0
            by_cases f1 : k = R
            · subst f1
              rw [if_pos rfl] at x0
              go_wp2_with fail
              go_roundw
              case rel => exact ⟨k + 1, by go_num, by omega, trivial⟩
              case measure => simp [intOf]; omega
            · rw [if_neg f1] at x0
              have f2 : (k == R) = false := by simpa using f1
              have f3 : ((k : Int) == (R : Int)) = false := by simp; omega
              by_cases f4 : R < k
              · rw [if_pos f4] at x0
                have f5 : decide ((R : Int) < (k : Int)) = true := by simp; omega
                clear f1
                go_wp2_with fail
                go_roundw
                case rel => exact ⟨k + 1, by go_num, by omega, trivial⟩
                case measure => simp [intOf]; omega
              · rw [if_neg f4] at x0
                have f5 : decide ((R : Int) < (k : Int)) = false := by simp; omega
                clear f1
                go_wp2_with fail
                go_roundw
                case rel => exact ⟨k + 1, by go_num, by omega, trivial⟩
                case measure => simp [intOf]; omega
          · go_wp2_with fail
            go_ret
            exact ⟨rfl, HB2.out⟩
      · have ht : treeC i (chainL 1 2 (i - 1)) a1 = 1 := by
          have : nodeB i a1 = false := by
            cases hb : nodeB i a1
            · rfl
            · exact absurd (nodeB_iff.1 hb) e1
          simp [treeC, hc, this]
        rw [ht] at C0
        have C0 := Lib.hid C0
        have e2 : a1 < 0 ∨ ¬ a1 < 0 ∧ (i : Int) ≤ a1 := by omega
        clear e1 ht hc hr HO HS hlen hn
        rcases e2 with e2 | ⟨e2, e3⟩
        all_goals
          go_wp2_with fail
          refine C0.out.mono ?_
          rintro e w2 ⟨P, pn, pc, rfl, hP, hb2⟩
          have HB2 := Lib.hid (HB.out.trans (hb2.mono HB.out.size))
          clear hb2 hP
          go_wp2_with fail
          (try (go_at_call 7; refine (Error_n 1 _ (by omega) _ (HG.out.below HB2.out)).mono ?_; rintro e w3 ⟨rfl, hb3⟩; obtain ⟨hc3, hf3⟩ := bcell hb3; have hz3 := hb3.size; (try simp at hz3); (try have q3_0_0_0 : w.heap.size < w3.heap.size := by omega); (try have q3_0_0_2 : w.heap.size < w3.heap.size + 1 + 1 := by omega); (try have q3_0_0_3 : w.heap.size < w3.heap.size + 1 + 1 + 1 := by omega); (try have q3_0_1_0 : w.heap.size + 1 < w3.heap.size := by omega); (try have q3_0_1_2 : w.heap.size + 1 < w3.heap.size + 1 + 1 := by omega); (try have q3_0_1_3 : w.heap.size + 1 < w3.heap.size + 1 + 1 + 1 := by omega); (try have q3_0_2_0 : w.heap.size + 1 + 1 < w3.heap.size := by omega); (try have q3_0_2_2 : w.heap.size + 1 + 1 < w3.heap.size + 1 + 1 := by omega); (try have q3_0_2_3 : w.heap.size + 1 + 1 < w3.heap.size + 1 + 1 + 1 := by omega); (try have q3_0_3_0 : w.heap.size + 1 + 1 + 1 < w3.heap.size := by omega); (try have q3_0_3_2 : w.heap.size + 1 + 1 + 1 < w3.heap.size + 1 + 1 := by omega); (try have q3_0_3_3 : w.heap.size + 1 + 1 + 1 < w3.heap.size + 1 + 1 + 1 := by omega); (try have q3_1_0_0 : w1.heap.size < w3.heap.size := by omega); (try have q3_1_0_2 : w1.heap.size < w3.heap.size + 1 + 1 := by omega); (try have q3_1_1_0 : w1.heap.size + 1 < w3.heap.size := by omega); (try have q3_1_1_2 : w1.heap.size + 1 < w3.heap.size + 1 + 1 := by omega); (try have q3_2_0_0 : w2.heap.size < w3.heap.size := by omega); (try have q3_2_0_2 : w2.heap.size < w3.heap.size + 1 + 1 := by omega); (try have q3_2_1_0 : w2.heap.size + 1 < w3.heap.size := by omega); (try have q3_2_1_2 : w2.heap.size + 1 < w3.heap.size + 1 + 1 := by omega); (try go_wp2_with fail)))
          go_ret
          exact ⟨rfl, HB2.out.trans (hb3.mono HB2.out.size)⟩

set_option maxRecDepth 100000 in
theorem lifted (os : Os) (started : os.Started) (H : Type) (enc : TypeId × Value → H) :
    ReturnsInHanded {} Tryd.checked os 3 .any (fun w args => (Rows.treeAllSpec.pre enc Tryd.prog Tryd.f3 [] false w args ∧ laidMetH Tryd.prog laidList w) ∧ sizedMet enc Tryd.prog Tryd.f3 (OpenSpec.ofChange Rows.treeAllSpec) false w args)
      (Rows.treeAllSpec.post enc Tryd.prog Tryd.f3 false true false false) := by
  refine returnsInHanded_of_change_and (C := Tryd.checked) (X := fun w _ => laidMetH Tryd.prog laidList w) (fun _ _ _ hh h => h.of_heap hh) own started (by kernel_rfl) Tryd.func3
    (ChangeSpec.witness_at (enc := enc) (C := Tryd.checked) (os := os) (X := fun w _ => laidMetH Tryd.prog laidList w) false (laidWorld os) #[.int .i64 0, .int .i64 0] 8 rfl (by kernel_rfl) (by kernel_rfl) (by kernel_rfl) (by kernel_rfl) (by kernel_rfl) (laidWorld_met os _)) ?_
  intro W base args ds gs before hval0 hW hcnd hreach hL _
  have hval : ∀ (j : Nat) t v, Tryd.f3.params[j]? = some t → args[j]? = some v → Value.okWide Tryd.prog W .any base t v := hval0
  have hW' := hW
  obtain ⟨p, q, hA0, hV, rfl, hfz, hnd⟩ := hW
  have hA : DataW.TrodAll enc Tryd.prog W 0 (fun _ => true) true Tryd.f3.params.toList args.toList ds p := hA0
  rw [Tryd.params3] at hA hval
  obtain ⟨v0, vs0, d0, ds0, p0, q0, hargs, rfl, rfl, g0, r0⟩ := trodAll_cons hA
  obtain ⟨v1, vs1, d1, ds1, p1, q1, rfl, rfl, rfl, g1, r1⟩ := trodAll_cons r0
  obtain ⟨rfl, rfl, rfl⟩ := trodAll_nil r1
  obtain rfl : args = #[v0, v1] := by cases args; simp_all
  have hV2 : DataW.TrodVars enc Tryd.prog W (fun _ => true) [] gs q := hV
  obtain ⟨rfl, rfl⟩ : gs = [] ∧ q = [] := by
    cases gs with
    | nil => exact ⟨rfl, hV2⟩
    | cons g r => exact absurd hV2 (by intro h; cases h)
  obtain ⟨a0, rfl, rfl, rfl, u0⟩ := open_int Tryd.underlying3 (hval 0 3 v0 rfl rfl) g0
  have h0 := bounds_i64 u0
  obtain ⟨a1, rfl, rfl, rfl, u1⟩ := open_int Tryd.underlying3 (hval 1 3 v1 rfl rfl) g1
  have h1 := bounds_i64 u1
  clear hA0 hval0
  refine (walk a0 a1 W h0 h1 (handle_of_laid hL)).mono fun e W' ⟨he, bel⟩ => ?_
  subst he
  exact ⟨_, rfl, _, _, _, [], _, [], hW', trodAll_mk1 (shut_bool Tryd.underlying4 _), (trodAll_cons_mk (shut_int Tryd.underlying3 u0) (trodAll_cons_mk (shut_int Tryd.underlying3 u1) trodAll_mk0)), rfl, bel.frame _, fun h => by cases h⟩

theorem over : Rows.treeAllRow.holds Tryd.pinned (OpenSpec.ofChange Rows.treeAllSpec) :=
  OpenClaim.holds_of_wide 3 Tryd.f3 rfl rfl rfl rfl rfl rfl rfl ⟨rfl, rfl, rfl, rfl, rfl⟩ rfl rfl rfl rfl rfl (by kernel_rfl) Tryd.func3 (by kernel_rfl)
    (of_decide_eq_true (by kernel_rfl)) (by unfold Func.isWrapper; rw [if_neg (of_decide_eq_false (by kernel_rfl))]; exact ⟨rfl, rfl⟩)
    (fun os started H enc _ => lifted os started H enc)

theorem card : Rows.TreeAllCardSaid :=
  Claim7.holds_tied_plain_at .later [] [.handle] true (true, Rows.treeAllCard.stood.harness.2) true
    over (fun _ h => by cases h) (by kernel_rfl) (fun _ h => by cases h) treeAll_row_tie rfl ⟨rfl, rfl⟩ (by kernel_rfl) rfl
    (fun f fn hf hfn => by
      obtain rfl : f = 3 := Option.some.inj ((show Tryd.prog.funcNamed "noonmark/noonlaw4.TreeAll" = some 3 by kernel_rfl).symm.trans hf) |>.symm
      obtain rfl : fn = Tryd.f3 := (Option.some.inj (Tryd.func3.symm.trans hfn)).symm
      exact ⟨by kernel_rfl, fun j t ht => by
        rw [Tryd.params3] at ht
        exact noStandIn (ps := #[3, 3]) (by kernel_rfl) ht⟩)
    (by kernel_rfl)

#print axioms card
end Go.Proofs.YtepfbgbdcljlmaaDoor.lTreeAll
