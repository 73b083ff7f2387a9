/- Proved: noonlaw4.OrderFree answers true for every input and leaves its arguments as they were. No condition. -/
import Derived.Test.YthclepohilekaaaOpen
import Derived.Test.YthclepohilekaaaOrdI
import Derived.Test.YthclepohilekaaaOrdM
import Derived.Test.YthclepohilekaaaFreeP
import Derived.Deep.DeepCutAuto
import Derived.Deep.CutBlock
import Derived.Deep.Light
import Derived.BigQuiet
namespace Go.Proofs.Ythclepohilekaaa.lOrderFree
open Go.ChangeShapes Go.WideShapes Go.ChangeAt Go.RowKit
set_option linter.unusedVariables false
set_option linter.unusedSimpArgs false
theorem event_one (z : REvent) : ∀ u ∈ REvent.cells z, u.oneCell' = true := by
  intro u hu
  simp [REvent.cells] at hu
  rcases hu with rfl | rfl | rfl <;> rfl
theorem frL_oks (a : Bool) {n : Nat} (h : n ≤ 12) : ∀ z ∈ frL a n, REvent.ok z := by
  intro z hz
  obtain ⟨i, hi, rfl⟩ := frL_mem hz
  have h1 := rightB_iff.1 (frE_right a (i := i) (by omega))
  refine ⟨?_, ?_, ?_⟩
  · show i64B (i : Int)
    unfold i64B; omega
  · unfold i64B; omega
  · unfold i64B; omega
theorem infoEv : (Try.prog.info? 26).map (fun i => (i.zero, i.size, i.bytes)) = some (some (.agg #[.int .i64 0, .int .i64 0, .int .i64 0]), 3, 24) := by kernel_rfl
set_option maxRecDepth 100000 in
set_option maxHeartbeats 16000000 in
theorem good (n : Nat) (hn : n ≤ 12) (a1 : Bool) (w : World) :
    Calls Try.prog 3 #[.int .i64 (n : Int), .bool a1] w fun e w' => e = .returned (.bool true) ∧ Below w.heap.size w w' := by
  obtain ⟨i0, hi, hz0, hz1, hz2⟩ := info_parts infoEv
  have g1 : ¬ (n : Int) < 0 := by omega
  have g2 : ¬ (12 : Int) < (n : Int) := by omega
  go_enter Try.func3, Try.ntmps3
  go_wp2_with fail
  go_loopw [5, 6, 7] (fun lv wv iv wr => ∃ i : Nat, iv = .int .i64 i ∧ i ≤ n ∧ wv = .int .i64 ((if a1 = true then 1 else facN i : Nat) : Int) ∧ wr.ownsRow w.heap.size 26 3 lv (frL a1 i).length ((frL a1 i).flatMap REvent.cells) ∧ Below w.heap.size w wr) (fun _ _ iv _ => n - (intOf iv).toNat)
  case atStart => exact ⟨0, rfl, by omega, by cases a1 <;> rfl, own_nil _ _ _ _, Below.refl _ _⟩
  case round =>
    obtain ⟨i, rfl, hi1, rfl, ho, hB⟩ := hrel
    have HO := Lib.hid ho
    have HB := Lib.hid hB
    have hzw := hB.size
    have hlen := frL_len a1 i
    clear ho hB
    by_cases d1 : i < n
    · have HS := Lib.hid (show frL a1 (i + 1) = frL a1 i ++ [frE a1 i] from rfl)
      have hf := facN_le i (by omega)
      have hf2 := facN_le (i + 1) (by omega)
      have hfs : facN (i + 1) = facN i * (i + 1) := rfl
      have HF := Lib.hid hfs
      obtain ⟨F, hF⟩ : ∃ F, facN i = F := ⟨_, rfl⟩
      rw [hfs] at hf2
      rw [hF] at hf hf2 HF ⊢
      have hmul : (F : Int) * ((i : Int) + 1) = ((F * (i + 1) : Nat) : Int) := by simp
      obtain ⟨FF, hFF⟩ : ∃ FF, F * (i + 1) = FF := ⟨_, rfl⟩
      rw [hFF] at hf2 hmul HF
      have hw1 := IntWalk.i64_in ((F : Int) * ((i : Int) + 1)) (by rw [hmul]; omega)
      rw [hmul] at hw1
      obtain ⟨xs, hxs⟩ : ∃ xs, frL a1 i = xs := ⟨_, rfl⟩
      rw [hxs] at HO HS hlen
      have hlen : xs.length ≤ 12 := by omega
      clear hxs hF hFF hfs
      cases a1
      · have HS := Lib.hid (show frL false (i + 1) = xs ++ [⟨(i : Int), 0, 10⟩] from HS.out)
        go_wp2_with (at_builtin; refine wpList_append_own _ rfl _ _ 22 rfl w.heap.size 26 i0 (.agg #[.int .i64 0, .int .i64 0, .int .i64 0]) 3 24 Try.underlying22 hi hz0 hz1 hz2 rfl (by decide) _ _ _ rfl ((HO.out.alloc _).alloc _) ⟨wr.heap.size + 1, 0, none⟩ 1 1 _ rfl rfl (cell_newAt (wr.alloc _) (REvent.cells ⟨(i : Int), 0, 10⟩) _ _ (by simp)) (event_one _) (by unfold maxLen; omega) (by omega) (by simp; omega) ?_; intro v' w1 ho1 hg1 _)
        have HB2 := Lib.hid (show Below w.heap.size w w1 from (((HB.out.alloc (by omega) _).alloc (by simp; omega) _)).grown hg1 (by simp; omega) (fun k hk => (HO.out.lt k hk).1))
        have HO2 := Lib.hid (own_snoc REvent.cells (z := ⟨(i : Int), 0, 10⟩) ho1)
        clear ho1 hg1
        go_wp2_with fail
        go_roundw
        case rel => exact ⟨i + 1, by go_num, by omega, by rw [HF.out]; rfl, by rw [HS.out]; exact HO2.out, HB2.out⟩
        case measure => go_light; simp [intOf]; omega
      · have HS := Lib.hid (show frL true (i + 1) = xs ++ [⟨(i : Int), 20 * (i : Int), 20 * (i : Int) + 10⟩] from HS.out)
        have hw2 := IntWalk.i64_in (20 * (i : Int)) (by omega)
        have hw3 := IntWalk.i64_in (20 * (i : Int) + 10) (by omega)
        go_wp2_with (at_builtin; refine wpList_append_own _ rfl _ _ 22 rfl w.heap.size 26 i0 (.agg #[.int .i64 0, .int .i64 0, .int .i64 0]) 3 24 Try.underlying22 hi hz0 hz1 hz2 rfl (by decide) _ _ _ rfl ((HO.out.alloc _).alloc _) ⟨wr.heap.size + 1, 0, none⟩ 1 1 _ rfl rfl (cell_newAt (wr.alloc _) (REvent.cells ⟨(i : Int), 20 * (i : Int), 20 * (i : Int) + 10⟩) _ _ (by simp)) (event_one _) (by unfold maxLen; omega) (by omega) (by simp; omega) ?_; intro v' w1 ho1 hg1 _)
        have HB2 := Lib.hid (show Below w.heap.size w w1 from (((HB.out.alloc (by omega) _).alloc (by simp; omega) _)).grown hg1 (by simp; omega) (fun k hk => (HO.out.lt k hk).1))
        have HO2 := Lib.hid (own_snoc REvent.cells (z := ⟨(i : Int), 20 * (i : Int), 20 * (i : Int) + 10⟩) ho1)
        clear ho1 hg1
        go_wp2_with fail
        go_roundw
        case rel => exact ⟨i + 1, by go_num, by omega, rfl, by rw [HS.out]; exact HO2.out, HB2.out⟩
        case measure => go_light; simp [intOf]; omega
    · obtain rfl : i = n := by omega
      obtain ⟨A, m, c, rfl, hr⟩ := own_recs REvent.cells REvent.ok 3 (fun _ => rfl) HO.out (frL_oks a1 hn)
      obtain rfl : i = m := by have := hr.1; rw [frL_len] at this; exact this
      have e0 := frL_ok a1 hn
      have CM := order_Many_ok A i c _ wr hr e0
      have CR := Lib.hid (fun w' (hb : Below wr.heap.size wr w') => order_Ranks_ok A i c _ w' (hr.below hb) e0)
      have hm1 := hr.2.1
      have hm2 := hr.2.2.1
      unfold maxLen at hm2
      have hW : wN (frL a1 i) (2 ^ i - 1) = if a1 = true then 1 else facN i := by
        cases a1
        · rw [wN_all]; rfl
        · rw [wN_row i (Nat.le_refl i)]; rfl
      rw [hW] at CM
      have HRk := Lib.hid (fun k (hk : k < i) => show rankV (frL a1 i) k = if a1 = true then (k : Int) + 1 else 1 from by
        cases a1
        · rw [rank_free hn hk]; rfl
        · rw [rank_row hn k hk]; rfl)
      obtain ⟨W, hWe⟩ : ∃ W, (if a1 = true then 1 else facN i : Nat) = W := ⟨_, rfl⟩
      rw [hWe] at CM ⊢
      have CM := Lib.hid CM
      clear hW hWe hr e0 HO hlen
      go_wp2_with fail
      refine CM.out.mono ?_
      rintro e w1 ⟨rfl, hb1⟩
      have hz1 := hb1.size
      go_wp2_with fail
      refine (CR.out _ hb1).mono ?_
      rintro e w2 ⟨B, m, d, rfl, hI, hb2⟩
      have HB2 := Lib.hid (HB.out.trans ((hb1.trans (hb2.mono hz1)).mono hzw))
      obtain rfl : i = m := by have := hI.1; rw [rankL_len] at this; exact this
      have hd1 := hI.2.1
      have hd2 := hI.2.2.1
      unfold maxLen at hd2
      have HRk2 := Lib.hid (fun (hp : 0 < i) => show ∃ b off, B = some ⟨b, off, none⟩ ∧ b < w2.heap.size ∧ ∀ W, Below w2.heap.size w2 W → ∀ k, k < i → W.cell? ⟨b, off + k, none⟩ = some (.int .i64 (if a1 = true then (k : Int) + 1 else 1)) from by
        obtain ⟨b, off, e, hb, hc⟩ := hI.2.2.2.2 hp
        exact ⟨b, off, e, hb, fun W hB k hk => (hB.cell (p := ⟨b, off + k, none⟩) hb).trans (by simpa [HRk.out k hk] using hc k _ (rankL_get _ i k hk) 0 _ rfl)⟩)
      have hz2 := HB2.out.size
      clear hb1 hb2 hI CM CR HB
      go_wp2_with fail
      go_loopw [13] (fun kv wr => ∃ k : Nat, kv = .int .i64 k ∧ k ≤ i ∧ Below w2.heap.size w2 wr) (fun kv _ => i - (intOf kv).toNat)
      case atStart => exact ⟨0, rfl, by omega, Below.refl _ _⟩
      case round =>
        obtain ⟨k, rfl, hk, hB⟩ := hrel
        have HBk := Lib.hid hB
        by_cases d2 : k < i
        · obtain ⟨b, off, rfl, hb, hc⟩ := HRk2.out (by omega)
          have x0 := hc _ hB k d2
          have q0 : (0 : Int) ≤ (k : Int) := by omega
          have q1 : (k : Int) < (i : Int) := by omega
          have hw2 := IntWalk.i64_in ((k : Int) + 1) (by omega)
          clear hc hB
          cases a1
          · have x0 : wr.cell? ⟨b, off + k, none⟩ = some (.int .i64 1) := x0
            go_wp2_with fail
            (try go_quiet (fail))
            go_wp2_with fail
            go_roundw
            case rel => exact ⟨k + 1, by go_num, by omega, by first | exact HBk.out | exact below_drewN HBk.out _⟩
            case measure => go_light; simp [intOf]; omega
          · have x0 : wr.cell? ⟨b, off + k, none⟩ = some (.int .i64 ((k : Int) + 1)) := x0
            go_wp2_with fail
            (try go_quiet (fail))
            go_wp2_with fail
            go_roundw
            case rel => exact ⟨k + 1, by go_num, by omega, by first | exact HBk.out | exact below_drewN HBk.out _⟩
            case measure => go_light; simp [intOf]; omega
        · obtain rfl : k = i := by omega
          go_wp2_with fail
          go_ret
          exact ⟨rfl, HB2.out.trans (HBk.out.mono hz2)⟩
set_option maxRecDepth 100000 in
theorem walk (a0 : Int) (a1 : Bool) (w : World) (h0 : -9223372036854775808 ≤ a0 ∧ a0 ≤ 9223372036854775807) :
    Calls Try.prog 3 #[.int .i64 a0, .bool a1] w fun e w' => e = .returned (.bool true) ∧ Below w.heap.size w w' := by
  by_cases c1 : a0 < 0
  · go_enter Try.func3, Try.ntmps3
    go_wp2_with fail
    go_ret
    exact ⟨rfl, Below.refl _ _⟩
  by_cases c2 : 12 < a0
  · go_enter Try.func3, Try.ntmps3
    go_wp2_with fail
    go_ret
    exact ⟨rfl, Below.refl _ _⟩
  obtain ⟨N, rfl⟩ := Int.eq_ofNat_of_zero_le (show 0 ≤ a0 by omega)
  exact good N (by omega) a1 w

set_option maxRecDepth 100000 in
theorem lifted (os : Os) (started : os.Started) (H : Type) (enc : TypeId × Value → H) :
    ReturnsInHanded {} Try.checked os 3 .any (Rows.orderFreeSpec.pre6 enc Try.prog Try.f3 Rows.orderFreeRow.domain false) (Rows.orderFreeSpec.post enc Try.prog Try.f3 false true false false) := by
  refine returnsInHanded_of_change (C := Try.checked) own started (by kernel_rfl) Try.func3
    (ChangeSpec.witness6 (enc := enc) (C := Try.checked) false ⟨#[], #[.int .i64 0, .bool false], []⟩ 8 (by kernel_rfl) (by kernel_rfl) (by kernel_rfl) (by kernel_rfl)) ?_
  intro W base args ds gs before hval0 hW hcnd hreach
  have hval : ∀ (j : Nat) t v, Try.f3.params[j]? = some t → args[j]? = some v → Value.okWide Try.prog W .any base t v := hval0
  have hW' := hW
  obtain ⟨p, q, hA0, hV, rfl, hfz, hnd⟩ := hW
  have hA : DataW.TrodAll enc Try.prog W 0 (fun _ => true) true Try.f3.params.toList args.toList ds p := hA0
  rw [Try.params3] at hA hval
  obtain ⟨v0, vs0, d0, ds0, p0, q0, hargs, rfl, rfl, g0, r0⟩ := trodAll_cons hA
  obtain ⟨v1, vs1, d1, ds1, p1, q1, rfl, rfl, rfl, g1, r1⟩ := trodAll_cons r0
  obtain ⟨rfl, rfl, rfl⟩ := trodAll_nil r1
  obtain rfl : args = #[v0, v1] := by cases args; simp_all
  obtain ⟨rfl, rfl⟩ := trodVars_none hV
  obtain ⟨a0, rfl, rfl, rfl, u0⟩ := open_int Try.underlying3 (hval 0 3 v0 rfl rfl) g0
  have h0 := bounds_i64 u0
  obtain ⟨a1, rfl, rfl, rfl⟩ := open_bool Try.underlying4 (hval 1 4 v1 rfl rfl) g1
  clear hA0 hval0
  refine (walk a0 a1 W h0).mono fun e W' ⟨he, bel⟩ => ?_
  subst he
  exact ⟨_, rfl, _, _, _, [], _, [], hW', trodAll_mk1 (shut_bool Try.underlying4 _), (trodAll_cons_mk (shut_int Try.underlying3 u0) (trodAll_cons_mk (shut_bool Try.underlying4 _) trodAll_mk0)), rfl, bel.frame _, fun h => by cases h⟩

theorem over : Rows.orderFreeRow.holds Try.pinned (OpenSpec.ofChange Rows.orderFreeSpec) :=
  OpenClaim.holds_of_wide 3 Try.f3 rfl rfl rfl rfl rfl rfl rfl ⟨rfl, rfl, rfl, rfl, rfl⟩ rfl rfl rfl rfl rfl (by kernel_rfl) Try.func3 (by kernel_rfl)
    (of_decide_eq_true (by kernel_rfl)) (by unfold Func.isWrapper; rw [if_neg (of_decide_eq_false (by kernel_rfl))]; exact ⟨rfl, rfl⟩)
    (fun os started H enc _ => lifted os started H enc)

/-- the statement -/
theorem proved : Rows.OrderFreeSaid := over

end Go.Proofs.Ythclepohilekaaa.lOrderFree
