/- noonref2's numbers, their order and mean; stat.Widths: walked. -/
import Derived.Test.YtafinconoodgfaaDoorSpansC
import Derived.Test.YtafinconoodgfaaDoorStat
import Derived.Test.YtafinconoodgfaaDoorApp
import Derived.Test.YtafinconoodgfaaDoorArr
import Derived.Deep.DeepCutAuto
import Derived.Deep.CutBlock
namespace Go.Proofs.YtafinconoodgfaaDoor
open Go.RowKit
set_option linter.unusedVariables false
set_option linter.unusedSimpArgs false
theorem r2_Numbers (A : Option Addr) (n c : Nat) (zs : List Int) (w : World) (h : IsInts w A n c zs) :
    Calls Tryd.prog 8 #[.slice A n c] w fun e w' => e = .returned (.int .i64 (numsC zs)) ∧ w = w' := by
  have hcs := numsC_cases h.1
  obtain ⟨l1, l2, l3, l4, l5⟩ := h
  unfold maxLen at l3
  have L1 := Lib.hid l1
  have L5 := Lib.hid l5
  clear l1 l4 l5
  by_cases d1 : 60 < n
  · have hv : numsC zs = 4 := by rcases hcs with ⟨_, h⟩ | ⟨h, _⟩ | ⟨h, _⟩ | ⟨h, _⟩ <;> first | exact h | exact absurd d1 h
    have k0 : (60 : Int) < (n : Int) := by omega
    rw [hv]
    clear hcs hv
    go_enter Tryd.func8, Tryd.ntmps8
    go_wp2_with fail
    go_ret
    exact ⟨rfl, rfl⟩
  by_cases d2 : n = 0
  · have hv : numsC zs = 5 := by rcases hcs with ⟨h, _⟩ | ⟨_, _, h⟩ | ⟨_, h, _⟩ | ⟨_, h, _⟩ <;> first | exact h | exact absurd h d1 | exact absurd d2 h
    rw [hv]
    subst d2
    clear hcs hv
    go_enter Tryd.func8, Tryd.ntmps8
    go_wp2_with fail
    go_ret
    exact ⟨rfl, rfl⟩
  · have HV := Lib.hid (show numsC zs = if badN zs = true then 1 else 0 by unfold numsC badN; rw [L1.out, if_neg d1, if_neg d2])
    have k0 : ¬ (60 : Int) < (n : Int) := by omega
    clear hcs
    go_enter Tryd.func8, Tryd.ntmps8
    go_wp2_with fail
    go_loopw [3] (fun kv wr => ∃ k : Nat, kv = .int .i64 k ∧ k ≤ n ∧ (∀ x ∈ zs.take k, timeB x = true) ∧ w = wr) (fun kv _ => n - (intOf kv).toNat)
    case atStart => exact ⟨0, rfl, by omega, fun x hx => by simp at hx, rfl⟩
    case round =>
      obtain ⟨k, rfl, hk, hD, rfl⟩ := hrel
      have HD := Lib.hid hD
      clear hD
      by_cases d3 : k < n
      · obtain ⟨b, off, rfl, hb, hc⟩ := L5.out (by omega)
        obtain ⟨z, hz⟩ : ∃ z, zs[k]? = some z := ⟨_, List.getElem?_eq_getElem (by rw [L1.out]; omega)⟩
        have x0 : w.cell? ⟨b, off + k, none⟩ = some (.int .i64 z) := by have := hc k z hz 0 _ rfl; simpa using this
        have HZ := Lib.hid hz
        have C := r1_Time z w
        clear hc hz
        cases e1 : timeB z
        · rw [e1] at C
          have HC := Lib.hid C
          have HN := Lib.hid (badN_yes HZ.out e1)
          clear C
          go_wp2_with fail
          refine HC.out.mono ?_
          rintro e w' ⟨rfl, rfl⟩
          go_wp2_with fail
          go_ret
          exact ⟨by rw [HV.out, HN.out]; rfl, rfl⟩
        · rw [e1] at C
          have HC := Lib.hid C
          have HD2 := Lib.hid (take_more (p := fun x => timeB x = true) HZ.out HD.out e1)
          clear C
          go_wp2_with fail
          refine HC.out.mono ?_
          rintro e w' ⟨rfl, rfl⟩
          go_wp2_with fail
          go_roundw
          case rel => exact ⟨k + 1, by go_num, by omega, HD2.out, trivial⟩
          case measure => simp [intOf]; omega
      · have HN := Lib.hid (badN_no (zs := zs) (by
          have := HD.out
          rwa [List.take_of_length_le (by rw [L1.out]; omega)] at this))
        go_wp2_with fail
        go_ret
        exact ⟨by rw [HV.out, HN.out]; rfl, rfl⟩
theorem floor_m {S Q : Int} {n : Nat} (hn : 0 < n) (hq : Int.tdiv S n = Q) (hb : -100000000000000 ≤ S ∧ S ≤ 100000000000000) :
    (S < Q * n ∧ Q - 1 = S / n) ∨ (¬ S < Q * n ∧ Q = S / n) := by
  obtain ⟨Q', R, h1, h2, _, h3⟩ := floor_q hn hb
  rw [hq] at h1
  subst h1
  have h4 := Int.mul_tdiv_add_tmod S n
  rw [hq, h2] at h4
  rw [Int.mul_comm] at h4
  rcases h3 with ⟨h5, h6⟩ | ⟨h5, h6⟩
  · exact .inl ⟨by omega, h6⟩
  · exact .inr ⟨by omega, h6⟩
theorem r2_Mean (A : Option Addr) (n c : Nat) (zs : List Int) (w : World) (h : IsInts w A n c zs) (h0 : numsC zs = 0) :
    Calls Tryd.prog 10 #[.slice A n c] w fun e w' => e = .returned (.int .i64 (meanV zs)) ∧ w = w' := by
  obtain ⟨p1, p2, p3⟩ := numsC_0 h0
  obtain ⟨l1, l2, l3, l4, l5⟩ := h
  unfold maxLen at l3
  have hm : meanV zs = zs.sum / (n : Int) := by unfold meanV; rw [l1]
  have L1 := Lib.hid l1
  have L5 := Lib.hid l5
  have P3 := Lib.hid p3
  have HM := Lib.hid hm
  rw [l1] at p1 p2
  clear l1 l4 l5 p3 h0 hm
  go_enter Tryd.func10, Tryd.ntmps10
  go_wp2_with fail
  go_loopw [3, 4] (fun sv kv wr => ∃ (k : Nat) (S : Int), kv = .int .i64 k ∧ sv = .int .i64 S ∧ k ≤ n ∧ S = (zs.take k).sum ∧ (-((k : Int) * 1000000000000) ≤ S ∧ S ≤ (k : Int) * 1000000000000) ∧ w = wr) (fun _ kv _ => n - (intOf kv).toNat)
  case atStart => exact ⟨0, 0, rfl, rfl, by omega, by simp, by omega, rfl⟩
  case round =>
    obtain ⟨k, S, rfl, rfl, hk, hS, hB, rfl⟩ := hrel
    have HS := Lib.hid hS
    clear hS
    by_cases d1 : k < n
    · obtain ⟨b, off, rfl, hb, hc⟩ := L5.out (by omega)
      obtain ⟨z, hz⟩ : ∃ z, zs[k]? = some z := ⟨_, List.getElem?_eq_getElem (by rw [L1.out]; omega)⟩
      have x0 : w.cell? ⟨b, off + k, none⟩ = some (.int .i64 z) := by have := hc k z hz 0 _ rfl; simpa using this
      have HZ := Lib.hid hz
      have hb9 := timeB_iff.1 (P3.out z (List.mem_of_getElem? hz))
      have hw := IntWalk.i64_in (S + z) (by omega)
      clear hc hz
      go_wp2_with fail
      go_roundw
      case rel => exact ⟨k + 1, S + z, by go_num, rfl, by omega, by rw [sum_take HZ.out, HS.out], by omega, trivial⟩
      case measure => simp [intOf]; omega
    · obtain rfl : k = n := by omega
      have hx : S = zs.sum := by rw [HS.out, List.take_of_length_le (by rw [L1.out]; omega)]
      obtain ⟨Q, hQ⟩ : ∃ Q, Int.tdiv S k = Q := ⟨_, rfl⟩
      obtain ⟨Q', R, q1, q2, q3, q4⟩ := floor_q (S := S) (n := k) (by omega) (by omega)
      obtain rfl : Q = Q' := by rw [← hQ, q1]
      have HM2 := Lib.hid (HM.out.trans (by rw [← hx] : zs.sum / (k : Int) = S / (k : Int)))
      have n0 : ¬ (k : Int) = 0 := by omega
      have hq := floor_m (by omega) hQ (by omega)
      have hmx : (Q * (k : Int)).natAbs ≤ 100000000000000 := by
        have h4 := Int.mul_tdiv_add_tmod S k
        have h6 : (S.tdiv k * k).natAbs ≤ S.natAbs := by
          rw [Int.natAbs_mul, Int.natAbs_tdiv]
          exact Nat.div_mul_le_self _ _
        rw [hQ] at h6
        omega
      have hw := IntWalk.i64_in (Q * (k : Int)) (by omega)
      clear hx q2 q4 q1 hB
      obtain ⟨T, hT⟩ : ∃ T, Q * (k : Int) = T := ⟨_, rfl⟩
      rw [hT] at hq hw
      rcases hq with ⟨q5, q6⟩ | ⟨q5, q6⟩
      all_goals
        have HQ := Lib.hid q6
        clear q6
        go_wp2_with fail
        go_ret
        exact ⟨by rw [HM2.out, ← HQ.out]; (try rfl), rfl⟩
theorem sort_ins {zs S : List Int} {i k : Nat} {z : Int} (hz : zs[i]? = some z) (hS : S = sortI (zs.take i)) (hk : k ≤ S.length) (h1 : ∀ j, j < k → S.getD j 0 < z) (h2 : k < S.length → z ≤ S.getD k 0) :
    sortI (zs.take (i + 1)) = S.take k ++ z :: S.drop k := by
  have hup : S.Pairwise (fun x y => x ≤ y) := by rw [hS]; exact sortI_up _
  refine sortI_eq ?_ ?_
  · rw [List.take_add_one, hz]
    have h3 : (S.take k ++ z :: S.drop k).Perm (z :: S) := by
      have := (List.perm_middle (a := z) (l₁ := S.take k) (l₂ := S.drop k))
      rwa [List.take_append_drop] at this
    refine h3.trans ?_
    have h4 : S.Perm (zs.take i) := by rw [hS]; exact sortI_perm _
    refine (List.Perm.cons z h4).trans ?_
    exact (List.perm_append_comm (l₁ := [z]) (l₂ := zs.take i))
  · have hg : ∀ x ∈ S.take k, x < z := by
      intro x hx
      obtain ⟨j, hj, rfl⟩ := List.getElem_of_mem hx
      rw [List.length_take] at hj
      have := h1 j (by omega)
      rw [List.getD_eq_getElem?_getD, List.getElem?_eq_getElem (by omega : j < S.length)] at this
      simpa using this
    have hd : ∀ x ∈ S.drop k, z ≤ x := by
      intro x hx
      obtain ⟨j, hj, rfl⟩ := List.getElem_of_mem hx
      rw [List.length_drop] at hj
      have h5 := h2 (by omega)
      have h6 := up_at hup (i := k) (j := k + j) (by omega) (by omega)
      rw [List.getD_eq_getElem?_getD, List.getD_eq_getElem?_getD, List.getElem?_eq_getElem (by omega : k + j < S.length), List.getElem?_eq_getElem (by omega : k < S.length)] at h6
      rw [List.getD_eq_getElem?_getD, List.getElem?_eq_getElem (by omega : k < S.length)] at h5
      simp only [Option.getD_some] at h5 h6
      rw [List.getElem_drop]
      omega
    rw [List.pairwise_append, List.pairwise_cons]
    refine ⟨hup.sublist (List.take_sublist _ _), ⟨hd, hup.sublist (List.drop_sublist _ _)⟩, ?_⟩
    intro x hx y hy
    have hx := hg x hx
    rcases List.mem_cons.1 hy with rfl | hy
    · omega
    · have := hd y hy; omega
theorem own_weak {w : World} {B B' : Nat} {T : TypeId} {k n : Nat} {v : Value} {xs : List Value} (h : w.ownsRow B' T k v n xs) (hb : B ≤ B') : w.ownsRow B T k v n xs := by
  obtain ⟨h1, h2⟩ := h
  refine ⟨h1, ?_⟩
  rcases h2 with h2 | ⟨g, cap, cur, e, hg, h3⟩
  · exact .inl h2
  · exact .inr ⟨g, cap, cur, e, by omega, h3⟩
def S0 (z : Int) : List Int := [z]
theorem ints_take {w : World} {q n c k : Nat} {S : List Int} (h : IsInts w (some ⟨q, 0, none⟩) n c S) (hk : k ≤ n) : IsInts w (some ⟨q, 0, none⟩) k c (S.take k) := by
  obtain ⟨h1, h2, h3, h4, h5⟩ := h
  refine ⟨by rw [List.length_take]; omega, by omega, h3, fun z hz => h4 z (List.mem_of_mem_take hz), fun h0 => ?_⟩
  obtain ⟨b, off, e, hb, hc⟩ := h5 (by omega)
  exact ⟨b, off, e, hb, fun i z hz => hc i z (by
    have := (List.getElem?_eq_some_iff.1 hz).1
    rw [List.length_take] at this
    rwa [List.getElem?_take_of_lt (by omega)] at hz)⟩
theorem ints_drop {w : World} {q n c k : Nat} {S : List Int} (h : IsInts w (some ⟨q, 0, none⟩) n c S) (hk : k ≤ n) : IsInts w (some ⟨q, 0 + k, none⟩) (n - k) (c - k) (S.drop k) := by
  obtain ⟨h1, h2, h3, h4, h5⟩ := h
  refine ⟨by rw [List.length_drop]; omega, by omega, by omega, fun z hz => h4 z (List.mem_of_mem_drop hz), fun h0 => ?_⟩
  obtain ⟨b, off, e, hb, hc⟩ := h5 (by omega)
  obtain ⟨rfl, rfl⟩ : q = b ∧ 0 = off := by simp only [Option.some.injEq, Addr.mk.injEq] at e; exact ⟨e.1, e.2.1⟩
  refine ⟨q, 0 + k, rfl, hb, fun i z hz j u hu => ?_⟩
  rw [List.getElem?_drop] at hz
  have := hc (k + i) z hz j u hu
  rw [show 0 + k + i * 1 + j = 0 + (k + i) * 1 + j by omega]
  exact this
theorem nil_ints (w : World) (c : Nat) (hc : c ≤ maxLen) : IsInts w none 0 c [] := ⟨rfl, by omega, hc, by simp, fun h => absurd h (by omega)⟩
set_option maxRecDepth 100000 in
set_option maxHeartbeats 8000000 in
theorem r2_Sorted (A : Option Addr) (n c : Nat) (zs : List Int) (w : World) (h : IsInts w A n c zs) (h0 : n ≤ 60) :
    Calls Tryd.prog 9 #[.slice A n c] w fun e w' => ∃ v, e = .returned v ∧ w'.ownsRow w.heap.size 3 1 v (sortI zs).length ((sortI zs).flatMap intCells) ∧ Below w.heap.size w w' := by
  obtain ⟨i0, hi, hz0, hz1, hz2⟩ := info_parts infoI
  obtain ⟨l1, l2, l3, l4, l5⟩ := h
  unfold maxLen at l3
  have L1 := Lib.hid l1
  have L5 := Lib.hid l5
  have L4 := Lib.hid (show ∀ i S, S = sortI (zs.take i) → ∀ y ∈ S, i64B y from fun i S hS y hy => l4 y (List.mem_of_mem_take ((sortI_perm _).mem_iff.1 (hS ▸ hy))))
  clear l1 l4 l5
  go_enter Tryd.func9, Tryd.ntmps9
  go_wp2_with fail
  go_loopw [3, 4] (fun ov iv wr => ∃ (i : Nat) (S : List Int), iv = .int .i64 i ∧ i ≤ n ∧ S = sortI (zs.take i) ∧ S.length = i ∧ (i = 0 → ov = .slice none 0 0) ∧ wr.ownsRow w.heap.size 3 1 ov i (S.flatMap intCells) ∧ Below w.heap.size w wr) (fun _ iv _ => n - (intOf iv).toNat)
  case atStart => exact ⟨0, [], rfl, by omega, by simp [sortI], rfl, fun _ => rfl, own_nil _ _ _ _, Below.refl _ _⟩
  case round =>
    obtain ⟨i, S, rfl, hin, hS, hSl, hov, ho, hB⟩ := hrel
    have HO := Lib.hid ho
    have HB := Lib.hid hB
    have HS := Lib.hid hS
    have hzw := hB.size
    clear ho hS hB
    by_cases d1 : i < n
    · obtain ⟨b, off, rfl, hb, hc⟩ := L5.out (by omega)
      obtain ⟨z, hz⟩ : ∃ z, zs[i]? = some z := ⟨_, List.getElem?_eq_getElem (by rw [L1.out]; omega)⟩
      have HZ := Lib.hid hz
      have x0 : wr.cell? ⟨b, off + i, none⟩ = some (.int .i64 z) := by have := hc i z hz 0 _ rfl; refine (HB.out.cell (p := ⟨b, off + i, none⟩) hb).trans ?_; simpa using this
      clear hc hz L5
      by_cases d2 : i = 0
      · subst d2
        obtain rfl := hov rfl
        obtain rfl : S = [] := List.length_eq_zero_iff.1 hSl
        have HF := Lib.hid (sort_ins HZ.out HS.out (k := 0) (by simp) (fun j hj => absurd hj (by omega)) (fun h => absurd h (by simp)))
        as_aux_lemma =>
          go_wp2_with fail
          refine wp_loop_rounds 1 ?_
          rw [rounds_succ]
          have k0 : decide ((0 : Int) < 0) = false := rfl
          go_wp2_with fail
          go_quiet (fail)
          simp only [Nat.add_zero] at x0
          go_upto_region 11 with (at_builtin; refine wpList_append_own _ rfl _ _ 23 rfl wr.heap.size 3 i0 (.int .i64 0) 1 8 Tryd.underlying23 hi hz0 hz1 hz2 rfl (by decide) (.slice none 0 0) 0 [] rfl (own_nil _ _ _ _) ⟨wr.heap.size, 0, none⟩ 1 1 _ rfl rfl (cell_newAt _ (intCells z) _ _ rfl) (int_one _) (by unfold maxLen; omega) (by omega) (by simp) ?_; intro v1 w1 ho1 hg1 _)
          have HO1 := Lib.hid (own_snoc (zs := []) intCells (z := z) ho1)
          have HB1 := Lib.hid (show Below wr.heap.size wr w1 from (((below_drewN (Below.refl wr.heap.size wr) nq).alloc (by simp) _).grown hg1 (by simp) (fun k hk => by cases hk)))
          clear ho1 hg1
          go_wp2_with (at_builtin; refine wpList_append_recs intCells i64B 1 (fun _ => rfl) int_one _ rfl _ _ 23 rfl wr.heap.size 3 i0 _ 8 Tryd.underlying23 hi hz0 hz1 hz2 rfl (by decide) v1 _ _ rfl HO1.out none 0 0 [] rfl (nil_ints _ _ (by unfold maxLen; omega)) (by unfold maxLen; simp) (by simp) HB1.out.size ?_; intro v2 w2 ho2 hg2)
          have HB2 := Lib.hid (show Below w.heap.size w w2 from HB.out.trans ((HB1.out.grown hg2 HB1.out.size (fun k hk => (HO1.out.lt k hk).1)).mono hzw))
          have HO2 := Lib.hid (show w2.ownsRow w.heap.size 3 1 v2 (0 + 1) ((S0 z).flatMap intCells) from own_weak (by simpa [S0] using ho2) hzw)
          clear ho2 hg2
          go_wp2_with fail
          go_roundw
          case rel => exact ⟨0 + 1, S0 z, by go_num, by omega, HF.out.symm, rfl, fun h => absurd h (by omega), HO2.out, HB2.out⟩
          case measure => simp [intOf]; omega
      · as_aux_lemma =>
          clear hov
          obtain ⟨q, cap, e, q1, q2, q3, q4, q5⟩ := own_ints (xs := S) (by rw [hSl]; exact HO.out) (by omega)
          rw [hSl] at e q3
          subst e
          unfold maxLen at q4
          have HQ := Lib.hid q5
          have HO' := Lib.hid (show IsInts wr (some ⟨q, 0, none⟩) i cap S from ⟨hSl, q3, by unfold maxLen; omega, fun y hy => L4.out i S HS.out y hy, fun _ => ⟨q, 0, rfl, q2, fun a y ha j u hu => by
            match j, hu with
            | 0, hu => simp [intCells] at hu; subst hu; simpa using q5 a y ha
            | j + 1, hu => simp [intCells] at hu⟩⟩)
          have HL := Lib.hid hSl
          clear q5 hSl
          go_upto_block 2 with fail
          go_cut [5] (fun kv wx => ∃ (k : Nat) (m : Nat), kv = .int .i64 k ∧ k ≤ i ∧ sortI (zs.take (i + 1)) = S.take k ++ z :: S.drop k ∧ wx = wr.drewN m)
          case first =>
            as_aux_lemma =>
              go_wp2_with fail
              go_loopw [5] (fun kv wx => ∃ (k : Nat) (m : Nat), kv = .int .i64 k ∧ k ≤ i ∧ (∀ j, j < k → S.getD j 0 < z) ∧ wx = wr.drewN m) (fun kv _ => i - (intOf kv).toNat)
              case atStart => exact ⟨0, 0, rfl, by omega, fun j hj => absurd hj (by omega), rfl⟩
              case round =>
                obtain ⟨k, m, rfl, hk, hj, rfl⟩ := hrel
                have HJ := Lib.hid hj
                clear hj
                by_cases d3 : k < i
                · obtain ⟨y, hy⟩ : ∃ y, S[k]? = some y := ⟨_, List.getElem?_eq_getElem (by rw [HL.out]; exact d3)⟩
                  have y0 : wr.cell? ⟨q, k, none⟩ = some (.int .i64 y) := HQ.out k y hy
                  have HY := Lib.hid (show S.getD k 0 = y by rw [List.getD_eq_getElem?_getD, hy]; rfl)
                  have k0 : (0 : Int) ≤ (i : Int) := by omega
                  have k1 : (i : Int) < (n : Int) := by omega
                  have k2 : (0 : Int) ≤ (k : Int) := by omega
                  have k3 : (k : Int) < (i : Int) := by omega
                  have k4 : decide ((k : Int) < (i : Int)) = true := by simp; omega
                  clear hy
                  by_cases d4 : y < z
                  · have e4 : decide (y < z) = true := by simpa using d4
                    go_wp2_with fail
                    go_quiet (fail)
                    go_wp2_with fail
                    go_roundw
                    case rel => exact ⟨k + 1, m + nq, by go_num, by omega, fun j hj => by
                      by_cases h : j = k
                      · subst h; rw [HY.out]; exact d4
                      · exact HJ.out j (by omega), rfl⟩
                    case measure => simp [intOf]; omega
                  · have e4 : decide (y < z) = false := by simpa using d4
                    have HF := Lib.hid (sort_ins HZ.out HS.out (k := k) (by rw [HL.out]; exact hk) HJ.out (fun _ => by rw [HY.out]; omega))
                    go_wp2_with fail
                    go_quiet (fail)
                    go_wp2_with fail
                    go_meet
                    case rel => exact ⟨k, m + nq, rfl, hk, HF.out, (by first | rfl | simp)⟩
                · have HF := Lib.hid (sort_ins HZ.out HS.out (k := k) (by rw [HL.out]; exact hk) HJ.out (fun h => absurd h (by rw [HL.out]; exact d3)))
                  have k4 : decide ((k : Int) < (i : Int)) = false := by simp; omega
                  go_wp2_with fail
                  go_quiet (fail)
                  go_wp2_with fail
                  go_meet
                  case rel => exact ⟨k, m + nq, rfl, hk, HF.out, (by first | rfl | simp)⟩
          case rest =>
            obtain ⟨k, m, rfl, hk, hS2, rfl⟩ := hcut
            have k2 : (0 : Int) ≤ (k : Int) := by omega
            have k3 : (k : Int) ≤ (i : Int) := by omega
            have k4 : (k : Int) ≤ (cap : Int) := by omega
            have IT := Lib.hid (fun m : Nat => ints_take (k := k) (HO'.out.below (below_drewN (Below.refl wr.heap.size wr) m)) hk)
            have ID := Lib.hid (fun (w' : World) (hb : Below wr.heap.size wr w') => ints_drop (k := k) (HO'.out.below hb) hk)
            go_upto_region 10 with (at_builtin; refine wpList_append_recs intCells i64B 1 (fun _ => rfl) int_one _ rfl _ _ 23 rfl wr.heap.size 3 i0 _ 8 Tryd.underlying23 hi hz0 hz1 hz2 rfl (by decide) (.slice none 0 0) 0 [] rfl (own_nil _ wr.heap.size _ 1) (some ⟨q, 0, none⟩) k cap (S.take k) rfl (IT.out m) (by unfold maxLen; omega) (by omega) (by simp) ?_; intro v1 w1 ho1 hg1)
            have hlt : (S.take k).length = k := by rw [List.length_take, HL.out]; omega
            have HO1 := Lib.hid (show w1.ownsRow wr.heap.size 3 1 v1 (S.take k).length ((S.take k).flatMap intCells) from by rw [hlt]; simpa using ho1)
            have HB1 := Lib.hid (show Below wr.heap.size wr w1 from ((below_drewN (Below.refl wr.heap.size wr) m).grown hg1 (by simp) (fun k hk => by cases hk)))
            have y0 : w1.cell? ⟨b, off + i, none⟩ = some (.int .i64 z) := (HB1.out.cell (p := ⟨b, off + i, none⟩) (by show b < wr.heap.size; omega)).trans x0
            have hz1w := HB1.out.size
            clear ho1 hg1 x0 IT
            go_upto_region 11 with (at_builtin; refine wpList_append_own _ rfl _ _ 23 rfl wr.heap.size 3 i0 (.int .i64 0) 1 8 Tryd.underlying23 hi hz0 hz1 hz2 rfl (by decide) v1 _ _ rfl (HO1.out.alloc _) ⟨w1.heap.size, 0, none⟩ 1 1 _ rfl rfl (cell_newAt _ (intCells z) _ _ rfl) (int_one _) (by rw [hlt]; unfold maxLen; omega) (by rw [hlt]; omega) (by simp; omega) ?_; intro v2 w2 ho2 hg2 _)
            have HO2 := Lib.hid (own_snoc intCells (z := z) ho2)
            have HB2 := Lib.hid (show Below wr.heap.size wr w2 from (HB1.out.alloc hz1w _).grown hg2 (by simp; omega) (fun k hk => (HO1.out.lt k hk).1))
            clear ho2 hg2 y0
            have ID2 := ID.out w2 HB2.out
            have hl2 : (S.take k ++ [z]).length = k + 1 := by rw [List.length_append, hlt]; rfl
            have HS3 := Lib.hid hS2
            have HL3 := Lib.hid (show (S.take k ++ z :: S.drop k).length = i + 1 by simp [HL.out, List.length_take, List.length_drop]; omega)
            clear ID hS2
            by_cases hkc : k = cap
            · obtain rfl : k = i := by omega
              subst hkc
              have hd0 : S.drop k = [] := List.drop_eq_nil_of_le (by rw [HL.out]; omega)
              clear ID2
              go_wp2_with (at_builtin; refine wpList_append_recs intCells i64B 1 (fun _ => rfl) int_one _ rfl _ _ 23 rfl wr.heap.size 3 i0 _ 8 Tryd.underlying23 hi hz0 hz1 hz2 rfl (by decide) v2 _ _ rfl HO2.out (some ⟨q, 0, none⟩) 0 0 [] rfl ⟨rfl, by omega, by unfold maxLen; omega, by simp, fun h => absurd h (by omega)⟩ (by rw [hl2]; unfold maxLen; omega) (by rw [hl2]; omega) HB2.out.size ?_; intro v3 w3 ho3 hg3)
              have HB3 := Lib.hid (show Below w.heap.size w w3 from HB.out.trans ((HB2.out.grown hg3 HB2.out.size (fun k hk => (HO2.out.lt k hk).1)).mono hzw))
              have HO3 := Lib.hid (show w3.ownsRow w.heap.size 3 1 v3 (k + 1) ((S.take k ++ z :: S.drop k).flatMap intCells) from own_weak (by rw [hd0]; rw [hl2] at ho3; simpa using ho3) hzw)
              clear ho3 hg3 hl2 hlt
              go_wp2_with fail
              go_roundw
              case rel => exact ⟨k + 1, S.take k ++ z :: S.drop k, by go_num, by omega, HS3.out.symm, HL3.out, fun h => absurd h (by omega), HO3.out, HB3.out⟩
              case measure => simp [intOf]; omega
            · rw [Nat.zero_add] at ID2
              have HI2 := Lib.hid ID2
              have k5 : ¬ cap - k = 0 := by omega
              have k6 : (k : Int) < (cap : Int) := by omega
              clear ID2
              go_wp2_with (at_builtin; refine wpList_append_recs intCells i64B 1 (fun _ => rfl) int_one _ rfl _ _ 23 rfl wr.heap.size 3 i0 _ 8 Tryd.underlying23 hi hz0 hz1 hz2 rfl (by decide) v2 _ _ rfl HO2.out (some ⟨q, k, none⟩) (i - k) (cap - k) (S.drop k) rfl HI2.out (by rw [hl2]; unfold maxLen; omega) (by rw [hl2]; omega) HB2.out.size ?_; intro v3 w3 ho3 hg3)
              have HB3 := Lib.hid (show Below w.heap.size w w3 from HB.out.trans ((HB2.out.grown hg3 HB2.out.size (fun k hk => (HO2.out.lt k hk).1)).mono hzw))
              have HO3 := Lib.hid (show w3.ownsRow w.heap.size 3 1 v3 (i + 1) ((S.take k ++ z :: S.drop k).flatMap intCells) from own_weak (by rw [hl2, show k + 1 + (i - k) = i + 1 by omega] at ho3; simpa using ho3) hzw)
              clear ho3 hg3 hl2 hlt
              go_wp2_with fail
              go_roundw
              case rel => exact ⟨i + 1, S.take k ++ z :: S.drop k, by go_num, by omega, HS3.out.symm, HL3.out, fun h => absurd h (by omega), HO3.out, HB3.out⟩
              case measure => simp [intOf]; omega
    · obtain rfl : i = n := by omega
      have hx : S = sortI zs := by rw [HS.out, List.take_of_length_le (by rw [L1.out]; omega)]
      have hl : (sortI zs).length = i := by rw [sortI_len, L1.out]
      have HO9 := Lib.hid (show wr.ownsRow w.heap.size 3 1 _ (sortI zs).length ((sortI zs).flatMap intCells) from by rw [hl, ← hx]; exact HO.out)
      clear hx hl hov hSl L5
      go_wp2_with fail
      go_ret
      exact ⟨_, rfl, HO9.out, HB.out⟩
def widL (zs : List RSpan) : List Int := zs.map (fun z => z.hi - z.lo)
def widR (zs : List RSpan) : List Int := if spansC zs = 0 then widL zs else []
theorem wid_snoc {zs : List RSpan} {k : Nat} {z : RSpan} (h : zs[k]? = some z) : widL (zs.take (k + 1)) = widL (zs.take k) ++ [z.hi - z.lo] := by
  unfold widL
  rw [List.take_add_one, h]; simp
theorem wid_ok {zs : List RSpan} (h : ∀ x ∈ zs, spB x = true) : ∀ y ∈ widL zs, i64B y := by
  intro y hy
  obtain ⟨z, hz, rfl⟩ := List.mem_map.1 hy
  have := rightB_iff.1 (h z hz)
  unfold i64B; omega
theorem own_isInts' {w : World} {B : Nat} {T : TypeId} {v : Value} {ys : List Int} (h : w.ownsRow B T 1 v ys.length (ys.flatMap intCells)) (hok : ∀ z ∈ ys, i64B z) : ∃ A n c, v = .slice A n c ∧ IsInts w A n c ys := own_recs intCells i64B 1 (fun _ => rfl) h hok
set_option maxRecDepth 100000 in
set_option maxHeartbeats 4000000 in
theorem stat_Widths (A : Option Addr) (n c : Nat) (zs : List RSpan) (w : World) (h : IsRecs w RSpan.cells RSpan.ok 2 A n c zs) :
    Calls Tryd.prog 5 #[.slice A n c] w fun e w' => ∃ B m d, e = .returned (.tuple #[.slice B m d, errV (spansC zs)]) ∧ IsInts w' B m d (widR zs) ∧ Below w.heap.size w w' := by
  obtain ⟨i0, hi, hz0, hz1, hz2⟩ := info_parts infoI
  have C := vote_Check A n c zs w h
  obtain ⟨l1, l2, l3, l4, l5⟩ := h
  unfold maxLen at l3
  have L1 := Lib.hid l1
  have L5 := Lib.hid l5
  by_cases e0 : spansC zs = 0
  · obtain ⟨p1, p2, p3⟩ := spansC_0 e0
    have hw : widR zs = widL zs := if_pos e0
    rw [hw, e0]
    rw [e0] at C
    rw [errV_0] at C ⊢
    have HC := Lib.hid C
    have P3 := Lib.hid p3
    rw [l1] at p1 p2
    clear C l1 l4 l5 p3 e0 hw
    go_enter Tryd.func5, Tryd.ntmps5
    go_wp2_with fail
    refine HC.out.mono ?_
    rintro e w2 ⟨rfl, hb2⟩
    have HB2 := Lib.hid hb2
    clear hb2
    go_wp2_with fail
    go_loopw [5, 15] (fun ov kv wr => ∃ (k : Nat) (ys : List Int), kv = .int .i64 k ∧ k ≤ n ∧ ys = widL (zs.take k) ∧ ys.length = k ∧ wr.ownsRow w.heap.size 3 1 ov ys.length (ys.flatMap intCells) ∧ Below w.heap.size w wr) (fun _ kv _ => n - (intOf kv).toNat)
    case atStart => exact ⟨0, [], rfl, by omega, rfl, rfl, own_nil _ _ _ _, HB2.out⟩
    case round =>
      obtain ⟨k, ys, rfl, hk, hys, hlen, ho, hB⟩ := hrel
      have HO := Lib.hid ho
      have HB := Lib.hid hB
      have HY := Lib.hid hys
      have hzw := hB.size
      clear ho hys HB2
      by_cases d1 : k < n
      · obtain ⟨b, off, rfl, hb, hc⟩ := L5.out (by omega)
        obtain ⟨z, hz⟩ : ∃ z, zs[k]? = some z := ⟨_, List.getElem?_eq_getElem (by rw [L1.out]; omega)⟩
        have x0 : wr.cell? ⟨b, off + k * 2, none⟩ = some (.int .i64 z.lo) := (hB.cell (p := ⟨b, off + k * 2, none⟩) hb).trans (hc k z hz 0 _ rfl)
        have x1 : wr.cell? ⟨b, off + k * 2 + 1, none⟩ = some (.int .i64 z.hi) := (hB.cell (p := ⟨b, off + k * 2 + 1, none⟩) hb).trans (hc k z hz 1 _ rfl)
        have HY2 := Lib.hid (wid_snoc hz)
        have hr := rightB_iff.1 (P3.out z (List.mem_of_getElem? hz))
        have hw1 := IntWalk.i64_in (z.hi - z.lo) (by omega)
        clear hc hz hB hr
        go_wp2_with (at_builtin; refine wpList_append_own _ rfl _ _ 23 rfl w.heap.size 3 i0 (.int .i64 0) 1 8 Tryd.underlying23 hi hz0 hz1 hz2 rfl (by decide) _ _ _ rfl ((HO.out.alloc _).alloc _) ⟨wr.heap.size + 1, 0, none⟩ 1 1 _ rfl rfl (cell_newAt (wr.alloc _) (intCells (z.hi - z.lo)) _ _ (by simp)) (int_one _) (by unfold maxLen; omega) (by omega) (by simp; omega) ?_; intro v' w1 ho1 hg1 _)
        have HB2 := Lib.hid (show Below w.heap.size w w1 from ((HB.out.alloc (by omega) _).alloc (by simp; omega) _).grown hg1 (by simp; omega) (fun k hk => (HO.out.lt k hk).1))
        have HO2 := Lib.hid (own_snoc intCells (z := z.hi - z.lo) ho1)
        clear ho1 hg1
        go_wp2_with fail
        go_roundw
        case rel => exact ⟨k + 1, ys ++ [z.hi - z.lo], by go_num, by omega, by rw [HY2.out, HY.out], by rw [List.length_append, hlen]; rfl, HO2.out, HB2.out⟩
        case measure => simp [intOf]; omega
      · obtain rfl : k = n := by omega
        have hy : ys = widL zs := by rw [HY.out, List.take_of_length_le (by rw [L1.out]; omega)]
        subst hy
        obtain ⟨B, m, d, rfl, hI⟩ := own_isInts' HO.out (wid_ok P3.out)
        have HI := Lib.hid hI
        clear HO hI hlen hB
        go_wp2_with fail
        go_ret2
        exact ⟨B, m, d, rfl, HI.out, HB.out⟩
  · have hw : widR zs = [] := if_neg e0
    rw [hw]
    obtain ⟨E, hE⟩ : ∃ E, spansC zs = E := ⟨_, rfl⟩
    rw [hE] at C e0 ⊢
    rw [errV_ne e0] at C ⊢
    have HC := Lib.hid C
    clear C l1 l4 l5 hw hE
    go_enter Tryd.func5, Tryd.ntmps5
    go_wp2_with fail
    refine HC.out.mono ?_
    rintro e w2 ⟨rfl, hb2⟩
    have HB2 := Lib.hid hb2
    clear hb2
    go_wp2_with fail
    go_ret2
    exact ⟨none, 0, 0, rfl, nil_ints _ _ (by unfold maxLen; omega), HB2.out⟩
end Go.Proofs.YtafinconoodgfaaDoor
