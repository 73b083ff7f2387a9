/- Package stat, walked. -/
import Derived.Test.YtafinconoodgfaaDoorSpan
import Derived.Test.YtafinconoodgfaaDoorSorted
namespace Go.Proofs.YtafinconoodgfaaDoor
open Go.RowKit
set_option linter.unusedVariables false
set_option linter.unusedSimpArgs false
theorem stat_check_1 (n : Int) (w : World) :
    Calls Tryd.prog 26 #[.int .i64 n] w fun e w' => e = .returned (.bool (!timeB n)) ∧ w = w' := by
  go_enter Tryd.func26, Tryd.ntmps26
  go_wp2_with fail
  refine (Time_any n w).mono ?_
  rintro e w' ⟨rfl, rfl⟩
  go_wp2_with fail
  go_ret
  exact ⟨rfl, rfl⟩
def badN (zs : List Int) : Bool := zs.any (fun x => !timeB x)
theorem badN_yes {zs : List Int} {k : Nat} {z : Int} (h : zs[k]? = some z) (hz : timeB z = false) : badN zs = true := List.any_eq_true.2 ⟨z, List.mem_of_getElem? h, by rw [hz]; rfl⟩
theorem badN_no {zs : List Int} (h : ∀ x ∈ zs, timeB x = true) : badN zs = false := List.any_eq_false.2 fun x hx => by rw [h x hx]; simp
theorem take_more {p : Int → Prop} {zs : List Int} {k : Nat} {z : Int} (h : zs[k]? = some z) (h1 : ∀ x ∈ zs.take k, p x) (h2 : p z) : ∀ x ∈ zs.take (k + 1), p x := by
  intro x hx
  rw [List.take_add_one, h] at hx
  rcases List.mem_append.1 hx with hx | hx
  · exact h1 x hx
  · simp at hx; subst hx; exact h2
theorem idx_check (A : Option Addr) (n c : Nat) (zs : List Int) (w : World) (h : IsInts w A n c zs) :
    Calls Tryd.prog 36 #[.slice A n c, .func (.func 26) #[] #[]] w fun e w' => ∃ r : Int, e = .returned (.int .i64 r) ∧ decide (0 ≤ r) = badN zs ∧ w = w' := by
  obtain ⟨l1, l2, l3, l4, l5⟩ := h
  unfold maxLen at l3
  have L1 := Lib.hid l1
  have L5 := Lib.hid l5
  clear l1 l4 l5
  go_enter Tryd.func36, Tryd.ntmps36
  go_wp2_with fail
  go_loopw [8] (fun kv wr => ∃ k : Nat, kv = .int .i64 k ∧ k ≤ n ∧ (∀ x ∈ zs.take k, timeB x = true) ∧ w = wr) (fun kv _ => n - (intOf kv).toNat)
  case atStart => exact ⟨0, rfl, by omega, fun x hx => by simp at hx, rfl⟩
  case round =>
    obtain ⟨k, rfl, hk, hD, rfl⟩ := hrel
    have HD := Lib.hid hD
    clear hD
    by_cases d1 : k < n
    · obtain ⟨b, off, rfl, hb, hc⟩ := L5.out (by omega)
      obtain ⟨z, hz⟩ : ∃ z, zs[k]? = some z := ⟨_, List.getElem?_eq_getElem (by rw [L1.out]; omega)⟩
      have x0 : w.cell? ⟨b, off + k, none⟩ = some (.int .i64 z) := by have := hc k z hz 0 _ rfl; simpa using this
      have HZ := Lib.hid hz
      have C := stat_check_1 z w
      clear hc hz
      cases e1 : timeB z
      · rw [e1] at C
        have HC := Lib.hid C
        have HN := Lib.hid (badN_yes HZ.out e1)
        clear C
        go_wp2_with fail
        refine HC.out.mono ?_
        rintro e w' ⟨rfl, rfl⟩
        go_wp2_with fail
        go_ret
        exact ⟨k, rfl, by rw [HN.out]; simp, rfl⟩
      · rw [e1] at C
        have HC := Lib.hid C
        have HD2 := Lib.hid (take_more (p := fun x => timeB x = true) HZ.out HD.out e1)
        clear C
        go_wp2_with fail
        refine HC.out.mono ?_
        rintro e w' ⟨rfl, rfl⟩
        go_wp2_with fail
        go_roundw
        case rel => exact ⟨k + 1, by go_num, by omega, HD2.out, trivial⟩
        case measure => simp [intOf]; omega
    · have HN := Lib.hid (badN_no (zs := zs) (by
        have := HD.out
        rwa [List.take_of_length_le (by rw [L1.out]; omega)] at this))
      go_wp2_with fail
      go_ret
      exact ⟨-1, rfl, by rw [HN.out]; rfl, rfl⟩
theorem has_check (A : Option Addr) (n c : Nat) (zs : List Int) (w : World) (h : IsInts w A n c zs) :
    Calls Tryd.prog 25 #[.slice A n c, .func (.func 26) #[] #[]] w fun e w' => e = .returned (.bool (badN zs)) ∧ w = w' := by
  have C := Lib.hid (idx_check A n c zs w h)
  clear h
  go_enter Tryd.func25, Tryd.ntmps25
  go_wp2_with fail
  refine C.out.mono ?_
  rintro e w' ⟨r, rfl, hr, rfl⟩
  have HR := Lib.hid hr
  clear hr
  go_wp2_with fail
  go_ret
  exact ⟨ret_bool HR.out, rfl⟩
theorem numsC_cases {zs : List Int} {n : Nat} (hz : zs.length = n) : (60 < n ∧ numsC zs = 4) ∨ (¬ 60 < n ∧ n = 0 ∧ numsC zs = 5) ∨ (¬ 60 < n ∧ n ≠ 0 ∧ badN zs = true ∧ numsC zs = 1) ∨ (¬ 60 < n ∧ n ≠ 0 ∧ badN zs = false ∧ numsC zs = 0) := by
  unfold numsC badN
  rw [hz]
  by_cases h1 : 60 < n
  · exact .inl ⟨h1, if_pos h1⟩
  · by_cases h2 : n = 0
    · exact .inr (.inl ⟨h1, h2, by rw [if_neg h1, if_pos h2]⟩)
    · cases h3 : zs.any (fun x => !timeB x)
      · exact .inr (.inr (.inr ⟨h1, h2, rfl, by rw [if_neg h1, if_neg h2]; rfl⟩))
      · exact .inr (.inr (.inl ⟨h1, h2, rfl, by rw [if_neg h1, if_neg h2]; rfl⟩))
theorem stat_check (A : Option Addr) (n c : Nat) (zs : List Int) (w : World) (h : IsInts w A n c zs) :
    Calls Tryd.prog 18 #[.slice A n c] w fun e w' => e = .returned (errV (numsC zs)) ∧ w = w' := by
  have C := has_check A n c zs w h
  have hn := h.2.1
  have hc := h.2.2.1
  unfold maxLen at hc
  rcases numsC_cases h.1 with ⟨d1, hv⟩ | ⟨d1, rfl, hv⟩ | ⟨d1, d2, d3, hv⟩ | ⟨d1, d2, d3, hv⟩
  · have HC := Lib.hid C
    have HV := Lib.hid hv
    have k0 : (60 : Int) < (n : Int) := by omega
    clear C hv h
    go_enter Tryd.func18, Tryd.ntmps18
    go_wp2_with fail
    go_ret
    exact ⟨by rw [HV.out]; simp [errV], rfl⟩
  · have HC := Lib.hid C
    have HV := Lib.hid hv
    clear C hv h
    go_enter Tryd.func18, Tryd.ntmps18
    go_wp2_with fail
    go_ret
    exact ⟨by rw [HV.out]; simp [errV], rfl⟩
  all_goals
    rw [d3] at C
    have HC := Lib.hid C
    have HV := Lib.hid hv
    have k0 : ¬ (60 : Int) < (n : Int) := by omega
    clear C hv h d3
    go_enter Tryd.func18, Tryd.ntmps18
    go_wp2_with fail
    refine HC.out.mono ?_
    rintro e w' ⟨rfl, rfl⟩
    go_wp2_with fail
    go_ret
    exact ⟨by rw [HV.out]; simp [errV], rfl⟩
theorem floor_q {S : Int} {n : Nat} (hn : 0 < n) (hb : -100000000000000 ≤ S ∧ S ≤ 100000000000000) :
    ∃ Q R, Int.tdiv S n = Q ∧ Int.tmod S n = R ∧ (-100000000000000 ≤ Q ∧ Q ≤ 100000000000000) ∧ ((R < 0 ∧ Q - 1 = S / n) ∨ (¬ R < 0 ∧ Q = S / n)) := by
  have h1 := Int.mul_tdiv_add_tmod S n
  have h2 : S.tmod n < n := Int.tmod_lt_of_pos S (by omega)
  have h3 : (-S).tmod n < n := Int.tmod_lt_of_pos (-S) (by omega)
  rw [Int.neg_tmod] at h3
  have h4 : (S.tdiv n).natAbs ≤ S.natAbs := Int.natAbs_tdiv_le_natAbs S n
  refine ⟨_, _, rfl, rfl, by omega, ?_⟩
  generalize S.tdiv n = Q at h1 h4 ⊢
  generalize S.tmod n = R at h1 h2 h3 ⊢
  by_cases hr : R < 0
  · refine .inl ⟨hr, ?_⟩
    have : S = (n + R) + n * (Q - 1) := by rw [Int.mul_sub]; omega
    rw [this, Int.add_mul_ediv_left _ _ (by omega : (n : Int) ≠ 0), Int.ediv_eq_zero_of_lt (by omega) (by omega)]
    omega
  · refine .inr ⟨hr, ?_⟩
    have : S = R + n * Q := by omega
    rw [this, Int.add_mul_ediv_left _ _ (by omega : (n : Int) ≠ 0), Int.ediv_eq_zero_of_lt (by omega) (by omega)]
    omega
theorem sum_take {zs : List Int} {k : Nat} {z : Int} (h : zs[k]? = some z) : (zs.take (k + 1)).sum = (zs.take k).sum + z := by
  rw [List.take_add_one, h, List.sum_append]
  simp
theorem stat_Mean (A : Option Addr) (n c : Nat) (zs : List Int) (w : World) (h : IsInts w A n c zs) :
    Calls Tryd.prog 12 #[.slice A n c] w fun e w' => e = .returned (.tuple #[.int .i64 (meanR zs), errV (numsC zs)]) ∧ w = w' := by
  have C := stat_check A n c zs w h
  obtain ⟨l1, l2, l3, l4, l5⟩ := h
  unfold maxLen at l3
  by_cases e0 : numsC zs = 0
  · obtain ⟨p1, p2, p3⟩ := numsC_0 e0
    have hm : meanR zs = zs.sum / (n : Int) := by unfold meanR meanV; rw [if_pos e0, l1]
    rw [e0] at C ⊢
    rw [errV_0] at C ⊢
    have HC := Lib.hid C
    have L1 := Lib.hid l1
    have L5 := Lib.hid l5
    have P3 := Lib.hid p3
    have HM := Lib.hid hm
    rw [l1] at p1 p2
    clear C l1 l4 l5 p3 e0 hm
    go_enter Tryd.func12, Tryd.ntmps12
    go_wp2_with fail
    refine HC.out.mono ?_
    rintro e w' ⟨rfl, rfl⟩
    go_wp2_with fail
    go_loopw [5, 16] (fun sv kv wr => ∃ (k : Nat) (S : Int), kv = .int .i64 k ∧ sv = .int .i64 S ∧ k ≤ n ∧ S = (zs.take k).sum ∧ (-((k : Int) * 1000000000000) ≤ S ∧ S ≤ (k : Int) * 1000000000000) ∧ w = wr) (fun _ kv _ => n - (intOf kv).toNat)
    case atStart => exact ⟨0, 0, rfl, rfl, by omega, by simp, by omega, rfl⟩
    case round =>
      obtain ⟨k, S, rfl, rfl, hk, hS, hB, rfl⟩ := hrel
      have HS := Lib.hid hS
      clear hS
      by_cases d1 : k < n
      · obtain ⟨b, off, rfl, hb, hc⟩ := L5.out (by omega)
        obtain ⟨z, hz⟩ : ∃ z, zs[k]? = some z := ⟨_, List.getElem?_eq_getElem (by rw [L1.out]; omega)⟩
        have x0 : w.cell? ⟨b, off + k, none⟩ = some (.int .i64 z) := by have := hc k z hz 0 _ rfl; simpa using this
        have HZ := Lib.hid hz
        have hb9 := timeB_iff.1 (P3.out z (List.mem_of_getElem? hz))
        have hw := IntWalk.i64_in (S + z) (by omega)
        clear hc hz
        go_wp2_with fail
        go_roundw
        case rel => exact ⟨k + 1, S + z, by go_num, rfl, by omega, by rw [sum_take HZ.out, HS.out], by omega, trivial⟩
        case measure => simp [intOf]; omega
      · obtain rfl : k = n := by omega
        have hx : S = zs.sum := by rw [HS.out, List.take_of_length_le (by rw [L1.out]; omega)]
        obtain ⟨Q, R, q1, q2, q3, q4⟩ := floor_q (S := S) (n := k) (by omega) (by omega)
        have HM2 := Lib.hid (HM.out.trans (by rw [← hx] : zs.sum / (k : Int) = S / (k : Int)))
        have n0 : ¬ (k : Int) = 0 := by omega
        clear hx
        rcases q4 with ⟨q5, q6⟩ | ⟨q5, q6⟩
        all_goals
          have HQ := Lib.hid q6
          clear q6
          go_wp2_with fail
          go_ret2
          exact ⟨by rw [HM2.out, ← HQ.out]; (try rfl), rfl⟩
  · have HC := Lib.hid C
    have hm : meanR zs = 0 := by unfold meanR; rw [if_neg e0]
    rw [hm]
    obtain ⟨E, hE⟩ : ∃ E, numsC zs = E := ⟨_, rfl⟩
    rw [hE] at C e0 ⊢
    rw [errV_ne e0] at C ⊢
    have HC := Lib.hid C
    clear C l1 l4 l5 hm
    go_enter Tryd.func12, Tryd.ntmps12
    go_wp2_with fail
    refine HC.out.mono ?_
    rintro e w' ⟨rfl, rfl⟩
    go_wp2_with fail
    go_ret2
    exact ⟨rfl, rfl⟩
theorem values_box (A : Option Addr) (n c : Nat) (w : World) :
    Calls Tryd.prog 20 #[.slice A n c] w fun e w' => e = .returned (.func (.func 30) #[] #[.pointer (some ⟨w.heap.size, 0, none⟩)]) ∧ w' = w.alloc (.cells #[.slice A n c] 23) := by
  go_enter Tryd.func20, Tryd.ntmps20
  go_wp2_with fail
  go_ret
  exact ⟨rfl, rfl⟩
/-- slices.Sorted(slices.Values(l)), behind the box. -/
theorem sorted_of (b off n c : Nat) (zs : List Int) (w : World) (h : IsInts w (some ⟨b, off, none⟩) n c zs) (hn0 : 0 < n) (hn9 : n ≤ 1000) :
    Calls Tryd.prog 19 #[.func (.func 30) #[] #[.pointer (some ⟨w.heap.size, 0, none⟩)]] (w.alloc (.cells #[.slice (some ⟨b, off, none⟩) n c] 23)) fun e w' =>
      ∃ g cap, e = .returned (.slice (some ⟨g, 0, none⟩) n cap) ∧ n ≤ cap ∧ cap ≤ maxLen ∧ g < w'.heap.size ∧ (∀ j, j < n → w'.cell? ⟨g, j, none⟩ = some (.int .i64 ((sortI zs).getD j 0))) ∧ Below w.heap.size w w' := by
  obtain ⟨l1, l2, l3, l4, l5⟩ := h
  obtain ⟨b', off', e, hb, hc⟩ := l5 hn0
  obtain ⟨rfl, rfl⟩ : b = b' ∧ off = off' := by simp only [Option.some.injEq, Addr.mk.injEq] at e; exact ⟨e.1, e.2.1⟩
  have ha : Below w.heap.size w (w.alloc (.cells #[.slice (some ⟨b, off, none⟩) n c] 23)) := (Below.refl _ w).alloc (Nat.le_refl _) _
  refine (sorted_ints b off n c w.heap.size zs l1 hn0 hn9 _ (by simp; omega) (by simp) (fun j hj => ?_) (by simp)).mono ?_
  · have hz : zs[j]? = some (zs.getD j 0) := by rw [List.getD_eq_getElem?_getD, List.getElem?_eq_getElem (by omega : j < zs.length)]; rfl
    have := hc j _ hz 0 _ rfl
    refine (ha.cell (p := ⟨b, off + j, none⟩) hb).trans ?_
    simpa using this
  · rintro e w' ⟨g, cap, rfl, q1, q2, q3, q4, q5⟩
    exact ⟨g, cap, rfl, q1, q2, q3, q4, ha.trans (q5.mono (by simp))⟩
theorem stat_Median (A : Option Addr) (n c : Nat) (zs : List Int) (w : World) (h : IsInts w A n c zs) :
    Calls Tryd.prog 11 #[.slice A n c] w fun e w' => e = .returned (.tuple #[.int .i64 (midR zs), errV (numsC zs)]) ∧ Below w.heap.size w w' := by
  have C := stat_check A n c zs w h
  by_cases e0 : numsC zs = 0
  · obtain ⟨p1, p2, p3⟩ := numsC_0 e0
    have l1 := h.1
    have l3 := h.2.2.1
    unfold maxLen at l3
    have hm : midR zs = (sortI zs).getD ((n - 1) / 2) 0 := by unfold midR midV; rw [if_pos e0, l1]
    rw [e0] at C ⊢
    rw [errV_0] at C ⊢
    rw [l1] at p1 p2
    obtain ⟨b, off, rfl, hb, _⟩ := h.2.2.2.2 p2
    have S := sorted_of b off n c zs w h p2 (by omega)
    have HC := Lib.hid C
    have HSo := Lib.hid S
    have HM := Lib.hid hm
    obtain ⟨K, hK⟩ : ∃ K : Nat, (n - 1) / 2 = K := ⟨_, rfl⟩
    have kk : Int.tdiv ((n : Int) - 1) 2 = (K : Int) := by rw [Int.tdiv_eq_ediv_of_nonneg (by omega)]; omega
    have k1 : K < n := by omega
    rw [hK] at HM
    clear C S h hm p3 hK
    go_enter Tryd.func11, Tryd.ntmps11
    go_wp2_with fail
    refine HC.out.mono ?_
    rintro e w' ⟨rfl, rfl⟩
    go_wp2_with fail
    refine (values_box _ _ _ _).mono ?_
    rintro e w' ⟨rfl, rfl⟩
    go_wp2_with fail
    refine HSo.out.mono ?_
    rintro e w5 ⟨g, cap, rfl, q1, q2, q3, q4, q5⟩
    have x0 := q4 K k1
    have HB := Lib.hid q5
    unfold maxLen at q2
    obtain ⟨V, hV⟩ : ∃ V, (sortI zs).getD K 0 = V := ⟨_, rfl⟩
    rw [hV] at x0 HM
    have k2 : (0 : Int) ≤ (K : Int) := by omega
    have k3 : (K : Int) < (n : Int) := by omega
    clear q4 q5 hV
    go_wp2_with fail
    go_ret2
    exact ⟨by rw [HM.out]; (try rfl), HB.out⟩
  · have HC := Lib.hid C
    have hm : midR zs = 0 := by unfold midR; rw [if_neg e0]
    rw [hm]
    obtain ⟨E, hE⟩ : ∃ E, numsC zs = E := ⟨_, rfl⟩
    rw [hE] at C e0 ⊢
    rw [errV_ne e0] at C ⊢
    have HC := Lib.hid C
    clear C h hm
    go_enter Tryd.func11, Tryd.ntmps11
    go_wp2_with fail
    refine HC.out.mono ?_
    rintro e w' ⟨rfl, rfl⟩
    go_wp2_with fail
    go_ret2
    exact ⟨rfl, Below.refl _ _⟩
theorem wanU_at {zs : List Int} {n i : Nat} {x y : Int} (hx : zs[n + i]? = some x) (hy : zs[i]? = some y) : wanU zs n (i + 1) = max (max (wanU zs n i) (x - y)) (-(x - y)) := by
  show max (max (wanU zs n i) (zs.getD (n + i) 0 - zs.getD i 0)) (-(zs.getD (n + i) 0 - zs.getD i 0)) = _
  rw [List.getD_eq_getElem?_getD, List.getD_eq_getElem?_getD, hx, hy]
  rfl
theorem stat_Wander (A : Option Addr) (n c : Nat) (m : Int) (zs : List Int) (w : World) (h : IsInts w A n c zs) :
    Calls Tryd.prog 13 #[.slice A n c, .int .i64 m] w fun e w' => e = .returned (.tuple #[.int .i64 (wanR zs m), errV (wanC zs m)]) ∧ Below w.heap.size w w' := by
  have C := stat_check A n c zs w h
  obtain ⟨l1, l2, l3, l4, l5⟩ := h
  unfold maxLen at l3
  by_cases e0 : numsC zs = 0
  · obtain ⟨p1, p2, p3⟩ := numsC_0 e0
    rw [e0] at C
    rw [errV_0] at C
    have HC := Lib.hid C
    rw [l1] at p1 p2
    by_cases d : 1 ≤ m ∧ m < (n : Int)
    · have hc : wanC zs m = 0 := by unfold wanC; rw [if_pos e0, if_pos (by rw [l1]; exact d)]
      obtain ⟨M, rfl⟩ : ∃ M : Nat, m = M := ⟨m.toNat, by omega⟩
      have hm : wanR zs M = wanU zs M (n - M) := by unfold wanR; rw [if_pos hc, l1]; rfl
      rw [hc, errV_0]
      have HM := Lib.hid hm
      have L1 := Lib.hid l1
      have L5 := Lib.hid l5
      have P3 := Lib.hid p3
      have d0 : decide ((M : Int) < 1) = false := by simp; omega
      have d2 : decide ((n : Int) ≤ (M : Int)) = false := by simp; omega
      clear C l1 l4 l5 p3 e0 hc hm
      go_enter Tryd.func13, Tryd.ntmps13
      go_wp2_with fail
      refine HC.out.mono ?_
      rintro e w' ⟨rfl, rfl⟩
      go_wp2_with fail
      go_loopw [7, 8] (fun mv kv wr => ∃ (k : Nat) (W : Int), kv = .int .i64 ((M + k : Nat) : Int) ∧ mv = .int .i64 W ∧ M + k ≤ n ∧ W = wanU zs M k ∧ (0 ≤ W ∧ W ≤ 2000000000000) ∧ ∃ q, wr = w.drewN q) (fun _ kv _ => n - (intOf kv).toNat)
      case atStart => exact ⟨0, 0, rfl, rfl, by omega, rfl, by omega, 0, rfl⟩
      case round =>
        obtain ⟨k, W, rfl, rfl, hk, hS, hB, q, rfl⟩ := hrel
        have HS := Lib.hid hS
        clear hS
        obtain ⟨i, hi⟩ : ∃ i, M + k = i := ⟨_, rfl⟩
        rw [hi]
        rw [hi] at hk
        by_cases d1 : i < n
        · obtain ⟨b, off, rfl, hb, hcx⟩ := L5.out (by omega)
          obtain ⟨x, hx⟩ : ∃ x, zs[i]? = some x := ⟨_, List.getElem?_eq_getElem (by rw [L1.out]; omega)⟩
          obtain ⟨y, hy⟩ : ∃ y, zs[k]? = some y := ⟨_, List.getElem?_eq_getElem (by rw [L1.out]; omega)⟩
          have x0 : w.cell? ⟨b, off + i, none⟩ = some (.int .i64 x) := by have := hcx i x hx 0 _ rfl; simpa using this
          have y0 : w.cell? ⟨b, off + k, none⟩ = some (.int .i64 y) := by have := hcx k y hy 0 _ rfl; simpa using this
          have bx := timeB_iff.1 (P3.out x (List.mem_of_getElem? hx))
          have by_ := timeB_iff.1 (P3.out y (List.mem_of_getElem? hy))
          have HX := Lib.hid (wanU_at (n := M) (by rw [hi]; exact hx) hy)
          have HI := Lib.hid hi
          have s1 : (i : Int) - (M : Int) = (k : Int) := by omega
          have k0 : (0 : Int) ≤ (i : Int) := by omega
          have k1 : (i : Int) < (n : Int) := by omega
          have k2 : (0 : Int) ≤ (k : Int) := by omega
          have k3 : (k : Int) < (n : Int) := by omega
          have hw1 : IntKind.i64.wrap (k : Int) = (k : Int) := IntWalk.i64_in _ (by omega)
          clear hcx hx hy hi
          go_wp2_with fail
          go_quiet (fail)
          have v1 : W < x - y ∨ ¬ W < x - y := by omega
          have v2 : max W (x - y) < -(x - y) ∨ ¬ max W (x - y) < -(x - y) := by omega
          go_wp2_with fail
          all_goals
            go_roundw
            case rel => exact ⟨k + 1, wanU zs M (k + 1), by have := HI.out; go_num, by (first | (rw [HX.out, ← HS.out]; congr 1; omega) | rfl), by have := HI.out; omega, rfl, by rw [HX.out, ← HS.out]; omega, _, rfl⟩
            case measure => simp [intOf]; omega
        · obtain rfl : i = n := by omega
          have HI := Lib.hid (show i - M = k by omega)
          go_wp2_with fail
          go_ret2
          exact ⟨by rw [HM.out, HI.out, ← HS.out]; (try rfl), below_drewN (Below.refl _ _) _⟩
    · have hc : wanC zs m = 1 := by unfold wanC; rw [if_pos e0, if_neg (by rw [l1]; exact d)]
      have hm : wanR zs m = 0 := by unfold wanR; rw [if_neg (by rw [hc]; decide)]
      rw [hc, hm]
      clear C l1 l4 l5 p3 e0 hc hm
      rcases (by omega : m < 1 ∨ (¬ m < 1 ∧ (n : Int) ≤ m)) with d | ⟨d, d'⟩
      all_goals
        go_enter Tryd.func13, Tryd.ntmps13
        go_wp2_with fail
        refine HC.out.mono ?_
        rintro e w' ⟨rfl, rfl⟩
        go_wp2_with fail
        go_ret2
        exact ⟨rfl, Below.refl _ _⟩
  · have HC := Lib.hid C
    have hc : wanC zs m = numsC zs := by unfold wanC; rw [if_neg e0]
    have hm : wanR zs m = 0 := by unfold wanR; rw [if_neg (by rw [hc]; exact e0)]
    rw [hm, hc]
    obtain ⟨E, hE⟩ : ∃ E, numsC zs = E := ⟨_, rfl⟩
    rw [hE] at C e0 ⊢
    rw [errV_ne e0] at C ⊢
    have HC := Lib.hid C
    clear C hm hc l4 l5 l1
    go_enter Tryd.func13, Tryd.ntmps13
    go_wp2_with fail
    refine HC.out.mono ?_
    rintro e w' ⟨rfl, rfl⟩
    go_wp2_with fail
    go_ret2
    exact ⟨rfl, Below.refl _ _⟩
end Go.Proofs.YtafinconoodgfaaDoor
