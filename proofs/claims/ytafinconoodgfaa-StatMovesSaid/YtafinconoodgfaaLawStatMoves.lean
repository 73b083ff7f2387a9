/- Proved: noonlaw4.StatMoves answers true for every input and leaves its arguments as they were. No condition. -/
import Derived.Test.YtafinconoodgfaaSized
import Derived.Test.YtafinconoodgfaaStat
import Derived.Test.YtafinconoodgfaaArr
namespace Go.Proofs.Ytafinconoodgfaa.lStatMoves
open Go.ChangeShapes Go.WideShapes Go.ChangeAt Go.RowKit
set_option linter.unusedVariables false
set_option linter.unusedSimpArgs false
theorem lit2 (w : World) : IsInts (w.alloc (.cells #[.int .i64 1, .int .i64 4] 3)) (some ⟨w.heap.size, 0, none⟩) 2 2 [1, 4] := by
  refine ⟨rfl, by omega, by unfold maxLen; omega, ?_, fun _ => ⟨w.heap.size, 0, rfl, by simp, ?_⟩⟩
  · intro z hz
    simp only [List.mem_cons, List.not_mem_nil, or_false] at hz
    rcases hz with rfl | rfl <;> (unfold i64B; omega)
  · intro i z hz j u hu
    match i, hz with
    | 0, hz => simp at hz; subst hz; match j, hu with
      | 0, hu => simp [intCells] at hu; subst hu; simp
      | j + 1, hu => simp [intCells] at hu
    | 1, hz => simp at hz; subst hz; match j, hu with
      | 0, hu => simp [intCells] at hu; subst hu; simp
      | j + 1, hu => simp [intCells] at hu
    | i + 2, hz => simp at hz
def millB (n : Int) : Bool := decide (-1000000 ≤ n) && decide (n ≤ 1000000)
/-- what the law asks of the two rows, in plain words. -/
theorem moves_plain {zs ys : List Int} {b : Int} (he : ys = zs.map (fun x => x + b)) (h : ∀ x ∈ zs, (-1000000 ≤ x ∧ x ≤ 1000000) ∧ -1000000 ≤ b ∧ b ≤ 1000000) :
    numsC ys = numsC zs ∧ (numsC zs = 0 → (-1000000 ≤ b ∧ b ≤ 1000000) ∧ midR ys = midR zs + b ∧ meanR ys = meanR zs + b ∧ ∀ m, wanC ys m = wanC zs m ∧ wanR ys m = wanR zs m) ∧ (numsC zs ≠ 0 → zs.length = 0 ∨ 60 < zs.length) := by
  subst he
  have hl : (zs.map (fun x => x + b)).length = zs.length := List.length_map _
  have e : numsC (zs.map (fun x => x + b)) = numsC zs := by
    by_cases h1 : 60 < zs.length
    · rw [numsC_big h1, numsC_big (by omega)]
    · by_cases h2 : zs.length = 0
      · rw [numsC_none h2, numsC_none (by omega)]
      · rw [numsC_ok (by omega) (by omega), numsC_ok (by omega) (by omega)]
        · intro x hx; have := h x hx; rw [timeB_iff]; omega
        · intro x hx
          obtain ⟨y, hy, rfl⟩ := List.mem_map.1 hx
          have := h y hy; rw [timeB_iff]; omega
  refine ⟨e, fun h0 => ?_, fun h0 => ?_⟩
  · obtain ⟨p1, p2, _⟩ := numsC_0 h0
    refine ⟨(h _ (mid_mem p2)).2, ?_, ?_, fun m => ?_⟩
    · unfold midR; rw [e, if_pos h0, if_pos h0, mid_move b p2]
    · unfold meanR; rw [e, if_pos h0, if_pos h0, mean_move b p2]
    · have ew : wanC (zs.map (fun x => x + b)) m = wanC zs m := by unfold wanC; rw [e, hl]
      refine ⟨ew, ?_⟩
      unfold wanR
      rw [ew, hl]
      by_cases hc : wanC zs m = 0
      · rw [if_pos hc, if_pos hc]
        have hm : 1 ≤ m ∧ m < (zs.length : Int) := by
          unfold wanC at hc
          rw [if_pos h0] at hc
          by_cases q : 1 ≤ m ∧ m < (zs.length : Int)
          · exact q
          · rw [if_neg q] at hc; cases hc
        exact wan_move b _ _ (by omega)
      · rw [if_neg hc, if_neg hc]
  · by_cases h1 : 60 < zs.length
    · exact .inr h1
    · by_cases h2 : zs.length = 0
      · exact .inl h2
      · exact absurd (numsC_ok (by omega) (by omega) (fun x hx => by have := h x hx; rw [timeB_iff]; omega)) h0
theorem stat_range {zs : List Int} (h0 : numsC zs = 0) : (-1000000000000 ≤ midR zs ∧ midR zs ≤ 1000000000000) ∧ (-1000000000000 ≤ meanR zs ∧ meanR zs ≤ 1000000000000) := by
  obtain ⟨p1, p2, p3⟩ := numsC_0 h0
  unfold midR meanR
  rw [if_pos h0, if_pos h0]
  refine ⟨timeB_iff.1 (p3 _ (mid_mem p2)), mean_low p2 fun x hx => (timeB_iff.1 (p3 x hx)).1, mean_high p2 fun x hx => (timeB_iff.1 (p3 x hx)).2⟩
theorem map_snoc {zs : List Int} {k : Nat} {z b : Int} (h : zs[k]? = some z) : (zs.take (k + 1)).map (fun x => x + b) = (zs.take k).map (fun x => x + b) ++ [z + b] := by
  rw [List.take_add_one, h]; simp
theorem own_isInts {w : World} {B : Nat} {T : TypeId} {v : Value} {ys : List Int} (h : w.ownsRow B T 1 v ys.length (ys.flatMap intCells)) (hok : ∀ z ∈ ys, i64B z) : ∃ A n c, v = .slice A n c ∧ IsInts w A n c ys := own_recs intCells i64B 1 (fun _ => rfl) h hok
set_option maxHeartbeats 16000000 in
theorem walk (a0 : Option Addr) (n0 c0 : Nat) (z0 : List Int) (a1 : Int) (a2 : Int) (w : World) (h0 : IsInts w a0 n0 c0 z0) (h1 : -9223372036854775808 ≤ a1 ∧ a1 ≤ 9223372036854775807) (h2 : -9223372036854775808 ≤ a2 ∧ a2 ≤ 9223372036854775807) (hr0 : n0 * 8 ≤ 140737488351232) :
    Calls Try.prog 3 #[.slice a0 n0 c0, .int .i64 a1, .int .i64 a2] w fun e w' => e = .returned (.bool true) ∧ Below w.heap.size w w' := by
  have f1 : meanR [1, 4] = 2 := rfl
  have f2 : numsC [1, 4] = 0 := rfl
  obtain ⟨i0, hi, hz0, hz1, hz2⟩ := info_parts infoI
  have H0 := Lib.hid h0
  obtain ⟨l1, l2, l3, l4, l5⟩ := h0
  unfold maxLen at l3
  have L1 := Lib.hid l1
  have L5 := Lib.hid l5
  clear l1 l4 l5
  go_enter Try.func3, Try.ntmps3
  go_wp2_with fail
  have CM := stat_Mean _ 2 2 [1, 4] _ (lit2 w)
  rw [f1, f2, errV_0] at CM
  refine CM.mono ?_
  rintro e w' ⟨rfl, rfl⟩
  clear CM
  go_wp2_with fail
  have HB0 := Lib.hid (show Below w.heap.size w (w.alloc (.cells #[.int .i64 1, .int .i64 4] 3)) from (Below.refl _ _).alloc (Nat.le_refl _) _)
  go_loopw [9, 10] (fun lv kv wr => ∃ (k : Nat) (ys : List Int), kv = .int .i64 k ∧ k ≤ n0 ∧ ys = (z0.take k).map (fun x => x + a1) ∧ wr.ownsRow w.heap.size 3 1 lv ys.length (ys.flatMap intCells) ∧ (∀ x ∈ z0.take k, (-1000000 ≤ x ∧ x ≤ 1000000) ∧ -1000000 ≤ a1 ∧ a1 ≤ 1000000) ∧ Below w.heap.size w wr) (fun _ kv _ => n0 - (intOf kv).toNat)
  case atStart => exact ⟨0, [], rfl, by omega, rfl, own_nil _ _ _ _, fun x hx => by simp at hx, HB0.out⟩
  case round =>
    obtain ⟨k, ys, rfl, hk, hys, ho, hall, hB⟩ := hrel
    have HO := Lib.hid ho
    have HB := Lib.hid hB
    have HY := Lib.hid hys
    have HA := Lib.hid hall
    have hzw := hB.size
    have hlen : ys.length = k := by rw [hys, List.length_map, List.length_take, L1.out]; omega
    clear ho hB hys hall HB0
    by_cases d1 : k < n0
    · obtain ⟨b, off, rfl, hb, hc⟩ := L5.out (by omega)
      obtain ⟨z, hz⟩ : ∃ z, z0[k]? = some z := ⟨_, List.getElem?_eq_getElem (by rw [L1.out]; omega)⟩
      have x0 : wr.cell? ⟨b, off + k, none⟩ = some (.int .i64 z) := by have := hc k z hz 0 _ rfl; refine (HB.out.cell (p := ⟨b, off + k, none⟩) hb).trans ?_; simpa using this
      have HZ := Lib.hid hz
      clear hc hz
      rcases (by omega : z < -1000000 ∨ (¬ z < -1000000 ∧ z > 1000000) ∨ (¬ z < -1000000 ∧ ¬ z > 1000000 ∧ a1 < -1000000) ∨ (¬ z < -1000000 ∧ ¬ z > 1000000 ∧ ¬ a1 < -1000000 ∧ a1 > 1000000) ∨ (¬ z < -1000000 ∧ ¬ z > 1000000 ∧ ¬ a1 < -1000000 ∧ ¬ a1 > 1000000)) with g1 | ⟨g1, g2⟩ | ⟨g1, g2, g3⟩ | ⟨g1, g2, g3, g4⟩ | ⟨g1, g2, g3, g4⟩
      · as_aux_lemma =>
          go_wp2_with fail
          go_ret
          exact ⟨rfl, HB.out⟩
      · as_aux_lemma =>
          go_wp2_with fail
          go_ret
          exact ⟨rfl, HB.out⟩
      · as_aux_lemma =>
          go_wp2_with fail
          go_ret
          exact ⟨rfl, HB.out⟩
      · as_aux_lemma =>
          go_wp2_with fail
          go_ret
          exact ⟨rfl, HB.out⟩
      · as_aux_lemma =>
          have HA2 := Lib.hid (take_more (p := fun x => (-1000000 ≤ x ∧ x ≤ 1000000) ∧ -1000000 ≤ a1 ∧ a1 ≤ 1000000) HZ.out HA.out (by omega))
          have HY2 := Lib.hid (map_snoc (b := a1) HZ.out)
          have hw := IntWalk.i64_in (z + a1) (by omega)
          have b1 : ys.length + 1 ≤ maxLen := by unfold maxLen; omega
          have b2 : (ys.length + 1) * 8 ≤ 140737488355328 := by omega
          go_wp2_with (at_builtin; refine wpList_append_own _ rfl _ _ 22 rfl w.heap.size 3 i0 (.int .i64 0) 1 8 Try.underlying22 hi hz0 hz1 hz2 rfl (by decide) _ _ _ rfl (HO.out.alloc _) ⟨wr.heap.size, 0, none⟩ 1 1 _ rfl rfl (cell_newAt wr (intCells (z + a1)) _ _ rfl) (int_one _) (by unfold maxLen; omega) (by omega) (by simp; omega) ?_; intro v' w1 ho1 hg1 _)
          have HB2 := Lib.hid (show Below w.heap.size w w1 from (HB.out.alloc (by omega) _).grown hg1 (by simp; omega) (fun k hk => (HO.out.lt k hk).1))
          have HO2 := Lib.hid (own_snoc intCells (z := z + a1) ho1)
          clear ho1 hg1
          go_wp2_with fail
          go_roundw
          case rel => exact ⟨k + 1, ys ++ [z + a1], by go_num, by omega, by rw [HY2.out, HY.out], HO2.out, HA2.out, HB2.out⟩
          case measure => simp [intOf]; omega
    · obtain rfl : k = n0 := by omega
      as_aux_lemma =>
        have hys : ys = z0.map (fun x => x + a1) := by rw [HY.out, List.take_of_length_le (by rw [L1.out]; omega)]
        have hall := HA.out
        rw [List.take_of_length_le (by rw [L1.out]; omega)] at hall
        obtain ⟨m1, m2, m3⟩ := moves_plain hys hall
        have hok : ∀ z ∈ ys, i64B z := by
          intro z hz
          rw [hys] at hz
          obtain ⟨x, hx, rfl⟩ := List.mem_map.1 hz
          have := hall x hx
          unfold i64B; omega
        obtain ⟨A, n, c, rfl, hI⟩ := own_isInts HO.out hok
        have HI := Lib.hid hI
        have H9 := Lib.hid (fun w' (hb : Below w.heap.size w w') => H0.out.below hb)
        have q2 := L1.out
        clear hok hI HY HA HO hlen hys hall L5
        cases e0 : decide (numsC z0 = 0)
        · as_aux_lemma =>
            have e1 := of_decide_eq_false e0
            have hx := m3 e1
            have C1 := Lib.hid (fun w' (hb : Below w.heap.size w w') => stat_Median a0 k c0 z0 w' (H0.out.below hb))
            have C2 := Lib.hid (fun w' (hb : Below wr.heap.size wr w') => stat_Median A n c ys w' (HI.out.below hb))
            have C3 := Lib.hid (fun w' (hb : Below w.heap.size w w') => stat_Mean a0 k c0 z0 w' (H0.out.below hb))
            have C4 := Lib.hid (fun w' (hb : Below wr.heap.size wr w') => stat_Mean A n c ys w' (HI.out.below hb))
            have C5 := Lib.hid (fun w' (hb : Below w.heap.size w w') => stat_Wander a0 k c0 a2 z0 w' (H0.out.below hb))
            have C6 := Lib.hid (fun w' (hb : Below wr.heap.size wr w') => stat_Wander A n c a2 ys w' (HI.out.below hb))
            obtain ⟨E, hE⟩ : ∃ E, numsC z0 = E := ⟨_, rfl⟩
            rw [hE] at m1 e1
            simp only [m1, hE, errV_ne e1] at C1 C2 C3 C4
            clear e0 m2 m3 m1 hE e1
            clear H0 HI H9
            go_wp2_with fail
            refine (C1.out _ HB.out).mono ?_
            rintro e w1 ⟨rfl, hb1⟩
            have HB1 := Lib.hid (HB.out.trans (hb1.mono HB.out.size))
            have HR1 := Lib.hid hb1
            clear hb1
            go_wp2_with fail
            refine (C2.out _ HR1.out).mono ?_
            rintro e w2 ⟨rfl, hb2⟩
            have HB2 := Lib.hid (HB1.out.trans (hb2.mono HB1.out.size))
            have HR2 := Lib.hid (HR1.out.trans (hb2.mono HR1.out.size))
            clear hb2
            go_wp2_with fail
            refine (C3.out _ HB2.out).mono ?_
            rintro e w' ⟨rfl, rfl⟩
            go_wp2_with fail
            refine (C4.out _ HR2.out).mono ?_
            rintro e w' ⟨rfl, rfl⟩
            go_wp2_with fail
            refine (C5.out _ HB2.out).mono ?_
            rintro e w5 ⟨rfl, hb5⟩
            have HB5 := Lib.hid (HB2.out.trans (hb5.mono HB2.out.size))
            have HR5 := Lib.hid (HR2.out.trans (hb5.mono HR2.out.size))
            clear hb5
            go_wp2_with fail
            refine (C6.out _ HR5.out).mono ?_
            rintro e w6 ⟨rfl, hb6⟩
            have HB6 := Lib.hid (HB5.out.trans (hb6.mono HB5.out.size))
            clear hb6
            rw [q2] at hx
            rcases (by omega : k = 0 ∨ (¬ k = 0 ∧ (60 : Int) < (k : Int))) with p | ⟨p, p'⟩
            all_goals
              go_wp2_with fail
              go_ret
              exact ⟨rfl, HB6.out⟩
        · as_aux_lemma =>
            have e1 := of_decide_eq_true e0
            obtain ⟨n0', n1, n2, n3⟩ := m2 e1
            obtain ⟨r1, r2⟩ := stat_range e1
            have C1 := Lib.hid (fun w' (hb : Below w.heap.size w w') => stat_Median a0 k c0 z0 w' (H0.out.below hb))
            have C2 := Lib.hid (fun w' (hb : Below wr.heap.size wr w') => stat_Median A n c ys w' (HI.out.below hb))
            have C3 := Lib.hid (fun w' (hb : Below w.heap.size w w') => stat_Mean a0 k c0 z0 w' (H0.out.below hb))
            have C4 := Lib.hid (fun w' (hb : Below wr.heap.size wr w') => stat_Mean A n c ys w' (HI.out.below hb))
            have C5 := Lib.hid (fun w' (hb : Below w.heap.size w w') => stat_Wander a0 k c0 a2 z0 w' (H0.out.below hb))
            have C6 := Lib.hid (fun w' (hb : Below wr.heap.size wr w') => stat_Wander A n c a2 ys w' (HI.out.below hb))
            obtain ⟨P, hP⟩ : ∃ P, midR z0 = P := ⟨_, rfl⟩
            obtain ⟨Q, hQ⟩ : ∃ Q, meanR z0 = Q := ⟨_, rfl⟩
            obtain ⟨V, hV⟩ : ∃ V, wanC z0 a2 = V := ⟨_, rfl⟩
            obtain ⟨X, hX⟩ : ∃ X, wanR z0 a2 = X := ⟨_, rfl⟩
            simp only [(n3 a2).1, (n3 a2).2, n1, n2, m1, e1, hP, hQ, hV, hX, errV_0] at C1 C2 C3 C4 C5 C6
            rw [hP] at r1
            rw [hQ] at r2
            have u1 := IntWalk.i64_in (P + a1) (by omega)
            have u2 := IntWalk.i64_in (Q + a1) (by omega)
            clear n0' r1 r2
            clear e0 m2 m3 m1 e1 n1 n2 n3 hP hQ hV hX
            by_cases v0 : V = 0
            · subst v0
              simp only [errV_0] at C5 C6
              clear H0 HI H9
              go_wp2_with fail
              refine (C1.out _ HB.out).mono ?_
              rintro e w1 ⟨rfl, hb1⟩
              have HB1 := Lib.hid (HB.out.trans (hb1.mono HB.out.size))
              have HR1 := Lib.hid hb1
              clear hb1
              go_wp2_with fail
              refine (C2.out _ HR1.out).mono ?_
              rintro e w2 ⟨rfl, hb2⟩
              have HB2 := Lib.hid (HB1.out.trans (hb2.mono HB1.out.size))
              have HR2 := Lib.hid (HR1.out.trans (hb2.mono HR1.out.size))
              clear hb2
              go_wp2_with fail
              refine (C3.out _ HB2.out).mono ?_
              rintro e w' ⟨rfl, rfl⟩
              go_wp2_with fail
              refine (C4.out _ HR2.out).mono ?_
              rintro e w' ⟨rfl, rfl⟩
              go_wp2_with fail
              refine (C5.out _ HB2.out).mono ?_
              rintro e w5 ⟨rfl, hb5⟩
              have HB5 := Lib.hid (HB2.out.trans (hb5.mono HB2.out.size))
              have HR5 := Lib.hid (HR2.out.trans (hb5.mono HR2.out.size))
              clear hb5
              go_wp2_with fail
              refine (C6.out _ HR5.out).mono ?_
              rintro e w6 ⟨rfl, hb6⟩
              have HB6 := Lib.hid (HB5.out.trans (hb6.mono HB5.out.size))
              clear hb6
              go_wp2_with fail
              go_quiet (fail)
              go_wp2_with fail
              go_ret
              exact ⟨rfl, below_drewN HB6.out _⟩
            · simp only [errV_ne v0] at C5 C6
              clear H0 HI H9
              go_wp2_with fail
              refine (C1.out _ HB.out).mono ?_
              rintro e w1 ⟨rfl, hb1⟩
              have HB1 := Lib.hid (HB.out.trans (hb1.mono HB.out.size))
              have HR1 := Lib.hid hb1
              clear hb1
              go_wp2_with fail
              refine (C2.out _ HR1.out).mono ?_
              rintro e w2 ⟨rfl, hb2⟩
              have HB2 := Lib.hid (HB1.out.trans (hb2.mono HB1.out.size))
              have HR2 := Lib.hid (HR1.out.trans (hb2.mono HR1.out.size))
              clear hb2
              go_wp2_with fail
              refine (C3.out _ HB2.out).mono ?_
              rintro e w' ⟨rfl, rfl⟩
              go_wp2_with fail
              refine (C4.out _ HR2.out).mono ?_
              rintro e w' ⟨rfl, rfl⟩
              go_wp2_with fail
              refine (C5.out _ HB2.out).mono ?_
              rintro e w5 ⟨rfl, hb5⟩
              have HB5 := Lib.hid (HB2.out.trans (hb5.mono HB2.out.size))
              have HR5 := Lib.hid (HR2.out.trans (hb5.mono HR2.out.size))
              clear hb5
              go_wp2_with fail
              refine (C6.out _ HR5.out).mono ?_
              rintro e w6 ⟨rfl, hb6⟩
              have HB6 := Lib.hid (HB5.out.trans (hb6.mono HB5.out.size))
              clear hb6
              go_wp2_with fail
              go_quiet (fail)
              go_wp2_with fail
              go_ret
              exact ⟨rfl, below_drewN HB6.out _⟩

set_option maxRecDepth 100000 in
theorem lifted (os : Os) (started : os.Started) (H : Type) (enc : TypeId × Value → H) :
    ReturnsInHanded {} Try.checked os 3 .any (Rows.statMovesSpec.pre6 enc Try.prog Try.f3 Rows.statMovesRow.domain false) (Rows.statMovesSpec.post enc Try.prog Try.f3 false true false false) := by
  refine returnsInHanded_of_change_sized (C := Try.checked) own started (by kernel_rfl) Try.func3
    (ChangeSpec.witness6 (enc := enc) (C := Try.checked) false ⟨#[], #[.slice none 0 0, .int .i64 0, .int .i64 0], []⟩ 8 (by kernel_rfl) (by kernel_rfl) (by kernel_rfl) (by kernel_rfl)) ?_
  intro W base args ds gs before hval0 hW hcnd hsz0 hreach
  have hval : ∀ (j : Nat) t v, Try.f3.params[j]? = some t → args[j]? = some v → Value.okWide Try.prog W .any base t v := hval0
  have hW' := hW
  obtain ⟨p, q, hA0, hV, rfl, hfz, hnd⟩ := hW
  have hA : DataW.TrodAll enc Try.prog W 0 (fun _ => true) true Try.f3.params.toList args.toList ds p := hA0
  rw [Try.params3] at hA hval
  obtain ⟨v0, vs0, d0, ds0, p0, q0, hargs, rfl, rfl, g0, r0⟩ := trodAll_cons hA
  obtain ⟨v1, vs1, d1, ds1, p1, q1, rfl, rfl, rfl, g1, r1⟩ := trodAll_cons r0
  obtain ⟨v2, vs2, d2, ds2, p2, q2, rfl, rfl, rfl, g2, r2⟩ := trodAll_cons r1
  obtain ⟨rfl, rfl, rfl⟩ := trodAll_nil r2
  obtain rfl : args = #[v0, v1, v2] := by cases args; simp_all
  obtain ⟨rfl, rfl⟩ := trodVars_none hV
  have k0 := g0
  have lt0 : ∀ x ∈ p0, x.block < W.heap.size := by obtain ⟨m, hm⟩ := k0; exact DataW.trod_lt m _ _ _ hm
  have rd0 : Try.prog.readableRec 22 = true := by kernel_rfl
  have ls0 : 22 < Try.prog.types.size := of_decide_eq_true (by kernel_rfl)
  obtain ⟨a0, n0, c0, z0, rfl, h0⟩ := open_Ints (hval 0 22 v0 rfl rfl) g0
  obtain ⟨a1, rfl, rfl, rfl, u1⟩ := open_int Try.underlying3 (hval 1 3 v1 rfl rfl) g1
  have h1 := bounds_i64 u1
  obtain ⟨a2, rfl, rfl, rfl, u2⟩ := open_int Try.underlying3 (hval 2 3 v2 rfl rfl) g2
  have h2 := bounds_i64 u2
  have hsz : (DataW.weightsEach Try.prog (Try.f3.params.toList ++ []) (_ ++ [])).all (fun x => decide (x ≤ reachBytes)) = true := hsz0
  rw [Try.params3] at hsz
  have hr0 : n0 * 8 ≤ 140737488351232 := by
    rcases slice_data Try.underlying22 g0 with ⟨_, h⟩ | ⟨el, sp, hd, hl⟩
    · rw [h]; omega
    · have := sized_slice hsz (j := 0) (t := 22) (e := 3) rfl (by rw [hd]; rfl) Try.underlying22
      rw [show Try.prog.bytesOf 3 = 8 by kernel_rfl] at this
      simp only [reachBytes] at this
      omega
  clear hA0 hval0
  refine (walk a0 n0 c0 z0 a1 a2 W h0 h1 h2 hr0).mono fun e W' ⟨he, bel⟩ => ?_
  subst he
  exact ⟨_, rfl, _, _, _, [], _, [], hW', trodAll_mk1 (shut_bool Try.underlying4 _), (trodAll_cons_mk (Below.trod laidOut rd0 ls0 k0 bel lt0) (trodAll_cons_mk (shut_int Try.underlying3 u1) (trodAll_cons_mk (shut_int Try.underlying3 u2) trodAll_mk0))), rfl, bel.frame _, fun h => by cases h⟩

theorem over : Rows.statMovesRow.holds Try.pinned (OpenSpec.ofChange Rows.statMovesSpec) :=
  OpenClaim.holds_of_wide 3 Try.f3 rfl rfl rfl rfl rfl rfl rfl ⟨rfl, rfl, rfl, rfl, rfl⟩ rfl rfl rfl rfl rfl (by kernel_rfl) Try.func3 (by kernel_rfl)
    (of_decide_eq_true (by kernel_rfl)) (by unfold Func.isWrapper; rw [if_neg (of_decide_eq_false (by kernel_rfl))]; exact ⟨rfl, rfl⟩)
    (fun os started H enc _ => lifted os started H enc)

/-- the statement -/
theorem proved : Rows.StatMovesSaid := over

end Go.Proofs.Ytafinconoodgfaa.lStatMoves
