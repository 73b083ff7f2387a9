/- order.ahead, order.Surely, noonref2.Events, walked. -/
import Derived.Test.YthclepohilekaaaDoorOrdC
namespace Go.Proofs.YthclepohilekaaaDoor
open Go.RowKit
set_option linter.unusedVariables false
set_option linter.unusedSimpArgs false
set_option maxRecDepth 100000 in
set_option maxHeartbeats 2000000 in
theorem order_ahead (i1 l1 h1 i2 l2 h2 : Int) (w : World) :
    Calls Tryd.prog 22 #[.agg #[.int .i64 i1, .int .i64 l1, .int .i64 h1], .agg #[.int .i64 i2, .int .i64 l2, .int .i64 h2]] w fun e w' => e = .returned (.bool (decide (h1 < l2))) ∧ Below w.heap.size w w' := by
  go_enter Tryd.func22, Tryd.ntmps22
  go_wp2_with fail
  go_ret
  exact ⟨rfl, (by repeat (first | with_reducible exact Below.refl _ _ | (with_reducible refine Below.alloc ?_ (by first | omega | (simp; done) | (simp; omega)) _) | (with_reducible refine Below.setCell ?_ (by first | omega | (simp; done) | (simp; omega)) _) | (with_reducible refine Below.drew ?_) | (with_reducible refine below_drewN ?_ _) | (with_reducible assumption) | (with_reducible refine bel_step (by with_reducible assumption) ?_ (by first | omega | (simp; done) | (simp; omega)))))⟩
set_option maxRecDepth 100000 in
set_option maxHeartbeats 8000000 in
theorem r2_Events (A : Option Addr) (n c : Nat) (zs : List REvent) (w : World) (h : IsRecs w REvent.cells REvent.ok 3 A n c zs) :
    Calls Tryd.prog 11 #[.slice A n c] w fun e w' => e = .returned (.int .i64 (evC zs)) ∧ Below w.heap.size w w' := by
  obtain ⟨l1, l2, l3, l4, l5⟩ := h
  unfold maxLen at l3
  have L1 := Lib.hid l1
  have L5 := Lib.hid l5
  clear l1 l4 l5
  by_cases d12 : 12 < n
  · have hv := Lib.hid (show evC zs = 4 by unfold evC; rw [L1.out, if_pos d12])
    have k0 : (12 : Int) < (n : Int) := by omega
    go_enter Tryd.func11, Tryd.ntmps11
    go_wp2_with fail
    go_ret
    exact ⟨by rw [hv.out]; rfl, Below.refl _ _⟩
  · have k0 : ¬ (12 : Int) < (n : Int) := by omega
    go_enter Tryd.func11, Tryd.ntmps11
    go_wp2_with fail
    go_loopw [3] (fun kv wr => ∃ k : Nat, kv = .int .i64 k ∧ k ≤ n ∧ evFirst zs k = 0 ∧ Below w.heap.size w wr) (fun kv _ => n - (intOf kv).toNat)
    case atStart => exact ⟨0, rfl, by omega, rfl, Below.refl _ _⟩
    case round =>
      obtain ⟨k, rfl, hk, hF, hB⟩ := hrel
      have HF := Lib.hid hF
      have HB := Lib.hid hB
      have hzw := hB.size
      clear hF
      by_cases d1 : k < n
      · obtain ⟨b, off, rfl, hb, hc⟩ := L5.out (by omega)
        obtain ⟨z, hz⟩ : ∃ z, zs[k]? = some z := ⟨_, List.getElem?_eq_getElem (by rw [L1.out]; omega)⟩
        have HC := Lib.hid (show ∀ w', Below w.heap.size w w' → ∀ k z, zs[k]? = some z → w'.cell? ⟨b, off + k * 3, none⟩ = some (.int .i64 z.id) ∧ w'.cell? ⟨b, off + k * 3 + 1, none⟩ = some (.int .i64 z.lo) ∧ w'.cell? ⟨b, off + k * 3 + 1 + 1, none⟩ = some (.int .i64 z.hi) from fun wr hB k z hz =>
          ⟨(hB.cell (p := ⟨b, off + k * 3, none⟩) hb).trans (hc k z hz 0 _ rfl), (hB.cell (p := ⟨b, off + k * 3 + 1, none⟩) hb).trans (hc k z hz 1 _ rfl), (hB.cell (p := ⟨b, off + k * 3 + 1 + 1, none⟩) hb).trans (hc k z hz 2 _ rfl)⟩)
        obtain ⟨x0, x1, x2⟩ := HC.out wr hB k z hz
        have HZ := Lib.hid hz
        have HBad := Lib.hid (show evBad zs k = if rightB z.lo z.hi = true then (if hasId (zs.take k) z.id = true then 3 else 0) else 1 from by unfold evBad; rw [getD_of hz]; rfl)
        have CR := Lib.hid (fun W' => r1_Span z.lo z.hi W')
        clear hc hz hB
        cases e1 : rightB z.lo z.hi
        · rw [e1] at CR HBad
          have HE := Lib.hid (evC_at L1.out d12 HF.out HBad.out (by simp) d1)
          as_aux_lemma =>
            go_wp2_with fail
            refine (CR.out _).mono ?_
            rintro e w' ⟨rfl, hb'⟩
            have HB2 := Lib.hid (show Below w.heap.size w w' from by have hB := HB.out; exact (by repeat (first | with_reducible exact Below.refl _ _ | (with_reducible refine Below.alloc ?_ (by first | omega | (simp; done) | (simp; omega)) _) | (with_reducible refine Below.setCell ?_ (by first | omega | (simp; done) | (simp; omega)) _) | (with_reducible refine Below.drew ?_) | (with_reducible refine below_drewN ?_ _) | (with_reducible assumption) | (with_reducible refine bel_step (by with_reducible assumption) ?_ (by first | omega | (simp; done) | (simp; omega))))))
            clear hb'
            go_wp2_with fail
            go_ret
            exact ⟨by rw [HE.out]; rfl, HB2.out⟩
        · rw [e1] at CR HBad
          have HY := Lib.hid (fun (e2 : hasId (zs.take k) z.id = true) => evC_at L1.out d12 HF.out (HBad.out.trans (by rw [if_pos rfl, if_pos e2])) (by decide) d1)
          have HN := Lib.hid (fun (e2 : hasId (zs.take k) z.id = false) => ev_next HF.out (HBad.out.trans (by rw [if_pos rfl, if_neg (by rw [e2]; simp)])))
          clear HBad HF e1
          go_wp2_with fail
          refine (CR.out _).mono ?_
          rintro e w2 ⟨rfl, hb2⟩
          have HB2 := Lib.hid (show Below w.heap.size w w2 from by have hB := HB.out; exact (by repeat (first | with_reducible exact Below.refl _ _ | (with_reducible refine Below.alloc ?_ (by first | omega | (simp; done) | (simp; omega)) _) | (with_reducible refine Below.setCell ?_ (by first | omega | (simp; done) | (simp; omega)) _) | (with_reducible refine Below.drew ?_) | (with_reducible refine below_drewN ?_ _) | (with_reducible assumption) | (with_reducible refine bel_step (by with_reducible assumption) ?_ (by first | omega | (simp; done) | (simp; omega))))))
          clear hb2 x0 x1 x2 HB CR
          go_wp2_with fail
          go_loopw [5] (fun jv ws => ∃ j : Nat, jv = .int .i64 j ∧ j ≤ k ∧ (∀ x ∈ (zs.take k).take j, (x.id == z.id) = false) ∧ Below w.heap.size w ws) (fun jv _ => k - (intOf jv).toNat)
          case atStart => exact ⟨0, rfl, by omega, fun x hx => by simp at hx, HB2.out⟩
          case round =>
            obtain ⟨j, rfl, hj, hD, hB⟩ := hrel
            have HD := Lib.hid hD
            have HB := Lib.hid hB
            have hzr := hB.size
            clear hD HB2
            by_cases d2 : j < k
            · obtain ⟨y, hy⟩ : ∃ y, zs[j]? = some y := ⟨_, List.getElem?_eq_getElem (by rw [L1.out]; omega)⟩
              obtain ⟨y0, _, _⟩ := HC.out wr hB j y hy
              obtain ⟨x0, _, _⟩ := HC.out wr hB k z HZ.out
              have hyk : (zs.take k)[j]? = some y := by rw [List.getElem?_take_of_lt d2]; exact hy
              have HYK := Lib.hid hyk
              have q0 : (0 : Int) ≤ (j : Int) := by omega
              have q1 : (j : Int) < (n : Int) := by omega
              have q2 : (0 : Int) ≤ (k : Int) := by omega
              have q3 : (k : Int) < (n : Int) := by omega
              clear hy hyk hB
              cases e2 : (y.id == z.id)
              · have HD2 := Lib.hid (take_moreE (p := fun x => (x.id == z.id) = false) HYK.out HD.out e2)
                have b1 : (y.id == z.id) = false := e2
                as_aux_lemma =>
                  go_wp2_with fail
                  go_quiet (fail)
                  go_wp2_with fail
                  go_roundw
                  case rel => exact ⟨j + 1, by go_num, by omega, HD2.out, below_drewN HB.out _⟩
                  case measure => simp [intOf]; omega
              · have HE := Lib.hid (HY.out (hasId_yes HYK.out e2))
                as_aux_lemma =>
                  go_wp2_with fail
                  go_quiet (fail)
                  go_wp2_with fail
                  go_ret
                  exact ⟨by rw [HE.out]; rfl, below_drewN HB.out _⟩
            · obtain rfl : j = k := by omega
              have HN2 := Lib.hid (HN.out (hasId_no (by
                have := HD.out
                rwa [List.take_of_length_le (by rw [List.length_take]; omega)] at this)))
              as_aux_lemma =>
                go_wp2_with fail
                go_roundw
                case rel => exact ⟨j + 1, by go_num, by omega, HN2.out, HB.out⟩
                case measure => simp [intOf]; omega
      · obtain rfl : k = n := by omega
        have HE := Lib.hid (evC_ok L1.out d12 HF.out)
        go_wp2_with fail
        go_ret
        exact ⟨by rw [HE.out]; rfl, HB.out⟩
end Go.Proofs.YthclepohilekaaaDoor
