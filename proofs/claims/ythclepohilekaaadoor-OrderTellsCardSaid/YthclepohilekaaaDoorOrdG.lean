/- noonref2.Rank, walked. -/
import Derived.Test.YthclepohilekaaaDoorOrdF
import Derived.Test.YthclepohilekaaaDoorOrderR
namespace Go.Proofs.YthclepohilekaaaDoor
open Go.RowKit
set_option linter.unusedVariables false
set_option linter.unusedSimpArgs false
theorem evsAt {w : World} {A : Option Addr} {n c : Nat} {zs : List REvent} (h : IsRecs w REvent.cells REvent.ok 3 A n c zs) (h0 : 0 < n) : ∃ b off, A = some ⟨b, off, none⟩ ∧ b < w.heap.size ∧ ∀ wr, Below w.heap.size w wr → ∀ i, i < n → wr.cell? ⟨b, off + i * 3, none⟩ = some (.int .i64 (zs.getD i default).id) ∧ wr.cell? ⟨b, off + i * 3 + 1, none⟩ = some (.int .i64 (zs.getD i default).lo) ∧ wr.cell? ⟨b, off + i * 3 + 1 + 1, none⟩ = some (.int .i64 (zs.getD i default).hi) := by
  obtain ⟨l1, l2, l3, l4, l5⟩ := h
  obtain ⟨b, off, e, hb, hc⟩ := l5 h0
  refine ⟨b, off, e, hb, fun wr hB i hi => ?_⟩
  have hz : zs[i]? = some (zs.getD i default) := by rw [List.getD_eq_getElem?_getD, List.getElem?_eq_getElem (by omega : i < zs.length)]; rfl
  exact ⟨(hB.cell (p := ⟨b, off + i * 3, none⟩) hb).trans (hc i _ hz 0 _ rfl), (hB.cell (p := ⟨b, off + i * 3 + 1, none⟩) hb).trans (hc i _ hz 1 _ rfl), (hB.cell (p := ⟨b, off + i * 3 + 1 + 1, none⟩) hb).trans (hc i _ hz 2 _ rfl)⟩
set_option maxRecDepth 100000 in
set_option maxHeartbeats 8000000 in
theorem r2_Rank (A : Option Addr) (n c : Nat) (zs : List REvent) (hr : ∀ z ∈ zs, evR z = true) (h12 : n ≤ 12) : ∀ (f i : Nat) (w : World), IsRecs w REvent.cells REvent.ok 3 A n c zs → mu zs i < f → i < n →
    Calls Tryd.prog 16 #[.slice A n c, .int .i64 i] w fun e w' => e = .returned (.int .i64 (rankV zs i)) ∧ Below w.heap.size w w'
  | 0, i, w, _, h, _ => absurd h (by omega)
  | f + 1, i, w, h, hmu, hi => by
    have IH := Lib.hid (fun k w' (hb : Below w.heap.size w w') (hk : k < n) (hlt : (zs.getD k default).hi < (zs.getD i default).lo) => r2_Rank A n c zs hr h12 f k w' (h.below hb) (by have := mu_lt hr (by rw [h.1]; exact hk) hlt; omega) hk)
    obtain ⟨b, off, rfl, hb, hc⟩ := evsAt h (by omega)
    have l2 := h.2.1
    have l3 := h.2.2.1
    unfold maxLen at l3
    have HC := Lib.hid hc
    have HRk := Lib.hid (show rankV zs i = bestOf zs (rankV zs) (zs.getD i default).lo n + 1 from by rw [rankV_eq hr i, h.1])
    have HLe := Lib.hid (fun k => rankV_le (zs := zs) (by rw [h.1]; exact h12) k)
    have HBL := Lib.hid (fun k => best_le (zs := zs) (g := rankV zs) (lo := (zs.getD i default).lo) (B := 13) (by omega) k (fun j _ => (rankV_le (zs := zs) (by rw [h.1]; exact h12) j).2))
    obtain ⟨LO, hLO⟩ : ∃ LO, (zs.getD i default).lo = LO := ⟨_, rfl⟩
    have HX := Lib.hid (fun w' (hb : Below w.heap.size w w') => show w'.cell? ⟨b, off + i * 3 + 1, none⟩ = some (.int .i64 LO) from by rw [← hLO]; exact (hc w' hb i hi).2.1)
    rw [hLO] at IH HRk HBL
    clear h hc hmu hLO
    go_enter Tryd.func16, Tryd.ntmps16
    go_wp2_with fail
    go_loopw [5, 6] (fun bv kv wr => ∃ (k : Nat) (B : Int), kv = .int .i64 k ∧ bv = .int .i64 B ∧ k ≤ n ∧ B = bestOf zs (rankV zs) LO k ∧ Below w.heap.size w wr) (fun _ kv _ => n - (intOf kv).toNat)
    case atStart => exact ⟨0, 0, rfl, rfl, by omega, rfl, Below.refl _ _⟩
    case round =>
      obtain ⟨k, B, rfl, rfl, hk, hBe, hB⟩ := hrel
      have HBe := Lib.hid hBe
      have HB := Lib.hid hB
      have hzw := hB.size
      have hbl := HBL.out k
      rw [← hBe] at hbl
      clear hBe
      by_cases d1 : k < n
      · obtain ⟨_, _, x2⟩ := HC.out wr hB k d1
        have y1 := HX.out wr hB
        have q0 : (0 : Int) ≤ (k : Int) := by omega
        have q1 : (k : Int) < (n : Int) := by omega
        have q2 : (0 : Int) ≤ (i : Int) := by omega
        have q3 : (i : Int) < (n : Int) := by omega
        have HS := Lib.hid (show bestOf zs (rankV zs) LO (k + 1) = if (zs.getD k default).hi < LO then max (bestOf zs (rankV zs) LO k) (rankV zs k) else bestOf zs (rankV zs) LO k from rfl)
        have IHk := Lib.hid (fun w' hb => IH.out k w' hb d1)
        obtain ⟨HI, hHI⟩ : ∃ HI, (zs.getD k default).hi = HI := ⟨_, rfl⟩
        rw [hHI] at x2 HS IHk
        have hle := HLe.out k
        obtain ⟨R, hR⟩ : ∃ R, rankV zs k = R := ⟨_, rfl⟩
        rw [hR] at HS IHk hle
        clear hB hHI hR IH HLe HBL HX HC
        by_cases ca : HI < LO
        · have HS2 := Lib.hid (show bestOf zs (rankV zs) LO (k + 1) = max B R by rw [HS.out, if_pos ca, HBe.out])
          have IH2 := Lib.hid (fun w' hb => IHk.out w' hb ca)
          have ba : decide (HI < LO) = true := by simp; exact ca
          clear HS IHk
          by_cases cr : B < R
          · have HN := Lib.hid (show R = bestOf zs (rankV zs) LO (k + 1) by rw [HS2.out]; omega)
            as_aux_lemma =>
              go_wp2_with fail
              (try go_quiet (fail))
              go_wp2_with fail
              refine (IH2.out _ (by first | exact HB.out | exact below_drewN HB.out _)).mono ?_
              rintro e w3 ⟨rfl, hb3⟩
              have HB3 := Lib.hid (show Below w.heap.size w w3 from by have hB := HB.out; exact (by repeat (first | with_reducible exact Below.refl _ _ | (with_reducible refine Below.alloc ?_ (by first | omega | (simp; done) | (simp; omega)) _) | (with_reducible refine Below.setCell ?_ (by first | omega | (simp; done) | (simp; omega)) _) | (with_reducible refine Below.drew ?_) | (with_reducible refine below_drewN ?_ _) | (with_reducible assumption) | (with_reducible refine bel_step (by with_reducible assumption) ?_ (by first | omega | (simp; done) | (simp; omega))))))
              clear hb3
              go_wp2_with fail
              go_roundw
              case rel => exact ⟨k + 1, R, by go_num, rfl, by omega, HN.out, HB3.out⟩
              case measure => simp [intOf]; omega
          · have HN := Lib.hid (show B = bestOf zs (rankV zs) LO (k + 1) by rw [HS2.out]; omega)
            as_aux_lemma =>
              go_wp2_with fail
              (try go_quiet (fail))
              go_wp2_with fail
              refine (IH2.out _ (by first | exact HB.out | exact below_drewN HB.out _)).mono ?_
              rintro e w3 ⟨rfl, hb3⟩
              have HB3 := Lib.hid (show Below w.heap.size w w3 from by have hB := HB.out; exact (by repeat (first | with_reducible exact Below.refl _ _ | (with_reducible refine Below.alloc ?_ (by first | omega | (simp; done) | (simp; omega)) _) | (with_reducible refine Below.setCell ?_ (by first | omega | (simp; done) | (simp; omega)) _) | (with_reducible refine Below.drew ?_) | (with_reducible refine below_drewN ?_ _) | (with_reducible assumption) | (with_reducible refine bel_step (by with_reducible assumption) ?_ (by first | omega | (simp; done) | (simp; omega))))))
              clear hb3
              go_wp2_with fail
              go_roundw
              case rel => exact ⟨k + 1, B, by go_num, rfl, by omega, HN.out, HB3.out⟩
              case measure => simp [intOf]; omega
        · have HN := Lib.hid (show B = bestOf zs (rankV zs) LO (k + 1) by rw [HS.out, if_neg ca, HBe.out])
          have ba : decide (HI < LO) = false := by simp; omega
          clear HS IHk
          as_aux_lemma =>
            go_wp2_with fail
            (try go_quiet (fail))
            go_wp2_with fail
            go_roundw
            case rel => exact ⟨k + 1, B, by go_num, rfl, by omega, HN.out, by first | exact HB.out | exact below_drewN HB.out _⟩
            case measure => simp [intOf]; omega
      · obtain rfl : k = n := by omega
        have HN := Lib.hid (show B + 1 = rankV zs i by rw [HRk.out, HBe.out])
        have hw1 := IntWalk.i64_in (B + 1) (by omega)
        go_wp2_with fail
        go_ret
        exact ⟨by rw [← HN.out]; rfl, HB.out⟩
end Go.Proofs.YthclepohilekaaaDoor
