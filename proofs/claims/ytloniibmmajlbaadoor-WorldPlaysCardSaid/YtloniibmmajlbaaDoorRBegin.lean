/- The reference's fault of clocks, walked. -/
import Derived.Test.YtloniibmmajlbaaDoorRWorld
namespace Go.Proofs.YtloniibmmajlbaaDoor
open Go.RowKit
set_option linter.unusedVariables false
set_option linter.unusedSimpArgs false
set_option maxRecDepth 100000 in
set_option maxHeartbeats 4000000 in
theorem r2_Begin (A : Option Addr) (n c : Nat) (zs : List Int) (A2 : Option Addr) (n2 c2 : Nat) (ys : List Int) (p : Int) (w : World) (h : IsInts w A n c zs) (h2 : IsInts w A2 n2 c2 ys) (hp : i64B p) :
    Calls Tryd.prog 9 #[.slice A n c, .slice A2 n2 c2, .int .i64 p] w fun e w' => e = .returned (.int .i64 (newC zs ys p)) ∧ Below w.heap.size w w' := by
  have l1 := h.1
  have l2 := h2.1
  have hc1 := h.2.2.1
  have hc2 := h2.2.2.1
  have hn1 := h.2.1
  have hn2 := h2.2.1
  obtain ⟨p0, p1⟩ := hp
  unfold maxLen at hc1 hc2
  have key : (p < 0 ∨ (¬ p < 0 ∧ 1000 < p) ∨ (¬ p < 0 ∧ ¬ 1000 < p ∧ n < 1) ∨ (¬ p < 0 ∧ ¬ 1000 < p ∧ ¬ n < 1 ∧ 6 < n)) ∨ (¬ p < 0 ∧ ¬ 1000 < p ∧ ¬ n < 1 ∧ ¬ 6 < n) := by omega
  rcases key with key | ⟨k1, k2, k3, k4⟩
  · rw [newC_bad1 (by
      rcases key with k | ⟨k, k'⟩ | ⟨_, _, k⟩ | ⟨_, _, _, k⟩
      · left; cases hb : rateB p; rfl; rw [rateB_iff] at hb; omega
      · left; cases hb : rateB p; rfl; rw [rateB_iff] at hb; omega
      · right; left; omega
      · right; right; omega)]
    clear h h2 l1 l2
    rcases key with d1 | ⟨d1, d2⟩ | ⟨d1, d2, d3⟩ | ⟨d1, d2, d3, d4⟩
    all_goals
      go_enter Tryd.func9, Tryd.ntmps9
      go_wp2_with fail
      go_ret
      exact ⟨rfl, (by repeat (first | with_reducible exact Below.refl _ _ | (with_reducible refine Below.alloc ?_ (by first | omega | (simp; done) | (simp; omega)) _) | (with_reducible refine Below.setCell ?_ (by first | omega | (simp; done) | (simp; omega)) _) | (with_reducible refine Below.drew ?_) | (with_reducible refine below_drewN ?_ _) | (with_reducible assumption) | (with_reducible refine bel_step (by with_reducible assumption) ?_ (by first | omega | (simp; done) | (simp; omega)))))⟩
  · rw [newC_go (rateB_iff.2 (by omega)) (by omega) (by omega)]
    by_cases k5 : n2 = n
    · rw [if_pos (by omega)]
      obtain ⟨V, hV⟩ : ∃ V, clocksB p zs ys = V := ⟨_, rfl⟩
      rw [hV]
      subst k5
      obtain ⟨b, off, rfl, hbl, hcell⟩ := h.2.2.2.2 (by omega)
      obtain ⟨b2, off2, rfl, hbl2, hcell2⟩ := h2.2.2.2.2 (by omega)
      have L1 := Lib.hid l1
      have L2 := Lib.hid l2
      have HC := Lib.hid hcell
      have HC2 := Lib.hid hcell2
      have E5 := Lib.hid hV
      clear h h2 l1 l2 hcell hcell2 hV
      go_enter Tryd.func9, Tryd.ntmps9
      go_wp2_with fail
      go_loopw [7] (fun iv wr => ∃ i : Nat, i ≤ n2 ∧ iv = .int .i64 i ∧ clocksB p (zs.drop i) (ys.drop i) = V ∧ wr = w) (fun iv _ => n2 - (intOf iv).toNat)
      case atStart => exact ⟨0, by omega, rfl, by simpa using E5.out, rfl⟩
      case round =>
        obtain ⟨i, hi, rfl, hI, rfl⟩ := hrel
        by_cases d1 : i < n2
        · obtain ⟨s, hs⟩ : ∃ z, zs[i]? = some z := ⟨_, List.getElem?_eq_getElem (by rw [L1.out]; omega)⟩
          obtain ⟨r, hr⟩ : ∃ z, ys[i]? = some z := ⟨_, List.getElem?_eq_getElem (by rw [L2.out]; omega)⟩
          have x0 := HC.out i s hs 0 _ rfl
          have x1 := HC2.out i r hr 0 _ rfl
          simp only [Nat.mul_one, Nat.add_zero] at x0 x1
          rw [clocksB_step hs hr] at hI
          have q0 : (0 : Int) ≤ (i : Int) := by omega
          have q1 : (i : Int) < (n2 : Int) := by omega
          have u1 := IntWalk.i64_in (-p) (by omega)
          have hd : (s < 0 ∧ V = false) ∨ (¬ s < 0 ∧ 1000000 < s ∧ V = false) ∨ (¬ s < 0 ∧ ¬ 1000000 < s ∧ r < -p ∧ V = false) ∨ (¬ s < 0 ∧ ¬ 1000000 < s ∧ ¬ r < -p ∧ p < r ∧ V = false) ∨
              (¬ s < 0 ∧ ¬ 1000000 < s ∧ ¬ r < -p ∧ ¬ p < r ∧ clocksB p (zs.drop (i + 1)) (ys.drop (i + 1)) = V) := by
            by_cases i1 : s < 0
            · exact .inl ⟨i1, by rw [← hI, decide_eq_false (by omega)]; rfl⟩
            by_cases i2 : 1000000 < s
            · exact .inr (.inl ⟨i1, i2, by rw [← hI, decide_eq_false (show ¬ s ≤ 1000000 by omega)]; simp⟩)
            by_cases i3 : r < -p
            · exact .inr (.inr (.inl ⟨i1, i2, i3, by rw [← hI, decide_eq_false (show ¬ -p ≤ r by omega)]; simp⟩))
            by_cases i4 : p < r
            · exact .inr (.inr (.inr (.inl ⟨i1, i2, i3, i4, by rw [← hI, decide_eq_false (show ¬ r ≤ p by omega)]; simp⟩)))
            · exact .inr (.inr (.inr (.inr ⟨i1, i2, i3, i4, by rw [← hI, decide_eq_true (show 0 ≤ s by omega), decide_eq_true (show s ≤ 1000000 by omega), decide_eq_true (show -p ≤ r by omega), decide_eq_true (show r ≤ p by omega)]; rfl⟩)))
          clear hs hr hI
          rcases hd with ⟨e1, rfl⟩ | ⟨e1, e2, rfl⟩ | ⟨e1, e2, e3, rfl⟩ | ⟨e1, e2, e3, e4, rfl⟩ | ⟨e1, e2, e3, e4, e5⟩
          iterate 4
            · go_wp2_with fail
              go_ret
              exact ⟨rfl, (by repeat (first | with_reducible exact Below.refl _ _ | (with_reducible refine Below.alloc ?_ (by first | omega | (simp; done) | (simp; omega)) _) | (with_reducible refine Below.setCell ?_ (by first | omega | (simp; done) | (simp; omega)) _) | (with_reducible refine Below.drew ?_) | (with_reducible refine below_drewN ?_ _) | (with_reducible assumption) | (with_reducible refine bel_step (by with_reducible assumption) ?_ (by first | omega | (simp; done) | (simp; omega)))))⟩
          · have E6 := Lib.hid e5
            clear e5
            go_wp2_with fail
            go_roundw
            case rel => exact ⟨i + 1, by omega, by go_num, E6.out, (by trivial)⟩
            case measure => simp [intOf]; omega
        · rw [clocksB_nil (by rw [L1.out]; omega)] at hI
          subst hI
          go_wp2_with fail
          go_ret
          exact ⟨rfl, (by repeat (first | with_reducible exact Below.refl _ _ | (with_reducible refine Below.alloc ?_ (by first | omega | (simp; done) | (simp; omega)) _) | (with_reducible refine Below.setCell ?_ (by first | omega | (simp; done) | (simp; omega)) _) | (with_reducible refine Below.drew ?_) | (with_reducible refine below_drewN ?_ _) | (with_reducible assumption) | (with_reducible refine bel_step (by with_reducible assumption) ?_ (by first | omega | (simp; done) | (simp; omega)))))⟩
    · rw [if_neg (by omega)]
      have k6 : ((n2 : Int) != (n : Int)) = true := by simp; omega
      clear h h2 l1 l2
      go_enter Tryd.func9, Tryd.ntmps9
      go_wp2_with fail
      go_ret
      exact ⟨rfl, (by repeat (first | with_reducible exact Below.refl _ _ | (with_reducible refine Below.alloc ?_ (by first | omega | (simp; done) | (simp; omega)) _) | (with_reducible refine Below.setCell ?_ (by first | omega | (simp; done) | (simp; omega)) _) | (with_reducible refine Below.drew ?_) | (with_reducible refine below_drewN ?_ _) | (with_reducible assumption) | (with_reducible refine bel_step (by with_reducible assumption) ?_ (by first | omega | (simp; done) | (simp; omega)))))⟩
end Go.Proofs.YtloniibmmajlbaaDoor
