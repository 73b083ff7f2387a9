/- Edges checked, by the program and by the reference, walked. -/
import Derived.Test.YtfjpfkejajgkbaaDoorHG1
import Derived.Test.YtfjpfkejajgkbaaDoorHRef1
namespace Go.Proofs.YtfjpfkejajgkbaaDoor
open Go.RowKit
set_option linter.unusedVariables false
set_option linter.unusedSimpArgs false
theorem Node_any (n i : Int) (w : World) : Calls Tryd.prog 34 #[.int .i64 n, .int .i64 i] w fun e w' => e = .returned (.bool (nodeB n i)) ∧ w = w' := by
  go_enter Tryd.func34, Tryd.ntmps34
  go_wp2
  all_goals
    go_ret
    exact ⟨ret_bool (by simp [nodeB]; try omega), rfl⟩
set_option maxHeartbeats 2000000 in
theorem bounds_Check (N : Int) (A : Option Addr) (n c : Nat) (zs : List REdge) (w : World) (hz : IsRecs w REdge.cells REdge.ok 4 A n c zs) :
    Calls Tryd.prog 48 #[.int .i64 N, .slice A n c] w fun e w' => e = .returned (errV (edgesC N zs)) ∧ Below w.heap.size w w' := by
  obtain ⟨l1, l2, l3, l4, l5⟩ := hz
  unfold maxLen at l3
  have L1 := Lib.hid l1
  have L5 := Lib.hid l5
  clear l4 l5
  by_cases c1 : N < 1
  · have s1 := Lib.hid (show edgesC N zs = 1 by unfold edgesC; rw [if_pos (.inl c1)])
    clear l1
    go_enter Tryd.func48, Tryd.ntmps48
    go_wp2_with fail
    go_ret
    exact ⟨by rw [s1.out]; rfl, Below.refl _ _⟩
  by_cases c2 : 6 < N
  · have s1 := Lib.hid (show edgesC N zs = 1 by unfold edgesC; rw [if_pos (.inr c2)])
    clear l1
    go_enter Tryd.func48, Tryd.ntmps48
    go_wp2_with fail
    go_ret
    exact ⟨by rw [s1.out]; rfl, Below.refl _ _⟩
  by_cases c3 : 40 < n
  · have s1 := Lib.hid (show edgesC N zs = 4 by unfold edgesC; rw [if_neg (by omega), if_pos (by omega)])
    have c4 : decide ((40 : Int) < (n : Int)) = true := by simp; omega
    clear l1
    go_enter Tryd.func48, Tryd.ntmps48
    go_wp2_with fail
    go_ret
    exact ⟨by rw [s1.out]; rfl, Below.refl _ _⟩
  have S1 := Lib.hid (show edgesC N zs = edgesGo N zs by unfold edgesC; rw [if_neg (by omega), if_neg (by omega)])
  have c4 : decide ((40 : Int) < (n : Int)) = false := by simp; omega
  clear l1
  go_enter Tryd.func48, Tryd.ntmps48
  go_wp2_with fail
  go_loopw [22] (fun kv wr => ∃ k : Nat, kv = .int .i64 k ∧ k ≤ n ∧ edgesGo N (zs.drop k) = edgesGo N zs ∧ Below w.heap.size w wr) (fun kv _ => n - (intOf kv).toNat)
  case atStart => exact ⟨0, rfl, by omega, rfl, Below.refl _ _⟩
  case round =>
    obtain ⟨k, rfl, hk, hd, hB⟩ := hrel
    have HD := Lib.hid hd
    have HB := Lib.hid hB
    have hzw := hB.size
    clear hd hB
    by_cases d1 : k < n
    · obtain ⟨b, off, rfl, hb, hc⟩ := L5.out (by omega)
      obtain ⟨z, hz⟩ : ∃ z, zs[k]? = some z := ⟨_, List.getElem?_eq_getElem (by rw [L1.out]; omega)⟩
      have x0 := (HB.out.cell (p := ⟨b, off + k * 4, none⟩) hb).trans (hc k z hz 0 _ rfl)
      have x1 := (HB.out.cell (p := ⟨b, off + k * 4 + 1, none⟩) hb).trans (hc k z hz 1 _ rfl)
      have x2 := (HB.out.cell (p := ⟨b, off + k * 4 + 2, none⟩) hb).trans (hc k z hz 2 _ rfl)
      have x3 := (HB.out.cell (p := ⟨b, off + k * 4 + 3, none⟩) hb).trans (hc k z hz 3 _ rfl)
      have HG := Lib.hid ((edgesGo_at (n := N) hz).symm.trans HD.out)
      have n2' : b < wr.heap.size := by omega
      clear hc hz
      by_cases e1 : nodeB N z.a = true
      · by_cases e2 : nodeB N z.b = true
        · by_cases e3 : z.a = z.b
          · have s1 := Lib.hid (show edgesGo N zs = 3 by rw [← HG.out, show edgeC N z = 3 by simp [edgeC, e1, e2, e3]]; rfl)
            have e4 : (z.a == z.b) = true := by simpa using e3
            clear e3
            go_wp2_with (go_at_call 34; refine (Node_any _ _ _).mono ?_; rintro e w' ⟨rfl, rfl⟩)
            go_ret
            exact ⟨by rw [S1.out, s1.out]; rfl, by have := HB.out; exact (by repeat (first | with_reducible exact Below.refl _ _ | (with_reducible refine Below.alloc ?_ (by first | omega | (simp; done) | (simp; omega)) _) | (with_reducible refine Below.setCell ?_ (by first | omega | (simp; done) | (simp; omega)) _) | (with_reducible refine Below.drew ?_) | (with_reducible refine below_drewN ?_ _) | (with_reducible assumption) | (with_reducible refine bel_step (by with_reducible assumption) ?_ (by first | omega | (simp; done) | (simp; omega)))))⟩
          · have e4 : (z.a == z.b) = false := by simpa using e3
            by_cases e5 : rightB z.lo z.hi = true
            · have s1 := Lib.hid (show edgeC N z = 0 by simp [edgeC, e1, e2, e3, e5, okC])
              have s2 := Lib.hid (show edgesGo N (zs.drop (k + 1)) = edgesGo N zs by rw [← HG.out, if_pos s1.out])
              clear e3
              go_wp2_with (first | (go_at_call 34; refine (Node_any _ _ _).mono ?_; rintro e w' ⟨rfl, rfl⟩) | (go_at_call 39; refine (Right_any _ _ _).mono ?_; rintro e w1 ⟨rfl, hb1⟩; obtain ⟨hc1, hf1⟩ := bcell hb1; have hz1 := hb1.size; (try simp at hz1); (try have q1_0_0_0 : w.heap.size < w1.heap.size := by omega); (try have q1_0_0_2 : w.heap.size < w1.heap.size + 1 + 1 := by omega); (try have q1_0_0_3 : w.heap.size < w1.heap.size + 1 + 1 + 1 := by omega); (try have q1_0_1_0 : w.heap.size + 1 < w1.heap.size := by omega); (try have q1_0_1_2 : w.heap.size + 1 < w1.heap.size + 1 + 1 := by omega); (try have q1_0_1_3 : w.heap.size + 1 < w1.heap.size + 1 + 1 + 1 := by omega); (try have q1_0_2_0 : w.heap.size + 1 + 1 < w1.heap.size := by omega); (try have q1_0_2_2 : w.heap.size + 1 + 1 < w1.heap.size + 1 + 1 := by omega); (try have q1_0_2_3 : w.heap.size + 1 + 1 < w1.heap.size + 1 + 1 + 1 := by omega); (try have q1_0_3_0 : w.heap.size + 1 + 1 + 1 < w1.heap.size := by omega); (try have q1_0_3_2 : w.heap.size + 1 + 1 + 1 < w1.heap.size + 1 + 1 := by omega); (try have q1_0_3_3 : w.heap.size + 1 + 1 + 1 < w1.heap.size + 1 + 1 + 1 := by omega)))
              go_roundw
              case rel => exact ⟨k + 1, by go_num, by omega, s2.out, by have := HB.out; exact (by repeat (first | with_reducible exact Below.refl _ _ | (with_reducible refine Below.alloc ?_ (by first | omega | (simp; done) | (simp; omega)) _) | (with_reducible refine Below.setCell ?_ (by first | omega | (simp; done) | (simp; omega)) _) | (with_reducible refine Below.drew ?_) | (with_reducible refine below_drewN ?_ _) | (with_reducible assumption) | (with_reducible refine bel_step (by with_reducible assumption) ?_ (by first | omega | (simp; done) | (simp; omega)))))⟩
              case measure => simp [intOf]; omega
            · have s1 := Lib.hid (show edgesGo N zs = 1 by rw [← HG.out, show edgeC N z = 1 by simp [edgeC, e1, e2, e3, e5, okC]]; rfl)
              have e5 : rightB z.lo z.hi = false := by simpa using e5
              clear e3
              go_wp2_with (first | (go_at_call 34; refine (Node_any _ _ _).mono ?_; rintro e w' ⟨rfl, rfl⟩) | (go_at_call 39; refine (Right_any _ _ _).mono ?_; rintro e w1 ⟨rfl, hb1⟩; obtain ⟨hc1, hf1⟩ := bcell hb1; have hz1 := hb1.size; (try simp at hz1); (try have q1_0_0_0 : w.heap.size < w1.heap.size := by omega); (try have q1_0_0_2 : w.heap.size < w1.heap.size + 1 + 1 := by omega); (try have q1_0_0_3 : w.heap.size < w1.heap.size + 1 + 1 + 1 := by omega); (try have q1_0_1_0 : w.heap.size + 1 < w1.heap.size := by omega); (try have q1_0_1_2 : w.heap.size + 1 < w1.heap.size + 1 + 1 := by omega); (try have q1_0_1_3 : w.heap.size + 1 < w1.heap.size + 1 + 1 + 1 := by omega); (try have q1_0_2_0 : w.heap.size + 1 + 1 < w1.heap.size := by omega); (try have q1_0_2_2 : w.heap.size + 1 + 1 < w1.heap.size + 1 + 1 := by omega); (try have q1_0_2_3 : w.heap.size + 1 + 1 < w1.heap.size + 1 + 1 + 1 := by omega); (try have q1_0_3_0 : w.heap.size + 1 + 1 + 1 < w1.heap.size := by omega); (try have q1_0_3_2 : w.heap.size + 1 + 1 + 1 < w1.heap.size + 1 + 1 := by omega); (try have q1_0_3_3 : w.heap.size + 1 + 1 + 1 < w1.heap.size + 1 + 1 + 1 := by omega)))
              go_ret
              exact ⟨by rw [S1.out, s1.out]; rfl, by have := HB.out; exact (by repeat (first | with_reducible exact Below.refl _ _ | (with_reducible refine Below.alloc ?_ (by first | omega | (simp; done) | (simp; omega)) _) | (with_reducible refine Below.setCell ?_ (by first | omega | (simp; done) | (simp; omega)) _) | (with_reducible refine Below.drew ?_) | (with_reducible refine below_drewN ?_ _) | (with_reducible assumption) | (with_reducible refine bel_step (by with_reducible assumption) ?_ (by first | omega | (simp; done) | (simp; omega)))))⟩
        · have s1 := Lib.hid (show edgesGo N zs = 1 by rw [← HG.out, show edgeC N z = 1 by simp [edgeC, e1, e2]]; rfl)
          have e2 : nodeB N z.b = false := by simpa using e2
          go_wp2_with (go_at_call 34; refine (Node_any _ _ _).mono ?_; rintro e w' ⟨rfl, rfl⟩)
          go_ret
          exact ⟨by rw [S1.out, s1.out]; rfl, by have := HB.out; exact (by repeat (first | with_reducible exact Below.refl _ _ | (with_reducible refine Below.alloc ?_ (by first | omega | (simp; done) | (simp; omega)) _) | (with_reducible refine Below.setCell ?_ (by first | omega | (simp; done) | (simp; omega)) _) | (with_reducible refine Below.drew ?_) | (with_reducible refine below_drewN ?_ _) | (with_reducible assumption) | (with_reducible refine bel_step (by with_reducible assumption) ?_ (by first | omega | (simp; done) | (simp; omega)))))⟩
      · have s1 := Lib.hid (show edgesGo N zs = 1 by rw [← HG.out, show edgeC N z = 1 by simp [edgeC, e1]]; rfl)
        have e1 : nodeB N z.a = false := by simpa using e1
        go_wp2_with (go_at_call 34; refine (Node_any _ _ _).mono ?_; rintro e w' ⟨rfl, rfl⟩)
        go_ret
        exact ⟨by rw [S1.out, s1.out]; rfl, by have := HB.out; exact (by repeat (first | with_reducible exact Below.refl _ _ | (with_reducible refine Below.alloc ?_ (by first | omega | (simp; done) | (simp; omega)) _) | (with_reducible refine Below.setCell ?_ (by first | omega | (simp; done) | (simp; omega)) _) | (with_reducible refine Below.drew ?_) | (with_reducible refine below_drewN ?_ _) | (with_reducible assumption) | (with_reducible refine bel_step (by with_reducible assumption) ?_ (by first | omega | (simp; done) | (simp; omega)))))⟩
    · have s1 := Lib.hid (show edgesGo N zs = 0 by rw [← HD.out]; exact edgesGo_end (by rw [L1.out]; omega))
      go_wp2_with fail
      go_ret
      exact ⟨by rw [S1.out, s1.out]; rfl, HB.out⟩
end Go.Proofs.YtfjpfkejajgkbaaDoor
