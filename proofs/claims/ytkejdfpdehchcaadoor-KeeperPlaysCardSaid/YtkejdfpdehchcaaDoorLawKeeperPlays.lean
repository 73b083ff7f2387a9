/- Proved: the tied card of noonlaw3.KeeperPlays: it answers true for every input and leaves its arguments as they were. The card's own condition: errors.errorType holds what the program's text lays there. -/
import Derived.Test.YtkejdfpdehchcaaDoorDoor
import Derived.Test.YtkejdfpdehchcaaDoorRKeeper
namespace Go.Proofs.YtkejdfpdehchcaaDoor.lKeeperPlays
open Go.ChangeShapes Go.WideShapes Go.ChangeAt Go.RowKit
set_option linter.unusedVariables false
set_option linter.unusedSimpArgs false
structure KInv (n : Nat) (ka ke kw : Int) (i : Nat) : Prop where
  a1 : i ≤ n
  a2 : i ≤ 80
  a3 : -1 ≤ ka
  a4 : ka ≤ ke - 1
  a5 : ke ≤ 1000001000000
  a6 : 0 ≤ kw
  a7 : kw ≤ i
structure V2 (n j : Nat) (x y : Int) : Prop where
  b1 : j ≤ n
  b2 : j ≤ 2
  x1 : i64B x
  y1 : i64B y
theorem i64_0 : i64B 0 := by unfold i64B; omega
theorem V2.one {n j : Nat} {x y u : Int} (h : V2 n j x y) (hj : j < n) (h2 : j < 2) (hu : i64B u) : V2 n (j + 1) (if j = 0 then u else x) (if j = 0 then y else u) := by
  obtain ⟨p1, p2, p3, p4⟩ := h
  refine ⟨by omega, by omega, ?_, ?_⟩ <;> split <;> assumption
theorem grownK {w w' : World} {g g' : Nat} {a b c d : Int} (h : KeepAt w g a b c d) (ht : Touched g' w w') (hne : g ≠ g') : KeepAt w' g a b c d := (ht.block g h.lt (by simp; exact hne)).trans h
theorem grownR {w w' : World} {g g' : Nat} {a b c d : Int} (h : RKeepAt w g a b c d) (ht : Touched g' w w') (hne : g ≠ g') : RKeepAt w' g a b c d := (ht.block g h.lt (by simp; exact hne)).trans h
theorem farK {w : World} {g : Nat} {a b c d : Int} (h : KeepAt w g a b c d) {p : Addr} (hp : g ≠ p.block) (u : Value) : KeepAt (w.setCell p u) g a b c d := (Below.heap_setCell w p u g hp).trans h
set_option maxRecDepth 100000 in
set_option maxHeartbeats 16000000 in
theorem walk (a0 : Int) (a1 : Option Addr) (n1 c1 : Nat) (z1 : List RInts) (w : World) (h0 : -9223372036854775808 ≤ a0 ∧ a0 ≤ 9223372036854775807) (h1 : IsRecs w RInts.cells (RInts.ok w) 1 a1 n1 c1 z1) (hg : HandleAt w) :
    Calls Tryd.prog 3 #[.int .i64 a0, .slice a1 n1 c1] w fun e w' => e = .returned (.bool true) ∧ Below w.heap.size w w' := by
  have HG := Lib.hid hg
  clear hg
  obtain ⟨l1, l2, l3, l4, l5⟩ := h1
  unfold maxLen at l3
  have L1 := Lib.hid l1
  have L4 := Lib.hid l4
  have L5 := Lib.hid l5
  clear l1 l4 l5
  by_cases c1 : a0 < 1
  · go_enter Tryd.func3, Tryd.ntmps3
    go_wp2_with fail
    refine (keeper_New_no _ _ (.inl c1)).mono ?_
    rintro e w' ⟨rfl, rfl⟩
    go_wp2_with fail
    (try (go_at_call 16; refine (Error_n 1 _ (by omega) _ (HG.out.below (by repeat (first | with_reducible exact Below.refl _ _ | (with_reducible refine Below.alloc ?_ (by first | omega | (simp; done) | (simp; omega)) _) | (with_reducible refine Below.setCell ?_ (by first | omega | (simp; done) | (simp; omega)) _) | (with_reducible refine Below.drew ?_) | (with_reducible refine below_drewN ?_ _) | (with_reducible assumption) | (with_reducible refine bel_step (by with_reducible assumption) ?_ (by first | omega | (simp; done) | (simp; omega))))))).mono ?_; rintro e w1 ⟨rfl, hb1⟩; obtain ⟨hc1, hf1⟩ := bcell hb1; have hz1 := hb1.size; (try simp at hz1); (try have q1_0_0_0 : w.heap.size < w1.heap.size := by omega); (try have q1_0_0_2 : w.heap.size < w1.heap.size + 1 + 1 := by omega); (try have q1_0_0_3 : w.heap.size < w1.heap.size + 1 + 1 + 1 := by omega); (try have q1_0_1_0 : w.heap.size + 1 < w1.heap.size := by omega); (try have q1_0_1_2 : w.heap.size + 1 < w1.heap.size + 1 + 1 := by omega); (try have q1_0_1_3 : w.heap.size + 1 < w1.heap.size + 1 + 1 + 1 := by omega); (try have q1_0_2_0 : w.heap.size + 1 + 1 < w1.heap.size := by omega); (try have q1_0_2_2 : w.heap.size + 1 + 1 < w1.heap.size + 1 + 1 := by omega); (try have q1_0_2_3 : w.heap.size + 1 + 1 < w1.heap.size + 1 + 1 + 1 := by omega); (try have q1_0_3_0 : w.heap.size + 1 + 1 + 1 < w1.heap.size := by omega); (try have q1_0_3_2 : w.heap.size + 1 + 1 + 1 < w1.heap.size + 1 + 1 := by omega); (try have q1_0_3_3 : w.heap.size + 1 + 1 + 1 < w1.heap.size + 1 + 1 + 1 := by omega); (try go_wp2_with fail)))
    go_ret
    exact ⟨rfl, (by repeat (first | with_reducible exact Below.refl _ _ | (with_reducible refine Below.alloc ?_ (by first | omega | (simp; done) | (simp; omega)) _) | (with_reducible refine Below.setCell ?_ (by first | omega | (simp; done) | (simp; omega)) _) | (with_reducible refine Below.drew ?_) | (with_reducible refine below_drewN ?_ _) | (with_reducible assumption) | (with_reducible refine bel_step (by with_reducible assumption) ?_ (by first | omega | (simp; done) | (simp; omega)))))⟩
  by_cases c2 : 1000000 < a0
  · go_enter Tryd.func3, Tryd.ntmps3
    go_wp2_with fail
    refine (keeper_New_no _ _ (.inr c2)).mono ?_
    rintro e w' ⟨rfl, rfl⟩
    go_wp2_with fail
    (try (go_at_call 16; refine (Error_n 1 _ (by omega) _ (HG.out.below (by repeat (first | with_reducible exact Below.refl _ _ | (with_reducible refine Below.alloc ?_ (by first | omega | (simp; done) | (simp; omega)) _) | (with_reducible refine Below.setCell ?_ (by first | omega | (simp; done) | (simp; omega)) _) | (with_reducible refine Below.drew ?_) | (with_reducible refine below_drewN ?_ _) | (with_reducible assumption) | (with_reducible refine bel_step (by with_reducible assumption) ?_ (by first | omega | (simp; done) | (simp; omega))))))).mono ?_; rintro e w1 ⟨rfl, hb1⟩; obtain ⟨hc1, hf1⟩ := bcell hb1; have hz1 := hb1.size; (try simp at hz1); (try have q1_0_0_0 : w.heap.size < w1.heap.size := by omega); (try have q1_0_0_2 : w.heap.size < w1.heap.size + 1 + 1 := by omega); (try have q1_0_0_3 : w.heap.size < w1.heap.size + 1 + 1 + 1 := by omega); (try have q1_0_1_0 : w.heap.size + 1 < w1.heap.size := by omega); (try have q1_0_1_2 : w.heap.size + 1 < w1.heap.size + 1 + 1 := by omega); (try have q1_0_1_3 : w.heap.size + 1 < w1.heap.size + 1 + 1 + 1 := by omega); (try have q1_0_2_0 : w.heap.size + 1 + 1 < w1.heap.size := by omega); (try have q1_0_2_2 : w.heap.size + 1 + 1 < w1.heap.size + 1 + 1 := by omega); (try have q1_0_2_3 : w.heap.size + 1 + 1 < w1.heap.size + 1 + 1 + 1 := by omega); (try have q1_0_3_0 : w.heap.size + 1 + 1 + 1 < w1.heap.size := by omega); (try have q1_0_3_2 : w.heap.size + 1 + 1 + 1 < w1.heap.size + 1 + 1 := by omega); (try have q1_0_3_3 : w.heap.size + 1 + 1 + 1 < w1.heap.size + 1 + 1 + 1 := by omega); (try go_wp2_with fail)))
    go_ret
    exact ⟨rfl, (by repeat (first | with_reducible exact Below.refl _ _ | (with_reducible refine Below.alloc ?_ (by first | omega | (simp; done) | (simp; omega)) _) | (with_reducible refine Below.setCell ?_ (by first | omega | (simp; done) | (simp; omega)) _) | (with_reducible refine Below.drew ?_) | (with_reducible refine below_drewN ?_ _) | (with_reducible assumption) | (with_reducible refine bel_step (by with_reducible assumption) ?_ (by first | omega | (simp; done) | (simp; omega)))))⟩
  have c3 : 1 ≤ a0 := by omega
  have c4 : a0 ≤ 1000000 := by omega
  clear h0
  go_enter Tryd.func3, Tryd.ntmps3
  go_wp2_with fail
  refine (keeper_New_ok _ _ (by omega) (by omega)).mono ?_
  rintro e w' ⟨rfl, rfl⟩
  go_wp2_with fail
  (try (go_at_call 16; refine (Error_nil _ _ (HG.out.below (by repeat (first | with_reducible exact Below.refl _ _ | (with_reducible refine Below.alloc ?_ (by first | omega | (simp; done) | (simp; omega)) _) | (with_reducible refine Below.setCell ?_ (by first | omega | (simp; done) | (simp; omega)) _) | (with_reducible refine Below.drew ?_) | (with_reducible refine below_drewN ?_ _) | (with_reducible assumption) | (with_reducible refine bel_step (by with_reducible assumption) ?_ (by first | omega | (simp; done) | (simp; omega))))))).mono ?_; rintro e w1 ⟨rfl, hb1⟩; obtain ⟨hc1, hf1⟩ := bcell hb1; have hz1 := hb1.size; (try simp at hz1); (try have q1_0_0_0 : w.heap.size < w1.heap.size := by omega); (try have q1_0_0_2 : w.heap.size < w1.heap.size + 1 + 1 := by omega); (try have q1_0_0_3 : w.heap.size < w1.heap.size + 1 + 1 + 1 := by omega); (try have q1_0_1_0 : w.heap.size + 1 < w1.heap.size := by omega); (try have q1_0_1_2 : w.heap.size + 1 < w1.heap.size + 1 + 1 := by omega); (try have q1_0_1_3 : w.heap.size + 1 < w1.heap.size + 1 + 1 + 1 := by omega); (try have q1_0_2_0 : w.heap.size + 1 + 1 < w1.heap.size := by omega); (try have q1_0_2_2 : w.heap.size + 1 + 1 < w1.heap.size + 1 + 1 := by omega); (try have q1_0_2_3 : w.heap.size + 1 + 1 < w1.heap.size + 1 + 1 + 1 := by omega); (try have q1_0_3_0 : w.heap.size + 1 + 1 + 1 < w1.heap.size := by omega); (try have q1_0_3_2 : w.heap.size + 1 + 1 + 1 < w1.heap.size + 1 + 1 := by omega); (try have q1_0_3_3 : w.heap.size + 1 + 1 + 1 < w1.heap.size + 1 + 1 + 1 := by omega); (try go_wp2_with fail)))
  have hB1 : Below w.heap.size w w1 := (by repeat (first | with_reducible exact Below.refl _ _ | (with_reducible refine Below.alloc ?_ (by first | omega | (simp; done) | (simp; omega)) _) | (with_reducible refine Below.setCell ?_ (by first | omega | (simp; done) | (simp; omega)) _) | (with_reducible refine Below.drew ?_) | (with_reducible refine below_drewN ?_ _) | (with_reducible assumption) | (with_reducible refine bel_step (by with_reducible assumption) ?_ (by first | omega | (simp; done) | (simp; omega)))))
  have hK1 := (KeepAt.new w a0 (-1) 0 0).below hb1 (by simp)
  have HB1 := Lib.hid hB1
  have HK1 := Lib.hid hK1
  have hzz : w.heap.size < w1.heap.size := by omega
  clear hc1 hf1 hb1 hB1 hK1
  go_loopw [8, 10] (fun tv iv wr => ∃ (ka ke kw : Int) (i : Nat), tv = .bool true ∧ iv = .int .i64 i ∧ KInv n1 ka ke kw i ∧ KeepAt wr w.heap.size a0 ka ke kw ∧ RKeepAt wr w1.heap.size a0 ka ke kw ∧ Below w.heap.size w wr)
    (fun _ iv _ => n1 - (intOf iv).toNat)
  case atStart => exact ⟨-1, 0, 0, 0, rfl, rfl, ⟨by omega, by omega, by omega, by omega, by omega, by omega, by omega⟩, (HK1.out.below ((Below.refl _ _).alloc (Nat.le_refl _) _) hzz), RKeepAt.new _ _ _ _ _, HB1.out.alloc (by omega) _⟩
  case round =>
    obtain ⟨ka, ke, kw, i, rfl, rfl, hI, hK, hR, hB⟩ := hrel
    obtain ⟨j1, j2, j3, j4, j5, j6, j7⟩ := hI
    have HK := Lib.hid hK
    have HR := Lib.hid hR
    have HB := Lib.hid hB
    have hzw := hB.size
    have glt := hK.lt
    have grt := hR.lt
    have gne : w.heap.size ≠ w1.heap.size := by omega
    clear hK hR hB
    by_cases d1 : i < n1
    · by_cases d2 : i < 80
      · have d3 : decide ((i : Int) < 80) = true := by simp; omega
        have d4 : decide ((i : Int) < (n1 : Int)) = true := by simp; omega
        obtain ⟨b, off, rfl, hb, hc⟩ := L5.out (by omega)
        obtain ⟨row, hrow⟩ : ∃ row, z1[i]? = some row := ⟨_, List.getElem?_eq_getElem (by rw [L1.out]; omega)⟩
        have hok : RInts.ok w row := L4.out row (List.mem_of_getElem? hrow)
        have hcell : w.cell? ⟨b, off + i, none⟩ = some (.slice row.A row.n row.c) := by
          have := hc i row hrow 0 _ rfl
          simpa using this
        have hcr : wr.cell? ⟨b, off + i, none⟩ = some (.slice row.A row.n row.c) := by rw [HB.out.cell hb]; exact hcell
        have hbr : b < wr.heap.size := by omega
        obtain ⟨A, rn, rc, rz⟩ := row
        obtain ⟨m1, m2, m3, m4, m5⟩ := hok
        dsimp only at m1 m2 m3 m4 m5 hcr
        unfold maxLen at m3
        have M1 := Lib.hid m1
        have M4 := Lib.hid m4
        have M5 := Lib.hid m5
        clear hc hrow hcell m1 m4 m5
        go_wp2_with fail
        obtain ⟨wo, rfl⟩ : ∃ wo : World, wo = wr := ⟨_, rfl⟩
        go_loopw [12] (fun jv w2 => ∃ (j : Nat) (x y : Int), jv = .int .i64 j ∧ V2 rn j x y ∧ w2 = wo.alloc (.cells #[.int .i64 x, .int .i64 y] 32)) (fun jv _ => 2 - (intOf jv).toNat)
        case atStart => exact ⟨0, 0, 0, rfl, ⟨by omega, by omega, i64_0, i64_0⟩, rfl⟩
        case round =>
          obtain ⟨j, x, y, rfl, hV, rfl⟩ := hrel
          have v1 := hV.b1
          have v2 := hV.b2
          by_cases e0 : j < rn ∧ j < 2
          · obtain ⟨e1, e2⟩ := e0
            obtain ⟨b', off', rfl, hb', hc'⟩ := M5.out (by omega)
            obtain ⟨u, hu⟩ : ∃ u, rz[j]? = some u := ⟨_, List.getElem?_eq_getElem (by rw [M1.out]; omega)⟩
            have huu : i64B u := M4.out u (List.mem_of_getElem? hu)
            have hcell2 : wo.cell? ⟨b', off' + j, none⟩ = some (.int .i64 u) := by
              rw [HB.out.cell hb']
              have := hc' j u hu 0 _ rfl
              simpa using this
            have hb2 : b' < wo.heap.size := by omega
            have HN := Lib.hid (hV.one e1 e2 huu)
            clear hc' hu hV
            have hj : j = 0 ∨ j = 1 := by omega
            rcases hj with rfl | rfl
            all_goals
              (try simp only [Nat.add_zero] at hcell2)
              go_wp2_with fail
              go_roundw
              case rel => exact ⟨_, _, _, by go_num, HN.out, rfl⟩
              case measure => simp [intOf]
          · have xb := hV.x1
            have yb := hV.y1
            clear hV
            unfold i64B at xb yb
            have KE := Lib.hid (HK.out.below ((Below.refl _ _).alloc (Nat.le_refl _) (.cells #[.int .i64 x, .int .i64 y] 32)) (by omega))
            have RE := Lib.hid (HR.out.below ((Below.refl _ _).alloc (Nat.le_refl _) (.cells #[.int .i64 x, .int .i64 y] 32)) (by omega))
            have BE := Lib.hid (HB.out.alloc hzw (.cells #[.int .i64 x, .int .i64 y] 32))
            have hx : (j < rn ∧ 2 ≤ j) ∨ rn ≤ j := by omega
            clear e0
            rcases hx with ⟨e1, e2⟩ | e1
            all_goals
              by_cases x0 : x = 0
              · as_aux_lemma =>
                  subst x0
                  go_wp2_with fail
                  refine (keeper_Crash _ _ _ _ _ _ KE.out (by omega) (by omega)).mono ?_
                  rintro e w5 ⟨rfl, hk5, ht5⟩
                  have hR4 := (grownR RE.out ht5 (by omega))
                  have hB4 : Below w.heap.size w w5 := BE.out.trans (ht5.below (by omega) (by simp; omega))
                  have hz5 := ht5.size
                  have rf := fun o => hR4.fz o
                  have r1 := hR4.c1
                  have r2 := hR4.c2
                  have r3 := hR4.c3
                  have gl5 := hR4.lt
                  simp at hz5
                  have HR4 := Lib.hid hR4
                  have HK4 := Lib.hid hk5
                  clear hk5 ht5 hR4
                  go_wp2_with fail
                  have hR5 := (HR4.out.s1 (ke - 1))
                  have hK5 := farK HK4.out (p := ⟨w1.heap.size, 1, none⟩) (by simp; omega) (.int .i64 (ke - 1))
                  have hB5 : Below w.heap.size w (w5.setCell ⟨w1.heap.size, 1, none⟩ (.int .i64 (ke - 1))) := hB4.setCell (by simp; omega) _
                  have W5 := hK5.c2
                  have W6 := hK5.c3
                  have R5 := hR5.c2
                  have R6 := hR5.c3
                  have HK5 := Lib.hid hK5
                  have HR5 := Lib.hid hR5
                  clear hK5 hR5
                  go_region_held3 (fun w' => w'.cell? ⟨w1.heap.size, 2, none⟩ = some (.int .i64 ke) ∧ w'.cell? ⟨w1.heap.size, 3, none⟩ = some (.int .i64 kw)) (go_keep)
                    (first | (go_at_call 20; refine (keeper_Kept _ _ _ _ _ _ (by first | exact HK5.out | exact KeepAt.drewN HK5.out _)).mono ?_; rintro e w' ⟨rfl, rfl⟩) | (go_at_call 21; refine (keeper_Writes _ _ _ _ _ _ (by first | exact HK5.out | exact KeepAt.drewN HK5.out _)).mono ?_; rintro e w' ⟨rfl, rfl⟩))
                  all_goals
                    go_wp2_with fail
                    go_roundw
                    case rel => exact ⟨ke - 1, ke, kw, i + 1, rfl, by go_num, ⟨by omega, by omega, by omega, by omega, by omega, by omega, by omega⟩, HK5.out, HR5.out, (by repeat (first | with_reducible exact Below.refl _ _ | (with_reducible refine Below.alloc ?_ (by first | omega | (simp; done) | (simp; omega)) _) | (with_reducible refine Below.setCell ?_ (by first | omega | (simp; done) | (simp; omega)) _) | (with_reducible refine Below.drew ?_) | (with_reducible refine below_drewN ?_ _) | (with_reducible assumption) | (with_reducible refine bel_step (by with_reducible assumption) ?_ (by first | omega | (simp; done) | (simp; omega)))))⟩
                    case measure => simp [intOf]; omega
              · by_cases f1 : y < 0
                · as_aux_lemma =>
                    have hB0 := HB.out
                    go_wp2_with fail
                    refine (rkeeper_Read_bad _ _ _ (.inl f1)).mono ?_
                    rintro e w' ⟨rfl, rfl⟩
                    go_wp2_with fail
                    refine (keeper_Read_bad _ _ _ (.inl f1)).mono ?_
                    rintro e w' ⟨rfl, rfl⟩
                    go_wp2_with fail
                    (try (go_at_call 16; refine (Error_n 1 _ (by omega) _ (HG.out.below (by repeat (first | with_reducible exact Below.refl _ _ | (with_reducible refine Below.alloc ?_ (by first | omega | (simp; done) | (simp; omega)) _) | (with_reducible refine Below.setCell ?_ (by first | omega | (simp; done) | (simp; omega)) _) | (with_reducible refine Below.drew ?_) | (with_reducible refine below_drewN ?_ _) | (with_reducible assumption) | (with_reducible refine bel_step (by with_reducible assumption) ?_ (by first | omega | (simp; done) | (simp; omega))))))).mono ?_; rintro e w5 ⟨rfl, hb5⟩; obtain ⟨hc5, hf5⟩ := bcell hb5; have hz5 := hb5.size; (try simp at hz5); (try have q5_0_0_0 : w.heap.size < w5.heap.size := by omega); (try have q5_0_0_2 : w.heap.size < w5.heap.size + 1 + 1 := by omega); (try have q5_0_0_3 : w.heap.size < w5.heap.size + 1 + 1 + 1 := by omega); (try have q5_0_1_0 : w.heap.size + 1 < w5.heap.size := by omega); (try have q5_0_1_2 : w.heap.size + 1 < w5.heap.size + 1 + 1 := by omega); (try have q5_0_1_3 : w.heap.size + 1 < w5.heap.size + 1 + 1 + 1 := by omega); (try have q5_0_2_0 : w.heap.size + 1 + 1 < w5.heap.size := by omega); (try have q5_0_2_2 : w.heap.size + 1 + 1 < w5.heap.size + 1 + 1 := by omega); (try have q5_0_2_3 : w.heap.size + 1 + 1 < w5.heap.size + 1 + 1 + 1 := by omega); (try have q5_0_3_0 : w.heap.size + 1 + 1 + 1 < w5.heap.size := by omega); (try have q5_0_3_2 : w.heap.size + 1 + 1 + 1 < w5.heap.size + 1 + 1 := by omega); (try have q5_0_3_3 : w.heap.size + 1 + 1 + 1 < w5.heap.size + 1 + 1 + 1 := by omega); (try have q5_1_0_0 : w1.heap.size < w5.heap.size := by omega); (try have q5_1_0_2 : w1.heap.size < w5.heap.size + 1 + 1 := by omega); (try have q5_1_1_0 : w1.heap.size + 1 < w5.heap.size := by omega); (try have q5_1_1_2 : w1.heap.size + 1 < w5.heap.size + 1 + 1 := by omega); (try have q5_2_0_0 : w2.heap.size < w5.heap.size := by omega); (try have q5_2_0_2 : w2.heap.size < w5.heap.size + 1 + 1 := by omega); (try have q5_2_1_0 : w2.heap.size + 1 < w5.heap.size := by omega); (try have q5_2_1_2 : w2.heap.size + 1 < w5.heap.size + 1 + 1 := by omega); (try have q5_3_0_0 : w3.heap.size < w5.heap.size := by omega); (try have q5_3_0_2 : w3.heap.size < w5.heap.size + 1 + 1 := by omega); (try have q5_3_1_0 : w3.heap.size + 1 < w5.heap.size := by omega); (try have q5_3_1_2 : w3.heap.size + 1 < w5.heap.size + 1 + 1 := by omega); (try have q5_4_0_0 : w4.heap.size < w5.heap.size := by omega); (try have q5_4_0_2 : w4.heap.size < w5.heap.size + 1 + 1 := by omega); (try have q5_4_1_0 : w4.heap.size + 1 < w5.heap.size := by omega); (try have q5_4_1_2 : w4.heap.size + 1 < w5.heap.size + 1 + 1 := by omega); (try go_wp2_with fail)))
                    have hB5 : Below w.heap.size w w5 := BE.out.trans (hb5.mono (by simp; omega))
                    have hK5 := KE.out.below hb5 (by simp; omega)
                    have hR5 := RE.out.below hb5 (by simp; omega)
                    have W5 := hK5.c2
                    have W6 := hK5.c3
                    have R5 := hR5.c2
                    have R6 := hR5.c3
                    have HK5 := Lib.hid hK5
                    have HR5 := Lib.hid hR5
                    clear hK5 hR5
                    go_region_held3 (fun w' => w'.cell? ⟨w1.heap.size, 2, none⟩ = some (.int .i64 ke) ∧ w'.cell? ⟨w1.heap.size, 3, none⟩ = some (.int .i64 kw)) (go_keep)
                      (first | (go_at_call 20; refine (keeper_Kept _ _ _ _ _ _ (by first | exact HK5.out | exact KeepAt.drewN HK5.out _)).mono ?_; rintro e w' ⟨rfl, rfl⟩) | (go_at_call 21; refine (keeper_Writes _ _ _ _ _ _ (by first | exact HK5.out | exact KeepAt.drewN HK5.out _)).mono ?_; rintro e w' ⟨rfl, rfl⟩))
                    all_goals
                      go_wp2_with fail
                      go_roundw
                      case rel => exact ⟨ka, ke, kw, i + 1, rfl, by go_num, ⟨by omega, by omega, by omega, by omega, by omega, by omega, by omega⟩, HK5.out, HR5.out, (by repeat (first | with_reducible exact Below.refl _ _ | (with_reducible refine Below.alloc ?_ (by first | omega | (simp; done) | (simp; omega)) _) | (with_reducible refine Below.setCell ?_ (by first | omega | (simp; done) | (simp; omega)) _) | (with_reducible refine Below.drew ?_) | (with_reducible refine below_drewN ?_ _) | (with_reducible assumption) | (with_reducible refine bel_step (by with_reducible assumption) ?_ (by first | omega | (simp; done) | (simp; omega)))))⟩
                      case measure => simp [intOf]; omega
                · by_cases f2 : 1000000000000 < y
                  · as_aux_lemma =>
                      have hB0 := HB.out
                      go_wp2_with fail
                      refine (rkeeper_Read_bad _ _ _ (.inr f2)).mono ?_
                      rintro e w' ⟨rfl, rfl⟩
                      go_wp2_with fail
                      refine (keeper_Read_bad _ _ _ (.inr f2)).mono ?_
                      rintro e w' ⟨rfl, rfl⟩
                      go_wp2_with fail
                      (try (go_at_call 16; refine (Error_n 1 _ (by omega) _ (HG.out.below (by repeat (first | with_reducible exact Below.refl _ _ | (with_reducible refine Below.alloc ?_ (by first | omega | (simp; done) | (simp; omega)) _) | (with_reducible refine Below.setCell ?_ (by first | omega | (simp; done) | (simp; omega)) _) | (with_reducible refine Below.drew ?_) | (with_reducible refine below_drewN ?_ _) | (with_reducible assumption) | (with_reducible refine bel_step (by with_reducible assumption) ?_ (by first | omega | (simp; done) | (simp; omega))))))).mono ?_; rintro e w5 ⟨rfl, hb5⟩; obtain ⟨hc5, hf5⟩ := bcell hb5; have hz5 := hb5.size; (try simp at hz5); (try have q5_0_0_0 : w.heap.size < w5.heap.size := by omega); (try have q5_0_0_2 : w.heap.size < w5.heap.size + 1 + 1 := by omega); (try have q5_0_0_3 : w.heap.size < w5.heap.size + 1 + 1 + 1 := by omega); (try have q5_0_1_0 : w.heap.size + 1 < w5.heap.size := by omega); (try have q5_0_1_2 : w.heap.size + 1 < w5.heap.size + 1 + 1 := by omega); (try have q5_0_1_3 : w.heap.size + 1 < w5.heap.size + 1 + 1 + 1 := by omega); (try have q5_0_2_0 : w.heap.size + 1 + 1 < w5.heap.size := by omega); (try have q5_0_2_2 : w.heap.size + 1 + 1 < w5.heap.size + 1 + 1 := by omega); (try have q5_0_2_3 : w.heap.size + 1 + 1 < w5.heap.size + 1 + 1 + 1 := by omega); (try have q5_0_3_0 : w.heap.size + 1 + 1 + 1 < w5.heap.size := by omega); (try have q5_0_3_2 : w.heap.size + 1 + 1 + 1 < w5.heap.size + 1 + 1 := by omega); (try have q5_0_3_3 : w.heap.size + 1 + 1 + 1 < w5.heap.size + 1 + 1 + 1 := by omega); (try have q5_1_0_0 : w1.heap.size < w5.heap.size := by omega); (try have q5_1_0_2 : w1.heap.size < w5.heap.size + 1 + 1 := by omega); (try have q5_1_1_0 : w1.heap.size + 1 < w5.heap.size := by omega); (try have q5_1_1_2 : w1.heap.size + 1 < w5.heap.size + 1 + 1 := by omega); (try have q5_2_0_0 : w2.heap.size < w5.heap.size := by omega); (try have q5_2_0_2 : w2.heap.size < w5.heap.size + 1 + 1 := by omega); (try have q5_2_1_0 : w2.heap.size + 1 < w5.heap.size := by omega); (try have q5_2_1_2 : w2.heap.size + 1 < w5.heap.size + 1 + 1 := by omega); (try have q5_3_0_0 : w3.heap.size < w5.heap.size := by omega); (try have q5_3_0_2 : w3.heap.size < w5.heap.size + 1 + 1 := by omega); (try have q5_3_1_0 : w3.heap.size + 1 < w5.heap.size := by omega); (try have q5_3_1_2 : w3.heap.size + 1 < w5.heap.size + 1 + 1 := by omega); (try have q5_4_0_0 : w4.heap.size < w5.heap.size := by omega); (try have q5_4_0_2 : w4.heap.size < w5.heap.size + 1 + 1 := by omega); (try have q5_4_1_0 : w4.heap.size + 1 < w5.heap.size := by omega); (try have q5_4_1_2 : w4.heap.size + 1 < w5.heap.size + 1 + 1 := by omega); (try go_wp2_with fail)))
                      have hB5 : Below w.heap.size w w5 := BE.out.trans (hb5.mono (by simp; omega))
                      have hK5 := KE.out.below hb5 (by simp; omega)
                      have hR5 := RE.out.below hb5 (by simp; omega)
                      have W5 := hK5.c2
                      have W6 := hK5.c3
                      have R5 := hR5.c2
                      have R6 := hR5.c3
                      have HK5 := Lib.hid hK5
                      have HR5 := Lib.hid hR5
                      clear hK5 hR5
                      go_region_held3 (fun w' => w'.cell? ⟨w1.heap.size, 2, none⟩ = some (.int .i64 ke) ∧ w'.cell? ⟨w1.heap.size, 3, none⟩ = some (.int .i64 kw)) (go_keep)
                        (first | (go_at_call 20; refine (keeper_Kept _ _ _ _ _ _ (by first | exact HK5.out | exact KeepAt.drewN HK5.out _)).mono ?_; rintro e w' ⟨rfl, rfl⟩) | (go_at_call 21; refine (keeper_Writes _ _ _ _ _ _ (by first | exact HK5.out | exact KeepAt.drewN HK5.out _)).mono ?_; rintro e w' ⟨rfl, rfl⟩))
                      all_goals
                        go_wp2_with fail
                        go_roundw
                        case rel => exact ⟨ka, ke, kw, i + 1, rfl, by go_num, ⟨by omega, by omega, by omega, by omega, by omega, by omega, by omega⟩, HK5.out, HR5.out, (by repeat (first | with_reducible exact Below.refl _ _ | (with_reducible refine Below.alloc ?_ (by first | omega | (simp; done) | (simp; omega)) _) | (with_reducible refine Below.setCell ?_ (by first | omega | (simp; done) | (simp; omega)) _) | (with_reducible refine Below.drew ?_) | (with_reducible refine below_drewN ?_ _) | (with_reducible assumption) | (with_reducible refine bel_step (by with_reducible assumption) ?_ (by first | omega | (simp; done) | (simp; omega)))))⟩
                        case measure => simp [intOf]; omega
                  · by_cases f3 : 1000000000000 < tellN ka y
                    · as_aux_lemma =>
                        have hB0 := HB.out
                        go_wp2_with fail
                        refine (rkeeper_Read_full _ _ _ _ _ _ _ RE.out (by omega) (by omega) (by omega) f3).mono ?_
                        rintro e w' ⟨rfl, rfl⟩
                        go_wp2_with fail
                        refine (keeper_Read_full _ _ _ _ _ _ _ KE.out (by omega) (by omega) (by omega) f3).mono ?_
                        rintro e w' ⟨rfl, rfl⟩
                        go_wp2_with fail
                        (try (go_at_call 16; refine (Error_n 4 _ (by omega) _ (HG.out.below (by repeat (first | with_reducible exact Below.refl _ _ | (with_reducible refine Below.alloc ?_ (by first | omega | (simp; done) | (simp; omega)) _) | (with_reducible refine Below.setCell ?_ (by first | omega | (simp; done) | (simp; omega)) _) | (with_reducible refine Below.drew ?_) | (with_reducible refine below_drewN ?_ _) | (with_reducible assumption) | (with_reducible refine bel_step (by with_reducible assumption) ?_ (by first | omega | (simp; done) | (simp; omega))))))).mono ?_; rintro e w5 ⟨rfl, hb5⟩; obtain ⟨hc5, hf5⟩ := bcell hb5; have hz5 := hb5.size; (try simp at hz5); (try have q5_0_0_0 : w.heap.size < w5.heap.size := by omega); (try have q5_0_0_2 : w.heap.size < w5.heap.size + 1 + 1 := by omega); (try have q5_0_0_3 : w.heap.size < w5.heap.size + 1 + 1 + 1 := by omega); (try have q5_0_1_0 : w.heap.size + 1 < w5.heap.size := by omega); (try have q5_0_1_2 : w.heap.size + 1 < w5.heap.size + 1 + 1 := by omega); (try have q5_0_1_3 : w.heap.size + 1 < w5.heap.size + 1 + 1 + 1 := by omega); (try have q5_0_2_0 : w.heap.size + 1 + 1 < w5.heap.size := by omega); (try have q5_0_2_2 : w.heap.size + 1 + 1 < w5.heap.size + 1 + 1 := by omega); (try have q5_0_2_3 : w.heap.size + 1 + 1 < w5.heap.size + 1 + 1 + 1 := by omega); (try have q5_0_3_0 : w.heap.size + 1 + 1 + 1 < w5.heap.size := by omega); (try have q5_0_3_2 : w.heap.size + 1 + 1 + 1 < w5.heap.size + 1 + 1 := by omega); (try have q5_0_3_3 : w.heap.size + 1 + 1 + 1 < w5.heap.size + 1 + 1 + 1 := by omega); (try have q5_1_0_0 : w1.heap.size < w5.heap.size := by omega); (try have q5_1_0_2 : w1.heap.size < w5.heap.size + 1 + 1 := by omega); (try have q5_1_1_0 : w1.heap.size + 1 < w5.heap.size := by omega); (try have q5_1_1_2 : w1.heap.size + 1 < w5.heap.size + 1 + 1 := by omega); (try have q5_2_0_0 : w2.heap.size < w5.heap.size := by omega); (try have q5_2_0_2 : w2.heap.size < w5.heap.size + 1 + 1 := by omega); (try have q5_2_1_0 : w2.heap.size + 1 < w5.heap.size := by omega); (try have q5_2_1_2 : w2.heap.size + 1 < w5.heap.size + 1 + 1 := by omega); (try have q5_3_0_0 : w3.heap.size < w5.heap.size := by omega); (try have q5_3_0_2 : w3.heap.size < w5.heap.size + 1 + 1 := by omega); (try have q5_3_1_0 : w3.heap.size + 1 < w5.heap.size := by omega); (try have q5_3_1_2 : w3.heap.size + 1 < w5.heap.size + 1 + 1 := by omega); (try have q5_4_0_0 : w4.heap.size < w5.heap.size := by omega); (try have q5_4_0_2 : w4.heap.size < w5.heap.size + 1 + 1 := by omega); (try have q5_4_1_0 : w4.heap.size + 1 < w5.heap.size := by omega); (try have q5_4_1_2 : w4.heap.size + 1 < w5.heap.size + 1 + 1 := by omega); (try go_wp2_with fail)))
                        have hB5 : Below w.heap.size w w5 := BE.out.trans (hb5.mono (by simp; omega))
                        have hK5 := KE.out.below hb5 (by simp; omega)
                        have hR5 := RE.out.below hb5 (by simp; omega)
                        have W5 := hK5.c2
                        have W6 := hK5.c3
                        have R5 := hR5.c2
                        have R6 := hR5.c3
                        have HK5 := Lib.hid hK5
                        have HR5 := Lib.hid hR5
                        clear hK5 hR5
                        go_region_held3 (fun w' => w'.cell? ⟨w1.heap.size, 2, none⟩ = some (.int .i64 ke) ∧ w'.cell? ⟨w1.heap.size, 3, none⟩ = some (.int .i64 kw)) (go_keep)
                          (first | (go_at_call 20; refine (keeper_Kept _ _ _ _ _ _ (by first | exact HK5.out | exact KeepAt.drewN HK5.out _)).mono ?_; rintro e w' ⟨rfl, rfl⟩) | (go_at_call 21; refine (keeper_Writes _ _ _ _ _ _ (by first | exact HK5.out | exact KeepAt.drewN HK5.out _)).mono ?_; rintro e w' ⟨rfl, rfl⟩))
                        all_goals
                          go_wp2_with fail
                          go_roundw
                          case rel => exact ⟨ka, ke, kw, i + 1, rfl, by go_num, ⟨by omega, by omega, by omega, by omega, by omega, by omega, by omega⟩, HK5.out, HR5.out, (by repeat (first | with_reducible exact Below.refl _ _ | (with_reducible refine Below.alloc ?_ (by first | omega | (simp; done) | (simp; omega)) _) | (with_reducible refine Below.setCell ?_ (by first | omega | (simp; done) | (simp; omega)) _) | (with_reducible refine Below.drew ?_) | (with_reducible refine below_drewN ?_ _) | (with_reducible assumption) | (with_reducible refine bel_step (by with_reducible assumption) ?_ (by first | omega | (simp; done) | (simp; omega)))))⟩
                          case measure => simp [intOf]; omega
                    · as_aux_lemma =>
                        obtain ⟨n, en⟩ : ∃ n, tellN ka y = n := ⟨_, rfl⟩
                        obtain ⟨k, ek⟩ : ∃ k, keptN ka ke a0 y = k := ⟨_, rfl⟩
                        obtain ⟨m, em⟩ : ∃ m, wroteN ka ke kw y = m := ⟨_, rfl⟩
                        have hn1 : n ≤ 1000000000000 := by omega
                        have hn2 : ka + 1 ≤ n := by rw [← en]; unfold tellN; omega
                        have hkp : n < k ∧ k ≤ 1000001000000 := by rw [← ek]; unfold keptN; rw [en]; split <;> omega
                        have hwr : m ≤ kw + 1 ∧ 0 ≤ m := by rw [← em]; unfold wroteN; split <;> omega
                        obtain ⟨hk6, hk7⟩ := hkp
                        obtain ⟨hk8, hk9⟩ := hwr
                        have en := Lib.hid en
                        have ek := Lib.hid ek
                        have em := Lib.hid em
                        clear f3
                        go_wp2_with fail
                        refine (rkeeper_Read_at _ _ _ _ _ _ n k m _ RE.out en.out ek.out em.out (by omega) (by omega) (by omega) (by omega) (by omega) (by omega) (by omega) (by omega)).mono ?_
                        rintro e w3 ⟨rfl, hr3, ht3⟩
                        have hk3 := grownK KE.out ht3 (by omega)
                        have hv0 : w3.cell? ⟨wo.heap.size, 0, none⟩ = some (.int .i64 x) := by rw [ht3.cell (by simp) (by omega)]; simp
                        have hv1 : w3.cell? ⟨wo.heap.size, 1, none⟩ = some (.int .i64 y) := by rw [ht3.cell (by simp) (by omega)]; simp
                        have hB3 : Below w.heap.size w w3 := BE.out.trans (ht3.below (by omega) (by simp; omega))
                        have hz3 := ht3.size
                        simp at hz3
                        have HR3 := Lib.hid hr3
                        have HK3 := Lib.hid hk3
                        clear hr3 ht3 hk3
                        go_wp2_with fail
                        refine (keeper_Read_at _ _ _ _ _ _ n k m _ HK3.out en.out ek.out em.out (by omega) (by omega) (by omega) (by omega) (by omega) (by omega) (by omega) (by omega)).mono ?_
                        rintro e w4 ⟨rfl, hk4, ht4⟩
                        have hr4 := grownR HR3.out ht4 (by omega)
                        have hB4 : Below w.heap.size w w4 := hB3.trans (ht4.below (by omega) (by omega))
                        have hz4 := ht4.size
                        have HR4 := Lib.hid hr4
                        have HK4 := Lib.hid hk4
                        clear hr4 ht4 hk4
                        go_wp2_with fail
                        (try (go_at_call 16; refine (Error_nil _ _ (HG.out.below (by repeat (first | with_reducible exact Below.refl _ _ | (with_reducible refine Below.alloc ?_ (by first | omega | (simp; done) | (simp; omega)) _) | (with_reducible refine Below.setCell ?_ (by first | omega | (simp; done) | (simp; omega)) _) | (with_reducible refine Below.drew ?_) | (with_reducible refine below_drewN ?_ _) | (with_reducible assumption) | (with_reducible refine bel_step (by with_reducible assumption) ?_ (by first | omega | (simp; done) | (simp; omega))))))).mono ?_; rintro e w5 ⟨rfl, hb5⟩; obtain ⟨hc5, hf5⟩ := bcell hb5; have hz5 := hb5.size; (try simp at hz5); (try have q5_0_0_0 : w.heap.size < w5.heap.size := by omega); (try have q5_0_0_2 : w.heap.size < w5.heap.size + 1 + 1 := by omega); (try have q5_0_0_3 : w.heap.size < w5.heap.size + 1 + 1 + 1 := by omega); (try have q5_0_1_0 : w.heap.size + 1 < w5.heap.size := by omega); (try have q5_0_1_2 : w.heap.size + 1 < w5.heap.size + 1 + 1 := by omega); (try have q5_0_1_3 : w.heap.size + 1 < w5.heap.size + 1 + 1 + 1 := by omega); (try have q5_0_2_0 : w.heap.size + 1 + 1 < w5.heap.size := by omega); (try have q5_0_2_2 : w.heap.size + 1 + 1 < w5.heap.size + 1 + 1 := by omega); (try have q5_0_2_3 : w.heap.size + 1 + 1 < w5.heap.size + 1 + 1 + 1 := by omega); (try have q5_0_3_0 : w.heap.size + 1 + 1 + 1 < w5.heap.size := by omega); (try have q5_0_3_2 : w.heap.size + 1 + 1 + 1 < w5.heap.size + 1 + 1 := by omega); (try have q5_0_3_3 : w.heap.size + 1 + 1 + 1 < w5.heap.size + 1 + 1 + 1 := by omega); (try have q5_1_0_0 : w1.heap.size < w5.heap.size := by omega); (try have q5_1_0_2 : w1.heap.size < w5.heap.size + 1 + 1 := by omega); (try have q5_1_1_0 : w1.heap.size + 1 < w5.heap.size := by omega); (try have q5_1_1_2 : w1.heap.size + 1 < w5.heap.size + 1 + 1 := by omega); (try have q5_2_0_0 : w2.heap.size < w5.heap.size := by omega); (try have q5_2_0_2 : w2.heap.size < w5.heap.size + 1 + 1 := by omega); (try have q5_2_1_0 : w2.heap.size + 1 < w5.heap.size := by omega); (try have q5_2_1_2 : w2.heap.size + 1 < w5.heap.size + 1 + 1 := by omega); (try have q5_3_0_0 : w3.heap.size < w5.heap.size := by omega); (try have q5_3_0_2 : w3.heap.size < w5.heap.size + 1 + 1 := by omega); (try have q5_3_1_0 : w3.heap.size + 1 < w5.heap.size := by omega); (try have q5_3_1_2 : w3.heap.size + 1 < w5.heap.size + 1 + 1 := by omega); (try have q5_4_0_0 : w4.heap.size < w5.heap.size := by omega); (try have q5_4_0_2 : w4.heap.size < w5.heap.size + 1 + 1 := by omega); (try have q5_4_1_0 : w4.heap.size + 1 < w5.heap.size := by omega); (try have q5_4_1_2 : w4.heap.size + 1 < w5.heap.size + 1 + 1 := by omega); (try go_wp2_with fail)))
                        have hB5 : Below w.heap.size w w5 := (by repeat (first | with_reducible exact Below.refl _ _ | (with_reducible refine Below.alloc ?_ (by first | omega | (simp; done) | (simp; omega)) _) | (with_reducible refine Below.setCell ?_ (by first | omega | (simp; done) | (simp; omega)) _) | (with_reducible refine Below.drew ?_) | (with_reducible refine below_drewN ?_ _) | (with_reducible assumption) | (with_reducible refine bel_step (by with_reducible assumption) ?_ (by first | omega | (simp; done) | (simp; omega)))))
                        have hK5 := HK4.out.below hb5 (by omega)
                        have hR5 := HR4.out.below hb5 (by omega)
                        have W5 := hK5.c2
                        have W6 := hK5.c3
                        have R5 := hR5.c2
                        have R6 := hR5.c3
                        have HK5 := Lib.hid hK5
                        have HR5 := Lib.hid hR5
                        clear hK5 hR5
                        go_region_held3 (fun w' => w'.cell? ⟨w1.heap.size, 2, none⟩ = some (.int .i64 k) ∧ w'.cell? ⟨w1.heap.size, 3, none⟩ = some (.int .i64 m)) (go_keep)
                          (first | (go_at_call 20; refine (keeper_Kept _ _ _ _ _ _ (by first | exact HK5.out | exact KeepAt.drewN HK5.out _)).mono ?_; rintro e w' ⟨rfl, rfl⟩) | (go_at_call 21; refine (keeper_Writes _ _ _ _ _ _ (by first | exact HK5.out | exact KeepAt.drewN HK5.out _)).mono ?_; rintro e w' ⟨rfl, rfl⟩))
                        all_goals
                          go_wp2_with fail
                          go_roundw
                          case rel => exact ⟨n, k, m, i + 1, rfl, by go_num, ⟨by omega, by omega, by omega, by omega, by omega, by omega, by omega⟩, HK5.out, HR5.out, (by repeat (first | with_reducible exact Below.refl _ _ | (with_reducible refine Below.alloc ?_ (by first | omega | (simp; done) | (simp; omega)) _) | (with_reducible refine Below.setCell ?_ (by first | omega | (simp; done) | (simp; omega)) _) | (with_reducible refine Below.drew ?_) | (with_reducible refine below_drewN ?_ _) | (with_reducible assumption) | (with_reducible refine bel_step (by with_reducible assumption) ?_ (by first | omega | (simp; done) | (simp; omega)))))⟩
                          case measure => simp [intOf]; omega
      · go_wp2_with fail
        go_ret
        exact ⟨rfl, HB.out⟩
    · go_wp2_with fail
      go_ret
      exact ⟨rfl, HB.out⟩

set_option maxRecDepth 100000 in
theorem lifted (os : Os) (started : os.Started) (H : Type) (enc : TypeId × Value → H) :
    ReturnsInHanded {} Tryd.checked os 3 .any (fun w args => (Rows.keeperPlaysSpec.pre enc Tryd.prog Tryd.f3 [] false w args ∧ laidMetH Tryd.prog laidList w) ∧ sizedMet enc Tryd.prog Tryd.f3 (OpenSpec.ofChange Rows.keeperPlaysSpec) false w args)
      (Rows.keeperPlaysSpec.post enc Tryd.prog Tryd.f3 false true false false) := by
  refine returnsInHanded_of_change_and (C := Tryd.checked) (X := fun w _ => laidMetH Tryd.prog laidList w) (fun _ _ _ hh h => h.of_heap hh) own started (by kernel_rfl) Tryd.func3
    (ChangeSpec.witness_at (enc := enc) (C := Tryd.checked) (os := os) (X := fun w _ => laidMetH Tryd.prog laidList w) false (laidWorld os) #[.int .i64 0, .slice none 0 0] 8 rfl (by kernel_rfl) (by kernel_rfl) (by kernel_rfl) (by kernel_rfl) (by kernel_rfl) (laidWorld_met os _)) ?_
  intro W base args ds gs before hval0 hW hcnd hreach hL _
  have hval : ∀ (j : Nat) t v, Tryd.f3.params[j]? = some t → args[j]? = some v → Value.okWide Tryd.prog W .any base t v := hval0
  have hW' := hW
  obtain ⟨p, q, hA0, hV, rfl, hfz, hnd⟩ := hW
  have hA : DataW.TrodAll enc Tryd.prog W 0 (fun _ => true) true Tryd.f3.params.toList args.toList ds p := hA0
  rw [Tryd.params3] at hA hval
  obtain ⟨v0, vs0, d0, ds0, p0, q0, hargs, rfl, rfl, g0, r0⟩ := trodAll_cons hA
  obtain ⟨v1, vs1, d1, ds1, p1, q1, rfl, rfl, rfl, g1, r1⟩ := trodAll_cons r0
  obtain ⟨rfl, rfl, rfl⟩ := trodAll_nil r1
  obtain rfl : args = #[v0, v1] := by cases args; simp_all
  have hV2 : DataW.TrodVars enc Tryd.prog W (fun _ => true) [] gs q := hV
  obtain ⟨rfl, rfl⟩ : gs = [] ∧ q = [] := by
    cases gs with
    | nil => exact ⟨rfl, hV2⟩
    | cons g r => exact absurd hV2 (by intro h; cases h)
  obtain ⟨a0, rfl, rfl, rfl, u0⟩ := open_int Tryd.underlying3 (hval 0 3 v0 rfl rfl) g0
  have h0 := bounds_i64 u0
  have k1 := g1
  have lt1 : ∀ x ∈ p1, x.block < W.heap.size := by obtain ⟨m, hm⟩ := k1; exact DataW.trod_lt m _ _ _ hm
  have rd1 : Tryd.prog.readableRec 22 = true := by kernel_rfl
  have ls1 : 22 < Tryd.prog.types.size := of_decide_eq_true (by kernel_rfl)
  obtain ⟨a1, n1, c1, z1, rfl, h1⟩ := open_IntRows (hval 1 22 v1 rfl rfl) g1
  clear hA0 hval0
  refine (walk a0 a1 n1 c1 z1 W h0 h1 (handle_of_laid hL)).mono fun e W' ⟨he, bel⟩ => ?_
  subst he
  exact ⟨_, rfl, _, _, _, [], _, [], hW', trodAll_mk1 (shut_bool Tryd.underlying4 _), (trodAll_cons_mk (shut_int Tryd.underlying3 u0) (trodAll_cons_mk (Below.trod laidOut rd1 ls1 k1 bel lt1) trodAll_mk0)), rfl, bel.frame _, fun h => by cases h⟩

theorem over : Rows.keeperPlaysRow.holds Tryd.pinned (OpenSpec.ofChange Rows.keeperPlaysSpec) :=
  OpenClaim.holds_of_wide 3 Tryd.f3 rfl rfl rfl rfl rfl rfl rfl ⟨rfl, rfl, rfl, rfl, rfl⟩ rfl rfl rfl rfl rfl (by kernel_rfl) Tryd.func3 (by kernel_rfl)
    (of_decide_eq_true (by kernel_rfl)) (by unfold Func.isWrapper; rw [if_neg (of_decide_eq_false (by kernel_rfl))]; exact ⟨rfl, rfl⟩)
    (fun os started H enc _ => lifted os started H enc)

theorem card : Rows.KeeperPlaysCardSaid :=
  Claim7.holds_tied_plain_at .later [] [.handle] true (true, Rows.keeperPlaysCard.stood.harness.2) true
    over (fun _ h => by cases h) (by kernel_rfl) (fun _ h => by cases h) keeperPlays_row_tie rfl ⟨rfl, rfl⟩ (by kernel_rfl) rfl
    (fun f fn hf hfn => by
      obtain rfl : f = 3 := Option.some.inj ((show Tryd.prog.funcNamed "noonmark/noonlaw3.KeeperPlays" = some 3 by kernel_rfl).symm.trans hf) |>.symm
      obtain rfl : fn = Tryd.f3 := (Option.some.inj (Tryd.func3.symm.trans hfn)).symm
      exact ⟨by kernel_rfl, fun j t ht => by
        rw [Tryd.params3] at ht
        exact noStandIn (ps := #[3, 22]) (by kernel_rfl) ht⟩)
    (by kernel_rfl)

#print axioms card
end Go.Proofs.YtkejdfpdehchcaaDoor.lKeeperPlays
