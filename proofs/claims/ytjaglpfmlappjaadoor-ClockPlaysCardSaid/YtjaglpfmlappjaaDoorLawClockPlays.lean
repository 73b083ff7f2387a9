/- Proved: the tied card of noonlaw2.ClockPlays: it answers true for every input and leaves its arguments as they were. The card's own condition: errors.errorType holds what the program's text lays there. -/
import Derived.Test.YtjaglpfmlappjaaDoorDoor
import Derived.Test.YtjaglpfmlappjaaDoorRClock
namespace Go.Proofs.YtjaglpfmlappjaaDoor.lClockPlays
open Go.ChangeShapes Go.WideShapes Go.ChangeAt Go.RowKit
set_option linter.unusedVariables false
set_option linter.unusedSimpArgs false
structure V3 (n j : Nat) (x y z : Int) : Prop where
  b1 : j ≤ n
  b2 : j ≤ 3
  x1 : i64B x
  y1 : i64B y
  z1 : i64B z
theorem i64_0 : i64B 0 := by unfold i64B; omega
theorem V3.one {n j : Nat} {x y z u : Int} (h : V3 n j x y z) (hj : j < n) (h2 : j < 3) (hu : i64B u) : V3 n (j + 1) (if j = 0 then u else x) (if j = 1 then u else y) (if j = 2 then u else z) := by
  obtain ⟨p1, p2, p3, p4, p5⟩ := h
  refine ⟨by omega, by omega, ?_, ?_, ?_⟩ <;> split <;> assumption
theorem ok_new {p : Int} (h0 : 0 ≤ p) (h1 : p ≤ 1000) : CK.ok ⟨p, 0, false, 0, 0, 0, false, 0⟩ := ⟨h0, h1, by simp, by simp, by simp, by simp, by simp, by simp, by simp, by simp⟩
theorem ok_step {c : CK} (h : c.ok) (to : Int) : (stepK c to).ok := by
  obtain ⟨k1, k2, k3, k4, k5, k6, k7, k8, k9, k10⟩ := h
  unfold stepK
  by_cases e : stepC c to = 0
  · rw [if_pos e]
    unfold stepC at e
    split at e
    · omega
    · split at e
      · omega
      · exact ⟨k1, k2, k3, by simp only []; omega, by simp only []; omega, k6, k7, k8, k9, k10⟩
  · rw [if_neg e]; exact ⟨k1, k2, k3, k4, k5, k6, k7, k8, k9, k10⟩
theorem ok_learn {c : CK} (h : c.ok) (lo hi : Int) : (learnK c lo hi).ok := by
  have h' := h
  obtain ⟨k1, k2, k3, k4, k5, k6, k7, k8, k9, k10⟩ := h
  unfold learnK
  by_cases e : learnC c lo hi = 0
  · rw [if_pos e]
    unfold learnC at e
    by_cases r : rightB lo hi = true
    · rw [if_pos r] at e
      have hr := rightB_iff.1 r
      by_cases kn : c.known = true
      · rw [if_pos kn] at e ⊢
        split at e
        · split at e
          · rename_i cb
            unfold commonB at cb
            have := of_decide_eq_true cb
            exact ⟨k1, k2, by simp only []; omega, by simp, k5, by simp only []; omega, by simp only []; omega, by simp only []; omega, k9, k10⟩
          · omega
        · omega
      · rw [if_neg kn]
        exact ⟨k1, k2, by simp only []; omega, by simp, k5, by simp only []; omega, by simp only []; omega, by simp only []; omega, k9, k10⟩
    · rw [if_neg r] at e; omega
  · rw [if_neg e]; exact h'
theorem ok_point {c : CK} (h : c.ok) : (pointK c).ok := by
  have h' := h
  obtain ⟨k1, k2, k3, k4, k5, k6, k7, k8, k9, k10⟩ := h
  unfold pointK
  by_cases e : pointC c = 0
  · rw [if_pos e]
    unfold pointC at e
    rcases nowS_cases c with ⟨l, u, n0, n1, n2, n3⟩ | n0 | n0
    · rw [n0] at e
      simp only [if_true] at e
      have hm : midV c = (l + u) / 2 := by simp [midV, n0]
      have lo : -1000000000000 ≤ pointN c := by unfold pointN; split <;> omega
      have hi : pointN c ≤ 1000000000000 := by
        split at e
        · omega
        · omega
      exact ⟨k1, k2, k3, k4, k5, k6, k7, k8, lo, hi⟩
    · rw [n0] at e; simp at e
    · rw [n0] at e; simp at e
  · rw [if_neg e]; exact h'
theorem ck_touch {w w' : World} {g g' : Nat} {T : TypeId} {c : CK} (h : ClockAt w g T c) (ht : Touched g' w w') (hne : g ≠ g') : ClockAt w' g T c := (ht.block g (Blk.lt h) (by simp; exact hne)).trans h
theorem ck_drewN {w : World} {g : Nat} {T : TypeId} {c : CK} (h : ClockAt w g T c) (n : Nat) : ClockAt (w.drewN n) g T c := h
theorem ck_drew {w : World} {g : Nat} {T : TypeId} {c : CK} (h : ClockAt w g T c) : ClockAt w.drew g T c := h
theorem cell_touch {w w' : World} {g b o : Nat} {v : Value} (h : w.cell? ⟨b, o, none⟩ = some v) (ht : Touched g w w') (hlt : b < w.heap.size) (hne : b ≠ g) : w'.cell? ⟨b, o, none⟩ = some v := (ht.cell hlt hne o).trans h
set_option maxRecDepth 100000 in
set_option maxHeartbeats 16000000 in
theorem walk (a0 : Int) (a1 : Option Addr) (n1 c1 : Nat) (z1 : List RInts) (w : World) (h0 : -9223372036854775808 ≤ a0 ∧ a0 ≤ 9223372036854775807) (h1 : IsRecs w RInts.cells (RInts.ok w) 1 a1 n1 c1 z1) (hg : HandleAt w) :
    Calls Tryd.prog 3 #[.int .i64 a0, .slice a1 n1 c1] w fun e w' => e = .returned (.bool true) ∧ Below w.heap.size w w' := by
  have HG := Lib.hid hg
  clear hg
  obtain ⟨l1, l2, l3, l4, l5⟩ := h1
  unfold maxLen at l3
  have L1 := Lib.hid l1
  have L4 := Lib.hid l4
  have L5 := Lib.hid l5
  clear l1 l4 l5
  by_cases c1 : a0 < 0
  · have rb : rateB a0 = false := by simp [rateB]; omega
    go_enter Tryd.func3, Tryd.ntmps3
    go_wp2_with fail
    refine (clock_New_no _ _ rb).mono ?_
    rintro e w' ⟨rfl, rfl⟩
    go_wp2_with fail
    (try (go_at_call 5; refine (Error_n 1 _ (by omega) _ (HG.out.below (by repeat (first | with_reducible exact Below.refl _ _ | (with_reducible refine Below.alloc ?_ (by first | omega | (simp; done) | (simp; omega)) _) | (with_reducible refine Below.setCell ?_ (by first | omega | (simp; done) | (simp; omega)) _) | (with_reducible refine Below.drew ?_) | (with_reducible refine below_drewN ?_ _) | (with_reducible assumption) | (with_reducible refine bel_step (by with_reducible assumption) ?_ (by first | omega | (simp; done) | (simp; omega))))))).mono ?_; rintro e w1 ⟨rfl, hb1⟩; obtain ⟨hc1, hf1⟩ := bcell hb1; have hz1 := hb1.size; (try simp at hz1); (try have q1_0_0_0 : w.heap.size < w1.heap.size := by omega); (try have q1_0_0_2 : w.heap.size < w1.heap.size + 1 + 1 := by omega); (try have q1_0_0_3 : w.heap.size < w1.heap.size + 1 + 1 + 1 := by omega); (try have q1_0_1_0 : w.heap.size + 1 < w1.heap.size := by omega); (try have q1_0_1_2 : w.heap.size + 1 < w1.heap.size + 1 + 1 := by omega); (try have q1_0_1_3 : w.heap.size + 1 < w1.heap.size + 1 + 1 + 1 := by omega); (try have q1_0_2_0 : w.heap.size + 1 + 1 < w1.heap.size := by omega); (try have q1_0_2_2 : w.heap.size + 1 + 1 < w1.heap.size + 1 + 1 := by omega); (try have q1_0_2_3 : w.heap.size + 1 + 1 < w1.heap.size + 1 + 1 + 1 := by omega); (try have q1_0_3_0 : w.heap.size + 1 + 1 + 1 < w1.heap.size := by omega); (try have q1_0_3_2 : w.heap.size + 1 + 1 + 1 < w1.heap.size + 1 + 1 := by omega); (try have q1_0_3_3 : w.heap.size + 1 + 1 + 1 < w1.heap.size + 1 + 1 + 1 := by omega); (try go_wp2_with fail)))
    go_ret
    exact ⟨rfl, (by repeat (first | with_reducible exact Below.refl _ _ | (with_reducible refine Below.alloc ?_ (by first | omega | (simp; done) | (simp; omega)) _) | (with_reducible refine Below.setCell ?_ (by first | omega | (simp; done) | (simp; omega)) _) | (with_reducible refine Below.drew ?_) | (with_reducible refine below_drewN ?_ _) | (with_reducible assumption) | (with_reducible refine bel_step (by with_reducible assumption) ?_ (by first | omega | (simp; done) | (simp; omega)))))⟩
  by_cases c2 : 1000 < a0
  · have rb : rateB a0 = false := by simp [rateB]; omega
    go_enter Tryd.func3, Tryd.ntmps3
    go_wp2_with fail
    refine (clock_New_no _ _ rb).mono ?_
    rintro e w' ⟨rfl, rfl⟩
    go_wp2_with fail
    (try (go_at_call 5; refine (Error_n 1 _ (by omega) _ (HG.out.below (by repeat (first | with_reducible exact Below.refl _ _ | (with_reducible refine Below.alloc ?_ (by first | omega | (simp; done) | (simp; omega)) _) | (with_reducible refine Below.setCell ?_ (by first | omega | (simp; done) | (simp; omega)) _) | (with_reducible refine Below.drew ?_) | (with_reducible refine below_drewN ?_ _) | (with_reducible assumption) | (with_reducible refine bel_step (by with_reducible assumption) ?_ (by first | omega | (simp; done) | (simp; omega))))))).mono ?_; rintro e w1 ⟨rfl, hb1⟩; obtain ⟨hc1, hf1⟩ := bcell hb1; have hz1 := hb1.size; (try simp at hz1); (try have q1_0_0_0 : w.heap.size < w1.heap.size := by omega); (try have q1_0_0_2 : w.heap.size < w1.heap.size + 1 + 1 := by omega); (try have q1_0_0_3 : w.heap.size < w1.heap.size + 1 + 1 + 1 := by omega); (try have q1_0_1_0 : w.heap.size + 1 < w1.heap.size := by omega); (try have q1_0_1_2 : w.heap.size + 1 < w1.heap.size + 1 + 1 := by omega); (try have q1_0_1_3 : w.heap.size + 1 < w1.heap.size + 1 + 1 + 1 := by omega); (try have q1_0_2_0 : w.heap.size + 1 + 1 < w1.heap.size := by omega); (try have q1_0_2_2 : w.heap.size + 1 + 1 < w1.heap.size + 1 + 1 := by omega); (try have q1_0_2_3 : w.heap.size + 1 + 1 < w1.heap.size + 1 + 1 + 1 := by omega); (try have q1_0_3_0 : w.heap.size + 1 + 1 + 1 < w1.heap.size := by omega); (try have q1_0_3_2 : w.heap.size + 1 + 1 + 1 < w1.heap.size + 1 + 1 := by omega); (try have q1_0_3_3 : w.heap.size + 1 + 1 + 1 < w1.heap.size + 1 + 1 + 1 := by omega); (try go_wp2_with fail)))
    go_ret
    exact ⟨rfl, (by repeat (first | with_reducible exact Below.refl _ _ | (with_reducible refine Below.alloc ?_ (by first | omega | (simp; done) | (simp; omega)) _) | (with_reducible refine Below.setCell ?_ (by first | omega | (simp; done) | (simp; omega)) _) | (with_reducible refine Below.drew ?_) | (with_reducible refine below_drewN ?_ _) | (with_reducible assumption) | (with_reducible refine bel_step (by with_reducible assumption) ?_ (by first | omega | (simp; done) | (simp; omega)))))⟩
  have p0 : 0 ≤ a0 := by omega
  have p1 : a0 ≤ 1000 := by omega
  have rb : rateB a0 = true := rateB_iff.2 ⟨p0, p1⟩
  have KH := Lib.hid (show ∀ (w : World) (p : Int) (T : TypeId), ClockAt (World.alloc w (.cells (CK.cells ⟨p, 0, false, 0, 0, 0, false, 0⟩) T)) w.heap.size T ⟨p, 0, false, 0, 0, 0, false, 0⟩ from fun w p T => Blk.new w _ _)
  clear h0
  go_enter Tryd.func3, Tryd.ntmps3
  go_wp2_with fail
  refine (clock_New_ok _ _ rb).mono ?_
  rintro e w' ⟨rfl, rfl⟩
  go_wp2_with fail
  (try (go_at_call 5; refine (Error_nil _ _ (HG.out.below (by repeat (first | with_reducible exact Below.refl _ _ | (with_reducible refine Below.alloc ?_ (by first | omega | (simp; done) | (simp; omega)) _) | (with_reducible refine Below.setCell ?_ (by first | omega | (simp; done) | (simp; omega)) _) | (with_reducible refine Below.drew ?_) | (with_reducible refine below_drewN ?_ _) | (with_reducible assumption) | (with_reducible refine bel_step (by with_reducible assumption) ?_ (by first | omega | (simp; done) | (simp; omega))))))).mono ?_; rintro e w1 ⟨rfl, hb1⟩; obtain ⟨hc1, hf1⟩ := bcell hb1; have hz1 := hb1.size; (try simp at hz1); (try have q1_0_0_0 : w.heap.size < w1.heap.size := by omega); (try have q1_0_0_2 : w.heap.size < w1.heap.size + 1 + 1 := by omega); (try have q1_0_0_3 : w.heap.size < w1.heap.size + 1 + 1 + 1 := by omega); (try have q1_0_1_0 : w.heap.size + 1 < w1.heap.size := by omega); (try have q1_0_1_2 : w.heap.size + 1 < w1.heap.size + 1 + 1 := by omega); (try have q1_0_1_3 : w.heap.size + 1 < w1.heap.size + 1 + 1 + 1 := by omega); (try have q1_0_2_0 : w.heap.size + 1 + 1 < w1.heap.size := by omega); (try have q1_0_2_2 : w.heap.size + 1 + 1 < w1.heap.size + 1 + 1 := by omega); (try have q1_0_2_3 : w.heap.size + 1 + 1 < w1.heap.size + 1 + 1 + 1 := by omega); (try have q1_0_3_0 : w.heap.size + 1 + 1 + 1 < w1.heap.size := by omega); (try have q1_0_3_2 : w.heap.size + 1 + 1 + 1 < w1.heap.size + 1 + 1 := by omega); (try have q1_0_3_3 : w.heap.size + 1 + 1 + 1 < w1.heap.size + 1 + 1 + 1 := by omega); (try go_wp2_with fail)))
  have hB1 : Below w.heap.size w w1 := (by repeat (first | with_reducible exact Below.refl _ _ | (with_reducible refine Below.alloc ?_ (by first | omega | (simp; done) | (simp; omega)) _) | (with_reducible refine Below.setCell ?_ (by first | omega | (simp; done) | (simp; omega)) _) | (with_reducible refine Below.drew ?_) | (with_reducible refine below_drewN ?_ _) | (with_reducible assumption) | (with_reducible refine bel_step (by with_reducible assumption) ?_ (by first | omega | (simp; done) | (simp; omega)))))
  have hK1 := (KH.out w a0 53).below hb1 (by simp)
  have HB1 := Lib.hid hB1
  have HK1 := Lib.hid hK1
  have hzz : w.heap.size < w1.heap.size := by omega
  clear hc1 hf1 hb1 hB1 hK1
  go_loopw [8, 10] (fun tv iv wr => ∃ (c : CK) (i : Nat), tv = .bool true ∧ iv = .int .i64 i ∧ (i ≤ n1 ∧ i ≤ 60) ∧ c.ok ∧ ClockAt wr w.heap.size 53 c ∧ ClockAt wr w1.heap.size 33 c ∧ Below w.heap.size w wr)
    (fun _ iv _ => n1 - (intOf iv).toNat)
  case atStart => exact ⟨⟨a0, 0, false, 0, 0, 0, false, 0⟩, 0, rfl, rfl, ⟨by omega, by omega⟩, ok_new p0 p1, (HK1.out.below ((Below.refl _ _).alloc (Nat.le_refl _) _) hzz), KH.out _ _ _, HB1.out.alloc (by omega) _⟩
  case round =>
    obtain ⟨c, i, rfl, rfl, ⟨j1, j2⟩, hok, hK, hR, hB⟩ := hrel
    have OK := Lib.hid hok
    have HK := Lib.hid hK
    have HR := Lib.hid hR
    have HB := Lib.hid hB
    have hzw := hB.size
    have glt := Blk.lt hK
    have grt := Blk.lt hR
    have gne : w.heap.size ≠ w1.heap.size := by omega
    clear hok hK hR hB
    by_cases d1 : i < n1
    · by_cases d2 : i < 60
      · have d3 : decide ((i : Int) < 60) = true := by simp; omega
        have d4 : decide ((i : Int) < (n1 : Int)) = true := by simp; omega
        obtain ⟨b, off, rfl, hb, hc⟩ := L5.out (by omega)
        obtain ⟨row, hrow⟩ : ∃ row, z1[i]? = some row := ⟨_, List.getElem?_eq_getElem (by rw [L1.out]; omega)⟩
        have hok : RInts.ok w row := L4.out row (List.mem_of_getElem? hrow)
        have hcell : w.cell? ⟨b, off + i, none⟩ = some (.slice row.A row.n row.c) := by
          have := hc i row hrow 0 _ rfl
          simpa using this
        have hcr : wr.cell? ⟨b, off + i, none⟩ = some (.slice row.A row.n row.c) := by rw [HB.out.cell hb]; exact hcell
        have hbr : b < wr.heap.size := by omega
        obtain ⟨A, rn, rc, rz⟩ := row
        obtain ⟨m1, m2, m3, m4, m5⟩ := hok
        dsimp only at m1 m2 m3 m4 m5 hcr
        unfold maxLen at m3
        have M1 := Lib.hid m1
        have M4 := Lib.hid m4
        have M5 := Lib.hid m5
        clear hc hrow hcell m1 m4 m5
        go_wp2_with fail
        obtain ⟨wo, rfl⟩ : ∃ wo : World, wo = wr := ⟨_, rfl⟩
        go_loopw [12] (fun jv w2 => ∃ (j : Nat) (x y z : Int), jv = .int .i64 j ∧ V3 rn j x y z ∧ w2 = wo.alloc (.cells #[.int .i64 x, .int .i64 y, .int .i64 z] 34)) (fun jv _ => 3 - (intOf jv).toNat)
        case atStart => exact ⟨0, 0, 0, 0, rfl, ⟨by omega, by omega, i64_0, i64_0, i64_0⟩, rfl⟩
        case round =>
          obtain ⟨j, x, y, z, rfl, hV, rfl⟩ := hrel
          have v1 := hV.b1
          have v2 := hV.b2
          by_cases e0 : j < rn ∧ j < 3
          · obtain ⟨e1, e2⟩ := e0
            obtain ⟨b', off', rfl, hb', hc'⟩ := M5.out (by omega)
            obtain ⟨u, hu⟩ : ∃ u, rz[j]? = some u := ⟨_, List.getElem?_eq_getElem (by rw [M1.out]; omega)⟩
            have huu : i64B u := M4.out u (List.mem_of_getElem? hu)
            have hcell2 : wo.cell? ⟨b', off' + j, none⟩ = some (.int .i64 u) := by
              rw [HB.out.cell hb']
              have := hc' j u hu 0 _ rfl
              simpa using this
            have hb2 : b' < wo.heap.size := by omega
            have HN := Lib.hid (hV.one e1 e2 huu)
            clear hc' hu hV
            have hj : j = 0 ∨ j = 1 ∨ j = 2 := by omega
            rcases hj with rfl | rfl | rfl
            all_goals
              (try simp only [Nat.add_zero] at hcell2)
              go_wp2_with fail
              go_roundw
              case rel => exact ⟨_, _, _, _, by go_num, HN.out, rfl⟩
              case measure => simp [intOf]
          · have xb := hV.x1
            have yb := hV.y1
            have zb := hV.z1
            clear hV
            unfold i64B at xb yb zb
            have KE := Lib.hid (HK.out.below ((Below.refl _ _).alloc (Nat.le_refl _) (.cells #[.int .i64 x, .int .i64 y, .int .i64 z] 34)) (by omega))
            have RE := Lib.hid (HR.out.below ((Below.refl _ _).alloc (Nat.le_refl _) (.cells #[.int .i64 x, .int .i64 y, .int .i64 z] 34)) (by omega))
            have BE := Lib.hid (HB.out.alloc hzw (.cells #[.int .i64 x, .int .i64 y, .int .i64 z] 34))
            have hx : (j < rn ∧ 3 ≤ j) ∨ rn ≤ j := by omega
            clear e0
            rcases hx with ⟨e1, e2⟩ | e1
            all_goals
              by_cases x0 : x = 0
              · subst x0
                as_aux_lemma =>
                  go_wp2_with fail
                  go_region_held3 (fun w' => w'.cell? ⟨wo.heap.size, 1, none⟩ = some (.int .i64 y)) (first | go_keep | exact kp | exact kq | exact k5)
                    (first | (go_at_call 6; (with_reducible refine (clock_Step w.heap.size c y _ (by first | exact KE.out | exact ck_drew KE.out | exact ck_drew (ck_drew KE.out) | exact ck_drew (ck_drew (ck_drew KE.out)))).mono ?_); rintro e wp ⟨rfl, hkp, htp⟩; have hzp := htp.size; (try simp at hzp); have RE2 := ck_touch (by first | exact RE.out | exact ck_drew RE.out | exact ck_drew (ck_drew RE.out) | exact ck_drew (ck_drew (ck_drew RE.out))) htp (by omega); have BP := (show Below w.heap.size w wp from (by first | exact BE.out | exact below_drewN BE.out 1 | exact below_drewN (below_drewN BE.out 1) 1 | exact below_drewN (below_drewN (below_drewN BE.out 1) 1) 1 : Below w.heap.size w _).trans (htp.below (by omega) (by simp; omega))); have kp : wp.cell? ⟨wo.heap.size, 1, none⟩ = some (.int .i64 y) := (htp.cell (by simp) (by omega) 1).trans (by simp)) | (go_at_call 7; (with_reducible refine (rclock_Step w1.heap.size c y _ (by first | exact RE2 | exact ck_drew RE2 | exact ck_drew (ck_drew RE2))).mono ?_); rintro e wq ⟨rfl, hkq, htq⟩; have hzq := htq.size; (try simp at hzq); have KE2 := ck_touch (by first | exact hkp | exact ck_drew hkp | exact ck_drew (ck_drew hkp)) htq (by omega); have BQ := (show Below w.heap.size w wq from (by first | exact BP | exact below_drewN BP 1 | exact below_drewN (below_drewN BP 1) 1 : Below w.heap.size w _).trans (htq.below (by omega) (by first | omega | (simp; omega)))); have kq : wq.cell? ⟨wo.heap.size, 1, none⟩ = some (.int .i64 y) := (htq.cell (by first | omega | (simp; omega)) (by omega) 1).trans kp) | (go_at_call 5; (with_reducible refine (Error_any (stepC c y) (stepC c y) _ (HG.out.below BQ)).mono ?_); rintro e w5 ⟨rfl, hb5⟩; have k5 : w5.cell? ⟨wo.heap.size, 1, none⟩ = some (.int .i64 y) := (hb5.cell (p := ⟨wo.heap.size, 1, none⟩) (by show wo.heap.size < _; omega)).trans kq))
                  obtain ⟨CK5, eK⟩ : ∃ k : CK, stepK c y = k := ⟨_, rfl⟩
                  rw [eK] at KE2 hkq
                  have OK5 := Lib.hid (show CK5.ok from by rw [← eK]; exact ok_step OK.out y)
                  have hz5 := hb5.size
                  have HK5 := Lib.hid (KE2.below hb5 (Blk.lt KE2))
                  have HR5 := Lib.hid (hkq.below hb5 (Blk.lt hkq))
                  have HB5 := Lib.hid (BQ.trans (hb5.mono (by omega)))
                  have glp5 := Blk.lt HK5.out
                  have glr5 := Blk.lt HR5.out
                  clear eK KE2 hkq hkp htp htq RE2 BP BQ kp kq k5 hb5 KE RE BE
                  go_wp2_with fail
                  refine (rclock_Now _ _ _ HR5.out OK5.out).mono ?_
                  rintro e w6 ⟨rfl, hb6⟩
                  have hz6 := hb6.size
                  have HK6 := Lib.hid (HK5.out.below hb6 glp5)
                  have HR6 := Lib.hid (HR5.out.below hb6 glr5)
                  have HB6 := Lib.hid (HB5.out.trans (hb6.mono (by omega)))
                  obtain ⟨N, eN⟩ : ∃ N, nowS CK5 = N := ⟨_, rfl⟩
                  rw [eN]
                  have EN := Lib.hid eN
                  clear eN hb6
                  go_wp2_with fail
                  refine (clock_Now _ _ _ (HK6.out.below ((Below.refl _ _).alloc (Nat.le_refl _) _) (by omega)) OK5.out).mono ?_
                  rintro e w7 ⟨rfl, hb7⟩
                  have hz7 := hb7.size
                  (try simp at hz7)
                  have HK7 := Lib.hid ((HK6.out.below ((Below.refl _ _).alloc (Nat.le_refl _) (.cells #[.int .i64 N.lo, .int .i64 N.hi] 31)) (by omega)).below hb7 (by simp; omega))
                  have HR7 := Lib.hid ((HR6.out.below ((Below.refl _ _).alloc (Nat.le_refl _) (.cells #[.int .i64 N.lo, .int .i64 N.hi] 31)) (by omega)).below hb7 (by simp; omega))
                  have HB7 := Lib.hid ((HB6.out.alloc HB6.out.size (.cells #[.int .i64 N.lo, .int .i64 N.hi] 31)).trans (hb7.mono (by simp; omega)))
                  obtain ⟨hc7, hf7⟩ := bcell hb7
                  rw [EN.out]
                  clear hb7
                  go_wp2_with fail
                  (try (go_at_call 5; refine (Error_any N.c _ _ (HG.out.below (HB7.out.alloc HB7.out.size _))).mono ?_; rintro e w8 ⟨rfl, hb8⟩; obtain ⟨hc8, hf8⟩ := bcell hb8; have hz8 := hb8.size; (try simp at hz8); (try have q8_0_0_0 : w.heap.size < w8.heap.size := by omega); (try have q8_0_0_2 : w.heap.size < w8.heap.size + 1 + 1 := by omega); (try have q8_0_0_3 : w.heap.size < w8.heap.size + 1 + 1 + 1 := by omega); (try have q8_0_1_0 : w.heap.size + 1 < w8.heap.size := by omega); (try have q8_0_1_2 : w.heap.size + 1 < w8.heap.size + 1 + 1 := by omega); (try have q8_0_1_3 : w.heap.size + 1 < w8.heap.size + 1 + 1 + 1 := by omega); (try have q8_0_2_0 : w.heap.size + 1 + 1 < w8.heap.size := by omega); (try have q8_0_2_2 : w.heap.size + 1 + 1 < w8.heap.size + 1 + 1 := by omega); (try have q8_0_2_3 : w.heap.size + 1 + 1 < w8.heap.size + 1 + 1 + 1 := by omega); (try have q8_0_3_0 : w.heap.size + 1 + 1 + 1 < w8.heap.size := by omega); (try have q8_0_3_2 : w.heap.size + 1 + 1 + 1 < w8.heap.size + 1 + 1 := by omega); (try have q8_0_3_3 : w.heap.size + 1 + 1 + 1 < w8.heap.size + 1 + 1 + 1 := by omega); (try have q8_1_0_0 : w1.heap.size < w8.heap.size := by omega); (try have q8_1_0_2 : w1.heap.size < w8.heap.size + 1 + 1 := by omega); (try have q8_1_1_0 : w1.heap.size + 1 < w8.heap.size := by omega); (try have q8_1_1_2 : w1.heap.size + 1 < w8.heap.size + 1 + 1 := by omega); (try have q8_2_0_0 : w2.heap.size < w8.heap.size := by omega); (try have q8_2_0_2 : w2.heap.size < w8.heap.size + 1 + 1 := by omega); (try have q8_2_1_0 : w2.heap.size + 1 < w8.heap.size := by omega); (try have q8_2_1_2 : w2.heap.size + 1 < w8.heap.size + 1 + 1 := by omega); (try have q8_3_0_0 : w3.heap.size < w8.heap.size := by omega); (try have q8_3_0_2 : w3.heap.size < w8.heap.size + 1 + 1 := by omega); (try have q8_3_1_0 : w3.heap.size + 1 < w8.heap.size := by omega); (try have q8_3_1_2 : w3.heap.size + 1 < w8.heap.size + 1 + 1 := by omega); (try have q8_4_0_0 : w4.heap.size < w8.heap.size := by omega); (try have q8_4_0_2 : w4.heap.size < w8.heap.size + 1 + 1 := by omega); (try have q8_4_1_0 : w4.heap.size + 1 < w8.heap.size := by omega); (try have q8_4_1_2 : w4.heap.size + 1 < w8.heap.size + 1 + 1 := by omega); (try have q8_5_0_0 : w5.heap.size < w8.heap.size := by omega); (try have q8_5_0_2 : w5.heap.size < w8.heap.size + 1 + 1 := by omega); (try have q8_5_1_0 : w5.heap.size + 1 < w8.heap.size := by omega); (try have q8_5_1_2 : w5.heap.size + 1 < w8.heap.size + 1 + 1 := by omega); (try have q8_6_0_0 : w6.heap.size < w8.heap.size := by omega); (try have q8_6_0_2 : w6.heap.size < w8.heap.size + 1 + 1 := by omega); (try have q8_6_1_0 : w6.heap.size + 1 < w8.heap.size := by omega); (try have q8_6_1_2 : w6.heap.size + 1 < w8.heap.size + 1 + 1 := by omega); (try have q8_7_0_0 : w7.heap.size < w8.heap.size := by omega); (try have q8_7_0_2 : w7.heap.size < w8.heap.size + 1 + 1 := by omega); (try have q8_7_1_0 : w7.heap.size + 1 < w8.heap.size := by omega); (try have q8_7_1_2 : w7.heap.size + 1 < w8.heap.size + 1 + 1 := by omega); (try go_wp2_with fail)))
                  have HK8 := Lib.hid ((HK7.out.below ((Below.refl _ _).alloc (Nat.le_refl _) (.cells #[.int .i64 N.lo, .int .i64 N.hi] 31)) (by omega)).below hb8 (by simp; omega))
                  have HR8 := Lib.hid ((HR7.out.below ((Below.refl _ _).alloc (Nat.le_refl _) (.cells #[.int .i64 N.lo, .int .i64 N.hi] 31)) (by omega)).below hb8 (by simp; omega))
                  have HB8 := Lib.hid ((HB7.out.alloc HB7.out.size (.cells #[.int .i64 N.lo, .int .i64 N.hi] 31)).trans (hb8.mono (by simp; omega)))
                  have x0 : w8.cell? ⟨w7.heap.size, 0, none⟩ = some (.int .i64 N.lo) := by rw [hc8 _ _ (by simp)]; simp
                  have x1 : w8.cell? ⟨w7.heap.size, 1, none⟩ = some (.int .i64 N.hi) := by rw [hc8 _ _ (by simp)]; simp
                  have x2 : w8.cell? ⟨w6.heap.size, 0, none⟩ = some (.int .i64 N.lo) := by rw [hc8 _ _ (by simp; omega), World.cell?_alloc_lt _ _ ⟨w6.heap.size, 0, none⟩ (by show w6.heap.size < _; omega), hc7 _ _ (by simp)]; simp
                  have x3 : w8.cell? ⟨w6.heap.size, 1, none⟩ = some (.int .i64 N.hi) := by rw [hc8 _ _ (by simp; omega), World.cell?_alloc_lt _ _ ⟨w6.heap.size, 1, none⟩ (by show w6.heap.size < _; omega), hc7 _ _ (by simp)]; simp
                  have x4 : w8.cell? ⟨w1.heap.size, 1, none⟩ = some (.int .i64 CK5.here) := HR8.out.all.2.1
                  have CH := Lib.hid (fun n => clock_Here w.heap.size CK5 (w8.drewN n) (ck_drewN HK8.out n))
                  clear hc7 hf7 hc8 hf8 hb8
                  go_quiet ((go_at_call 14; exact quiet_left (CH.out _)))
                  go_wp2_with fail
                  go_roundw
                  case rel => exact ⟨CK5, i + 1, rfl, by go_num, ⟨by omega, by omega⟩, OK5.out, ck_drewN HK8.out _, ck_drewN HR8.out _, below_drewN HB8.out _⟩
                  case measure => simp [intOf]; omega
              by_cases x1 : x = 1
              · subst x1
                as_aux_lemma =>
                  go_wp2_with fail
                  go_region_held3 (fun w' => w'.cell? ⟨wo.heap.size, 1, none⟩ = some (.int .i64 y)) (first | go_keep | exact kp | exact kq | exact k5)
                    (first | (go_at_call 6; (with_reducible refine (clock_Step w.heap.size c y _ (by first | exact KE.out | exact ck_drew KE.out | exact ck_drew (ck_drew KE.out) | exact ck_drew (ck_drew (ck_drew KE.out)))).mono ?_); rintro e wp ⟨rfl, hkp, htp⟩; have hzp := htp.size; (try simp at hzp); have RE2 := ck_touch (by first | exact RE.out | exact ck_drew RE.out | exact ck_drew (ck_drew RE.out) | exact ck_drew (ck_drew (ck_drew RE.out))) htp (by omega); have BP := (show Below w.heap.size w wp from (by first | exact BE.out | exact below_drewN BE.out 1 | exact below_drewN (below_drewN BE.out 1) 1 | exact below_drewN (below_drewN (below_drewN BE.out 1) 1) 1 : Below w.heap.size w _).trans (htp.below (by omega) (by simp; omega))); have kp : wp.cell? ⟨wo.heap.size, 1, none⟩ = some (.int .i64 y) := (htp.cell (by simp) (by omega) 1).trans (by simp)) | (go_at_call 7; (with_reducible refine (rclock_Step w1.heap.size c y _ (by first | exact RE2 | exact ck_drew RE2 | exact ck_drew (ck_drew RE2))).mono ?_); rintro e wq ⟨rfl, hkq, htq⟩; have hzq := htq.size; (try simp at hzq); have KE2 := ck_touch (by first | exact hkp | exact ck_drew hkp | exact ck_drew (ck_drew hkp)) htq (by omega); have BQ := (show Below w.heap.size w wq from (by first | exact BP | exact below_drewN BP 1 | exact below_drewN (below_drewN BP 1) 1 : Below w.heap.size w _).trans (htq.below (by omega) (by first | omega | (simp; omega)))); have kq : wq.cell? ⟨wo.heap.size, 1, none⟩ = some (.int .i64 y) := (htq.cell (by first | omega | (simp; omega)) (by omega) 1).trans kp) | (go_at_call 5; (with_reducible refine (Error_any (stepC c y) (stepC c y) _ (HG.out.below BQ)).mono ?_); rintro e w5 ⟨rfl, hb5⟩; have k5 : w5.cell? ⟨wo.heap.size, 1, none⟩ = some (.int .i64 y) := (hb5.cell (p := ⟨wo.heap.size, 1, none⟩) (by show wo.heap.size < _; omega)).trans kq))
                  obtain ⟨CK5, eK⟩ : ∃ k : CK, stepK c y = k := ⟨_, rfl⟩
                  rw [eK] at KE2 hkq
                  have OK5 := Lib.hid (show CK5.ok from by rw [← eK]; exact ok_step OK.out y)
                  have hz5 := hb5.size
                  have HK5 := Lib.hid (KE2.below hb5 (Blk.lt KE2))
                  have HR5 := Lib.hid (hkq.below hb5 (Blk.lt hkq))
                  have HB5 := Lib.hid (BQ.trans (hb5.mono (by omega)))
                  have glp5 := Blk.lt HK5.out
                  have glr5 := Blk.lt HR5.out
                  clear eK KE2 hkq hkp htp htq RE2 BP BQ kp kq k5 hb5 KE RE BE
                  go_wp2_with fail
                  refine (rclock_Now _ _ _ HR5.out OK5.out).mono ?_
                  rintro e w6 ⟨rfl, hb6⟩
                  have hz6 := hb6.size
                  have HK6 := Lib.hid (HK5.out.below hb6 glp5)
                  have HR6 := Lib.hid (HR5.out.below hb6 glr5)
                  have HB6 := Lib.hid (HB5.out.trans (hb6.mono (by omega)))
                  obtain ⟨N, eN⟩ : ∃ N, nowS CK5 = N := ⟨_, rfl⟩
                  rw [eN]
                  have EN := Lib.hid eN
                  clear eN hb6
                  go_wp2_with fail
                  refine (clock_Now _ _ _ (HK6.out.below ((Below.refl _ _).alloc (Nat.le_refl _) _) (by omega)) OK5.out).mono ?_
                  rintro e w7 ⟨rfl, hb7⟩
                  have hz7 := hb7.size
                  (try simp at hz7)
                  have HK7 := Lib.hid ((HK6.out.below ((Below.refl _ _).alloc (Nat.le_refl _) (.cells #[.int .i64 N.lo, .int .i64 N.hi] 31)) (by omega)).below hb7 (by simp; omega))
                  have HR7 := Lib.hid ((HR6.out.below ((Below.refl _ _).alloc (Nat.le_refl _) (.cells #[.int .i64 N.lo, .int .i64 N.hi] 31)) (by omega)).below hb7 (by simp; omega))
                  have HB7 := Lib.hid ((HB6.out.alloc HB6.out.size (.cells #[.int .i64 N.lo, .int .i64 N.hi] 31)).trans (hb7.mono (by simp; omega)))
                  obtain ⟨hc7, hf7⟩ := bcell hb7
                  rw [EN.out]
                  clear hb7
                  go_wp2_with fail
                  (try (go_at_call 5; refine (Error_any N.c _ _ (HG.out.below (HB7.out.alloc HB7.out.size _))).mono ?_; rintro e w8 ⟨rfl, hb8⟩; obtain ⟨hc8, hf8⟩ := bcell hb8; have hz8 := hb8.size; (try simp at hz8); (try have q8_0_0_0 : w.heap.size < w8.heap.size := by omega); (try have q8_0_0_2 : w.heap.size < w8.heap.size + 1 + 1 := by omega); (try have q8_0_0_3 : w.heap.size < w8.heap.size + 1 + 1 + 1 := by omega); (try have q8_0_1_0 : w.heap.size + 1 < w8.heap.size := by omega); (try have q8_0_1_2 : w.heap.size + 1 < w8.heap.size + 1 + 1 := by omega); (try have q8_0_1_3 : w.heap.size + 1 < w8.heap.size + 1 + 1 + 1 := by omega); (try have q8_0_2_0 : w.heap.size + 1 + 1 < w8.heap.size := by omega); (try have q8_0_2_2 : w.heap.size + 1 + 1 < w8.heap.size + 1 + 1 := by omega); (try have q8_0_2_3 : w.heap.size + 1 + 1 < w8.heap.size + 1 + 1 + 1 := by omega); (try have q8_0_3_0 : w.heap.size + 1 + 1 + 1 < w8.heap.size := by omega); (try have q8_0_3_2 : w.heap.size + 1 + 1 + 1 < w8.heap.size + 1 + 1 := by omega); (try have q8_0_3_3 : w.heap.size + 1 + 1 + 1 < w8.heap.size + 1 + 1 + 1 := by omega); (try have q8_1_0_0 : w1.heap.size < w8.heap.size := by omega); (try have q8_1_0_2 : w1.heap.size < w8.heap.size + 1 + 1 := by omega); (try have q8_1_1_0 : w1.heap.size + 1 < w8.heap.size := by omega); (try have q8_1_1_2 : w1.heap.size + 1 < w8.heap.size + 1 + 1 := by omega); (try have q8_2_0_0 : w2.heap.size < w8.heap.size := by omega); (try have q8_2_0_2 : w2.heap.size < w8.heap.size + 1 + 1 := by omega); (try have q8_2_1_0 : w2.heap.size + 1 < w8.heap.size := by omega); (try have q8_2_1_2 : w2.heap.size + 1 < w8.heap.size + 1 + 1 := by omega); (try have q8_3_0_0 : w3.heap.size < w8.heap.size := by omega); (try have q8_3_0_2 : w3.heap.size < w8.heap.size + 1 + 1 := by omega); (try have q8_3_1_0 : w3.heap.size + 1 < w8.heap.size := by omega); (try have q8_3_1_2 : w3.heap.size + 1 < w8.heap.size + 1 + 1 := by omega); (try have q8_4_0_0 : w4.heap.size < w8.heap.size := by omega); (try have q8_4_0_2 : w4.heap.size < w8.heap.size + 1 + 1 := by omega); (try have q8_4_1_0 : w4.heap.size + 1 < w8.heap.size := by omega); (try have q8_4_1_2 : w4.heap.size + 1 < w8.heap.size + 1 + 1 := by omega); (try have q8_5_0_0 : w5.heap.size < w8.heap.size := by omega); (try have q8_5_0_2 : w5.heap.size < w8.heap.size + 1 + 1 := by omega); (try have q8_5_1_0 : w5.heap.size + 1 < w8.heap.size := by omega); (try have q8_5_1_2 : w5.heap.size + 1 < w8.heap.size + 1 + 1 := by omega); (try have q8_6_0_0 : w6.heap.size < w8.heap.size := by omega); (try have q8_6_0_2 : w6.heap.size < w8.heap.size + 1 + 1 := by omega); (try have q8_6_1_0 : w6.heap.size + 1 < w8.heap.size := by omega); (try have q8_6_1_2 : w6.heap.size + 1 < w8.heap.size + 1 + 1 := by omega); (try have q8_7_0_0 : w7.heap.size < w8.heap.size := by omega); (try have q8_7_0_2 : w7.heap.size < w8.heap.size + 1 + 1 := by omega); (try have q8_7_1_0 : w7.heap.size + 1 < w8.heap.size := by omega); (try have q8_7_1_2 : w7.heap.size + 1 < w8.heap.size + 1 + 1 := by omega); (try go_wp2_with fail)))
                  have HK8 := Lib.hid ((HK7.out.below ((Below.refl _ _).alloc (Nat.le_refl _) (.cells #[.int .i64 N.lo, .int .i64 N.hi] 31)) (by omega)).below hb8 (by simp; omega))
                  have HR8 := Lib.hid ((HR7.out.below ((Below.refl _ _).alloc (Nat.le_refl _) (.cells #[.int .i64 N.lo, .int .i64 N.hi] 31)) (by omega)).below hb8 (by simp; omega))
                  have HB8 := Lib.hid ((HB7.out.alloc HB7.out.size (.cells #[.int .i64 N.lo, .int .i64 N.hi] 31)).trans (hb8.mono (by simp; omega)))
                  have x0 : w8.cell? ⟨w7.heap.size, 0, none⟩ = some (.int .i64 N.lo) := by rw [hc8 _ _ (by simp)]; simp
                  have x1 : w8.cell? ⟨w7.heap.size, 1, none⟩ = some (.int .i64 N.hi) := by rw [hc8 _ _ (by simp)]; simp
                  have x2 : w8.cell? ⟨w6.heap.size, 0, none⟩ = some (.int .i64 N.lo) := by rw [hc8 _ _ (by simp; omega), World.cell?_alloc_lt _ _ ⟨w6.heap.size, 0, none⟩ (by show w6.heap.size < _; omega), hc7 _ _ (by simp)]; simp
                  have x3 : w8.cell? ⟨w6.heap.size, 1, none⟩ = some (.int .i64 N.hi) := by rw [hc8 _ _ (by simp; omega), World.cell?_alloc_lt _ _ ⟨w6.heap.size, 1, none⟩ (by show w6.heap.size < _; omega), hc7 _ _ (by simp)]; simp
                  have x4 : w8.cell? ⟨w1.heap.size, 1, none⟩ = some (.int .i64 CK5.here) := HR8.out.all.2.1
                  have CH := Lib.hid (fun n => clock_Here w.heap.size CK5 (w8.drewN n) (ck_drewN HK8.out n))
                  clear hc7 hf7 hc8 hf8 hb8
                  go_quiet ((go_at_call 14; exact quiet_left (CH.out _)))
                  go_wp2_with fail
                  go_roundw
                  case rel => exact ⟨CK5, i + 1, rfl, by go_num, ⟨by omega, by omega⟩, OK5.out, ck_drewN HK8.out _, ck_drewN HR8.out _, below_drewN HB8.out _⟩
                  case measure => simp [intOf]; omega
              by_cases x2 : x = 2
              · subst x2
                as_aux_lemma =>
                  have KE := Lib.hid (KE.out.below ((Below.refl _ _).alloc (Nat.le_refl _) (.cells #[.int .i64 y, .int .i64 z] 31)) (by simp; omega))
                  have RE := Lib.hid (RE.out.below ((Below.refl _ _).alloc (Nat.le_refl _) (.cells #[.int .i64 y, .int .i64 z] 31)) (by simp; omega))
                  have BE := Lib.hid (BE.out.alloc BE.out.size (.cells #[.int .i64 y, .int .i64 z] 31))
                  go_wp2_with fail
                  go_region_held3 (fun w' => w'.cell? ⟨(wo.heap.size + 1), 0, none⟩ = some (.int .i64 y) ∧ w'.cell? ⟨(wo.heap.size + 1), 1, none⟩ = some (.int .i64 z)) (first | go_keep | exact kp | exact kq | exact k5)
                    (first | (go_at_call 8; (with_reducible refine (clock_Learn w.heap.size c y z _ (by first | exact KE.out | exact ck_drew KE.out | exact ck_drew (ck_drew KE.out) | exact ck_drew (ck_drew (ck_drew KE.out))) OK.out).mono ?_); rintro e wp ⟨rfl, hkp, htp⟩; have hzp := htp.size; (try simp at hzp); have RE2 := ck_touch (by first | exact RE.out | exact ck_drew RE.out | exact ck_drew (ck_drew RE.out) | exact ck_drew (ck_drew (ck_drew RE.out))) htp (by omega); have BP := (show Below w.heap.size w wp from (by first | exact BE.out | exact below_drewN BE.out 1 | exact below_drewN (below_drewN BE.out 1) 1 | exact below_drewN (below_drewN (below_drewN BE.out 1) 1) 1 : Below w.heap.size w _).trans (htp.below (by omega) (by simp; omega))); have kp : wp.cell? ⟨(wo.heap.size + 1), 0, none⟩ = some (.int .i64 y) ∧ wp.cell? ⟨(wo.heap.size + 1), 1, none⟩ = some (.int .i64 z) := ⟨(htp.cell (by simp) (by omega) 0).trans (by simp), (htp.cell (by simp) (by omega) 1).trans (by simp)⟩) | (go_at_call 9; (with_reducible refine (rclock_Learn w1.heap.size c y z _ (by first | exact RE2 | exact ck_drew RE2 | exact ck_drew (ck_drew RE2)) OK.out).mono ?_); rintro e wq ⟨rfl, hkq, htq⟩; have hzq := htq.size; (try simp at hzq); have KE2 := ck_touch (by first | exact hkp | exact ck_drew hkp | exact ck_drew (ck_drew hkp)) htq (by omega); have BQ := (show Below w.heap.size w wq from (by first | exact BP | exact below_drewN BP 1 | exact below_drewN (below_drewN BP 1) 1 : Below w.heap.size w _).trans (htq.below (by omega) (by first | omega | (simp; omega)))); have kq : wq.cell? ⟨(wo.heap.size + 1), 0, none⟩ = some (.int .i64 y) ∧ wq.cell? ⟨(wo.heap.size + 1), 1, none⟩ = some (.int .i64 z) := ⟨(htq.cell (by first | omega | (simp; omega)) (by omega) 0).trans kp.1, (htq.cell (by first | omega | (simp; omega)) (by omega) 1).trans kp.2⟩) | (go_at_call 5; (with_reducible refine (Error_any (learnC c y z) (learnC c y z) _ (HG.out.below BQ)).mono ?_); rintro e w5 ⟨rfl, hb5⟩; have k5 : w5.cell? ⟨(wo.heap.size + 1), 0, none⟩ = some (.int .i64 y) ∧ w5.cell? ⟨(wo.heap.size + 1), 1, none⟩ = some (.int .i64 z) := ⟨(hb5.cell (p := ⟨(wo.heap.size + 1), 0, none⟩) (by show (wo.heap.size + 1) < _; omega)).trans kq.1, (hb5.cell (p := ⟨(wo.heap.size + 1), 1, none⟩) (by show (wo.heap.size + 1) < _; omega)).trans kq.2⟩))
                  obtain ⟨CK5, eK⟩ : ∃ k : CK, learnK c y z = k := ⟨_, rfl⟩
                  rw [eK] at KE2 hkq
                  have OK5 := Lib.hid (show CK5.ok from by rw [← eK]; exact ok_learn OK.out y z)
                  have hz5 := hb5.size
                  have HK5 := Lib.hid (KE2.below hb5 (Blk.lt KE2))
                  have HR5 := Lib.hid (hkq.below hb5 (Blk.lt hkq))
                  have HB5 := Lib.hid (BQ.trans (hb5.mono (by omega)))
                  have glp5 := Blk.lt HK5.out
                  have glr5 := Blk.lt HR5.out
                  clear eK KE2 hkq hkp htp htq RE2 BP BQ kp kq k5 hb5 KE RE BE
                  go_wp2_with fail
                  refine (rclock_Now _ _ _ HR5.out OK5.out).mono ?_
                  rintro e w6 ⟨rfl, hb6⟩
                  have hz6 := hb6.size
                  have HK6 := Lib.hid (HK5.out.below hb6 glp5)
                  have HR6 := Lib.hid (HR5.out.below hb6 glr5)
                  have HB6 := Lib.hid (HB5.out.trans (hb6.mono (by omega)))
                  obtain ⟨N, eN⟩ : ∃ N, nowS CK5 = N := ⟨_, rfl⟩
                  rw [eN]
                  have EN := Lib.hid eN
                  clear eN hb6
                  go_wp2_with fail
                  refine (clock_Now _ _ _ (HK6.out.below ((Below.refl _ _).alloc (Nat.le_refl _) _) (by omega)) OK5.out).mono ?_
                  rintro e w7 ⟨rfl, hb7⟩
                  have hz7 := hb7.size
                  (try simp at hz7)
                  have HK7 := Lib.hid ((HK6.out.below ((Below.refl _ _).alloc (Nat.le_refl _) (.cells #[.int .i64 N.lo, .int .i64 N.hi] 31)) (by omega)).below hb7 (by simp; omega))
                  have HR7 := Lib.hid ((HR6.out.below ((Below.refl _ _).alloc (Nat.le_refl _) (.cells #[.int .i64 N.lo, .int .i64 N.hi] 31)) (by omega)).below hb7 (by simp; omega))
                  have HB7 := Lib.hid ((HB6.out.alloc HB6.out.size (.cells #[.int .i64 N.lo, .int .i64 N.hi] 31)).trans (hb7.mono (by simp; omega)))
                  obtain ⟨hc7, hf7⟩ := bcell hb7
                  rw [EN.out]
                  clear hb7
                  go_wp2_with fail
                  (try (go_at_call 5; refine (Error_any N.c _ _ (HG.out.below (HB7.out.alloc HB7.out.size _))).mono ?_; rintro e w8 ⟨rfl, hb8⟩; obtain ⟨hc8, hf8⟩ := bcell hb8; have hz8 := hb8.size; (try simp at hz8); (try have q8_0_0_0 : w.heap.size < w8.heap.size := by omega); (try have q8_0_0_2 : w.heap.size < w8.heap.size + 1 + 1 := by omega); (try have q8_0_0_3 : w.heap.size < w8.heap.size + 1 + 1 + 1 := by omega); (try have q8_0_1_0 : w.heap.size + 1 < w8.heap.size := by omega); (try have q8_0_1_2 : w.heap.size + 1 < w8.heap.size + 1 + 1 := by omega); (try have q8_0_1_3 : w.heap.size + 1 < w8.heap.size + 1 + 1 + 1 := by omega); (try have q8_0_2_0 : w.heap.size + 1 + 1 < w8.heap.size := by omega); (try have q8_0_2_2 : w.heap.size + 1 + 1 < w8.heap.size + 1 + 1 := by omega); (try have q8_0_2_3 : w.heap.size + 1 + 1 < w8.heap.size + 1 + 1 + 1 := by omega); (try have q8_0_3_0 : w.heap.size + 1 + 1 + 1 < w8.heap.size := by omega); (try have q8_0_3_2 : w.heap.size + 1 + 1 + 1 < w8.heap.size + 1 + 1 := by omega); (try have q8_0_3_3 : w.heap.size + 1 + 1 + 1 < w8.heap.size + 1 + 1 + 1 := by omega); (try have q8_1_0_0 : w1.heap.size < w8.heap.size := by omega); (try have q8_1_0_2 : w1.heap.size < w8.heap.size + 1 + 1 := by omega); (try have q8_1_1_0 : w1.heap.size + 1 < w8.heap.size := by omega); (try have q8_1_1_2 : w1.heap.size + 1 < w8.heap.size + 1 + 1 := by omega); (try have q8_2_0_0 : w2.heap.size < w8.heap.size := by omega); (try have q8_2_0_2 : w2.heap.size < w8.heap.size + 1 + 1 := by omega); (try have q8_2_1_0 : w2.heap.size + 1 < w8.heap.size := by omega); (try have q8_2_1_2 : w2.heap.size + 1 < w8.heap.size + 1 + 1 := by omega); (try have q8_3_0_0 : w3.heap.size < w8.heap.size := by omega); (try have q8_3_0_2 : w3.heap.size < w8.heap.size + 1 + 1 := by omega); (try have q8_3_1_0 : w3.heap.size + 1 < w8.heap.size := by omega); (try have q8_3_1_2 : w3.heap.size + 1 < w8.heap.size + 1 + 1 := by omega); (try have q8_4_0_0 : w4.heap.size < w8.heap.size := by omega); (try have q8_4_0_2 : w4.heap.size < w8.heap.size + 1 + 1 := by omega); (try have q8_4_1_0 : w4.heap.size + 1 < w8.heap.size := by omega); (try have q8_4_1_2 : w4.heap.size + 1 < w8.heap.size + 1 + 1 := by omega); (try have q8_5_0_0 : w5.heap.size < w8.heap.size := by omega); (try have q8_5_0_2 : w5.heap.size < w8.heap.size + 1 + 1 := by omega); (try have q8_5_1_0 : w5.heap.size + 1 < w8.heap.size := by omega); (try have q8_5_1_2 : w5.heap.size + 1 < w8.heap.size + 1 + 1 := by omega); (try have q8_6_0_0 : w6.heap.size < w8.heap.size := by omega); (try have q8_6_0_2 : w6.heap.size < w8.heap.size + 1 + 1 := by omega); (try have q8_6_1_0 : w6.heap.size + 1 < w8.heap.size := by omega); (try have q8_6_1_2 : w6.heap.size + 1 < w8.heap.size + 1 + 1 := by omega); (try have q8_7_0_0 : w7.heap.size < w8.heap.size := by omega); (try have q8_7_0_2 : w7.heap.size < w8.heap.size + 1 + 1 := by omega); (try have q8_7_1_0 : w7.heap.size + 1 < w8.heap.size := by omega); (try have q8_7_1_2 : w7.heap.size + 1 < w8.heap.size + 1 + 1 := by omega); (try go_wp2_with fail)))
                  have HK8 := Lib.hid ((HK7.out.below ((Below.refl _ _).alloc (Nat.le_refl _) (.cells #[.int .i64 N.lo, .int .i64 N.hi] 31)) (by omega)).below hb8 (by simp; omega))
                  have HR8 := Lib.hid ((HR7.out.below ((Below.refl _ _).alloc (Nat.le_refl _) (.cells #[.int .i64 N.lo, .int .i64 N.hi] 31)) (by omega)).below hb8 (by simp; omega))
                  have HB8 := Lib.hid ((HB7.out.alloc HB7.out.size (.cells #[.int .i64 N.lo, .int .i64 N.hi] 31)).trans (hb8.mono (by simp; omega)))
                  have x0 : w8.cell? ⟨w7.heap.size, 0, none⟩ = some (.int .i64 N.lo) := by rw [hc8 _ _ (by simp)]; simp
                  have x1 : w8.cell? ⟨w7.heap.size, 1, none⟩ = some (.int .i64 N.hi) := by rw [hc8 _ _ (by simp)]; simp
                  have x2 : w8.cell? ⟨w6.heap.size, 0, none⟩ = some (.int .i64 N.lo) := by rw [hc8 _ _ (by simp; omega), World.cell?_alloc_lt _ _ ⟨w6.heap.size, 0, none⟩ (by show w6.heap.size < _; omega), hc7 _ _ (by simp)]; simp
                  have x3 : w8.cell? ⟨w6.heap.size, 1, none⟩ = some (.int .i64 N.hi) := by rw [hc8 _ _ (by simp; omega), World.cell?_alloc_lt _ _ ⟨w6.heap.size, 1, none⟩ (by show w6.heap.size < _; omega), hc7 _ _ (by simp)]; simp
                  have x4 : w8.cell? ⟨w1.heap.size, 1, none⟩ = some (.int .i64 CK5.here) := HR8.out.all.2.1
                  have CH := Lib.hid (fun n => clock_Here w.heap.size CK5 (w8.drewN n) (ck_drewN HK8.out n))
                  clear hc7 hf7 hc8 hf8 hb8
                  go_quiet ((go_at_call 14; exact quiet_left (CH.out _)))
                  go_wp2_with fail
                  go_roundw
                  case rel => exact ⟨CK5, i + 1, rfl, by go_num, ⟨by omega, by omega⟩, OK5.out, ck_drewN HK8.out _, ck_drewN HR8.out _, below_drewN HB8.out _⟩
                  case measure => simp [intOf]; omega
              as_aux_lemma =>
                obtain ⟨PV, eV⟩ : ∃ v, pointV c = v := ⟨_, rfl⟩
                obtain ⟨PC, eC⟩ : ∃ v, pointC c = v := ⟨_, rfl⟩
                have C1 := Lib.hid (rclock_Point w1.heap.size c _ RE.out OK.out)
                rw [eV, eC] at C1
                have C2 := Lib.hid (fun w' h => clock_Point w.heap.size c w' h OK.out)
                rw [eV, eC] at C2
                clear eV eC
                go_wp2_with fail
                refine C1.out.mono ?_
                rintro e wp ⟨rfl, hkp, htp⟩
                have hzp := htp.size
                (try simp at hzp)
                have KE1 := ck_touch KE.out htp (by omega)
                have BP := Lib.hid (BE.out.trans (htp.below (by omega) (by simp; omega)))
                have HKP := Lib.hid hkp
                have HKE1 := Lib.hid KE1
                clear hkp htp KE1
                go_wp2_with fail
                refine (C2.out _ HKE1.out).mono ?_
                rintro e wq ⟨rfl, KE2, htq⟩
                have hzq := htq.size
                have hkq := ck_touch HKP.out htq (by omega)
                have BQ := BP.out.trans (htq.below (by omega) (by omega))
                have HKQ := Lib.hid hkq
                have HKE2 := Lib.hid KE2
                have HBQ := Lib.hid BQ
                clear hkq KE2 BQ htq
                go_wp2_with fail
                refine (Error_any PC PC _ (HG.out.below HBQ.out)).mono ?_
                rintro e w5 ⟨rfl, hb5⟩
                have hkq := HKQ.out
                have KE2 := HKE2.out
                have BQ := HBQ.out
                have hkp := trivial
                have htp := trivial
                have htq := trivial
                have RE2 := trivial
                have kp := trivial
                have kq := trivial
                have k5 := trivial
                obtain ⟨CK5, eK⟩ : ∃ k : CK, pointK c = k := ⟨_, rfl⟩
                rw [eK] at KE2 hkq
                have OK5 := Lib.hid (show CK5.ok from by rw [← eK]; exact ok_point OK.out)
                have hz5 := hb5.size
                have HK5 := Lib.hid (KE2.below hb5 (Blk.lt KE2))
                have HR5 := Lib.hid (hkq.below hb5 (Blk.lt hkq))
                have HB5 := Lib.hid (BQ.trans (hb5.mono (by omega)))
                have glp5 := Blk.lt HK5.out
                have glr5 := Blk.lt HR5.out
                clear eK KE2 hkq hkp htp htq RE2 BP BQ kp kq k5 hb5 KE RE BE
                go_wp2_with fail
                refine (rclock_Now _ _ _ HR5.out OK5.out).mono ?_
                rintro e w6 ⟨rfl, hb6⟩
                have hz6 := hb6.size
                have HK6 := Lib.hid (HK5.out.below hb6 glp5)
                have HR6 := Lib.hid (HR5.out.below hb6 glr5)
                have HB6 := Lib.hid (HB5.out.trans (hb6.mono (by omega)))
                obtain ⟨N, eN⟩ : ∃ N, nowS CK5 = N := ⟨_, rfl⟩
                rw [eN]
                have EN := Lib.hid eN
                clear eN hb6
                go_wp2_with fail
                refine (clock_Now _ _ _ (HK6.out.below ((Below.refl _ _).alloc (Nat.le_refl _) _) (by omega)) OK5.out).mono ?_
                rintro e w7 ⟨rfl, hb7⟩
                have hz7 := hb7.size
                (try simp at hz7)
                have HK7 := Lib.hid ((HK6.out.below ((Below.refl _ _).alloc (Nat.le_refl _) (.cells #[.int .i64 N.lo, .int .i64 N.hi] 31)) (by omega)).below hb7 (by simp; omega))
                have HR7 := Lib.hid ((HR6.out.below ((Below.refl _ _).alloc (Nat.le_refl _) (.cells #[.int .i64 N.lo, .int .i64 N.hi] 31)) (by omega)).below hb7 (by simp; omega))
                have HB7 := Lib.hid ((HB6.out.alloc HB6.out.size (.cells #[.int .i64 N.lo, .int .i64 N.hi] 31)).trans (hb7.mono (by simp; omega)))
                obtain ⟨hc7, hf7⟩ := bcell hb7
                rw [EN.out]
                clear hb7
                go_wp2_with fail
                (try (go_at_call 5; refine (Error_any N.c _ _ (HG.out.below (HB7.out.alloc HB7.out.size _))).mono ?_; rintro e w8 ⟨rfl, hb8⟩; obtain ⟨hc8, hf8⟩ := bcell hb8; have hz8 := hb8.size; (try simp at hz8); (try have q8_0_0_0 : w.heap.size < w8.heap.size := by omega); (try have q8_0_0_2 : w.heap.size < w8.heap.size + 1 + 1 := by omega); (try have q8_0_0_3 : w.heap.size < w8.heap.size + 1 + 1 + 1 := by omega); (try have q8_0_1_0 : w.heap.size + 1 < w8.heap.size := by omega); (try have q8_0_1_2 : w.heap.size + 1 < w8.heap.size + 1 + 1 := by omega); (try have q8_0_1_3 : w.heap.size + 1 < w8.heap.size + 1 + 1 + 1 := by omega); (try have q8_0_2_0 : w.heap.size + 1 + 1 < w8.heap.size := by omega); (try have q8_0_2_2 : w.heap.size + 1 + 1 < w8.heap.size + 1 + 1 := by omega); (try have q8_0_2_3 : w.heap.size + 1 + 1 < w8.heap.size + 1 + 1 + 1 := by omega); (try have q8_0_3_0 : w.heap.size + 1 + 1 + 1 < w8.heap.size := by omega); (try have q8_0_3_2 : w.heap.size + 1 + 1 + 1 < w8.heap.size + 1 + 1 := by omega); (try have q8_0_3_3 : w.heap.size + 1 + 1 + 1 < w8.heap.size + 1 + 1 + 1 := by omega); (try have q8_1_0_0 : w1.heap.size < w8.heap.size := by omega); (try have q8_1_0_2 : w1.heap.size < w8.heap.size + 1 + 1 := by omega); (try have q8_1_1_0 : w1.heap.size + 1 < w8.heap.size := by omega); (try have q8_1_1_2 : w1.heap.size + 1 < w8.heap.size + 1 + 1 := by omega); (try have q8_2_0_0 : w2.heap.size < w8.heap.size := by omega); (try have q8_2_0_2 : w2.heap.size < w8.heap.size + 1 + 1 := by omega); (try have q8_2_1_0 : w2.heap.size + 1 < w8.heap.size := by omega); (try have q8_2_1_2 : w2.heap.size + 1 < w8.heap.size + 1 + 1 := by omega); (try have q8_3_0_0 : w3.heap.size < w8.heap.size := by omega); (try have q8_3_0_2 : w3.heap.size < w8.heap.size + 1 + 1 := by omega); (try have q8_3_1_0 : w3.heap.size + 1 < w8.heap.size := by omega); (try have q8_3_1_2 : w3.heap.size + 1 < w8.heap.size + 1 + 1 := by omega); (try have q8_4_0_0 : w4.heap.size < w8.heap.size := by omega); (try have q8_4_0_2 : w4.heap.size < w8.heap.size + 1 + 1 := by omega); (try have q8_4_1_0 : w4.heap.size + 1 < w8.heap.size := by omega); (try have q8_4_1_2 : w4.heap.size + 1 < w8.heap.size + 1 + 1 := by omega); (try have q8_5_0_0 : w5.heap.size < w8.heap.size := by omega); (try have q8_5_0_2 : w5.heap.size < w8.heap.size + 1 + 1 := by omega); (try have q8_5_1_0 : w5.heap.size + 1 < w8.heap.size := by omega); (try have q8_5_1_2 : w5.heap.size + 1 < w8.heap.size + 1 + 1 := by omega); (try have q8_6_0_0 : w6.heap.size < w8.heap.size := by omega); (try have q8_6_0_2 : w6.heap.size < w8.heap.size + 1 + 1 := by omega); (try have q8_6_1_0 : w6.heap.size + 1 < w8.heap.size := by omega); (try have q8_6_1_2 : w6.heap.size + 1 < w8.heap.size + 1 + 1 := by omega); (try have q8_7_0_0 : w7.heap.size < w8.heap.size := by omega); (try have q8_7_0_2 : w7.heap.size < w8.heap.size + 1 + 1 := by omega); (try have q8_7_1_0 : w7.heap.size + 1 < w8.heap.size := by omega); (try have q8_7_1_2 : w7.heap.size + 1 < w8.heap.size + 1 + 1 := by omega); (try go_wp2_with fail)))
                have HK8 := Lib.hid ((HK7.out.below ((Below.refl _ _).alloc (Nat.le_refl _) (.cells #[.int .i64 N.lo, .int .i64 N.hi] 31)) (by omega)).below hb8 (by simp; omega))
                have HR8 := Lib.hid ((HR7.out.below ((Below.refl _ _).alloc (Nat.le_refl _) (.cells #[.int .i64 N.lo, .int .i64 N.hi] 31)) (by omega)).below hb8 (by simp; omega))
                have HB8 := Lib.hid ((HB7.out.alloc HB7.out.size (.cells #[.int .i64 N.lo, .int .i64 N.hi] 31)).trans (hb8.mono (by simp; omega)))
                have x0 : w8.cell? ⟨w7.heap.size, 0, none⟩ = some (.int .i64 N.lo) := by rw [hc8 _ _ (by simp)]; simp
                have x1 : w8.cell? ⟨w7.heap.size, 1, none⟩ = some (.int .i64 N.hi) := by rw [hc8 _ _ (by simp)]; simp
                have x2 : w8.cell? ⟨w6.heap.size, 0, none⟩ = some (.int .i64 N.lo) := by rw [hc8 _ _ (by simp; omega), World.cell?_alloc_lt _ _ ⟨w6.heap.size, 0, none⟩ (by show w6.heap.size < _; omega), hc7 _ _ (by simp)]; simp
                have x3 : w8.cell? ⟨w6.heap.size, 1, none⟩ = some (.int .i64 N.hi) := by rw [hc8 _ _ (by simp; omega), World.cell?_alloc_lt _ _ ⟨w6.heap.size, 1, none⟩ (by show w6.heap.size < _; omega), hc7 _ _ (by simp)]; simp
                have x4 : w8.cell? ⟨w1.heap.size, 1, none⟩ = some (.int .i64 CK5.here) := HR8.out.all.2.1
                have CH := Lib.hid (fun n => clock_Here w.heap.size CK5 (w8.drewN n) (ck_drewN HK8.out n))
                clear hc7 hf7 hc8 hf8 hb8
                go_quiet ((go_at_call 14; exact quiet_left (CH.out _)))
                go_wp2_with fail
                go_roundw
                case rel => exact ⟨CK5, i + 1, rfl, by go_num, ⟨by omega, by omega⟩, OK5.out, ck_drewN HK8.out _, ck_drewN HR8.out _, below_drewN HB8.out _⟩
                case measure => simp [intOf]; omega
      · go_wp2_with fail
        go_ret
        exact ⟨rfl, HB.out⟩
    · go_wp2_with fail
      go_ret
      exact ⟨rfl, HB.out⟩

set_option maxRecDepth 100000 in
theorem lifted (os : Os) (started : os.Started) (H : Type) (enc : TypeId × Value → H) :
    ReturnsInHanded {} Tryd.checked os 3 .any (fun w args => (Rows.clockPlaysSpec.pre enc Tryd.prog Tryd.f3 [] false w args ∧ laidMetH Tryd.prog laidList w) ∧ sizedMet enc Tryd.prog Tryd.f3 (OpenSpec.ofChange Rows.clockPlaysSpec) false w args)
      (Rows.clockPlaysSpec.post enc Tryd.prog Tryd.f3 false true false false) := by
  refine returnsInHanded_of_change_and (C := Tryd.checked) (X := fun w _ => laidMetH Tryd.prog laidList w) (fun _ _ _ hh h => h.of_heap hh) own started (by kernel_rfl) Tryd.func3
    (ChangeSpec.witness_at (enc := enc) (C := Tryd.checked) (os := os) (X := fun w _ => laidMetH Tryd.prog laidList w) false (laidWorld os) #[.int .i64 0, .slice none 0 0] 8 rfl (by kernel_rfl) (by kernel_rfl) (by kernel_rfl) (by kernel_rfl) (by kernel_rfl) (laidWorld_met os _)) ?_
  intro W base args ds gs before hval0 hW hcnd hreach hL _
  have hval : ∀ (j : Nat) t v, Tryd.f3.params[j]? = some t → args[j]? = some v → Value.okWide Tryd.prog W .any base t v := hval0
  have hW' := hW
  obtain ⟨p, q, hA0, hV, rfl, hfz, hnd⟩ := hW
  have hA : DataW.TrodAll enc Tryd.prog W 0 (fun _ => true) true Tryd.f3.params.toList args.toList ds p := hA0
  rw [Tryd.params3] at hA hval
  obtain ⟨v0, vs0, d0, ds0, p0, q0, hargs, rfl, rfl, g0, r0⟩ := trodAll_cons hA
  obtain ⟨v1, vs1, d1, ds1, p1, q1, rfl, rfl, rfl, g1, r1⟩ := trodAll_cons r0
  obtain ⟨rfl, rfl, rfl⟩ := trodAll_nil r1
  obtain rfl : args = #[v0, v1] := by cases args; simp_all
  have hV2 : DataW.TrodVars enc Tryd.prog W (fun _ => true) [] gs q := hV
  obtain ⟨rfl, rfl⟩ : gs = [] ∧ q = [] := by
    cases gs with
    | nil => exact ⟨rfl, hV2⟩
    | cons g r => exact absurd hV2 (by intro h; cases h)
  obtain ⟨a0, rfl, rfl, rfl, u0⟩ := open_int Tryd.underlying3 (hval 0 3 v0 rfl rfl) g0
  have h0 := bounds_i64 u0
  have k1 := g1
  have lt1 : ∀ x ∈ p1, x.block < W.heap.size := by obtain ⟨m, hm⟩ := k1; exact DataW.trod_lt m _ _ _ hm
  have rd1 : Tryd.prog.readableRec 22 = true := by kernel_rfl
  have ls1 : 22 < Tryd.prog.types.size := of_decide_eq_true (by kernel_rfl)
  obtain ⟨a1, n1, c1, z1, rfl, h1⟩ := open_IntRows (hval 1 22 v1 rfl rfl) g1
  clear hA0 hval0
  refine (walk a0 a1 n1 c1 z1 W h0 h1 (handle_of_laid hL)).mono fun e W' ⟨he, bel⟩ => ?_
  subst he
  exact ⟨_, rfl, _, _, _, [], _, [], hW', trodAll_mk1 (shut_bool Tryd.underlying4 _), (trodAll_cons_mk (shut_int Tryd.underlying3 u0) (trodAll_cons_mk (Below.trod laidOut rd1 ls1 k1 bel lt1) trodAll_mk0)), rfl, bel.frame _, fun h => by cases h⟩

theorem over : Rows.clockPlaysRow.holds Tryd.pinned (OpenSpec.ofChange Rows.clockPlaysSpec) :=
  OpenClaim.holds_of_wide 3 Tryd.f3 rfl rfl rfl rfl rfl rfl rfl ⟨rfl, rfl, rfl, rfl, rfl⟩ rfl rfl rfl rfl rfl (by kernel_rfl) Tryd.func3 (by kernel_rfl)
    (of_decide_eq_true (by kernel_rfl)) (by unfold Func.isWrapper; rw [if_neg (of_decide_eq_false (by kernel_rfl))]; exact ⟨rfl, rfl⟩)
    (fun os started H enc _ => lifted os started H enc)

theorem card : Rows.ClockPlaysCardSaid :=
  Claim7.holds_tied_plain_at .later [] [.handle] true (true, Rows.clockPlaysCard.stood.harness.2) true
    over (fun _ h => by cases h) (by kernel_rfl) (fun _ h => by cases h) clockPlays_row_tie rfl ⟨rfl, rfl⟩ (by kernel_rfl) rfl
    (fun f fn hf hfn => by
      obtain rfl : f = 3 := Option.some.inj ((show Tryd.prog.funcNamed "noonmark/noonlaw2.ClockPlays" = some 3 by kernel_rfl).symm.trans hf) |>.symm
      obtain rfl : fn = Tryd.f3 := (Option.some.inj (Tryd.func3.symm.trans hfn)).symm
      exact ⟨by kernel_rfl, fun j t ht => by
        rw [Tryd.params3] at ht
        exact noStandIn (ps := #[3, 22]) (by kernel_rfl) ht⟩)
    (by kernel_rfl)

#print axioms card
end Go.Proofs.YtjaglpfmlappjaaDoor.lClockPlays
