/- Proved: the tied card of noonlaw4.ClockWidens: it answers true for every input and leaves its arguments as they were. The card's own condition: errors.errorType holds what the program's text lays there. -/
import Derived.Test.YtkejdfpdehchcaaDoorDoor
import Derived.Test.YtkejdfpdehchcaaDoorClock
namespace Go.Proofs.YtkejdfpdehchcaaDoor.lClockWidens
open Go.ChangeShapes Go.WideShapes Go.ChangeAt Go.RowKit
set_option linter.unusedVariables false
set_option linter.unusedSimpArgs false
def ck (p lo hi t : Int) : CK := ⟨p, t, true, lo, hi, 0, false, 0⟩
def nn (p t : Int) : Int := 1 + byP t (2 * p)
theorem byP_mono {a b p : Int} (h : a ≤ b) (hp : 0 ≤ p) : byP a p ≤ byP b p := upD_mono (Int.mul_le_mul_of_nonneg_right h hp) (by omega)
theorem nn_bd {p t : Int} (h0 : 0 ≤ t) (h1 : t ≤ 100000000) (hp : 0 ≤ p) (hq : p ≤ 1000) : 1 ≤ nn p t ∧ nn p t ≤ 200001 := by
  have h := mul_bd h0 h1 (show (0:Int) ≤ 2 * p by omega) (show 2 * p ≤ 2000 by omega)
  have a : upD (t * (2 * p)) 1000000 ≤ upD (100000000 * 2000) 1000000 := upD_mono h.2 (by omega)
  have b := (upD_bd h.1 (show (1:Int) ≤ 1000000 by omega)).1
  have c : upD (100000000 * 2000) 1000000 = 200000 := rfl
  unfold nn byP
  omega
theorem now_ck {p lo hi t : Int} (h0 : 0 ≤ t) (h1 : t ≤ 100000000) (hp : 0 ≤ p) (hq : p ≤ 1000) (l0 : -1000 ≤ lo) (l1 : lo ≤ hi) (l2 : hi ≤ 1000) :
    nowS (ck p lo hi t) = ⟨lo - nn p t + t, hi + nn p t + t, 0⟩ := by
  have b := nn_bd h0 h1 hp hq
  have e : agedN (ck p lo hi t) = nn p t := by simp [agedN, ck, nn]
  unfold nowS whole
  rw [if_pos (show (ck p lo hi t).known = true from rfl), e]
  rw [if_pos (rightB_iff.2 (by simp [ck]; omega))]
  rfl
theorem ok_ck {p lo hi t : Int} (h0 : 0 ≤ t) (h1 : t ≤ 100000000) (hp : 0 ≤ p) (hq : p ≤ 1000) (l0 : -1000 ≤ lo) (l1 : lo ≤ hi) (l2 : hi ≤ 1000) : (ck p lo hi t).ok :=
  ⟨hp, hq, by simp [ck], h0, by simp [ck]; omega, by simp [ck]; omega, l1, by simp [ck]; omega, by simp [ck], by simp [ck]⟩
theorem step_ck {p lo hi t u : Int} (h0 : 0 ≤ t) (h1 : u ≤ 100000000) (h : t ≤ u) : stepC (ck p lo hi t) u = 0 ∧ stepK (ck p lo hi t) u = ck p lo hi u := by
  have e : stepC (ck p lo hi t) u = 0 := by unfold stepC; rw [if_neg (by omega), if_neg (by simp [ck]; omega)]
  exact ⟨e, by unfold stepK; rw [if_pos e]; rfl⟩
theorem learn_ck {p lo hi : Int} (l0 : -1000 ≤ lo) (l1 : lo ≤ hi) (l2 : hi ≤ 1000) :
    learnC ⟨p, 0, false, 0, 0, 0, false, 0⟩ lo hi = 0 ∧ learnK ⟨p, 0, false, 0, 0, 0, false, 0⟩ lo hi = ck p lo hi 0 := by
  have e : learnC ⟨p, 0, false, 0, 0, 0, false, 0⟩ lo hi = 0 := by unfold learnC; rw [if_pos (rightB_iff.2 (by omega)), if_neg (by simp)]
  exact ⟨e, by unfold learnK; rw [if_pos e, if_neg (by simp)]; rfl⟩
structure CInv (n : Nat) (t : Int) (i : Nat) : Prop where
  a1 : i ≤ n
  a2 : i ≤ 30
  a3 : 0 ≤ t
  a4 : t ≤ 1000000 * i
set_option maxRecDepth 100000 in
set_option maxHeartbeats 4000000 in
theorem walk (a0 : Int) (a1 : Int) (a2 : Int) (a3 : Option Addr) (n3 c3 : Nat) (z3 : List Int) (w : World) (h0 : -9223372036854775808 ≤ a0 ∧ a0 ≤ 9223372036854775807) (h1 : -9223372036854775808 ≤ a1 ∧ a1 ≤ 9223372036854775807) (h2 : -9223372036854775808 ≤ a2 ∧ a2 ≤ 9223372036854775807) (h3 : IsInts w a3 n3 c3 z3) (hg : HandleAt w) :
    Calls Tryd.prog 6 #[.int .i64 a0, .int .i64 a1, .int .i64 a2, .slice a3 n3 c3] w fun e w' => e = .returned (.bool true) ∧ Below w.heap.size w w' := by
  have HG := Lib.hid hg
  clear hg
  cases c0 : rateB a0
  · have c1 : ¬ (0 ≤ a0 ∧ a0 ≤ 1000) := fun h => by rw [rateB_iff.2 h] at c0; cases c0
    by_cases c2 : a0 < 0
    · go_enter Tryd.func6, Tryd.ntmps6
      go_wp2_with fail
      (try (go_at_call 30; refine (clock_New_no _ _ c0).mono ?_; rintro e w' ⟨rfl, rfl⟩; (try go_wp2_with fail)))
      go_ret
      exact ⟨rfl, (by repeat (first | with_reducible exact Below.refl _ _ | (with_reducible refine Below.alloc ?_ (by first | omega | (simp; done) | (simp; omega)) _) | (with_reducible refine Below.setCell ?_ (by first | omega | (simp; done) | (simp; omega)) _) | (with_reducible refine Below.drew ?_) | (with_reducible refine below_drewN ?_ _) | (exact (by assumption)) | (with_reducible refine bel_step (by assumption) ?_ (by first | omega | (simp; done) | (simp; omega)))))⟩
    · have c3 : 1000 < a0 := by omega
      go_enter Tryd.func6, Tryd.ntmps6
      go_wp2_with fail
      (try (go_at_call 30; refine (clock_New_no _ _ c0).mono ?_; rintro e w' ⟨rfl, rfl⟩; (try go_wp2_with fail)))
      go_ret
      exact ⟨rfl, (by repeat (first | with_reducible exact Below.refl _ _ | (with_reducible refine Below.alloc ?_ (by first | omega | (simp; done) | (simp; omega)) _) | (with_reducible refine Below.setCell ?_ (by first | omega | (simp; done) | (simp; omega)) _) | (with_reducible refine Below.drew ?_) | (with_reducible refine below_drewN ?_ _) | (exact (by assumption)) | (with_reducible refine bel_step (by assumption) ?_ (by first | omega | (simp; done) | (simp; omega)))))⟩
  obtain ⟨p0, p1⟩ := rateB_iff.1 c0
  by_cases d : -1000 ≤ a1 ∧ a1 ≤ a2 ∧ a2 ≤ 1000
  · obtain ⟨d0, d1, d2⟩ := d
    obtain ⟨l1, l2, l3, l4, l5⟩ := h3
    unfold maxLen at l3
    have L1 := Lib.hid l1
    have L4 := Lib.hid l4
    have L5 := Lib.hid l5
    clear l1 l4 l5
    obtain ⟨u1, u2⟩ := learn_ck (p := a0) d0 d1 d2
    have n0 := now_ck (p := a0) (t := 0) (by omega) (by omega) p0 p1 d0 d1 d2
    have K0 : CK.ok ⟨a0, 0, false, 0, 0, 0, false, 0⟩ := ⟨p0, p1, by simp, by simp, by simp, by simp, by simp, by simp, by simp, by simp⟩
    have KO := Lib.hid K0
    have K1 := Lib.hid (ok_ck (p := a0) (t := 0) (by omega) (by omega) p0 p1 d0 d1 d2)
    clear K0
    have KA : ∀ w, ClockAt (World.alloc w (.cells (CK.cells ⟨a0, 0, false, 0, 0, 0, false, 0⟩) 139)) w.heap.size 139 ⟨a0, 0, false, 0, 0, 0, false, 0⟩ := fun w => Blk.new w _ _
    have KH := Lib.hid KA
    clear KA
    have x1 : decide (a1 < -1000) = false := by simp; omega
    have x2 : decide (a2 < a1) = false := by simp; omega
    have x3 : decide (1000 < a2) = false := by simp; omega
    obtain ⟨nb1, nb2⟩ := nn_bd (p := a0) (t := 0) (by omega) (by omega) p0 p1
    go_enter Tryd.func6, Tryd.ntmps6
    go_wp2_with fail
    (try (go_at_call 30; refine (clock_New_ok _ _ c0).mono ?_; rintro e w' ⟨rfl, rfl⟩; (try go_wp2_with fail)))
    refine (clock_Learn _ _ _ _ _ (KH.out _) KO.out).mono ?_
    rintro e w1 ⟨rfl, hk1, ht1⟩
    rw [u2] at hk1
    have HK1 := Lib.hid hk1
    have hB1 : Below w.heap.size w w1 := (show Below w.heap.size w (w.alloc _) from (by repeat (first | with_reducible exact Below.refl _ _ | (with_reducible refine Below.alloc ?_ (by first | omega | (simp; done) | (simp; omega)) _) | (with_reducible refine Below.setCell ?_ (by first | omega | (simp; done) | (simp; omega)) _) | (with_reducible refine Below.drew ?_) | (with_reducible refine below_drewN ?_ _) | (exact (by assumption)) | (with_reducible refine bel_step (by assumption) ?_ (by first | omega | (simp; done) | (simp; omega)))))).trans (ht1.below (Nat.le_refl _) (by simp))
    have hz1 := ht1.size
    simp at hz1
    clear hk1 ht1
    go_wp2_with fail
    (try (go_at_call 31; refine (clock_Now _ _ _ HK1.out K1.out).mono ?_; rintro e w2 ⟨rfl, hb2⟩; obtain ⟨hc2, hf2⟩ := bcell hb2; have hz2 := hb2.size; (try simp at hz2); (try have q2_0_0_0 : w.heap.size < w2.heap.size := by omega); (try have q2_0_0_2 : w.heap.size < w2.heap.size + 1 + 1 := by omega); (try have q2_0_0_3 : w.heap.size < w2.heap.size + 1 + 1 + 1 := by omega); (try have q2_0_1_0 : w.heap.size + 1 < w2.heap.size := by omega); (try have q2_0_1_2 : w.heap.size + 1 < w2.heap.size + 1 + 1 := by omega); (try have q2_0_1_3 : w.heap.size + 1 < w2.heap.size + 1 + 1 + 1 := by omega); (try have q2_0_2_0 : w.heap.size + 1 + 1 < w2.heap.size := by omega); (try have q2_0_2_2 : w.heap.size + 1 + 1 < w2.heap.size + 1 + 1 := by omega); (try have q2_0_2_3 : w.heap.size + 1 + 1 < w2.heap.size + 1 + 1 + 1 := by omega); (try have q2_0_3_0 : w.heap.size + 1 + 1 + 1 < w2.heap.size := by omega); (try have q2_0_3_2 : w.heap.size + 1 + 1 + 1 < w2.heap.size + 1 + 1 := by omega); (try have q2_0_3_3 : w.heap.size + 1 + 1 + 1 < w2.heap.size + 1 + 1 + 1 := by omega); (try have q2_1_0_0 : w1.heap.size < w2.heap.size := by omega); (try have q2_1_0_2 : w1.heap.size < w2.heap.size + 1 + 1 := by omega); (try have q2_1_1_0 : w1.heap.size + 1 < w2.heap.size := by omega); (try have q2_1_1_2 : w1.heap.size + 1 < w2.heap.size + 1 + 1 := by omega); (try go_wp2_with fail)))
    have hB2 : Below w.heap.size w w2 := bel_step hb2 (by repeat (first | with_reducible exact Below.refl _ _ | (with_reducible refine Below.alloc ?_ (by first | omega | (simp; done) | (simp; omega)) _) | (with_reducible refine Below.setCell ?_ (by first | omega | (simp; done) | (simp; omega)) _) | (with_reducible refine Below.drew ?_) | (with_reducible refine below_drewN ?_ _) | (exact (by assumption)) | (with_reducible refine bel_step (by assumption) ?_ (by first | omega | (simp; done) | (simp; omega))))) (by omega)
    have HB2 := Lib.hid hB2
    have HK2 := Lib.hid (HK1.out.below hb2 (by omega))
    have hz2' : w.heap.size < w2.heap.size := by omega
    clear hc2 hf2 hb2 hB1 hB2
    go_loopw [14, 15, 16, 17] (fun ev wv tv iv wr => ∃ (t : Int) (i : Nat) (x y : Value), ev = .nilIface ∧ wv = .int .i64 (a2 + nn a0 t - (a1 - nn a0 t)) ∧ tv = .int .i64 t ∧ iv = .int .i64 i ∧ CInv n3 t i ∧ ClockAt wr w.heap.size 139 (ck a0 a1 a2 t) ∧ Blk wr w2.heap.size 41 #[x, y] ∧ Below w.heap.size w wr)
      (fun _ _ _ iv _ => n3 - (intOf iv).toNat)
    case atStart => exact ⟨0, 0, _, _, rfl, rfl, rfl, rfl, ⟨by omega, by omega, by omega, by omega⟩, Blk.alloc HK2.out _, Blk.new _ _ _, HB2.out.alloc (by omega) _⟩
    case round =>
      obtain ⟨t, i, x, y, rfl, rfl, rfl, rfl, hI, hK, hS, hB⟩ := hrel
      obtain ⟨j1, j2, j3, j4⟩ := hI
      obtain ⟨m1, m2⟩ := nn_bd (p := a0) (t := t) (by omega) (by omega) p0 p1
      have HK := Lib.hid hK
      have HS := Lib.hid hS
      have HB := Lib.hid hB
      have hzr := hB.size
      have glt := Blk.lt hK
      have slt := Blk.lt hS
      clear hK hS hB
      by_cases f1 : i < n3
      · by_cases f2 : i < 30
        · have f3 : decide ((i : Int) < 30) = true := by simp; omega
          have f4 : decide ((i : Int) < (n3 : Int)) = true := by simp; omega
          obtain ⟨b, off, rfl, hb, hc⟩ := L5.out (by omega)
          obtain ⟨z, hz⟩ : ∃ z, z3[i]? = some z := ⟨_, List.getElem?_eq_getElem (by rw [L1.out]; omega)⟩
          have hok : i64B z := L4.out z (List.mem_of_getElem? hz)
          unfold i64B at hok
          have hcr : wr.cell? ⟨b, off + i, none⟩ = some (.int .i64 z) := by
            rw [HB.out.cell hb]
            have := hc i z hz 0 _ rfl
            simpa using this
          have hbr : b < wr.heap.size := by omega
          clear hc hz
          by_cases f5 : 0 ≤ z ∧ z ≤ 1000000
          · obtain ⟨f5, f6⟩ := f5
            obtain ⟨v1, v2⟩ := step_ck (p := a0) (lo := a1) (hi := a2) (t := t) (u := t + z) (by omega) (by omega) (by omega)
            have v3 := now_ck (p := a0) (t := t + z) (by omega) (by omega) p0 p1 d0 d1 d2
            obtain ⟨m3, m4⟩ := nn_bd (p := a0) (t := t + z) (by omega) (by omega) p0 p1
            have m5 : nn a0 t ≤ nn a0 (t + z) := by unfold nn; have := byP_mono (p := 2 * a0) (show t ≤ t + z by omega) (by omega); omega
            have K3 := Lib.hid (ok_ck (p := a0) (t := t + z) (by omega) (by omega) p0 p1 d0 d1 d2)
            go_wp2_with fail
            refine (clock_Step _ _ _ _ HK.out).mono ?_
            rintro e w5 ⟨rfl, hk5, ht5⟩
            rw [v2] at hk5
            have HK5 := Lib.hid hk5
            have HS5 := Lib.hid (Blk.grown HS.out ht5 (by simp; omega))
            have HB5 := Lib.hid (HB.out.trans (ht5.below (by omega) (by omega)))
            have hz5 := ht5.size
            clear hk5 ht5
            go_wp2_with fail
            (try (go_at_call 31; refine (clock_Now _ _ _ HK5.out K3.out).mono ?_; rintro e w6 ⟨rfl, hb6⟩; obtain ⟨hc6, hf6⟩ := bcell hb6; have hz6 := hb6.size; (try simp at hz6); (try have q6_0_0_0 : w.heap.size < w6.heap.size := by omega); (try have q6_0_0_2 : w.heap.size < w6.heap.size + 1 + 1 := by omega); (try have q6_0_0_3 : w.heap.size < w6.heap.size + 1 + 1 + 1 := by omega); (try have q6_0_1_0 : w.heap.size + 1 < w6.heap.size := by omega); (try have q6_0_1_2 : w.heap.size + 1 < w6.heap.size + 1 + 1 := by omega); (try have q6_0_1_3 : w.heap.size + 1 < w6.heap.size + 1 + 1 + 1 := by omega); (try have q6_0_2_0 : w.heap.size + 1 + 1 < w6.heap.size := by omega); (try have q6_0_2_2 : w.heap.size + 1 + 1 < w6.heap.size + 1 + 1 := by omega); (try have q6_0_2_3 : w.heap.size + 1 + 1 < w6.heap.size + 1 + 1 + 1 := by omega); (try have q6_0_3_0 : w.heap.size + 1 + 1 + 1 < w6.heap.size := by omega); (try have q6_0_3_2 : w.heap.size + 1 + 1 + 1 < w6.heap.size + 1 + 1 := by omega); (try have q6_0_3_3 : w.heap.size + 1 + 1 + 1 < w6.heap.size + 1 + 1 + 1 := by omega); (try have q6_1_0_0 : w1.heap.size < w6.heap.size := by omega); (try have q6_1_0_2 : w1.heap.size < w6.heap.size + 1 + 1 := by omega); (try have q6_1_1_0 : w1.heap.size + 1 < w6.heap.size := by omega); (try have q6_1_1_2 : w1.heap.size + 1 < w6.heap.size + 1 + 1 := by omega); (try have q6_2_0_0 : w2.heap.size < w6.heap.size := by omega); (try have q6_2_0_2 : w2.heap.size < w6.heap.size + 1 + 1 := by omega); (try have q6_2_1_0 : w2.heap.size + 1 < w6.heap.size := by omega); (try have q6_2_1_2 : w2.heap.size + 1 < w6.heap.size + 1 + 1 := by omega); (try have q6_3_0_0 : w3.heap.size < w6.heap.size := by omega); (try have q6_3_0_2 : w3.heap.size < w6.heap.size + 1 + 1 := by omega); (try have q6_3_1_0 : w3.heap.size + 1 < w6.heap.size := by omega); (try have q6_3_1_2 : w3.heap.size + 1 < w6.heap.size + 1 + 1 := by omega); (try have q6_4_0_0 : w4.heap.size < w6.heap.size := by omega); (try have q6_4_0_2 : w4.heap.size < w6.heap.size + 1 + 1 := by omega); (try have q6_4_1_0 : w4.heap.size + 1 < w6.heap.size := by omega); (try have q6_4_1_2 : w4.heap.size + 1 < w6.heap.size + 1 + 1 := by omega); (try have q6_5_0_0 : w5.heap.size < w6.heap.size := by omega); (try have q6_5_0_2 : w5.heap.size < w6.heap.size + 1 + 1 := by omega); (try have q6_5_1_0 : w5.heap.size + 1 < w6.heap.size := by omega); (try have q6_5_1_2 : w5.heap.size + 1 < w6.heap.size + 1 + 1 := by omega); have s6 := HS5.out.below hb6 (by omega); have s60 := Blk.cell s6 0; have s61 := Blk.cell s6 1; have s6f := fun o => Blk.fz s6 o; have S6 := Lib.hid s6; clear s6; simp at s60 s61; (try go_wp2_with fail)))
            have hB5 := HB5.out
            go_roundw
            case rel => exact ⟨t + z, i + 1, .int .i64 (a1 - nn a0 (t + z) + (t + z)), .int .i64 (a2 + nn a0 (t + z) + (t + z)), rfl, by go_num, rfl, by go_num, ⟨by omega, by omega, by omega, by omega⟩, Blk.far (Blk.far (HK5.out.below hb6 (by omega)) (by simp; omega) _) (by simp; omega) _, (S6.out.set 0 _).set 1 _, (by repeat (first | with_reducible exact Below.refl _ _ | (with_reducible refine Below.alloc ?_ (by first | omega | (simp; done) | (simp; omega)) _) | (with_reducible refine Below.setCell ?_ (by first | omega | (simp; done) | (simp; omega)) _) | (with_reducible refine Below.drew ?_) | (with_reducible refine below_drewN ?_ _) | (exact (by assumption)) | (with_reducible refine bel_step (by assumption) ?_ (by first | omega | (simp; done) | (simp; omega)))))⟩
            case measure => simp [intOf]; omega
          · by_cases f6 : z < 0
            · go_wp2_with fail
              go_roundw
              case rel => exact ⟨t, i + 1, x, y, rfl, rfl, rfl, by go_num, ⟨by omega, by omega, by omega, by omega⟩, HK.out, HS.out, HB.out⟩
              case measure => simp [intOf]; omega
            · have f7 : 1000000 < z := by omega
              go_wp2_with fail
              go_roundw
              case rel => exact ⟨t, i + 1, x, y, rfl, rfl, rfl, by go_num, ⟨by omega, by omega, by omega, by omega⟩, HK.out, HS.out, HB.out⟩
              case measure => simp [intOf]; omega
        · go_wp2_with fail
          go_ret
          exact ⟨ret_bool (by first | rfl | (simp; done) | (simp; omega)), HB.out⟩
      · go_wp2_with fail
        go_ret
        exact ⟨ret_bool (by first | rfl | (simp; done) | (simp; omega)), HB.out⟩
  · have n0 : nowS ⟨a0, 0, false, 0, 0, 0, false, 0⟩ = ⟨0, 0, 6⟩ := rfl
    have K0 : CK.ok ⟨a0, 0, false, 0, 0, 0, false, 0⟩ := ⟨p0, p1, by simp, by simp, by simp, by simp, by simp, by simp, by simp, by simp⟩
    have KO := Lib.hid K0
    clear K0
    have KA : ∀ w, ClockAt (World.alloc w (.cells (CK.cells ⟨a0, 0, false, 0, 0, 0, false, 0⟩) 139)) w.heap.size 139 ⟨a0, 0, false, 0, 0, 0, false, 0⟩ := fun w => Blk.new w _ _
    have KH := Lib.hid KA
    clear KA
    by_cases e1 : a1 < -1000
    · go_enter Tryd.func6, Tryd.ntmps6
      go_wp2_with fail
      (try (go_at_call 30; refine (clock_New_ok _ _ c0).mono ?_; rintro e w' ⟨rfl, rfl⟩; (try go_wp2_with fail)))
      (try (go_at_call 31; refine (clock_Now _ _ _ (KH.out _) KO.out).mono ?_; rintro e w1 ⟨rfl, hb1⟩; obtain ⟨hc1, hf1⟩ := bcell hb1; have hz1 := hb1.size; (try simp at hz1); (try have q1_0_0_0 : w.heap.size < w1.heap.size := by omega); (try have q1_0_0_2 : w.heap.size < w1.heap.size + 1 + 1 := by omega); (try have q1_0_0_3 : w.heap.size < w1.heap.size + 1 + 1 + 1 := by omega); (try have q1_0_1_0 : w.heap.size + 1 < w1.heap.size := by omega); (try have q1_0_1_2 : w.heap.size + 1 < w1.heap.size + 1 + 1 := by omega); (try have q1_0_1_3 : w.heap.size + 1 < w1.heap.size + 1 + 1 + 1 := by omega); (try have q1_0_2_0 : w.heap.size + 1 + 1 < w1.heap.size := by omega); (try have q1_0_2_2 : w.heap.size + 1 + 1 < w1.heap.size + 1 + 1 := by omega); (try have q1_0_2_3 : w.heap.size + 1 + 1 < w1.heap.size + 1 + 1 + 1 := by omega); (try have q1_0_3_0 : w.heap.size + 1 + 1 + 1 < w1.heap.size := by omega); (try have q1_0_3_2 : w.heap.size + 1 + 1 + 1 < w1.heap.size + 1 + 1 := by omega); (try have q1_0_3_3 : w.heap.size + 1 + 1 + 1 < w1.heap.size + 1 + 1 + 1 := by omega); (try go_wp2_with fail)))
      (try (go_at_call 16; refine (Error_n 6 _ (by omega) _ (HG.out.below (by repeat (first | with_reducible exact Below.refl _ _ | (with_reducible refine Below.alloc ?_ (by first | omega | (simp; done) | (simp; omega)) _) | (with_reducible refine Below.setCell ?_ (by first | omega | (simp; done) | (simp; omega)) _) | (with_reducible refine Below.drew ?_) | (with_reducible refine below_drewN ?_ _) | (exact (by assumption)) | (with_reducible refine bel_step (by assumption) ?_ (by first | omega | (simp; done) | (simp; omega))))))).mono ?_; rintro e w2 ⟨rfl, hb2⟩; obtain ⟨hc2, hf2⟩ := bcell hb2; have hz2 := hb2.size; (try simp at hz2); (try have q2_0_0_0 : w.heap.size < w2.heap.size := by omega); (try have q2_0_0_2 : w.heap.size < w2.heap.size + 1 + 1 := by omega); (try have q2_0_0_3 : w.heap.size < w2.heap.size + 1 + 1 + 1 := by omega); (try have q2_0_1_0 : w.heap.size + 1 < w2.heap.size := by omega); (try have q2_0_1_2 : w.heap.size + 1 < w2.heap.size + 1 + 1 := by omega); (try have q2_0_1_3 : w.heap.size + 1 < w2.heap.size + 1 + 1 + 1 := by omega); (try have q2_0_2_0 : w.heap.size + 1 + 1 < w2.heap.size := by omega); (try have q2_0_2_2 : w.heap.size + 1 + 1 < w2.heap.size + 1 + 1 := by omega); (try have q2_0_2_3 : w.heap.size + 1 + 1 < w2.heap.size + 1 + 1 + 1 := by omega); (try have q2_0_3_0 : w.heap.size + 1 + 1 + 1 < w2.heap.size := by omega); (try have q2_0_3_2 : w.heap.size + 1 + 1 + 1 < w2.heap.size + 1 + 1 := by omega); (try have q2_0_3_3 : w.heap.size + 1 + 1 + 1 < w2.heap.size + 1 + 1 + 1 := by omega); (try have q2_1_0_0 : w1.heap.size < w2.heap.size := by omega); (try have q2_1_0_2 : w1.heap.size < w2.heap.size + 1 + 1 := by omega); (try have q2_1_1_0 : w1.heap.size + 1 < w2.heap.size := by omega); (try have q2_1_1_2 : w1.heap.size + 1 < w2.heap.size + 1 + 1 := by omega); (try go_wp2_with fail)))
      go_ret
      exact ⟨by first | rfl | simp, (by repeat (first | with_reducible exact Below.refl _ _ | (with_reducible refine Below.alloc ?_ (by first | omega | (simp; done) | (simp; omega)) _) | (with_reducible refine Below.setCell ?_ (by first | omega | (simp; done) | (simp; omega)) _) | (with_reducible refine Below.drew ?_) | (with_reducible refine below_drewN ?_ _) | (exact (by assumption)) | (with_reducible refine bel_step (by assumption) ?_ (by first | omega | (simp; done) | (simp; omega)))))⟩
    · by_cases e2 : a2 < a1
      · go_enter Tryd.func6, Tryd.ntmps6
        go_wp2_with fail
        (try (go_at_call 30; refine (clock_New_ok _ _ c0).mono ?_; rintro e w' ⟨rfl, rfl⟩; (try go_wp2_with fail)))
        (try (go_at_call 31; refine (clock_Now _ _ _ (KH.out _) KO.out).mono ?_; rintro e w1 ⟨rfl, hb1⟩; obtain ⟨hc1, hf1⟩ := bcell hb1; have hz1 := hb1.size; (try simp at hz1); (try have q1_0_0_0 : w.heap.size < w1.heap.size := by omega); (try have q1_0_0_2 : w.heap.size < w1.heap.size + 1 + 1 := by omega); (try have q1_0_0_3 : w.heap.size < w1.heap.size + 1 + 1 + 1 := by omega); (try have q1_0_1_0 : w.heap.size + 1 < w1.heap.size := by omega); (try have q1_0_1_2 : w.heap.size + 1 < w1.heap.size + 1 + 1 := by omega); (try have q1_0_1_3 : w.heap.size + 1 < w1.heap.size + 1 + 1 + 1 := by omega); (try have q1_0_2_0 : w.heap.size + 1 + 1 < w1.heap.size := by omega); (try have q1_0_2_2 : w.heap.size + 1 + 1 < w1.heap.size + 1 + 1 := by omega); (try have q1_0_2_3 : w.heap.size + 1 + 1 < w1.heap.size + 1 + 1 + 1 := by omega); (try have q1_0_3_0 : w.heap.size + 1 + 1 + 1 < w1.heap.size := by omega); (try have q1_0_3_2 : w.heap.size + 1 + 1 + 1 < w1.heap.size + 1 + 1 := by omega); (try have q1_0_3_3 : w.heap.size + 1 + 1 + 1 < w1.heap.size + 1 + 1 + 1 := by omega); (try go_wp2_with fail)))
        (try (go_at_call 16; refine (Error_n 6 _ (by omega) _ (HG.out.below (by repeat (first | with_reducible exact Below.refl _ _ | (with_reducible refine Below.alloc ?_ (by first | omega | (simp; done) | (simp; omega)) _) | (with_reducible refine Below.setCell ?_ (by first | omega | (simp; done) | (simp; omega)) _) | (with_reducible refine Below.drew ?_) | (with_reducible refine below_drewN ?_ _) | (exact (by assumption)) | (with_reducible refine bel_step (by assumption) ?_ (by first | omega | (simp; done) | (simp; omega))))))).mono ?_; rintro e w2 ⟨rfl, hb2⟩; obtain ⟨hc2, hf2⟩ := bcell hb2; have hz2 := hb2.size; (try simp at hz2); (try have q2_0_0_0 : w.heap.size < w2.heap.size := by omega); (try have q2_0_0_2 : w.heap.size < w2.heap.size + 1 + 1 := by omega); (try have q2_0_0_3 : w.heap.size < w2.heap.size + 1 + 1 + 1 := by omega); (try have q2_0_1_0 : w.heap.size + 1 < w2.heap.size := by omega); (try have q2_0_1_2 : w.heap.size + 1 < w2.heap.size + 1 + 1 := by omega); (try have q2_0_1_3 : w.heap.size + 1 < w2.heap.size + 1 + 1 + 1 := by omega); (try have q2_0_2_0 : w.heap.size + 1 + 1 < w2.heap.size := by omega); (try have q2_0_2_2 : w.heap.size + 1 + 1 < w2.heap.size + 1 + 1 := by omega); (try have q2_0_2_3 : w.heap.size + 1 + 1 < w2.heap.size + 1 + 1 + 1 := by omega); (try have q2_0_3_0 : w.heap.size + 1 + 1 + 1 < w2.heap.size := by omega); (try have q2_0_3_2 : w.heap.size + 1 + 1 + 1 < w2.heap.size + 1 + 1 := by omega); (try have q2_0_3_3 : w.heap.size + 1 + 1 + 1 < w2.heap.size + 1 + 1 + 1 := by omega); (try have q2_1_0_0 : w1.heap.size < w2.heap.size := by omega); (try have q2_1_0_2 : w1.heap.size < w2.heap.size + 1 + 1 := by omega); (try have q2_1_1_0 : w1.heap.size + 1 < w2.heap.size := by omega); (try have q2_1_1_2 : w1.heap.size + 1 < w2.heap.size + 1 + 1 := by omega); (try go_wp2_with fail)))
        go_ret
        exact ⟨by first | rfl | simp, (by repeat (first | with_reducible exact Below.refl _ _ | (with_reducible refine Below.alloc ?_ (by first | omega | (simp; done) | (simp; omega)) _) | (with_reducible refine Below.setCell ?_ (by first | omega | (simp; done) | (simp; omega)) _) | (with_reducible refine Below.drew ?_) | (with_reducible refine below_drewN ?_ _) | (exact (by assumption)) | (with_reducible refine bel_step (by assumption) ?_ (by first | omega | (simp; done) | (simp; omega)))))⟩
      · have e3 : 1000 < a2 := by omega
        go_enter Tryd.func6, Tryd.ntmps6
        go_wp2_with fail
        (try (go_at_call 30; refine (clock_New_ok _ _ c0).mono ?_; rintro e w' ⟨rfl, rfl⟩; (try go_wp2_with fail)))
        (try (go_at_call 31; refine (clock_Now _ _ _ (KH.out _) KO.out).mono ?_; rintro e w1 ⟨rfl, hb1⟩; obtain ⟨hc1, hf1⟩ := bcell hb1; have hz1 := hb1.size; (try simp at hz1); (try have q1_0_0_0 : w.heap.size < w1.heap.size := by omega); (try have q1_0_0_2 : w.heap.size < w1.heap.size + 1 + 1 := by omega); (try have q1_0_0_3 : w.heap.size < w1.heap.size + 1 + 1 + 1 := by omega); (try have q1_0_1_0 : w.heap.size + 1 < w1.heap.size := by omega); (try have q1_0_1_2 : w.heap.size + 1 < w1.heap.size + 1 + 1 := by omega); (try have q1_0_1_3 : w.heap.size + 1 < w1.heap.size + 1 + 1 + 1 := by omega); (try have q1_0_2_0 : w.heap.size + 1 + 1 < w1.heap.size := by omega); (try have q1_0_2_2 : w.heap.size + 1 + 1 < w1.heap.size + 1 + 1 := by omega); (try have q1_0_2_3 : w.heap.size + 1 + 1 < w1.heap.size + 1 + 1 + 1 := by omega); (try have q1_0_3_0 : w.heap.size + 1 + 1 + 1 < w1.heap.size := by omega); (try have q1_0_3_2 : w.heap.size + 1 + 1 + 1 < w1.heap.size + 1 + 1 := by omega); (try have q1_0_3_3 : w.heap.size + 1 + 1 + 1 < w1.heap.size + 1 + 1 + 1 := by omega); (try go_wp2_with fail)))
        (try (go_at_call 16; refine (Error_n 6 _ (by omega) _ (HG.out.below (by repeat (first | with_reducible exact Below.refl _ _ | (with_reducible refine Below.alloc ?_ (by first | omega | (simp; done) | (simp; omega)) _) | (with_reducible refine Below.setCell ?_ (by first | omega | (simp; done) | (simp; omega)) _) | (with_reducible refine Below.drew ?_) | (with_reducible refine below_drewN ?_ _) | (exact (by assumption)) | (with_reducible refine bel_step (by assumption) ?_ (by first | omega | (simp; done) | (simp; omega))))))).mono ?_; rintro e w2 ⟨rfl, hb2⟩; obtain ⟨hc2, hf2⟩ := bcell hb2; have hz2 := hb2.size; (try simp at hz2); (try have q2_0_0_0 : w.heap.size < w2.heap.size := by omega); (try have q2_0_0_2 : w.heap.size < w2.heap.size + 1 + 1 := by omega); (try have q2_0_0_3 : w.heap.size < w2.heap.size + 1 + 1 + 1 := by omega); (try have q2_0_1_0 : w.heap.size + 1 < w2.heap.size := by omega); (try have q2_0_1_2 : w.heap.size + 1 < w2.heap.size + 1 + 1 := by omega); (try have q2_0_1_3 : w.heap.size + 1 < w2.heap.size + 1 + 1 + 1 := by omega); (try have q2_0_2_0 : w.heap.size + 1 + 1 < w2.heap.size := by omega); (try have q2_0_2_2 : w.heap.size + 1 + 1 < w2.heap.size + 1 + 1 := by omega); (try have q2_0_2_3 : w.heap.size + 1 + 1 < w2.heap.size + 1 + 1 + 1 := by omega); (try have q2_0_3_0 : w.heap.size + 1 + 1 + 1 < w2.heap.size := by omega); (try have q2_0_3_2 : w.heap.size + 1 + 1 + 1 < w2.heap.size + 1 + 1 := by omega); (try have q2_0_3_3 : w.heap.size + 1 + 1 + 1 < w2.heap.size + 1 + 1 + 1 := by omega); (try have q2_1_0_0 : w1.heap.size < w2.heap.size := by omega); (try have q2_1_0_2 : w1.heap.size < w2.heap.size + 1 + 1 := by omega); (try have q2_1_1_0 : w1.heap.size + 1 < w2.heap.size := by omega); (try have q2_1_1_2 : w1.heap.size + 1 < w2.heap.size + 1 + 1 := by omega); (try go_wp2_with fail)))
        go_ret
        exact ⟨by first | rfl | simp, (by repeat (first | with_reducible exact Below.refl _ _ | (with_reducible refine Below.alloc ?_ (by first | omega | (simp; done) | (simp; omega)) _) | (with_reducible refine Below.setCell ?_ (by first | omega | (simp; done) | (simp; omega)) _) | (with_reducible refine Below.drew ?_) | (with_reducible refine below_drewN ?_ _) | (exact (by assumption)) | (with_reducible refine bel_step (by assumption) ?_ (by first | omega | (simp; done) | (simp; omega)))))⟩

set_option maxRecDepth 100000 in
theorem lifted (os : Os) (started : os.Started) (H : Type) (enc : TypeId × Value → H) :
    ReturnsInHanded {} Tryd.checked os 6 .any (fun w args => (Rows.clockWidensSpec.pre enc Tryd.prog Tryd.f6 [] false w args ∧ laidMetH Tryd.prog laidList w) ∧ sizedMet enc Tryd.prog Tryd.f6 (OpenSpec.ofChange Rows.clockWidensSpec) false w args)
      (Rows.clockWidensSpec.post enc Tryd.prog Tryd.f6 false true false false) := by
  refine returnsInHanded_of_change_and (C := Tryd.checked) (X := fun w _ => laidMetH Tryd.prog laidList w) (fun _ _ _ hh h => h.of_heap hh) own started (by kernel_rfl) Tryd.func6
    (ChangeSpec.witness_at (enc := enc) (C := Tryd.checked) (os := os) (X := fun w _ => laidMetH Tryd.prog laidList w) false (laidWorld os) #[.int .i64 0, .int .i64 0, .int .i64 0, .slice none 0 0] 8 rfl (by kernel_rfl) (by kernel_rfl) (by kernel_rfl) (by kernel_rfl) (by kernel_rfl) (laidWorld_met os _)) ?_
  intro W base args ds gs before hval0 hW hcnd hreach hL _
  have hval : ∀ (j : Nat) t v, Tryd.f6.params[j]? = some t → args[j]? = some v → Value.okWide Tryd.prog W .any base t v := hval0
  have hW' := hW
  obtain ⟨p, q, hA0, hV, rfl, hfz, hnd⟩ := hW
  have hA : DataW.TrodAll enc Tryd.prog W 0 (fun _ => true) true Tryd.f6.params.toList args.toList ds p := hA0
  rw [Tryd.params6] at hA hval
  obtain ⟨v0, vs0, d0, ds0, p0, q0, hargs, rfl, rfl, g0, r0⟩ := trodAll_cons hA
  obtain ⟨v1, vs1, d1, ds1, p1, q1, rfl, rfl, rfl, g1, r1⟩ := trodAll_cons r0
  obtain ⟨v2, vs2, d2, ds2, p2, q2, rfl, rfl, rfl, g2, r2⟩ := trodAll_cons r1
  obtain ⟨v3, vs3, d3, ds3, p3, q3, rfl, rfl, rfl, g3, r3⟩ := trodAll_cons r2
  obtain ⟨rfl, rfl, rfl⟩ := trodAll_nil r3
  obtain rfl : args = #[v0, v1, v2, v3] := by cases args; simp_all
  have hV2 : DataW.TrodVars enc Tryd.prog W (fun _ => true) [] gs q := hV
  obtain ⟨rfl, rfl⟩ : gs = [] ∧ q = [] := by
    cases gs with
    | nil => exact ⟨rfl, hV2⟩
    | cons g r => exact absurd hV2 (by intro h; cases h)
  obtain ⟨a0, rfl, rfl, rfl, u0⟩ := open_int Tryd.underlying3 (hval 0 3 v0 rfl rfl) g0
  have h0 := bounds_i64 u0
  obtain ⟨a1, rfl, rfl, rfl, u1⟩ := open_int Tryd.underlying3 (hval 1 3 v1 rfl rfl) g1
  have h1 := bounds_i64 u1
  obtain ⟨a2, rfl, rfl, rfl, u2⟩ := open_int Tryd.underlying3 (hval 2 3 v2 rfl rfl) g2
  have h2 := bounds_i64 u2
  have k3 := g3
  have lt3 : ∀ x ∈ p3, x.block < W.heap.size := by obtain ⟨m, hm⟩ := k3; exact DataW.trod_lt m _ _ _ hm
  have rd3 : Tryd.prog.readableRec 33 = true := by kernel_rfl
  have ls3 : 33 < Tryd.prog.types.size := of_decide_eq_true (by kernel_rfl)
  obtain ⟨a3, n3, c3, z3, rfl, h3⟩ := open_Ints (hval 3 33 v3 rfl rfl) g3
  clear hA0 hval0
  refine (walk a0 a1 a2 a3 n3 c3 z3 W h0 h1 h2 h3 (handle_of_laid hL)).mono fun e W' ⟨he, bel⟩ => ?_
  subst he
  exact ⟨_, rfl, _, _, _, [], _, [], hW', trodAll_mk1 (shut_bool Tryd.underlying4 _), (trodAll_cons_mk (shut_int Tryd.underlying3 u0) (trodAll_cons_mk (shut_int Tryd.underlying3 u1) (trodAll_cons_mk (shut_int Tryd.underlying3 u2) (trodAll_cons_mk (Below.trod laidOut rd3 ls3 k3 bel lt3) trodAll_mk0)))), rfl, bel.frame _, fun h => by cases h⟩

theorem over : Rows.clockWidensRow.holds Tryd.pinned (OpenSpec.ofChange Rows.clockWidensSpec) :=
  OpenClaim.holds_of_wide 6 Tryd.f6 rfl rfl rfl rfl rfl rfl rfl ⟨rfl, rfl, rfl, rfl, rfl⟩ rfl rfl rfl rfl rfl (by kernel_rfl) Tryd.func6 (by kernel_rfl)
    (of_decide_eq_true (by kernel_rfl)) (by unfold Func.isWrapper; rw [if_neg (of_decide_eq_false (by kernel_rfl))]; exact ⟨rfl, rfl⟩)
    (fun os started H enc _ => lifted os started H enc)

theorem card : Rows.ClockWidensCardSaid :=
  Claim7.holds_tied_plain_at .later [] [.handle] true (true, Rows.clockWidensCard.stood.harness.2) true
    over (fun _ h => by cases h) (by kernel_rfl) (fun _ h => by cases h) clockWidens_row_tie rfl ⟨rfl, rfl⟩ (by kernel_rfl) rfl
    (fun f fn hf hfn => by
      obtain rfl : f = 6 := Option.some.inj ((show Tryd.prog.funcNamed "noonmark/noonlaw4.ClockWidens" = some 6 by kernel_rfl).symm.trans hf) |>.symm
      obtain rfl : fn = Tryd.f6 := (Option.some.inj (Tryd.func6.symm.trans hfn)).symm
      exact ⟨by kernel_rfl, fun j t ht => by
        rw [Tryd.params6] at ht
        exact noStandIn (ps := #[3, 3, 3, 33]) (by kernel_rfl) ht⟩)
    (by kernel_rfl)

#print axioms card
end Go.Proofs.YtkejdfpdehchcaaDoor.lClockWidens
