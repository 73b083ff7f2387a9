/- Package net: Wide, walked. -/
import Derived.Test.YtmficdfihogffaaHNetE
import Derived.Test.YtmficdfihogffaaHAll
import Derived.Deep.DeepCutAuto
import Derived.Deep.CutBlock
import Derived.Deep.Light
namespace Go.Proofs.Ytmficdfihogffaa
open Go.RowKit
set_option linter.unusedVariables false
set_option linter.unusedSimpArgs false
/-- how wide all are, one pair behind the other. -/
def wideRow (F : Nat → Nat → Int) (i : Nat) : Nat → Int
  | 0 => 0
  | m + 1 => wideRow F i m + F i (i + 1 + m)
def wideAll (F : Nat → Nat → Int) (N : Nat) : Nat → Int
  | 0 => 0
  | i + 1 => wideAll F N i + wideRow F i (N - (i + 1))
def wideF (D : Nat → Nat → Int) (i k : Nat) : Int := if D i k < farI then D i k + D k i else 0
theorem wideRow_bd {F : Nat → Nat → Int} {N i : Nat} (hi : i < N) (hF : ∀ i k, i < N → k < N → -2000000000000 ≤ F i k ∧ F i k ≤ 2000000000000) : ∀ m, i + 1 + m ≤ N → -((m : Int) * 2000000000000) ≤ wideRow F i m ∧ wideRow F i m ≤ (m : Int) * 2000000000000
  | 0, _ => by simp [wideRow]
  | m + 1, h => by
    have h1 := wideRow_bd hi hF m (by omega)
    have h2 := hF i (i + 1 + m) hi (by omega)
    show _ ≤ wideRow F i m + F i (i + 1 + m) ∧ wideRow F i m + F i (i + 1 + m) ≤ _
    omega
theorem wideAll_bd {F : Nat → Nat → Int} {N : Nat} (h6 : N ≤ 6) (hF : ∀ i k, i < N → k < N → -2000000000000 ≤ F i k ∧ F i k ≤ 2000000000000) : ∀ i, i ≤ N → -((i : Int) * 12000000000000) ≤ wideAll F N i ∧ wideAll F N i ≤ (i : Int) * 12000000000000
  | 0, _ => by simp [wideAll]
  | i + 1, h => by
    have h1 := wideAll_bd h6 hF i (by omega)
    have h2 := wideRow_bd (show i < N by omega) hF (N - (i + 1)) (by omega)
    show _ ≤ wideAll F N i + wideRow F i (N - (i + 1)) ∧ wideAll F N i + wideRow F i (N - (i + 1)) ≤ _
    omega
/-- what is told of how wide all are. -/
def WideS (N : Nat) (l : List REdge) (v c : Int) : Prop :=
  (Sunk (Arc l) N ∧ c = 7 ∧ v = 0) ∨ (¬ Sunk (Arc l) N ∧ ∃ D : Nat → Nat → Int, Tells (Arc l) N D (fun a b => decide (D a b < farI)) ∧
    ((c = 1 ∧ v = 0 ∧ ∃ a b, a < N ∧ b < N ∧ ¬ timeD D a b) ∨ (c = 0 ∧ (∀ a b, a < N → b < N → timeD D a b) ∧ v = wideAll (wideF D) N N)))
set_option maxRecDepth 100000 in
set_option maxHeartbeats 8000000 in
theorem net_Wide_ok (a : NAd) (ss rs : List Int) (p t : Int) (uv : Value) (us : List RLetter) (K : Nat) (S : Nat → NSt) (w : World) (h : NetAt w a ss rs p t uv us K S) (hc : netC (hereAt ss rs t) S a.n = 0) (he : edgesC a.n (netL (hereAt ss rs t) S a.n) = 0) :
    Calls Try.prog 7 #[.pointer (some ⟨a.N, 0, none⟩)] w fun e w' => ∃ v c : Int, e = .returned (.tuple #[.int .i64 v, errV c]) ∧ WideS a.n (netL (hereAt ss rs t) S a.n) v c ∧ Below w.heap.size w w' := by
  have kN := h.net.lt
  have c1 := h.net.cell 1
  simp at c1
  have hnc := h.nc.1
  have hcm := h.nc.2
  unfold maxLen at hcm
  have CE := Lib.hid (net_Edges a ss rs p t uv us K S w h)
  rw [hc, show netE (hereAt ss rs t) S a.n = netL (hereAt ss rs t) S a.n by unfold netE; rw [if_pos hc]] at CE
  obtain ⟨L, eL⟩ : ∃ L, netL (hereAt ss rs t) S a.n = L := ⟨_, rfl⟩
  rw [eL] at CE he ⊢
  have h6 : a.n ≤ 6 := by have := (edgesC_0 he).2.1; omega
  have HE := Lib.hid he
  clear h hc he eL
  go_enter Try.func7, Try.ntmps7
  go_wp2_with fail
  refine CE.out.mono ?_
  rintro e w1 ⟨A, n, c, rfl, hI, hb1⟩
  have HB1 := Lib.hid hb1
  have y1 : w1.cell? ⟨a.N, 1, none⟩ = some (.slice (some ⟨a.q, 0, none⟩) a.n a.c) := (hb1.cell (p := ⟨a.N, 1, none⟩) kN).trans c1
  have kN1 : a.N < w1.heap.size := Nat.lt_of_lt_of_le kN hb1.size
  have CA := Lib.hid (bounds_All_ok a.n A n c L w1 hI HE.out)
  have hz1 := hb1.size
  clear hI hb1 CE
  go_wp2_with fail
  refine CA.out.mono ?_
  rintro e w2 ⟨A2, n2, c2, B2, m2, d2, k2, rfl, hb2, hP⟩
  have HB2 := Lib.hid (HB1.out.trans (hb2.mono hz1))
  have hz2 := HB2.out.size
  clear hb2 CA HB1
  rcases hP with ⟨hs, rfl⟩ | ⟨hs, D, hD, ⟨rfl, hno⟩ | ⟨rfl, ht, hM, hH⟩⟩
  · have HS := Lib.hid (show WideS a.n L 0 7 from .inl ⟨hs, rfl, rfl⟩)
    rw [errV_ne (show (7 : Int) ≠ 0 by decide)]
    clear hs
    go_wp2_with fail
    go_ret2
    exact ⟨0, 7, rfl, HS.out, HB2.out⟩
  · have HS := Lib.hid (show WideS a.n L 0 1 from .inr ⟨hs, D, hD, .inl ⟨rfl, rfl, hno⟩⟩)
    rw [errV_ne (show (1 : Int) ≠ 0 by decide)]
    clear hs hno
    go_wp2_with fail
    go_ret2
    exact ⟨0, 1, rfl, HS.out, HB2.out⟩
  · have HS := Lib.hid (show WideS a.n L (wideAll (wideF D) a.n a.n) 0 from .inr ⟨hs, D, hD, .inr ⟨rfl, ht, rfl⟩⟩)
    rw [errV_0]
    have HF := Lib.hid (show ∀ i k, i < a.n → k < a.n → -2000000000000 ≤ wideF D i k ∧ wideF D i k ≤ 2000000000000 from fun i k hi hk => by
      unfold wideF
      split
      · rename_i g
        have := ht i k hi hk g
        rw [timeB_iff, timeB_iff] at this
        omega
      · omega)
    have HTm := Lib.hid ht
    obtain ⟨rfl, m1, m2', b1, rfl, hl1, hM⟩ := hM
    obtain ⟨rfl, q1, q2, b2, rfl, hl2, hH⟩ := hH
    unfold maxLen at m2' q2
    have HM := Lib.hid hM
    have HH := Lib.hid hH
    clear hs ht hM hH hD
    go_wp2_with fail
    go_loopw [8, 35] (fun sv iv wx => ∃ i : Nat, iv = .int .i64 i ∧ i ≤ a.n ∧ sv = .int .i64 (wideAll (wideF D) a.n i) ∧ Below w2.heap.size w2 wx) (fun _ iv _ => a.n - (intOf iv).toNat)
    case atStart => exact ⟨0, rfl, by omega, rfl, Below.refl _ _⟩
    case round =>
      obtain ⟨i, rfl, hi, rfl, hB⟩ := hrel
      have HB := Lib.hid hB
      have hzi := hB.size
      clear hB
      by_cases g1 : i < a.n
      · have g2 : (i : Int) < (a.n : Int) := by omega
        have g3 : (0 : Int) ≤ (i : Int) := by omega
        have HQ := Lib.hid (show wideAll (wideF D) a.n (i + 1) = wideAll (wideF D) a.n i + wideRow (wideF D) i (a.n - (i + 1)) from rfl)
        have hwb := Lib.hid (wideAll_bd h6 HF.out i hi)
        obtain ⟨X, eX⟩ : ∃ X, wideAll (wideF D) a.n i = X := ⟨_, rfl⟩
        rw [eX] at HQ hwb ⊢
        clear eX
        obtain ⟨r1, d1, s1, s2, s3, s4, s5⟩ := HM.out i g1
        obtain ⟨r2, e2, t1, t2, t3, t4, t5⟩ := HH.out i g1
        unfold maxLen at s3 t3
        have S5 := Lib.hid s5
        have T5 := Lib.hid t5
        have S1 := Lib.hid s1
        have T1 := Lib.hid t1
        clear s5 t5 s1 t1
        go_wp2_with fail
        go_loopw [8, 10] (fun sv kv wx => ∃ k : Nat, kv = .int .i64 k ∧ i + 1 ≤ k ∧ k ≤ a.n ∧ sv = .int .i64 (X + wideRow (wideF D) i (k - (i + 1))) ∧ Below w2.heap.size w2 wx) (fun _ kv _ => a.n - (intOf kv).toNat)
        case atStart => exact ⟨i + 1, by go_num, by omega, by omega, by simp [wideRow], HB.out⟩
        case round =>
          obtain ⟨k, rfl, hk1, hk2, rfl, hBk⟩ := hrel
          have HBk := Lib.hid hBk
          have hzk := hBk.size
          clear hBk HB hzi
          by_cases m1 : k < a.n
          · have m2 : (k : Int) < (a.n : Int) := by omega
            have m3 : (0 : Int) ≤ (k : Int) := by omega
            have x0 := (HBk.out.cell (p := ⟨b1, i, none⟩) hl1).trans S1.out
            have x1 := (HBk.out.cell (p := ⟨b2, i, none⟩) hl2).trans T1.out
            have x2 := (HBk.out.cell (p := ⟨r2, k * 1 + 0, none⟩) t4).trans (T5.out k m1 0 _ rfl)
            simp only [Nat.mul_one, Nat.add_zero] at x2
            have hrow := Lib.hid (show wideRow (wideF D) i (k + 1 - (i + 1)) = wideRow (wideF D) i (k - (i + 1)) + wideF D i k by
              rw [show k + 1 - (i + 1) = (k - (i + 1)) + 1 by omega]
              show _ + wideF D i (i + 1 + (k - (i + 1))) = _
              rw [show i + 1 + (k - (i + 1)) = k by omega])
            have hrb := wideRow_bd g1 HF.out (k - (i + 1)) (by omega)
            obtain ⟨Y, eY⟩ : ∃ Y, wideRow (wideF D) i (k - (i + 1)) = Y := ⟨_, rfl⟩
            rw [eY] at hrow hrb ⊢
            have kb1 : b1 < wr.heap.size := by omega
            have kb2 : b2 < wr.heap.size := by omega
            have kr1 : r1 < wr.heap.size := by omega
            have kr2 : r2 < wr.heap.size := by omega
            clear eY
            by_cases hd : D i k < farI
            · have hval : wideF D i k = D i k + D k i := by unfold wideF; rw [if_pos hd]
              have x3 := (HBk.out.cell (p := ⟨r1, k * 2 + 0, none⟩) s4).trans (S5.out k m1 0 _ rfl)
              have x4 := (HBk.out.cell (p := ⟨r1, k * 2 + 1, none⟩) s4).trans (S5.out k m1 1 _ rfl)
              rw [if_pos hd] at x3 x4
              simp only [Nat.add_zero] at x3
              rw [decide_eq_true hd] at x2
              have tb := HTm.out i k g1 m1 hd
              rw [timeB_iff, timeB_iff] at tb
              rw [hval] at hrow
              obtain ⟨u, eu⟩ : ∃ u, D i k = u := ⟨_, rfl⟩
              obtain ⟨v, ev⟩ : ∃ v, -(D k i) = v := ⟨_, rfl⟩
              have ev2 : D k i = -v := by omega
              rw [eu, ev2] at hrow
              rw [eu] at x4
              rw [ev] at x3
              rw [eu, ev] at tb
              have hw1 := Lib.hid (IntWalk.i64_in (u - v) (by omega))
              have hwx := hwb.out
              have hki : ((k : Nat) : Int) ≤ 6 := by omega
              have hm6 : ((k - (i + 1) : Nat) : Int) * 2000000000000 ≤ 12000000000000 := by omega
              have hi6 : (i : Int) * 12000000000000 ≤ 72000000000000 := by omega
              have hw2 := Lib.hid (IntWalk.i64_in (X + Y + (u - v)) (by omega))
              have HRW := Lib.hid (show X + Y + (u - v) = X + wideRow (wideF D) i (k + 1 - (i + 1)) by rw [hrow.out]; omega)
              clear hval hd tb eu ev ev2 hrow hrb hwx hm6 hi6 hki
              as_aux_lemma =>
                go_upto_if 52 with (fail)
                go_wp2_with fail
                have hw1' := hw1.out
                have hw2' := hw2.out
                go_quiet (fail)
                clear hw1' hw2'
                go_wp2_with fail
                go_roundw
                case rel => exact ⟨k + 1, by go_num, by omega, by omega, by rw [← HRW.out], ⟨HBk.out.os, HBk.out.tape, HBk.out.output, HBk.out.size, HBk.out.block⟩⟩
                case measure => go_light; simp [intOf]; omega
            · have hval : wideF D i k = 0 := by unfold wideF; rw [if_neg hd]
              rw [decide_eq_false hd] at x2
              rw [hval, Int.add_zero] at hrow
              clear hval hd hrb
              as_aux_lemma =>
                go_upto_if 52 with (fail)
                go_wp2_with fail
                go_roundw
                case rel => exact ⟨k + 1, by go_num, by omega, by omega, by rw [hrow.out], HBk.out⟩
                case measure => go_light; simp [intOf]; omega
          · obtain rfl : k = a.n := by omega
            go_wp2_with fail
            go_roundw
            case rel => exact ⟨i + 1, by go_num, by omega, by rw [HQ.out], HBk.out⟩
            case measure => go_light; simp [intOf]; omega
      · obtain rfl : i = a.n := by omega
        go_wp2_with fail
        go_ret2
        exact ⟨_, 0, rfl, HS.out, HB2.out.trans (HB.out.mono hz2)⟩
end Go.Proofs.Ytmficdfihogffaa
