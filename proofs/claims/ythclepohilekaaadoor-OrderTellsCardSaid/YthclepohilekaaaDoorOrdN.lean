/- noonref2.ready, noonref2.Ways, walked. -/
import Derived.Test.YthclepohilekaaaDoorOrdL
import Derived.Test.YthclepohilekaaaDoorOrdG
import Derived.Test.YthclepohilekaaaDoorFCells
import Derived.Test.YthclepohilekaaaDoorArr
import Derived.StillTailTactics
import Derived.Deep.Light
namespace Go.Proofs.YthclepohilekaaaDoor
open Go.RowKit
set_option linter.unusedVariables false
set_option linter.unusedSimpArgs false
theorem half_pow (S k : Nat) : S / 2 ^ k / 2 = S / 2 ^ (k + 1) := by rw [Nat.div_div_eq_div_mul, Nat.pow_succ]
theorem half_bit (S k : Nat) : S / 2 ^ k % 2 = if S.testBit k = true then 1 else 0 := by
  rw [Nat.testBit_eq_decide_div_mod_eq]
  by_cases c : S / 2 ^ k % 2 = 1
  · rw [c]; simp
  · rw [if_neg (by simpa using c)]; omega
theorem rdy_no {zs : List REvent} {S i k : Nat} (hk : k < zs.length) (ha : (zs.getD k default).hi < (zs.getD i default).lo) (hb : S.testBit k = false) : rdy zs S i = false := by
  cases e : rdy zs S i
  · rfl
  · have := rdy_iff.1 e k hk (decide_eq_true ha)
    rw [hb] at this; cases this
/-- the first k of those ahead are in. -/
def RdyTo (zs : List REvent) (S i k : Nat) : Prop := ∀ j, j < k → ahB zs j i = true → S.testBit j = true
set_option maxRecDepth 100000 in
set_option maxHeartbeats 4000000 in
theorem r2_ready (A : Option Addr) (n c S i : Nat) (zs : List REvent) (w : World) (h : IsRecs w REvent.cells REvent.ok 3 A n c zs) (h12 : n ≤ 12) (hi : i < n) (hS : S < 4096) :
    Calls Tryd.prog 28 #[.slice A n c, .int .i64 S, .int .i64 i] w fun e w' => e = .returned (.bool (rdy zs S i)) ∧ Below w.heap.size w w' := by
  obtain ⟨b, off, rfl, hb, hc⟩ := evsAt h (by omega)
  have l1 := h.1
  have l2 := h.2.1
  have l3 := h.2.2.1
  unfold maxLen at l3
  obtain ⟨LO, hLO⟩ : ∃ LO, (zs.getD i default).lo = LO := ⟨_, rfl⟩
  have HX := Lib.hid (fun w' (hb : Below w.heap.size w w') => show w'.cell? ⟨b, off + i * 3 + 1, none⟩ = some (.int .i64 LO) from by rw [← hLO]; exact (hc w' hb i hi).2.1)
  have HC := Lib.hid (fun w' (hb : Below w.heap.size w w') k (hk : k < n) => (hc w' hb k hk).2.2)
  have HY := Lib.hid (fun (h : RdyTo zs S i n) => show rdy zs S i = true from rdy_iff.2 fun k hk ha => h k (by omega) ha)
  have HNo := Lib.hid (fun k (hk : k < n) (ha : (zs.getD k default).hi < LO) (hb : S.testBit k = false) => rdy_no (zs := zs) (i := i) (by omega) (by rw [hLO]; exact ha) hb)
  have HA := Lib.hid (fun k => show ahB zs k i = decide ((zs.getD k default).hi < LO) from by unfold ahB; rw [hLO])
  clear h hc l1 hLO
  go_enter Tryd.func28, Tryd.ntmps28
  go_wp2_with fail
  go_loopw [1, 7] (fun sv kv wr => ∃ k : Nat, kv = .int .i64 k ∧ sv = .int .i64 ((S / 2 ^ k : Nat) : Int) ∧ k ≤ n ∧ RdyTo zs S i k ∧ Below w.heap.size w wr) (fun _ kv _ => n - (intOf kv).toNat)
  case atStart => exact ⟨0, rfl, by simp, by omega, fun j hj => absurd hj (by omega), Below.refl _ _⟩
  case round =>
    obtain ⟨k, rfl, rfl, hk, hR, hB⟩ := hrel
    have HR := Lib.hid hR
    have HB := Lib.hid hB
    have hzw := hB.size
    clear hR
    by_cases d1 : k < n
    · have x2 := HC.out wr hB k d1
      have y1 := HX.out wr hB
      have HNk := Lib.hid (HNo.out k d1)
      have HAk := Lib.hid (HA.out k)
      have q0 : (0 : Int) ≤ (k : Int) := by omega
      have q1 : (k : Int) < (n : Int) := by omega
      have q2 : (0 : Int) ≤ (i : Int) := by omega
      have q3 : (i : Int) < (n : Int) := by omega
      have hb2 := half_bit S k
      have hh := half_pow S k
      have hle : S / 2 ^ k ≤ S := Nat.div_le_self _ _
      obtain ⟨HI, hHI⟩ : ∃ HI, (zs.getD k default).hi = HI := ⟨_, rfl⟩
      rw [hHI] at x2 HNk HAk
      obtain ⟨X, hX⟩ : ∃ X, S / 2 ^ k = X := ⟨_, rfl⟩
      obtain ⟨Y, hY⟩ : ∃ Y, S / 2 ^ (k + 1) = Y := ⟨_, rfl⟩
      rw [hX, hY] at hh
      rw [hX] at hb2 hle ⊢
      have HYe := Lib.hid hY
      have t1 : Int.tmod (X : Int) 2 = ((X % 2 : Nat) : Int) := Int.ofNat_tmod X 2
      have t2 : Int.tdiv (X : Int) 2 = (Y : Int) := by rw [← hh]; exact Int.ofNat_tdiv X 2
      have w2 := IntWalk.i64_in (Y : Int) (by omega)
      clear hB hHI hX hY hh HC HX HNo HA
      have HN := Lib.hid (show (¬ HI < LO ∨ S.testBit k = true) → RdyTo zs S i (k + 1) from fun h j hj ha => by
        rcases (by omega : j = k ∨ j < k) with rfl | hlt
        · rcases h with h | h
          · rw [HAk.out] at ha; exact absurd (of_decide_eq_true ha) h
          · exact h
        · exact HR.out j hlt ha)
      by_cases ca : HI < LO
      · have ba : decide (HI < LO) = true := decide_eq_true ca
        cases e : S.testBit k
        · rw [e, if_neg (by simp)] at hb2
          have HF := Lib.hid (HNk.out ca e)
          rw [hb2] at t1
          clear hb2 HNk HN e
          go_wp2_with fail
          (try go_quiet (fail))
          go_wp2_with fail
          go_ret
          exact ⟨by rw [HF.out]; rfl, by first | exact HB.out | exact below_drewN HB.out _⟩
        · rw [e, if_pos rfl] at hb2
          have HM := Lib.hid (HN.out (.inr e))
          rw [hb2] at t1
          clear hb2 HNk HN e
          go_wp2_with fail
          (try go_quiet (fail))
          go_wp2_with fail
          go_roundw
          case rel => exact ⟨k + 1, by go_num, by rw [HYe.out], by omega, HM.out, by first | exact HB.out | exact below_drewN HB.out _⟩
          case measure => go_light; simp [intOf]; omega
      · have ba : decide (HI < LO) = false := decide_eq_false ca
        have HM := Lib.hid (HN.out (.inl ca))
        clear hb2 HNk t1 HN
        go_wp2_with fail
        (try go_quiet (fail))
        go_wp2_with fail
        go_roundw
        case rel => exact ⟨k + 1, by go_num, by rw [HYe.out], by omega, HM.out, by first | exact HB.out | exact below_drewN HB.out _⟩
        case measure => go_light; simp [intOf]; omega
    · obtain rfl : k = n := by omega
      have HF := Lib.hid (HY.out HR.out)
      go_wp2_with fail
      go_ret
      exact ⟨by rw [HF.out]; rfl, HB.out⟩
theorem bit_fits {S j n : Nat} (hS : S < 2 ^ n) (hj : j < n) (hb : S.testBit j = false) : S + 2 ^ j < 2 ^ n := by
  refine Nat.lt_pow_two_of_testBit _ fun i hi => ?_
  rw [bit_add j S hb, if_neg (by omega)]
  exact Nat.testBit_lt_two_pow (Nat.lt_of_lt_of_le hS (Nat.pow_le_pow_right (by omega) hi))
theorem fA_over (zs : List REvent) {s T : Nat} (j : Nat) (h : T < s) : fA zs s j T = wN zs T := by
  unfold fA
  by_cases h0 : T = 0
  · subst h0
    rw [sumN_zero _ fun i _ => by unfold fT; rw [if_neg (by simp)], wN_0]; simp
  · rw [if_neg h0, wN_pos zs h0, Nat.zero_add]
    refine sumN_congr _ fun i hi => ?_
    unfold fT
    by_cases c : T.testBit i = true ∧ rdy zs (T - 2 ^ i) i = true
    · rw [if_pos c, if_pos ⟨c.1, c.2, .inl (Nat.lt_of_le_of_lt (Nat.sub_le _ _) h)⟩]
    · rw [if_neg c, if_neg (fun h => c ⟨h.1, h.2.1⟩)]
def faV (zs : List REvent) (S j T : Nat) : Value := .int .i64 ((fA zs S j T : Nat) : Int)
theorem faV_start (zs : List REvent) (T : Nat) : (if T = 0 then Value.int .i64 1 else .int .i64 0) = faV zs 0 0 T := by
  unfold faV
  rw [fA_start]
  split <;> rfl
theorem faV_next {zs : List REvent} {n : Nat} (hn : zs.length = n) (S T : Nat) : faV zs S n T = faV zs (S + 1) 0 T := by
  subst hn; unfold faV; rw [fA_next]
theorem faV_same {zs : List REvent} {n S j : Nat} (hn : zs.length = n) (hj : j < n) (h : S.testBit j = true ∨ rdy zs S j = false) (T : Nat) : faV zs S j T = faV zs S (j + 1) T := by
  unfold faV
  rw [fA_same zs T (by omega)]
  rintro ⟨_, h1, h2⟩
  rcases h with h | h
  · rw [h1] at h; cases h
  · rw [h2] at h; cases h
theorem faV_more {zs : List REvent} {n S j : Nat} (hn : zs.length = n) (hj : j < n) (h1 : S.testBit j = false) (h2 : rdy zs S j = true) (T : Nat) : (if T = S + 2 ^ j then Value.int .i64 ((fA zs S j (S + 2 ^ j) + wN zs S : Nat) : Int) else faV zs S j T) = faV zs S (j + 1) T := by
  by_cases c : T = S + 2 ^ j
  · subst c; rw [if_pos rfl]; unfold faV; rw [fA_more zs (by omega) h1 h2]
  · rw [if_neg c]; unfold faV; rw [fA_same zs T (by omega) (fun h => c h.1)]
set_option maxRecDepth 100000 in
set_option maxHeartbeats 4000000 in
theorem r2_Ways (A : Option Addr) (n c : Nat) (zs : List REvent) (w : World) (h : IsRecs w REvent.cells REvent.ok 3 A n c zs) (h12 : n ≤ 12) :
    Calls Tryd.prog 17 #[.slice A n c] w fun e w' => e = .returned (.int .i64 (wN zs (2 ^ n - 1) : Nat)) ∧ Below w.heap.size w w' := by
  have hl := h.1
  have l2 := h.2.1
  have l3 := h.2.2.1
  unfold maxLen at l3
  have HL := Lib.hid hl
  have HRd := Lib.hid (fun w' (hb : Below w.heap.size w w') S i (hi : i < n) (hS : S < 4096) => r2_ready A n c S i zs w' (h.below hb) h12 hi hS)
  clear h hl
  go_enter Tryd.func17, Tryd.ntmps17
  go_wp2_with fail
  go_loop [3, 4] (fun sv iv => ∃ i : Nat, iv = .int .i64 i ∧ sv = .int .i64 ((2 ^ i : Nat) : Int) ∧ i ≤ n) (fun _ iv => n - (intOf iv).toNat)
  case atStart => exact ⟨0, rfl, rfl, by omega⟩
  case round =>
    obtain ⟨wr, rfl⟩ : ∃ wr : World, wr = w := ⟨_, rfl⟩
    obtain ⟨i, rfl, rfl, hi⟩ := hrel
    by_cases d1 : i < n
    · have h1 : 2 ^ i ≤ 2 ^ 12 := Nat.pow_le_pow_right (by omega) (by omega)
      have h2 : (2 : Nat) ^ 12 = 4096 := by decide
      have h3 : (2 : Nat) ^ (i + 1) = 2 * 2 ^ i := by rw [Nat.pow_succ]; omega
      have HP := Lib.hid h3
      obtain ⟨X, hX⟩ : ∃ X, 2 ^ i = X := ⟨_, rfl⟩
      rw [hX] at h1 HP ⊢
      rw [h2] at h1
      have hw := IntWalk.i64_in (2 * (X : Int)) (by omega)
      clear h2 h3 hX
      go_wp2_with fail
      go_round
      case rel => exact ⟨i + 1, by go_num, by rw [HP.out]; simp, by omega⟩
      case measure => go_light; simp [intOf]; omega
    · obtain rfl : i = n := by omega
      obtain ⟨M, hM⟩ : ∃ M, 2 ^ i = M := ⟨_, rfl⟩
      have hM4 : M ≤ 4096 := by
        have h1 : 2 ^ i ≤ 2 ^ 12 := Nat.pow_le_pow_right (by omega) (by omega)
        have : (2 : Nat) ^ 12 = 4096 := by decide
        omega
      have hM1 : 1 ≤ M := by have := Nat.two_pow_pos i; omega
      have HMe := Lib.hid hM
      rw [hM]
      have mk2 := run_make_row' (P := Tryd.prog) 23 3 (.int .i64 0) 8 Tryd.underlying23 infoI rfl .i64 .i64 M (by omega) (by omega)
      rw [made_f] at mk2
      have HW0 : Blk (wr.alloc (.cells (FCells (fun _ => .int .i64 0) M) 3)) wr.heap.size 3 (FCells (fun _ => .int .i64 0) M) := Blk.new _ _ _
      have x0 := HW0.fat (i := 0) (by omega)
      have f0 := HW0.fz 0
      have m0 : (0 : Int) < (M : Int) := by omega
      clear hM
      go_wp2_with fail
      obtain ⟨wb, hwb⟩ : ∃ wb, wb = wr.alloc (.cells ((FCells (fun _ => .int .i64 0) M).setIfInBounds 0 (.int .i64 1)) 3) := ⟨_, rfl⟩
      have HWb := Lib.hid (show Blk wb wr.heap.size 3 (FCells (fun T => faV zs 0 0 T) M) by
        rw [hwb]
        have h := Blk.new wr 3 ((FCells (fun _ => Value.int .i64 0) M).setIfInBounds 0 (.int .i64 1))
        have h2 := Eq.mp (congrArg (fun cs => Blk (wr.alloc (.cells ((FCells (fun _ => Value.int .i64 0) M).setIfInBounds 0 (.int .i64 1)) 3)) wr.heap.size 3 cs) (FCells.set (fun _ => Value.int .i64 0) M 0 (.int .i64 1))) h
        exact h2.fcongr fun T _ => faV_start zs T)
      have HBb := Lib.hid (show Below wr.heap.size wr wb by rw [hwb]; exact (by repeat (first | with_reducible exact Below.refl _ _ | (with_reducible refine Below.alloc ?_ (by first | omega | (simp; done) | (simp; omega)) _) | (with_reducible refine Below.setCell ?_ (by first | omega | (simp; done) | (simp; omega)) _) | (with_reducible refine Below.drew ?_) | (with_reducible refine below_drewN ?_ _) | (with_reducible assumption) | (with_reducible refine bel_step (by with_reducible assumption) ?_ (by first | omega | (simp; done) | (simp; omega))))))
      rw [← hwb]
      clear hwb mk2 HW0 x0 f0
      obtain ⟨w0, rfl⟩ : ∃ w0 : World, w0 = wr := ⟨_, rfl⟩
      go_loopw [6] (fun sv wr => ∃ S : Nat, sv = .int .i64 S ∧ S ≤ M ∧ Blk wr w0.heap.size 3 (FCells (fun T => faV zs S 0 T) M) ∧ Below w0.heap.size w0 wr) (fun sv _ => M - (intOf sv).toNat)
      case atStart => exact ⟨0, rfl, by omega, HWb.out, HBb.out⟩
      case round =>
        obtain ⟨S, rfl, hS, hW, hB⟩ := hrel
        have HW := Lib.hid hW
        have HB := Lib.hid hB
        obtain ⟨wo, rfl⟩ : ∃ wo : World, wo = wr := ⟨_, rfl⟩
        clear hW hB
        by_cases d3 : S < M
        · go_wp2_with fail
          go_loopw [7, 8] (fun bv jv wr => ∃ j : Nat, jv = .int .i64 j ∧ bv = .int .i64 ((2 ^ j : Nat) : Int) ∧ j ≤ i ∧ Blk wr w0.heap.size 3 (FCells (fun T => faV zs S j T) M) ∧ Below w0.heap.size w0 wr) (fun _ jv _ => i - (intOf jv).toNat)
          case atStart => exact ⟨0, rfl, rfl, by omega, HW.out, HB.out⟩
          case round =>
            obtain ⟨j, rfl, rfl, hj, hW, hB⟩ := hrel
            have HWj := Lib.hid hW
            have HBj := Lib.hid hB
            have hzj := hB.size
            have hgj := hW.lt
            clear hW hB
            by_cases d5 : j < i
            · have h1 : 2 ^ j ≤ 2 ^ 12 := Nat.pow_le_pow_right (by omega) (by omega)
              have h2 : (2 : Nat) ^ 12 = 4096 := by decide
              rw [h2] at h1
              have hpos := Nat.two_pow_pos j
              have HP := Lib.hid (show (2 : Nat) ^ (j + 1) = 2 * 2 ^ j by rw [Nat.pow_succ]; omega)
              have hb2 := half_bit S j
              have HFit := Lib.hid (fun hb => show S + 2 ^ j < M by rw [← HMe.out]; exact bit_fits (by rw [HMe.out]; exact d3) d5 hb)
              have HMo := Lib.hid (fun h1 h2 => faV_more (zs := zs) (S := S) HL.out d5 h1 h2)
              have HSa := Lib.hid (fun h => faV_same (zs := zs) (S := S) HL.out d5 h)
              have hle : S / 2 ^ j ≤ S := Nat.div_le_self _ _
              have CR := Lib.hid (fun w' hb => HRd.out w' hb S j d5 (by omega))
              have t1 : Int.tdiv (S : Int) ((2 ^ j : Nat) : Int) = ((S / 2 ^ j : Nat) : Int) := Int.ofNat_tdiv S (2 ^ j)
              have t2 : Int.tmod ((S / 2 ^ j : Nat) : Int) 2 = ((S / 2 ^ j % 2 : Nat) : Int) := Int.ofNat_tmod (S / 2 ^ j) 2
              rw [hb2] at t2
              obtain ⟨X, hX⟩ : ∃ X, 2 ^ j = X := ⟨_, rfl⟩
              rw [hX] at h1 hpos HP HFit HMo hle t1 t2 ⊢
              obtain ⟨D, hD⟩ : ∃ D, S / X = D := ⟨_, rfl⟩
              rw [hD] at hle t1 t2
              have w1 := IntWalk.i64_in (D : Int) (by omega)
              have w2 := IntWalk.i64_in (2 * (X : Int)) (by omega)
              have n1 : ((X : Int) == 0) = false := by simp; omega
              have n2 : ¬ (X : Int) = 0 := by omega
              clear h2 hb2 hX hD HRd
              cases e : S.testBit j
              · rw [e] at HFit HMo HSa t2
                rw [if_neg (by simp)] at t2
                have hf := HFit.out rfl
                go_wp2_with fail
                refine (CR.out _ HBj.out).mono ?_
                rintro e w4 ⟨rfl, hb4⟩
                have HW4 := Lib.hid (HWj.out.below hb4 hgj)
                have HB4 := Lib.hid (HBj.out.trans (hb4.mono hzj))
                have hz4 := HB4.out.size
                clear CR hb4
                cases e2 : rdy zs S j
                · rw [e2] at HSa
                  have HS := Lib.hid (HSa.out (.inr rfl))
                  clear HSa HMo HFit hf t1 t2
                  go_wp2_with fail
                  go_roundw
                  case rel => exact ⟨j + 1, by go_num, by rw [HP.out]; simp, by omega, HW4.out.fcongr fun T _ => HS.out T, HB4.out⟩
                  case measure => go_light; simp [intOf]; omega
                · rw [e2] at HMo
                  have x0 := HW4.out.fat (i := S + X) hf
                  have x1 := HW4.out.fat (i := S) d3
                  have f1 := HW4.out.fz (S + X)
                  have hle1 := fA_le zs S j (S + X)
                  have hbd1 := wN_bound (zs := zs) (by rw [HL.out]; exact h12) (S + X)
                  have hbd2 := wN_bound (zs := zs) (by rw [HL.out]; exact h12) S
                  unfold faV at x0 x1
                  rw [fA_self] at x1
                  have HWn := Lib.hid ((HW4.out.fset (S + X) (.int .i64 ((fA zs S j (S + X) + wN zs S : Nat) : Int))).fcongr fun T _ => HMo.out (by first | rfl | trivial) (by first | rfl | trivial) T)
                  obtain ⟨Y, hY⟩ : ∃ Y, fA zs S j (S + X) = Y := ⟨_, rfl⟩
                  obtain ⟨Z, hZ⟩ : ∃ Z, wN zs S = Z := ⟨_, rfl⟩
                  rw [hY, hZ] at HWn
                  rw [hY] at x0 hle1
                  rw [hZ] at x1 hbd2
                  rw [Int.natCast_add] at HWn
                  have q0 : (0 : Int) ≤ (S : Int) := by omega
                  have q1 : (S : Int) < (M : Int) := by omega
                  have q2 : (0 : Int) ≤ ((S + X : Nat) : Int) := by omega
                  have q3 : ((S + X : Nat) : Int) < (M : Int) := by omega
                  have hsx : (S : Int) + (X : Int) = ((S + X : Nat) : Int) := by omega
                  have hsx2 := IntWalk.i64_in ((S : Int) + (X : Int)) (by omega)
                  have hwr := IntWalk.i64_in ((Y : Int) + (Z : Int)) (by omega)
                  clear hY hZ HMo HSa HFit t1 t2 hle1 hbd1 hbd2
                  obtain ⟨V, hV⟩ : ∃ V, S + X = V := ⟨_, rfl⟩
                  rw [hV] at x0 f1 HWn q2 q3 hsx hf
                  go_wp2_with fail
                  go_region
                  go_wp2_with fail
                  go_roundw
                  case rel => exact ⟨j + 1, by go_num, by rw [HP.out]; simp, by omega, HWn.out.drew, (HB4.out.setCell (Nat.le_refl _) _).drew⟩
                  case measure => go_light; simp [intOf]; omega
              · rw [e] at HSa t2
                rw [if_pos rfl] at t2
                have HS := Lib.hid (HSa.out (.inl rfl))
                clear HSa HMo HFit CR
                go_wp2_with fail
                go_roundw
                case rel => exact ⟨j + 1, by go_num, by rw [HP.out]; simp, by omega, HWj.out.fcongr fun T _ => HS.out T, HBj.out⟩
                case measure => go_light; simp [intOf]; omega
            · obtain rfl : j = i := by omega
              have HWn := Lib.hid (HWj.out.fcongr fun T _ => faV_next HL.out S T)
              go_wp2_with fail
              go_roundw
              case rel => exact ⟨S + 1, by go_num, by omega, HWn.out, HBj.out⟩
              case measure => go_light; simp [intOf]; omega
        · obtain rfl : S = M := by omega
          have x9 : wo.cell? ⟨w0.heap.size, S - 1, none⟩ = some (.int .i64 (wN zs (2 ^ i - 1) : Nat)) := by
            have h := HW.out.fat (i := S - 1) (by omega)
            unfold faV at h
            rw [fA_over zs 0 (by omega)] at h
            rw [HMe.out]; exact h
          have hsb : (S : Int) - 1 = ((S - 1 : Nat) : Int) := by omega
          have m1 : S - 1 < S := by omega
          obtain ⟨R, hR⟩ : ∃ R, S - 1 = R := ⟨_, rfl⟩
          rw [hR] at x9 hsb m1
          have m2 : (0 : Int) ≤ (R : Int) := by omega
          have m3 : (R : Int) < (S : Int) := by omega
          clear hR
          go_wp2_with fail
          go_ret
          exact ⟨rfl, HB.out⟩
end Go.Proofs.YthclepohilekaaaDoor
