/- order.last, walked. -/
import Derived.Test.YthclepohilekaaaOrdC
import Derived.Test.YthclepohilekaaaBitsN
namespace Go.Proofs.Ythclepohilekaaa
open Go.RowKit
set_option linter.unusedVariables false
set_option linter.unusedSimpArgs false
theorem and_ne {S i : Nat} (hS : S < 18446744073709551616) (hi : i < 64) : (bits .and .u64 (S : Int) (IntKind.u64.wrap ((2 : Int) ^ i)) != 0) = S.testBit i := by
  rw [and_u64 hS hi]
  have h2 : 0 < 2 ^ i := Nat.two_pow_pos i
  have h3 : ((2 ^ i : Nat) : Int) ≠ 0 := fun h => by have := Int.ofNat.inj h; omega
  cases c : S.testBit i
  · rw [if_neg (by simp)]; rfl
  · rw [if_pos rfl]; exact bne_iff_ne.2 h3
set_option maxRecDepth 100000 in
set_option maxHeartbeats 4000000 in
theorem order_last (zs : List REvent) (n : Nat) (hn : zs.length = n) (h12 : n ≤ 12) (wa wb c d M : Nat) (wv : Nat → Int) (S i : Nat) (hi : i < n) (hS : S < 2 ^ n) (hM : M = 2 ^ n) (w : World)
    (HW : ∀ R, R < 2 ^ n → w.cell? ⟨wa, R, none⟩ = some (.int .i64 (wv R))) (HN : ∀ k, k < n → w.cell? ⟨wb, k, none⟩ = some (.int .u64 (needN zs k n : Nat))) :
    Calls Try.prog 9 #[.slice (some ⟨wa, 0, none⟩) M c, .slice (some ⟨wb, 0, none⟩) n d, .int .u64 S, .int .i64 i] w fun e w' => e = .returned (.int .i64 (if lastB zs (less S i) i = true then wv (less S i) else 0)) ∧ w = w' := by
  have hp : 2 ^ n ≤ 2 ^ 12 := Nat.pow_le_pow_right (by omega) h12
  have hp2 : (2 : Nat) ^ 12 = 4096 := by decide
  have hR := less_u64 (S := S) (i := i) (by omega) (by omega)
  have hRS := less_le S i
  obtain ⟨R, hRe⟩ : ∃ R, less S i = R := ⟨_, rfl⟩
  rw [hRe] at hR hRS ⊢
  have x9 := HW R (by omega)
  have HWh := Lib.hid HW
  have HNh := Lib.hid HN
  have HLen := Lib.hid hn
  have HNo := Lib.hid (fun k (hk : k < n) (h1 : R.testBit k = true) (h2 : ahB zs i k = true) => show lastB zs R i = false from by
    cases e : lastB zs R i
    · rfl
    · have := lastB_iff.1 e k (by rw [hn]; exact hk) h1
      rw [h2] at this; cases this)
  have HYes := Lib.hid (fun (h : ∀ k, k < n → R.testBit k = true → ahB zs i k = false) => show lastB zs R i = true from lastB_iff.2 fun k hk => h k (by rw [← hn]; exact hk))
  have hRM : R < M := by omega
  have hR64 : R < 18446744073709551616 := by omega
  have hM4 : M ≤ 4096 := by omega
  obtain ⟨Z, hZ⟩ : ∃ Z, (if lastB zs R i = true then wv R else 0) = Z := ⟨_, rfl⟩
  rw [hZ]
  have HZ := Lib.hid hZ
  clear HW HN hn hRe hp hp2 hRS hZ
  go_enter Try.func9, Try.ntmps9
  go_wp2_with fail
  clear hR
  go_loop [18] (fun kv => ∃ k : Nat, kv = .int .i64 k ∧ k ≤ n ∧ ∀ j, j < k → R.testBit j = true → ahB zs i j = false) (fun kv => n - (intOf kv).toNat)
  case atStart => exact ⟨0, rfl, by omega, fun j hj => absurd hj (by omega)⟩
  case round =>
    obtain ⟨k, rfl, hk, hI⟩ := hrel
    have HI := Lib.hid hI
    clear hI
    by_cases d1 : k < n
    · have x0 := HNh.out k d1
      have b1 := and_ne (S := R) (i := k) hR64 (by omega)
      have hnd : needN zs k n < 18446744073709551616 := by have := needN_lt zs k n; have : 2 ^ n ≤ 2 ^ 12 := Nat.pow_le_pow_right (by omega) h12; omega
      have b2 := and_ne (S := needN zs k n) (i := i) hnd (by omega)
      rw [needN_bit, show decide (i < n) = true from decide_eq_true hi, Bool.true_and] at b2
      obtain ⟨D, hD⟩ : ∃ D, needN zs k n = D := ⟨_, rfl⟩
      rw [hD] at b2 x0
      have HNk := Lib.hid (HNo.out k d1)
      clear hD hnd
      cases e1 : R.testBit k
      · rw [e1] at b1
        have HI2 := Lib.hid (show ∀ j, j < k + 1 → R.testBit j = true → ahB zs i j = false from fun j hj hb => by
          rcases (by omega : j = k ∨ j < k) with rfl | h
          · rw [e1] at hb; cases hb
          · exact HI.out j h hb)
        clear e1 b2
        go_wp2_with fail
        go_round
        case rel => exact ⟨k + 1, by go_num, by omega, HI2.out⟩
        case measure => simp [intOf]; omega
      · rw [e1] at b1
        cases e2 : ahB zs i k
        · rw [e2] at b2
          have HI2 := Lib.hid (show ∀ j, j < k + 1 → R.testBit j = true → ahB zs i j = false from fun j hj hb => by
            rcases (by omega : j = k ∨ j < k) with rfl | h
            · exact e2
            · exact HI.out j h hb)
          clear e1 e2
          go_wp2_with fail
          go_round
          case rel => exact ⟨k + 1, by go_num, by omega, HI2.out⟩
          case measure => simp [intOf]; omega
        · rw [e2] at b2
          have HF := Lib.hid (HNk.out e1 e2)
          clear e1 e2
          go_wp2_with fail
          go_ret
          exact ⟨by rw [← HZ.out, HF.out]; rfl, rfl⟩
    · obtain rfl : k = n := by omega
      have HF := Lib.hid (HYes.out HI.out)
      go_wp2_with fail
      go_ret
      exact ⟨by rw [← HZ.out, HF.out]; rfl, rfl⟩
end Go.Proofs.Ythclepohilekaaa
