/- The bits of a set, as the program reckons them. -/
import Derived.Test.YthclepohilekaaaDoorWaysP
import Derived.Test.YthclepohilekaaaDoorBase
import Derived.Laws.Bits64b
import Derived.IntWalk
namespace Go.Proofs.YthclepohilekaaaDoor
open Go.RowKit
set_option linter.unusedVariables false
set_option linter.unusedSimpArgs false
theorem wrap_nat {N : Nat} (h : N < 18446744073709551616) : IntKind.u64.wrap (N : Int) = (N : Int) := by
  rw [IntKind.wrap_u64]; omega
theorem pow_lt64 {i : Nat} (h : i < 64) : (2 : Nat) ^ i < 18446744073709551616 := (Nat.pow_lt_pow_right (a := 2) (by omega) h : 2 ^ i < 2 ^ 64)
theorem wrap_pow {i : Nat} (h : i < 64) : IntKind.u64.wrap ((2 : Int) ^ i) = ((2 ^ i : Nat) : Int) := by
  have h2 : ((2 : Int) ^ i) = ((2 ^ i : Nat) : Int) := by simp
  rw [h2]
  exact wrap_nat (pow_lt64 h)
/-- S without i. -/
def less (S i : Nat) : Nat := if S.testBit i = true then S - 2 ^ i else S
theorem less_bit (S i j : Nat) : (less S i).testBit j = if j = i then false else S.testBit j := by
  unfold less
  by_cases c : S.testBit i = true
  · rw [if_pos c]; exact bit_sub c j
  · rw [if_neg c]
    split
    · rename_i e; subst e; simpa using c
    · rfl
theorem less_le (S i : Nat) : less S i ≤ S := by
  unfold less
  split
  · exact Nat.sub_le _ _
  · exact Nat.le_refl _
theorem andNot_u64 (a b : Nat) (ha : a < 18446744073709551616) (hb : b < 18446744073709551616) :
    bits .andNot .u64 (a : Int) (b : Int) = (((BitVec.ofNat 64 a &&& ~~~ BitVec.ofNat 64 b).toNat : Nat) : Int) := by
  have hx : (BitVec.ofNat 64 a &&& ~~~ BitVec.ofNat 64 b).toNat < 2 ^ 64 := (BitVec.ofNat 64 a &&& ~~~ BitVec.ofNat 64 b).isLt
  show IntKind.u64.wrap ((BitVec.ofInt 64 (a : Int) &&& ~~~ BitVec.ofInt 64 (b : Int)).toNat : Int) = _
  rw [BitVec.ofInt_natCast, BitVec.ofInt_natCast, IntKind.wrap_u64]
  omega
theorem andNot_bit (a b j : Nat) (ha : a < 2 ^ 64) (hb : b < 2 ^ 64) : ((BitVec.ofNat 64 a &&& ~~~ BitVec.ofNat 64 b).toNat).testBit j = (a.testBit j && !b.testBit j) := by
  rw [BitVec.toNat_and, Nat.testBit_and, BitVec.toNat_ofNat, Nat.mod_eq_of_lt ha]
  by_cases hj : j < 64
  · rw [BitVec.testBit_toNat, BitVec.getLsbD_not, BitVec.getLsbD_ofNat]
    simp [hj]
  · have : a.testBit j = false := Nat.testBit_lt_two_pow (Nat.lt_of_lt_of_le ha (Nat.pow_le_pow_right (by omega) (by omega)))
    rw [this]; simp
theorem less_u64 {S i : Nat} (hS : S < 18446744073709551616) (hi : i < 64) : bits .andNot .u64 (S : Int) (IntKind.u64.wrap ((2 : Int) ^ i)) = ((less S i : Nat) : Int) := by
  have h1 : (2 : Nat) ^ i < 2 ^ 64 := Nat.pow_lt_pow_right (by omega) hi
  rw [wrap_pow hi, andNot_u64 S (2 ^ i) hS (by omega)]
  congr 1
  refine Nat.eq_of_testBit_eq fun j => ?_
  rw [andNot_bit S (2 ^ i) j (by omega) h1, less_bit, Nat.testBit_two_pow]
  by_cases e : j = i
  · subst e; simp
  · rw [if_neg e]
    have : decide (i = j) = false := by simp; omega
    rw [this]; simp
theorem and_u64 {S i : Nat} (hS : S < 18446744073709551616) (hi : i < 64) : bits .and .u64 (S : Int) (IntKind.u64.wrap ((2 : Int) ^ i)) = ((if S.testBit i = true then 2 ^ i else 0 : Nat) : Int) := by
  have h1 : (2 : Nat) ^ i < 2 ^ 64 := Nat.pow_lt_pow_right (by omega) hi
  rw [wrap_pow hi, bits_and_u64_nat S (2 ^ i) hS (by omega)]
  congr 1
  refine Nat.eq_of_testBit_eq fun j => ?_
  rw [Nat.testBit_and, Nat.testBit_two_pow]
  by_cases e : i = j
  · subst e
    cases c : S.testBit i
    · simp
    · simp [Nat.testBit_two_pow_self]
  · cases c : S.testBit i
    · simp [e]
    · simp [e, Nat.testBit_two_pow_of_ne e]
end Go.Proofs.YthclepohilekaaaDoor
