/- Events of one span, and events one behind the other: in how many orders, and which ranks. Plain. -/
import Derived.Test.YthclepohilekaaaWaysP
import Derived.Test.YthclepohilekaaaOrderR
namespace Go.Proofs.Ythclepohilekaaa
open Go.RowKit
set_option linter.unusedVariables false
set_option linter.unusedSimpArgs false
/-- the i-th event. -/
def frE (apart : Bool) (i : Nat) : REvent := ⟨(i : Int), if apart = true then 20 * (i : Int) else 0, if apart = true then 20 * (i : Int) + 10 else 10⟩
def frL (apart : Bool) : Nat → List REvent
  | 0 => []
  | n + 1 => frL apart n ++ [frE apart n]
theorem frL_len (a : Bool) : ∀ n, (frL a n).length = n
  | 0 => rfl
  | n + 1 => by show (frL a n ++ [frE a n]).length = _; rw [List.length_append, frL_len a n]; rfl
theorem frL_get (a : Bool) : ∀ n i, i < n → (frL a n)[i]? = some (frE a i)
  | 0, i, h => by omega
  | n + 1, i, h => by
    show (frL a n ++ [frE a n])[i]? = _
    by_cases e : i = n
    · subst e; rw [List.getElem?_append_right (by rw [frL_len]; omega), frL_len]; simp
    · rw [List.getElem?_append_left (by rw [frL_len]; omega), frL_get a n i (by omega)]
theorem frL_getD (a : Bool) {n i : Nat} (h : i < n) : (frL a n).getD i default = frE a i := getD_of (frL_get a n i h)
theorem frL_mem {a : Bool} : ∀ {n : Nat} {z : REvent}, z ∈ frL a n → ∃ i, i < n ∧ z = frE a i
  | 0, z, h => by cases h
  | n + 1, z, h => by
    rcases List.mem_append.1 (show z ∈ frL a n ++ [frE a n] from h) with h | h
    · obtain ⟨i, hi, e⟩ := frL_mem h; exact ⟨i, by omega, e⟩
    · exact ⟨n, by omega, by simpa using h⟩
theorem frE_right (a : Bool) {i : Nat} (h : i ≤ 12) : evR (frE a i) = true := by
  cases a
  · rw [evR, rightB_iff]
    show (0 : Int) ≤ 10 ∧ (-1000000000000 : Int) ≤ 0 ∧ (10 : Int) ≤ 1000000000000
    omega
  · rw [evR, rightB_iff]
    show (20 * (i : Int) ≤ 20 * (i : Int) + 10) ∧ -1000000000000 ≤ 20 * (i : Int) ∧ (20 * (i : Int) + 10 ≤ 1000000000000)
    omega
theorem frL_right (a : Bool) {n : Nat} (h : n ≤ 12) : ∀ z ∈ frL a n, evR z = true := by
  intro z hz
  obtain ⟨i, hi, rfl⟩ := frL_mem hz
  exact frE_right a (by omega)
theorem frL_take (a : Bool) {n k : Nat} (h : k ≤ n) : (frL a n).take k = frL a k := by
  apply List.ext_getElem?
  intro i
  rw [List.getElem?_take]
  by_cases c : i < k
  · rw [if_pos c, frL_get a n i (by omega), frL_get a k i c]
  · rw [if_neg c, List.getElem?_eq_none (by rw [frL_len]; omega)]
theorem frL_has (a : Bool) (k : Nat) : hasId (frL a k) (k : Int) = false := by
  cases e : hasId (frL a k) (k : Int)
  · rfl
  · unfold hasId at e
    rw [List.any_eq_true] at e
    obtain ⟨z, hz, hd⟩ := e
    obtain ⟨i, hi, rfl⟩ := frL_mem hz
    have h1 : ((i : Int) == (k : Int)) = true := hd
    rw [beq_iff_eq] at h1
    omega
theorem frL_first (a : Bool) {n : Nat} (hn : n ≤ 12) : ∀ k, k ≤ n → evFirst (frL a n) k = 0
  | 0, _ => rfl
  | k + 1, h => by
    refine ev_next (frL_first a hn k (by omega)) ?_
    unfold evBad
    rw [frL_getD a (show k < n by omega), if_pos (frE_right a (by omega)), frL_take a (by omega)]
    show (if hasId (frL a k) (k : Int) = true then (3 : Int) else 0) = 0
    rw [frL_has, if_neg (by simp)]
theorem frL_ok (a : Bool) {n : Nat} (hn : n ≤ 12) : evC (frL a n) = 0 := evC_ok (frL_len a n) (by omega) (frL_first a hn n (Nat.le_refl n))
/-- one times two, and so on. -/
def facN : Nat → Nat
  | 0 => 1
  | n + 1 => facN n * (n + 1)
theorem facN_le : ∀ n, n ≤ 12 → facN n ≤ 479001600 ∧ 1 ≤ facN n := by
  intro n h
  rcases (by omega : n = 0 ∨ n = 1 ∨ n = 2 ∨ n = 3 ∨ n = 4 ∨ n = 5 ∨ n = 6 ∨ n = 7 ∨ n = 8 ∨ n = 9 ∨ n = 10 ∨ n = 11 ∨ n = 12) with rfl | rfl | rfl | rfl | rfl | rfl | rfl | rfl | rfl | rfl | rfl | rfl | rfl <;> decide
theorem fr_ah0 {n k i : Nat} (hk : k < n) (hi : i < n) : ahB (frL false n) k i = false := by
  unfold ahB
  rw [frL_getD _ hk, frL_getD _ hi]
  exact decide_eq_false (by show ¬ ((10 : Int) < 0); omega)
theorem fr_ah1 {n k i : Nat} (hk : k < n) (hi : i < n) : ahB (frL true n) k i = decide (k < i) := by
  unfold ahB
  rw [frL_getD _ hk, frL_getD _ hi, Bool.eq_iff_iff, decide_eq_true_iff, decide_eq_true_iff]
  show 20 * (k : Int) + 10 < 20 * (i : Int) ↔ _
  omega
theorem sum_bits (S : Nat) (B : Nat) : ∀ m, sumN (fun i => if S.testBit i = true then B else 0) m = pop S m * B
  | 0 => by simp [sumN, pop]
  | m + 1 => by
    show sumN _ m + (if S.testBit m = true then B else 0) = (pop S m + (if S.testBit m = true then 1 else 0)) * B
    rw [sum_bits S B m, Nat.add_mul]
    split <;> simp
theorem wN_free {n : Nat} : ∀ S, S < 2 ^ n → wN (frL false n) S = facN (pop S n) := by
  intro S
  induction S using Nat.strongRecOn with
  | ind S ih =>
    intro hS
    by_cases h0 : S = 0
    · subst h0
      have hp : ∀ m, pop 0 m = 0 := fun m => by
        induction m with
        | zero => rfl
        | succ m ihm => unfold pop; rw [ihm]; simp
      rw [wN_0, hp]; rfl
    · rw [wN_pos _ h0, frL_len]
      have hp : 0 < pop S n := by
        refine Nat.pos_of_ne_zero fun hp => h0 ?_
        refine Nat.eq_of_testBit_eq fun i => ?_
        rw [Nat.zero_testBit]
        by_cases hi : i < n
        · cases e : S.testBit i
          · rfl
          · have := pop_sub e n hi; omega
        · exact Nat.testBit_lt_two_pow (Nat.lt_of_lt_of_le hS (Nat.pow_le_pow_right (by omega) (by omega)))
      rw [sumN_congr (g := fun i => if S.testBit i = true then facN (pop S n - 1) else 0) n fun i hi => ?_]
      · rw [sum_bits]
        obtain ⟨q, hq⟩ : ∃ q, pop S n = q + 1 := ⟨pop S n - 1, by omega⟩
        rw [hq]
        show (q + 1) * facN q = facN q * (q + 1)
        exact Nat.mul_comm _ _
      · by_cases c : S.testBit i = true
        · have hr : rdy (frL false n) (S - 2 ^ i) i = true := rdy_iff.2 fun k hk ha => by
            rw [frL_len] at hk
            rw [fr_ah0 hk hi] at ha; cases ha
          rw [if_pos ⟨c, hr⟩, if_pos c, ih (S - 2 ^ i) (Nat.sub_lt (Nat.pos_of_ne_zero h0) (Nat.two_pow_pos _)) (Nat.lt_of_le_of_lt (Nat.sub_le _ _) hS)]
          rw [show pop (S - 2 ^ i) n = pop S n - 1 by have := pop_sub c n hi; omega]
        · rw [if_neg (fun h => c h.1), if_neg c]
theorem pop_all : ∀ (n m : Nat), m ≤ n → pop (2 ^ n - 1) m = m
  | n, 0, _ => rfl
  | n, m + 1, h => by
    unfold pop
    rw [pop_all n m (by omega), Nat.testBit_two_pow_sub_one, decide_eq_true (by omega : m < n), if_pos rfl]
theorem wN_all {n : Nat} : wN (frL false n) (2 ^ n - 1) = facN n := by
  rw [wN_free _ (by have := Nat.two_pow_pos n; omega), pop_all n n (Nat.le_refl n)]
theorem sumN_last {f : Nat → Nat} {j : Nat} : ∀ m, j < m → (∀ i, i < m → i ≠ j → f i = 0) → sumN f m = f j
  | 0, h, _ => by omega
  | m + 1, h, hf => by
    show sumN f m + f m = f j
    by_cases c : j = m
    · subst c; rw [sumN_zero j fun i hi => hf i (by omega) (by omega)]; omega
    · rw [sumN_last m (by omega) fun i hi hne => hf i (by omega) hne, hf m (by omega) (fun e => c e.symm)]; omega
theorem wN_row {n : Nat} : ∀ m, m ≤ n → wN (frL true n) (2 ^ m - 1) = 1
  | 0, _ => wN_0 _
  | m + 1, h => by
    have hp := Nat.two_pow_pos m
    have hs : 2 ^ (m + 1) - 1 - 2 ^ m = 2 ^ m - 1 := by rw [Nat.pow_succ]; omega
    have hb : ∀ j, (2 ^ (m + 1) - 1).testBit j = decide (j < m + 1) := fun j => Nat.testBit_two_pow_sub_one (m + 1) j
    rw [wN_pos _ (by rw [Nat.pow_succ]; omega), frL_len]
    rw [sumN_last (j := m) n (by omega) fun i hi hne => ?_]
    · have hr : rdy (frL true n) (2 ^ (m + 1) - 1 - 2 ^ m) m = true := rdy_iff.2 fun k hk ha => by
        rw [frL_len] at hk
        rw [fr_ah1 hk (by omega), decide_eq_true_iff] at ha
        rw [hs, Nat.testBit_two_pow_sub_one]
        exact decide_eq_true ha
      rw [if_pos ⟨by rw [hb]; exact decide_eq_true (by omega), hr⟩, hs]
      exact wN_row m (by omega)
    · by_cases c : (2 ^ (m + 1) - 1).testBit i = true ∧ rdy (frL true n) (2 ^ (m + 1) - 1 - 2 ^ i) i = true
      · rw [if_pos c]
        have him : i < m + 1 := by have := c.1; rw [hb] at this; simpa using this
        refine wN_open _ m i ?_ (bit_sub_self c.1) (by rw [frL_len]; exact hi) ?_
        · rw [bit_sub c.1, if_neg (fun e => hne e.symm), hb]; exact decide_eq_true (by omega)
        · rw [fr_ah1 hi (by omega)]; exact decide_eq_true (by omega)
      · rw [if_neg c]
theorem best_0 {n : Nat} (g : Nat → Int) {lo : Int} (hlo : lo ≤ 10) : ∀ m, m ≤ n → bestOf (frL false n) g lo m = 0
  | 0, _ => rfl
  | m + 1, h => by
    show (if ((frL false n).getD m default).hi < lo then _ else _) = _
    rw [frL_getD _ (show m < n by omega), if_neg (by show ¬ ((10 : Int) < lo); omega)]
    exact best_0 g hlo m (by omega)
theorem rank_free {n i : Nat} (hn : n ≤ 12) (hi : i < n) : rankV (frL false n) i = 1 := by
  rw [rankV_eq (frL_right false hn) i, frL_len, frL_getD _ hi]
  rw [best_0 (n := n) _ (show (frE false i).lo ≤ 10 by show (0 : Int) ≤ 10; omega) n (Nat.le_refl n)]; rfl
theorem best_row {n i : Nat} {g : Nat → Int} (hi : i < n) (hg : ∀ k, k < i → g k = (k : Int) + 1) : ∀ m, m ≤ n → bestOf (frL true n) g (20 * (i : Int)) m = if m ≤ i then (m : Int) else (i : Int)
  | 0, _ => by rw [if_pos (by omega)]; rfl
  | m + 1, h => by
    show (if ((frL true n).getD m default).hi < 20 * (i : Int) then max (bestOf (frL true n) g (20 * (i : Int)) m) (g m) else bestOf (frL true n) g (20 * (i : Int)) m) = _
    rw [frL_getD _ (show m < n by omega), best_row hi hg m (by omega)]
    show (if 20 * (m : Int) + 10 < 20 * (i : Int) then _ else _) = _
    by_cases c : m < i
    · rw [if_pos (by omega), if_pos (by omega), if_pos (by omega), hg m c]; omega
    · rw [if_neg (by omega), if_neg (show ¬ m + 1 ≤ i by omega)]
      split <;> omega
theorem rank_row {n : Nat} (hn : n ≤ 12) : ∀ i, i < n → rankV (frL true n) i = (i : Int) + 1 := by
  intro i
  induction i using Nat.strongRecOn with
  | ind i ih =>
    intro hi
    rw [rankV_eq (frL_right true hn) i, frL_len, frL_getD _ hi]
    rw [show (frE true i).lo = 20 * (i : Int) from rfl, best_row hi (fun k hk => ih k hk (by omega)) n (Nat.le_refl n)]
    split <;> omega
end Go.Proofs.Ythclepohilekaaa
