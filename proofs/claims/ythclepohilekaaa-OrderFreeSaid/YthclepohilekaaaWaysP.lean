/- In how many orders events can come: by the last one, and by the next one. Plain. -/
import Derived.Test.YthclepohilekaaaOrderP
import Derived.Lib.BitFns
namespace Go.Proofs.Ythclepohilekaaa
open Go.RowKit
set_option linter.unusedVariables false
set_option linter.unusedSimpArgs false
theorem bit_add : ∀ (i S : Nat), S.testBit i = false → ∀ j, (S + 2 ^ i).testBit j = if j = i then true else S.testBit j
  | 0, S, h, j => by
    have h0 : S % 2 = 0 := by
      rw [Nat.testBit_zero] at h
      simp at h
      omega
    cases j with
    | zero => rw [if_pos rfl, Nat.testBit_zero]; simp; omega
    | succ j =>
      rw [if_neg (by omega), Nat.testBit_add_one, Nat.testBit_add_one]
      rw [show (S + 2 ^ 0) / 2 = S / 2 by simp; omega]
  | i + 1, S, h, j => by
    cases j with
    | zero =>
      rw [if_neg (by omega), Nat.testBit_zero, Nat.testBit_zero]
      rw [show (S + 2 ^ (i + 1)) % 2 = S % 2 by rw [Nat.pow_succ]; omega]
    | succ j =>
      rw [Nat.testBit_add_one] at h
      have ih := bit_add i (S / 2) h j
      rw [Nat.testBit_add_one, Nat.testBit_add_one, show (S + 2 ^ (i + 1)) / 2 = S / 2 + 2 ^ i by rw [Nat.pow_succ]; omega, ih]
      by_cases c : j = i
      · subst c; rw [if_pos rfl, if_pos rfl]
      · rw [if_neg c, if_neg (by omega)]
theorem bit_ge {S i : Nat} (h : S.testBit i = true) : 2 ^ i ≤ S := Nat.ge_two_pow_of_testBit h
theorem bit_sub_self {S i : Nat} (h : S.testBit i = true) : (S - 2 ^ i).testBit i = false := by
  have h1 := bit_ge h
  have h2 := Nat.testBit_two_pow_add_eq (S - 2 ^ i) i
  rw [show 2 ^ i + (S - 2 ^ i) = S by omega, h] at h2
  cases e : (S - 2 ^ i).testBit i
  · rfl
  · rw [e] at h2; cases h2
theorem bit_sub {S i : Nat} (h : S.testBit i = true) (j : Nat) : (S - 2 ^ i).testBit j = if j = i then false else S.testBit j := by
  have h1 := bit_ge h
  by_cases c : j = i
  · subst c; rw [if_pos rfl]; exact bit_sub_self h
  · have h2 := bit_add i (S - 2 ^ i) (bit_sub_self h) j
    rw [show S - 2 ^ i + 2 ^ i = S by omega, if_neg c] at h2
    rw [if_neg c, h2]
/-- is k surely ahead of i? -/
def ahB (zs : List REvent) (k i : Nat) : Bool := decide ((zs.getD k default).hi < (zs.getD i default).lo)
/-- all that are surely ahead of i are in S. -/
def rdy (zs : List REvent) (S i : Nat) : Bool := (List.range zs.length).all fun k => !ahB zs k i || S.testBit k
theorem rdy_iff {zs : List REvent} {S i : Nat} : rdy zs S i = true ↔ ∀ k, k < zs.length → ahB zs k i = true → S.testBit k = true := by
  unfold rdy
  simp only [List.all_eq_true, List.mem_range, Bool.or_eq_true, Bool.not_eq_true']
  constructor
  · intro h k hk ha
    rcases h k hk with h1 | h1
    · rw [ha] at h1; cases h1
    · exact h1
  · intro h k hk
    cases e : ahB zs k i
    · exact .inl rfl
    · exact .inr (h k hk e)
def sumN (f : Nat → Nat) : Nat → Nat
  | 0 => 0
  | m + 1 => sumN f m + f m
theorem sumN_congr {f g : Nat → Nat} : ∀ m, (∀ i, i < m → f i = g i) → sumN f m = sumN g m
  | 0, _ => rfl
  | m + 1, h => by show sumN f m + f m = sumN g m + g m; rw [sumN_congr m fun i hi => h i (by omega), h m (by omega)]
theorem sumN_zero {f : Nat → Nat} : ∀ m, (∀ i, i < m → f i = 0) → sumN f m = 0
  | 0, _ => rfl
  | m + 1, h => by show sumN f m + f m = 0; rw [sumN_zero m fun i hi => h i (by omega), h m (by omega)]
theorem sumN_le {f : Nat → Nat} {B : Nat} : ∀ m, (∀ i, i < m → f i ≤ B) → sumN f m ≤ m * B
  | 0, _ => by simp [sumN]
  | m + 1, h => by
    have := sumN_le (f := f) (B := B) m fun i hi => h i (by omega)
    have := h m (by omega)
    show sumN f m + f m ≤ _
    rw [Nat.succ_mul]; omega
/-- in how many orders a set can come. -/
def wN (zs : List REvent) (S : Nat) : Nat := if h : S = 0 then 1 else sumN (fun i => if S.testBit i = true ∧ rdy zs (S - 2 ^ i) i = true then wN zs (S - 2 ^ i) else 0) zs.length
termination_by S
decreasing_by exact Nat.sub_lt (Nat.pos_of_ne_zero h) (Nat.two_pow_pos _)
theorem wN_0 (zs : List REvent) : wN zs 0 = 1 := by rw [wN]; simp
theorem wN_pos (zs : List REvent) {S : Nat} (h : S ≠ 0) : wN zs S = sumN (fun i => if S.testBit i = true ∧ rdy zs (S - 2 ^ i) i = true then wN zs (S - 2 ^ i) else 0) zs.length := by rw [wN, dif_neg h]
/-- a set that lacks one that is surely ahead of one of it comes in no order. -/
theorem wN_open {zs : List REvent} : ∀ (S k i : Nat), S.testBit k = true → S.testBit i = false → i < zs.length → ahB zs i k = true → wN zs S = 0 := by
  intro S
  induction S using Nat.strongRecOn with
  | ind S ih =>
    intro k i hk hi hin ha
    have h0 : S ≠ 0 := by rintro rfl; simp at hk
    rw [wN_pos zs h0]
    refine sumN_zero _ fun j hj => ?_
    by_cases c : S.testBit j = true ∧ rdy zs (S - 2 ^ j) j = true
    · rw [if_pos c]
      by_cases e : j = k
      · subst e
        have := rdy_iff.1 c.2 i hin ha
        rw [bit_sub c.1, hi] at this
        simp at this
      · refine ih (S - 2 ^ j) (Nat.sub_lt (Nat.pos_of_ne_zero h0) (Nat.two_pow_pos _)) k i ?_ ?_ hin ha
        · rw [bit_sub c.1, if_neg (fun h => e h.symm)]; exact hk
        · rw [bit_sub c.1]; split
          · rfl
          · exact hi
    · rw [if_neg c]
/-- the bits of a set below m. -/
def pop (S : Nat) : Nat → Nat
  | 0 => 0
  | m + 1 => pop S m + if S.testBit m = true then 1 else 0
theorem pop_le (S : Nat) : ∀ m, pop S m ≤ m
  | 0 => Nat.le_refl _
  | m + 1 => by have := pop_le S m; unfold pop; split <;> omega
theorem pop_sub {S i : Nat} (h : S.testBit i = true) : ∀ m, i < m → pop (S - 2 ^ i) m + 1 = pop S m
  | 0, hm => by omega
  | m + 1, hm => by
    unfold pop
    rw [bit_sub h]
    by_cases c : m = i
    · subst c
      have : ∀ q, q ≤ m → pop (S - 2 ^ m) q = pop S q := by
        intro q
        induction q with
        | zero => intro _; rfl
        | succ q ih =>
          intro hq
          unfold pop
          rw [ih (by omega), show (S - 2 ^ m).testBit q = S.testBit q by rw [bit_sub h, if_neg (by omega)]]
      rw [this m (Nat.le_refl _), if_pos rfl, h]; simp
    · have := pop_sub h m (by omega)
      rw [if_neg c]; omega
theorem wN_le {zs : List REvent} (h12 : zs.length ≤ 12) : ∀ (S : Nat), wN zs S ≤ 12 ^ pop S zs.length := by
  intro S
  induction S using Nat.strongRecOn with
  | ind S ih =>
    by_cases h0 : S = 0
    · subst h0; rw [wN_0]; exact Nat.pos_of_ne_zero (by simp)
    · rw [wN_pos zs h0]
      by_cases hp : pop S zs.length = 0
      · refine Nat.le_trans (Nat.le_of_eq (sumN_zero _ fun i hi => ?_)) (Nat.zero_le _)
        by_cases c : S.testBit i = true ∧ rdy zs (S - 2 ^ i) i = true
        · have := pop_sub c.1 zs.length hi; omega
        · rw [if_neg c]
      · have hB := sumN_le (f := fun i => if S.testBit i = true ∧ rdy zs (S - 2 ^ i) i = true then wN zs (S - 2 ^ i) else 0) (B := 12 ^ (pop S zs.length - 1)) zs.length fun i hi => by
          by_cases c : S.testBit i = true ∧ rdy zs (S - 2 ^ i) i = true
          · rw [if_pos c]
            have h1 := ih (S - 2 ^ i) (Nat.sub_lt (Nat.pos_of_ne_zero h0) (Nat.two_pow_pos _))
            rw [show pop (S - 2 ^ i) zs.length = pop S zs.length - 1 by have := pop_sub c.1 zs.length hi; omega] at h1
            exact h1
          · rw [if_neg c]; exact Nat.zero_le _
        refine Nat.le_trans hB ?_
        have h2 : 12 ^ pop S zs.length = 12 * 12 ^ (pop S zs.length - 1) := by
          rw [show pop S zs.length = (pop S zs.length - 1) + 1 by omega, Nat.pow_succ, Nat.mul_comm]; simp
        rw [h2]
        exact Nat.mul_le_mul_right _ h12
/-- who must stand ahead of i, of the first m. -/
def needN (zs : List REvent) (i : Nat) : Nat → Nat
  | 0 => 0
  | k + 1 => if ahB zs k i = true then needN zs i k ||| 2 ^ k else needN zs i k
theorem needN_bit (zs : List REvent) (i : Nat) : ∀ m k, (needN zs i m).testBit k = (decide (k < m) && ahB zs k i)
  | 0, k => by simp [needN]
  | m + 1, k => by
    have ih := needN_bit zs i m k
    unfold needN
    by_cases c : ahB zs m i = true
    · rw [if_pos c, Nat.testBit_or, ih, Nat.testBit_two_pow]
      by_cases e : m = k
      · subst e; simp [c]
      · have : decide (k < m + 1) = decide (k < m) := by simp; omega
        rw [this]; simp [e]
    · rw [if_neg c, ih]
      by_cases e : m = k
      · subst e
        have : ahB zs m i = false := by simpa using c
        simp [this]
      · have : decide (k < m + 1) = decide (k < m) := by simp; omega
        rw [this]
theorem needN_lt (zs : List REvent) (i : Nat) : ∀ m, needN zs i m < 2 ^ m
  | 0 => by simp [needN]
  | m + 1 => by
    have ih := needN_lt zs i m
    unfold needN
    split
    · exact Nat.or_lt_two_pow (Nat.lt_of_lt_of_le ih (Nat.pow_le_pow_right (by omega) (by omega))) (Nat.pow_lt_pow_right (by omega) (by omega))
    · exact Nat.lt_of_lt_of_le ih (Nat.pow_le_pow_right (by omega) (by omega))
/-- nobody of the rest needs i. -/
def lastB (zs : List REvent) (R i : Nat) : Bool := (List.range zs.length).all fun k => !R.testBit k || !ahB zs i k
theorem lastB_iff {zs : List REvent} {R i : Nat} : lastB zs R i = true ↔ ∀ k, k < zs.length → R.testBit k = true → ahB zs i k = false := by
  unfold lastB
  simp only [List.all_eq_true, List.mem_range, Bool.or_eq_true, Bool.not_eq_true']
  constructor
  · intro h k hk ha
    rcases h k hk with h1 | h1
    · rw [ha] at h1; cases h1
    · exact h1
  · intro h k hk
    cases e : R.testBit k
    · exact .inl rfl
    · exact .inr (h k hk e)
/-- what the program adds for i as the last one. -/
def vT (zs : List REvent) (S i : Nat) : Nat := if S.testBit i = true ∧ rdy zs S i = true then (if lastB zs (S - 2 ^ i) i = true then wN zs (S - 2 ^ i) else 0) else 0
theorem vT_sum {zs : List REvent} (hr : ∀ z ∈ zs, evR z = true) {S : Nat} (h0 : S ≠ 0) : sumN (vT zs S) zs.length = wN zs S := by
  rw [wN_pos zs h0]
  refine sumN_congr _ fun i hi => ?_
  have hm : zs.getD i default ∈ zs := by rw [List.getD_eq_getElem?_getD, List.getElem?_eq_getElem hi]; exact List.getElem_mem _
  have hself : ahB zs i i = false := by
    have := rightB_iff.1 (hr _ hm)
    exact decide_eq_false (by omega)
  unfold vT
  by_cases hb : S.testBit i = true
  · have hrd : rdy zs S i = rdy zs (S - 2 ^ i) i := by
      rw [Bool.eq_iff_iff, rdy_iff, rdy_iff]
      constructor
      · intro h k hk ha
        rw [bit_sub hb]
        split
        · rename_i e; subst e; rw [hself] at ha; cases ha
        · exact h k hk ha
      · intro h k hk ha
        have := h k hk ha
        rw [bit_sub hb] at this
        split at this
        · cases this
        · exact this
    rw [hrd]
    by_cases c : S.testBit i = true ∧ rdy zs (S - 2 ^ i) i = true
    · rw [if_pos c, if_pos c]
      by_cases d : lastB zs (S - 2 ^ i) i = true
      · rw [if_pos d]
      · rw [if_neg d]
        have hd : ∃ k, k < zs.length ∧ (S - 2 ^ i).testBit k = true ∧ ahB zs i k = true := by
          refine Classical.byContradiction fun hn => d (lastB_iff.2 fun k hk hbk => ?_)
          cases e : ahB zs i k
          · rfl
          · exact absurd ⟨k, hk, hbk, e⟩ hn
        obtain ⟨k, hk, h1, h2⟩ := hd
        exact (wN_open (S - 2 ^ i) k i h1 (bit_sub_self hb) hi h2).symm
    · rw [if_neg c, if_neg c]
  · rw [if_neg (fun h => hb h.1), if_neg (fun h => hb h.1)]
/-- what the reference's row holds of T for i, when all sets below s, and of s the first j, are over. -/
def fT (zs : List REvent) (s j T i : Nat) : Nat := if T.testBit i = true ∧ rdy zs (T - 2 ^ i) i = true ∧ (T - 2 ^ i < s ∨ (T - 2 ^ i = s ∧ i < j)) then wN zs (T - 2 ^ i) else 0
def fA (zs : List REvent) (s j T : Nat) : Nat := (if T = 0 then 1 else 0) + sumN (fT zs s j T) zs.length
theorem fA_start (zs : List REvent) (T : Nat) : fA zs 0 0 T = if T = 0 then 1 else 0 := by
  unfold fA
  rw [sumN_zero _ fun i _ => by unfold fT; rw [if_neg (by omega)]]; simp
theorem fA_next (zs : List REvent) (s T : Nat) : fA zs s zs.length T = fA zs (s + 1) 0 T := by
  unfold fA
  rw [sumN_congr (f := fT zs s zs.length T) (g := fT zs (s + 1) 0 T) _ fun i hi => by
    unfold fT
    by_cases c : T.testBit i = true ∧ rdy zs (T - 2 ^ i) i = true
    · by_cases d : T - 2 ^ i < s + 1
      · rw [if_pos ⟨c.1, c.2, by omega⟩, if_pos ⟨c.1, c.2, by omega⟩]
      · rw [if_neg (fun h => by omega), if_neg (fun h => by omega)]
    · rw [if_neg (fun h => c ⟨h.1, h.2.1⟩), if_neg (fun h => c ⟨h.1, h.2.1⟩)]]
theorem fA_self (zs : List REvent) (s j : Nat) : fA zs s j s = wN zs s := by
  unfold fA
  by_cases h0 : s = 0
  · subst h0
    rw [sumN_zero _ fun i _ => by unfold fT; rw [if_neg (by simp)], wN_0]; simp
  · rw [if_neg h0, wN_pos zs h0, Nat.zero_add]
    refine sumN_congr _ fun i hi => ?_
    unfold fT
    by_cases c : s.testBit i = true ∧ rdy zs (s - 2 ^ i) i = true
    · rw [if_pos c, if_pos ⟨c.1, c.2, .inl (by have := bit_ge c.1; have := Nat.two_pow_pos i; omega)⟩]
    · rw [if_neg c, if_neg (fun h => c ⟨h.1, h.2.1⟩)]
theorem sumN_one {f g : Nat → Nat} {j : Nat} : ∀ m, j < m → (∀ i, i < m → i ≠ j → f i = g i) → sumN f m + g j = sumN g m + f j
  | 0, h, _ => by omega
  | m + 1, h, hf => by
    show sumN f m + f m + g j = sumN g m + g m + f j
    by_cases c : j = m
    · subst c
      rw [sumN_congr j fun i hi => hf i (by omega) (by omega)]; omega
    · have ih := sumN_one (f := f) (g := g) m (by omega) fun i hi hne => hf i (by omega) hne
      have := hf m (by omega) (fun e => c e.symm)
      omega
theorem fT_other (zs : List REvent) (s j T : Nat) {i : Nat} (h : i ≠ j) : fT zs s (j + 1) T i = fT zs s j T i := by
  unfold fT
  by_cases c : T.testBit i = true ∧ rdy zs (T - 2 ^ i) i = true ∧ (T - 2 ^ i < s ∨ (T - 2 ^ i = s ∧ i < j))
  · rw [if_pos c, if_pos ⟨c.1, c.2.1, by omega⟩]
  · rw [if_neg c, if_neg (fun h => c ⟨h.1, h.2.1, by omega⟩)]
theorem fA_same (zs : List REvent) {s j : Nat} (T : Nat) (hj : j < zs.length) (h : ¬ (T = s + 2 ^ j ∧ s.testBit j = false ∧ rdy zs s j = true)) : fA zs s (j + 1) T = fA zs s j T := by
  unfold fA
  rw [sumN_congr (f := fT zs s (j + 1) T) (g := fT zs s j T) _ fun i hi => by
    by_cases e : i = j
    · subst e
      unfold fT
      by_cases c : T.testBit i = true ∧ rdy zs (T - 2 ^ i) i = true ∧ (T - 2 ^ i < s ∨ (T - 2 ^ i = s ∧ i < i + 1))
      · by_cases d : T - 2 ^ i < s
        · rw [if_pos c, if_pos ⟨c.1, c.2.1, .inl d⟩]
        · exfalso
          have hs : T - 2 ^ i = s := by have := c.2.2; omega
          have := bit_ge c.1
          refine h ⟨by omega, ?_, by rw [← hs]; exact c.2.1⟩
          rw [← hs]; exact bit_sub_self c.1
      · rw [if_neg c, if_neg (fun h => c ⟨h.1, h.2.1, by omega⟩)]
    · exact fT_other zs s j T e]
theorem fA_more (zs : List REvent) {s j : Nat} (hj : j < zs.length) (h1 : s.testBit j = false) (h2 : rdy zs s j = true) : fA zs s (j + 1) (s + 2 ^ j) = fA zs s j (s + 2 ^ j) + wN zs s := by
  have hb : (s + 2 ^ j).testBit j = true := by rw [bit_add j s h1, if_pos rfl]
  have hsub : s + 2 ^ j - 2 ^ j = s := by omega
  have e1 : fT zs s (j + 1) (s + 2 ^ j) j = wN zs s := by
    unfold fT
    rw [hsub, if_pos ⟨hb, h2, .inr ⟨rfl, by omega⟩⟩]
  have e2 : fT zs s j (s + 2 ^ j) j = 0 := by
    unfold fT
    rw [hsub, if_neg (by omega)]
  have := sumN_one (f := fT zs s (j + 1) (s + 2 ^ j)) (g := fT zs s j (s + 2 ^ j)) zs.length hj fun i _ hne => fT_other zs s j _ hne
  unfold fA
  omega
theorem sumN_mono {f g : Nat → Nat} : ∀ m, (∀ i, i < m → f i ≤ g i) → sumN f m ≤ sumN g m
  | 0, _ => Nat.le_refl _
  | m + 1, h => by have := sumN_mono (f := f) (g := g) m fun i hi => h i (by omega); have := h m (by omega); show sumN f m + f m ≤ sumN g m + g m; omega
theorem fA_le (zs : List REvent) (s j T : Nat) : fA zs s j T ≤ wN zs T := by
  unfold fA
  by_cases h0 : T = 0
  · subst h0
    rw [sumN_zero _ fun i _ => by unfold fT; rw [if_neg (by simp)], wN_0]; simp
  · rw [if_neg h0, wN_pos zs h0, Nat.zero_add]
    refine sumN_mono _ fun i hi => ?_
    unfold fT
    by_cases c : T.testBit i = true ∧ rdy zs (T - 2 ^ i) i = true
    · rw [if_pos c]; split <;> omega
    · rw [if_neg (fun h => c ⟨h.1, h.2.1⟩)]; exact Nat.zero_le _
theorem wN_bound {zs : List REvent} (h12 : zs.length ≤ 12) (S : Nat) : wN zs S ≤ 8916100448256 := by
  refine Nat.le_trans (wN_le h12 S) ?_
  refine Nat.le_trans (Nat.pow_le_pow_right (by omega) (Nat.le_trans (pop_le S zs.length) h12)) (by decide)
theorem len_le : ∀ (f x n : Nat), x < 2 ^ f → (Lib.bitLenAux f x ≤ n ↔ x < 2 ^ n)
  | 0, x, n, h => by
    obtain rfl : x = 0 := by simpa using h
    exact ⟨fun _ => Nat.two_pow_pos n, fun _ => Nat.zero_le _⟩
  | f + 1, x, n, h => by
    unfold Lib.bitLenAux
    by_cases c : x = 0
    · subst c
      rw [if_pos rfl]
      exact ⟨fun _ => Nat.two_pow_pos n, fun _ => Nat.zero_le _⟩
    · rw [if_neg c]
      cases n with
      | zero => exact ⟨fun h => by omega, fun h => by simp at h; omega⟩
      | succ n =>
        have ih := len_le f (x / 2) n (by rw [Nat.pow_succ] at h; omega)
        rw [Nat.pow_succ]
        constructor
        · intro h1; have := ih.1 (by omega); omega
        · intro h1; have := ih.2 (by omega); omega
theorem bitLen_le {x n : Nat} (h : x < 2 ^ 64) : Lib.bitLen x ≤ n ↔ x < 2 ^ n := len_le 64 x n h
end Go.Proofs.Ythclepohilekaaa
