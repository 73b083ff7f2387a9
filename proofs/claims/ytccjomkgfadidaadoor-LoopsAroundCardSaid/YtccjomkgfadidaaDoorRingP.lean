/- Edges around, in plain words. -/
import Derived.Test.YtccjomkgfadidaaDoorFind
import Derived.Test.YtccjomkgfadidaaDoorChain
namespace Go.Proofs.YtccjomkgfadidaaDoor
open Go.RowKit
set_option linter.unusedVariables false
set_option linter.unusedSimpArgs false
def ringE (n : Nat) (m : Int) : Nat → List REdge
  | 0 => []
  | k + 1 => ringE n m k ++ [⟨(k : Int), (((k + 1) % n : Nat) : Int), m, m⟩]
theorem ringE_len (n : Nat) (m : Int) : ∀ k, (ringE n m k).length = k
  | 0 => rfl
  | k + 1 => by unfold ringE; simp [ringE_len n m k]
theorem ringE_mem {n : Nat} {m : Int} : ∀ {k : Nat} {e : REdge}, e ∈ ringE n m k → ∃ j : Nat, j < k ∧ e = ⟨j, (((j + 1) % n : Nat) : Int), m, m⟩
  | 0, e, h => absurd h (by simp [ringE])
  | k + 1, e, h => by
    unfold ringE at h
    rcases List.mem_append.1 h with h | h
    · obtain ⟨j, h1, h2⟩ := ringE_mem h
      exact ⟨j, by omega, h2⟩
    · exact ⟨k, by omega, by simpa using h⟩
theorem ringE_mk {n : Nat} {m : Int} {j : Nat} : ∀ {k : Nat}, j < k → (⟨j, (((j + 1) % n : Nat) : Int), m, m⟩ : REdge) ∈ ringE n m k
  | 0, h => absurd h (by omega)
  | k + 1, h => by
    unfold ringE
    rw [List.mem_append]
    by_cases e : j = k
    · subst e; right; simp
    · exact .inl (ringE_mk (by omega))
theorem ringE_take {n : Nat} {m : Int} {j : Nat} : ∀ {k : Nat}, j ≤ k → (ringE n m k).take j = ringE n m j
  | 0, h => by
    have : j = 0 := by omega
    subst this; rfl
  | k + 1, h => by
    by_cases e : j = k + 1
    · subst e; rw [List.take_of_length_le (by rw [ringE_len]; exact Nat.le_refl _)]
    · have hl := ringE_len n m k
      show (ringE n m k ++ _).take j = _
      rw [List.take_append_of_le_length (by omega)]
      exact ringE_take (by omega)
theorem ringE_ok {n : Nat} {m : Int} {k : Nat} (h3 : 3 ≤ n) (h6 : n ≤ 6) (hk : k ≤ n) (hm : -1000 ≤ m ∧ m ≤ 1000) : ∀ e ∈ ringE n m k, REdge.ok e := fun e he => by
  obtain ⟨j, h, rfl⟩ := ringE_mem he
  have : (j + 1) % n < n := Nat.mod_lt _ (by omega)
  unfold REdge.ok i64B
  simp only []
  omega
theorem ringE_c {n : Nat} {m : Int} {k : Nat} (h3 : 3 ≤ n) (h6 : n ≤ 6) (hk : k ≤ n) (hm : -1000 ≤ m ∧ m ≤ 1000) : edgesC n (ringE n m k) = 0 := by
  refine edgesC_mk (by omega) (by omega) (by rw [ringE_len]; omega) (fun e he => ?_)
  obtain ⟨j, h, rfl⟩ := ringE_mem he
  have hlt : (j + 1) % n < n := Nat.mod_lt _ (by omega)
  have hne : (j + 1) % n ≠ j := by
    by_cases e : j + 1 = n
    · rw [e, Nat.mod_self]; omega
    · rw [Nat.mod_eq_of_lt (by omega)]; omega
  have a1 : nodeB n (j : Int) = true := nodeB_iff.2 (by omega)
  have a2 : nodeB n (((j + 1) % n : Nat) : Int) = true := nodeB_iff.2 (by omega)
  have a3 : rightB m m = true := rightB_iff.2 (by omega)
  unfold edgeC
  simp only []
  rw [if_pos ⟨a1, a2⟩, if_neg (by omega), a3]
  rfl
theorem ring_arc {n : Nat} {m : Int} {k x y : Nat} {w : Int} (h : Arc (ringE n m k) x y w) : (∃ j, j < k ∧ x = j ∧ y = (j + 1) % n ∧ w = m) ∨ (∃ j, j < k ∧ y = j ∧ x = (j + 1) % n ∧ w = -m) := by
  obtain ⟨e, he, h⟩ := h
  obtain ⟨j, hj, rfl⟩ := ringE_mem he
  rcases h with ⟨h1, h2, h3⟩ | ⟨h1, h2, h3⟩
  · left; exact ⟨j, hj, by simp only [] at h1; omega, by simp only [] at h2; omega, h3⟩
  · right; exact ⟨j, hj, by simp only [] at h2; omega, by simp only [] at h1; omega, h3⟩
theorem pot_sunk {A : Nat → Nat → Int → Prop} {n : Nat} (p : Nat → Int) (h : ∀ x y w, A x y w → p y - p x ≤ w) : ¬ Sunk A n := by
  rintro ⟨v, r, c, _, hc, hw⟩
  have key : ∀ {a b r c}, Way A a b r c → p b - p a ≤ c := by
    intro a b r c g
    induction g with
    | start => omega
    | go _ hw ih => have := h _ _ _ hw; omega
  have := key hw
  omega
/-- but for the last one they fit. -/
theorem ring_short {n : Nat} {m : Int} {k : Nat} (hk : k < n) : ¬ Sunk (Arc (ringE n m k)) n := by
  refine pot_sunk (fun i => (i : Int) * m) (fun x y w hw => ?_)
  rcases ring_arc hw with ⟨j, hj, rfl, rfl, rfl⟩ | ⟨j, hj, rfl, rfl, rfl⟩
  · rw [Nat.mod_eq_of_lt (by omega)]
    have : ((x + 1 : Nat) : Int) * w = (x : Int) * w + w := by rw [Int.natCast_add, Int.add_mul]; simp
    show ((x + 1 : Nat) : Int) * w - (x : Int) * w ≤ w
    omega
  · rw [Nat.mod_eq_of_lt (by omega)]
    have : ((y + 1 : Nat) : Int) * m = (y : Int) * m + m := by rw [Int.natCast_add, Int.add_mul]; simp
    show (y : Int) * m - ((y + 1 : Nat) : Int) * m ≤ -m
    omega
theorem ring_zero {n k : Nat} : ¬ Sunk (Arc (ringE n 0 k)) n := by
  refine pot_sunk (fun _ => 0) (fun x y w hw => ?_)
  rcases ring_arc hw with ⟨j, _, _, _, rfl⟩ | ⟨j, _, _, _, rfl⟩ <;> simp
theorem ring_up {n : Nat} {m : Int} (h3 : 3 ≤ n) : ∀ k, k < n → ∃ c, c = (k : Int) * m ∧ Way (Arc (ringE n m n)) 0 k k c ∧ Way (Arc (ringE n m n)) k 0 k (-c) := by
  intro k
  induction k with
  | zero => intro _; exact ⟨0, by simp, .start, by simpa using Way.start⟩
  | succ k ih =>
    intro hk
    obtain ⟨c, hc, h1, h2⟩ := ih (by omega)
    have e := ringE_mk (n := n) (m := m) (j := k) (k := n) (by omega)
    rw [Nat.mod_eq_of_lt (by omega)] at e
    have a1 : Arc (ringE n m n) k (k + 1) m := ⟨_, e, .inl ⟨rfl, rfl, rfl⟩⟩
    have a2 : Arc (ringE n m n) (k + 1) k (-m) := ⟨_, e, .inr ⟨rfl, rfl, rfl⟩⟩
    have hcm : ((k + 1 : Nat) : Int) * m = (k : Int) * m + m := by rw [Int.natCast_add, Int.add_mul]; simp
    exact ⟨c + m, by omega, .go h1 a1, ((Way.one a2).app h2).eq (by omega) (by omega)⟩
theorem ring_sunk {n : Nat} {m : Int} (h3 : 3 ≤ n) (hm : m ≠ 0) : Sunk (Arc (ringE n m n)) n := by
  obtain ⟨c, hc, h1, h2⟩ := ring_up (m := m) h3 (n - 1) (by omega)
  have e := ringE_mk (n := n) (m := m) (j := n - 1) (k := n) (by omega)
  rw [show n - 1 + 1 = n by omega, Nat.mod_self] at e
  have a1 : Arc (ringE n m n) (n - 1) 0 m := ⟨_, e, .inl ⟨rfl, rfl, rfl⟩⟩
  have a2 : Arc (ringE n m n) 0 (n - 1) (-m) := ⟨_, e, .inr ⟨rfl, rfl, rfl⟩⟩
  rcases Int.lt_or_le m 0 with q | q
  · refine ⟨0, _, _, by omega, ?_, .go h1 a1⟩
    have : (( n - 1 : Nat) : Int) * m ≤ 0 := Int.mul_nonpos_of_nonneg_of_nonpos (by omega) (by omega)
    omega
  · refine ⟨n - 1, _, _, by omega, ?_, .go h2 a2⟩
    have : 0 ≤ (( n - 1 : Nat) : Int) * m := Int.mul_nonneg (by omega) (by omega)
    omega
/-- how far a way goes around. -/
theorem ring_far {n : Nat} {m : Int} (h3 : 3 ≤ n) {a b r : Nat} {c : Int} (g : Way (Arc (ringE n m n)) a b r c) : ∃ d q : Int, c = m * d ∧ (b : Int) = a + d + n * q ∧ -(r : Int) ≤ d ∧ d ≤ r := by
  induction g with
  | start => exact ⟨0, 0, by simp, by simp, by simp, by simp⟩
  | @go x y r c w _ hw ih =>
    obtain ⟨d, q, h1, h2, h4, h5⟩ := ih
    rcases ring_arc hw with ⟨j, hj, rfl, rfl, rfl⟩ | ⟨j, hj, rfl, rfl, rfl⟩
    · by_cases e : x + 1 = n
      · refine ⟨d + 1, q - 1, by rw [Int.mul_add]; omega, ?_, by omega, by omega⟩
        rw [e, Nat.mod_self, Int.mul_sub]
        omega
      · refine ⟨d + 1, q, by rw [Int.mul_add]; omega, ?_, by omega, by omega⟩
        rw [Nat.mod_eq_of_lt (by omega)]
        omega
    · by_cases e : y + 1 = n
      · refine ⟨d - 1, q + 1, by rw [Int.mul_sub]; omega, ?_, by omega, by omega⟩
        rw [e, Nat.mod_self] at h2
        rw [Int.mul_add]
        omega
      · refine ⟨d - 1, q, by rw [Int.mul_sub]; omega, ?_, by omega, by omega⟩
        rw [Nat.mod_eq_of_lt (by omega)] at h2
        omega
theorem ring_long {n : Nat} {m : Int} (h3 : 3 ≤ n) {v r : Nat} {c : Int} (g : Way (Arc (ringE n m n)) v v r c) (hc : c < 0) : n ≤ r := by
  obtain ⟨d, q, h1, h2, h4, h5⟩ := ring_far h3 g
  have hd : d ≠ 0 := fun e => by subst e; simp at h1; omega
  have hq : d = -((n : Int) * q) := by omega
  have hq0 : q ≠ 0 := fun e => by subst e; simp at hq; exact hd hq
  rcases Int.lt_or_le q 0 with s | s
  · have : (n : Int) * q ≤ (n : Int) * (-1) := Int.mul_le_mul_of_nonneg_left (by omega) (by omega)
    omega
  · have : (n : Int) * 1 ≤ (n : Int) * q := Int.mul_le_mul_of_nonneg_left (by omega) (by omega)
    omega
end Go.Proofs.YtccjomkgfadidaaDoor
