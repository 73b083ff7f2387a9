/- The middle of numbers, their mean, how they wander: plain. -/
import Derived.Test.YtfjpfkejajgkbaaHG1
namespace Go.Proofs.Ytfjpfkejajgkbaa
set_option linter.unusedVariables false
set_option linter.unusedSimpArgs false
def leI (x y : Int) : Bool := decide (x ≤ y)
def sortI (l : List Int) : List Int := l.mergeSort leI
def numsC (l : List Int) : Int := if 60 < l.length then 4 else if l.length = 0 then 5 else if l.any (fun n => !timeB n) then 1 else 0
def midV (l : List Int) : Int := (sortI l).getD ((l.length - 1) / 2) 0
def meanV (l : List Int) : Int := l.sum / (l.length : Int)
def wanU (l : List Int) (n : Nat) : Nat → Int
  | 0 => 0
  | k + 1 => max (max (wanU l n k) (l.getD (n + k) 0 - l.getD k 0)) (-(l.getD (n + k) 0 - l.getD k 0))
def midR (l : List Int) : Int := if numsC l = 0 then midV l else 0
def meanR (l : List Int) : Int := if numsC l = 0 then meanV l else 0
def wanC (l : List Int) (n : Int) : Int := if numsC l = 0 then (if 1 ≤ n ∧ n < (l.length : Int) then 0 else 1) else numsC l
def wanR (l : List Int) (n : Int) : Int := if wanC l n = 0 then wanU l n.toNat (l.length - n.toNat) else 0
theorem numsC_0 {l : List Int} (h : numsC l = 0) : l.length ≤ 60 ∧ 0 < l.length ∧ ∀ x ∈ l, timeB x = true := by
  unfold numsC at h
  split at h
  · cases h
  · split at h
    · cases h
    · split at h
      · cases h
      · rename_i h1 h2 h3
        refine ⟨by omega, by omega, fun x hx => ?_⟩
        have h4 := Bool.eq_false_iff.2 h3
        rw [List.any_eq_false] at h4
        simpa using h4 x hx
theorem numsC_ok {l : List Int} (h1 : l.length ≤ 60) (h2 : 0 < l.length) (h : ∀ x ∈ l, timeB x = true) : numsC l = 0 := by
  unfold numsC
  rw [if_neg (by omega), if_neg (by omega), if_neg]
  rw [Bool.not_eq_true, List.any_eq_false]
  intro x hx
  simp [h x hx]
theorem numsC_big {l : List Int} (h1 : 60 < l.length) : numsC l = 4 := by unfold numsC; rw [if_pos h1]
theorem numsC_none {l : List Int} (h1 : l.length = 0) : numsC l = 5 := by unfold numsC; rw [if_neg (by omega), if_pos h1]
theorem sortI_perm (l : List Int) : (sortI l).Perm l := List.mergeSort_perm l leI
theorem sortI_len (l : List Int) : (sortI l).length = l.length := (sortI_perm l).length_eq
theorem sortI_up (l : List Int) : (sortI l).Pairwise (fun x y => x ≤ y) := by
  have := List.pairwise_mergeSort (le := leI) (fun a b c => by unfold leI; simp; omega) (fun a b => by unfold leI; simp; omega) l
  refine this.imp ?_
  intro a b h
  simpa [leI] using h
theorem sortI_eq {l s : List Int} (hp : s.Perm l) (hs : s.Pairwise (fun x y => x ≤ y)) : sortI l = s :=
  List.Perm.eq_of_pairwise (le := fun x y => x ≤ y) (fun a b _ _ h1 h2 => by omega) (sortI_up l) hs ((sortI_perm l).trans hp.symm)
theorem sortI_map (l : List Int) (by_ : Int) : sortI (l.map (fun x => x + by_)) = (sortI l).map (fun x => x + by_) :=
  sortI_eq ((sortI_perm l).map _) (by
    rw [List.pairwise_map]
    refine (sortI_up l).imp ?_
    intro a b h; omega)
theorem mid_mem {l : List Int} (h : 0 < l.length) : midV l ∈ l := by
  have hl := sortI_len l
  have hk : (l.length - 1) / 2 < (sortI l).length := by omega
  unfold midV
  rw [List.getD_eq_getElem?_getD, List.getElem?_eq_getElem hk]
  exact (sortI_perm l).mem_iff.1 (List.getElem_mem hk)
theorem up_at {s : List Int} (h : s.Pairwise (fun x y => x ≤ y)) {i j : Nat} (hij : i ≤ j) (hj : j < s.length) : s.getD i 0 ≤ s.getD j 0 := by
  rw [List.getD_eq_getElem?_getD, List.getD_eq_getElem?_getD, List.getElem?_eq_getElem hj, List.getElem?_eq_getElem (by omega : i < s.length)]
  simp only [Option.getD_some]
  by_cases e : i = j
  · subst e; omega
  · exact List.pairwise_iff_getElem.1 h i j (by omega) hj (by omega)
theorem count_below {s : List Int} (h : s.Pairwise (fun x y => x ≤ y)) {k : Nat} (hk : k < s.length) : s.countP (fun x => decide (x < s.getD k 0)) ≤ k := by
  obtain ⟨m, hm⟩ : ∃ m, s.getD k 0 = m := ⟨_, rfl⟩
  have key : s.countP (fun x => decide (x < m)) = (s.take k).countP (fun x => decide (x < m)) + (s.drop k).countP (fun x => decide (x < m)) := by
    rw [← List.countP_append, List.take_append_drop]
  rw [hm, key]
  have h2 : (s.drop k).countP (fun x => decide (x < m)) = 0 := by
    rw [List.countP_eq_zero]
    intro x hx
    obtain ⟨i, hi, rfl⟩ := List.getElem_of_mem hx
    rw [List.getElem_drop]
    rw [List.length_drop] at hi
    have := up_at h (i := k) (j := k + i) (by omega) (by omega)
    rw [hm, List.getD_eq_getElem?_getD, List.getElem?_eq_getElem (by omega : k + i < s.length)] at this
    simp only [Option.getD_some] at this
    simp
    omega
  have h1 := List.countP_le_length (p := fun x => decide (x < m)) (l := s.take k)
  rw [List.length_take] at h1
  omega
theorem count_above {s : List Int} (h : s.Pairwise (fun x y => x ≤ y)) {k : Nat} (hk : k < s.length) : s.countP (fun x => decide (s.getD k 0 < x)) ≤ s.length - 1 - k := by
  obtain ⟨m, hm⟩ : ∃ m, s.getD k 0 = m := ⟨_, rfl⟩
  have key : s.countP (fun x => decide (m < x)) = (s.take (k + 1)).countP (fun x => decide (m < x)) + (s.drop (k + 1)).countP (fun x => decide (m < x)) := by
    rw [← List.countP_append, List.take_append_drop]
  rw [hm, key]
  have h2 : (s.take (k + 1)).countP (fun x => decide (m < x)) = 0 := by
    rw [List.countP_eq_zero]
    intro x hx
    obtain ⟨i, hi, rfl⟩ := List.getElem_of_mem hx
    rw [List.getElem_take]
    rw [List.length_take] at hi
    have := up_at h (i := i) (j := k) (by omega) hk
    rw [hm, List.getD_eq_getElem?_getD, List.getElem?_eq_getElem (by omega : i < s.length)] at this
    simp only [Option.getD_some] at this
    simp
    omega
  have h1 := List.countP_le_length (p := fun x => decide (m < x)) (l := s.drop (k + 1))
  rw [List.length_drop] at h1
  omega
theorem mid_below {l : List Int} (h : 0 < l.length) : 2 * l.countP (fun x => decide (x < midV l)) ≤ l.length := by
  have hl := sortI_len l
  have := count_below (sortI_up l) (k := (l.length - 1) / 2) (by omega)
  rw [(sortI_perm l).countP_eq] at this
  unfold midV
  omega
theorem mid_above {l : List Int} (h : 0 < l.length) : 2 * l.countP (fun x => decide (midV l < x)) ≤ l.length := by
  have hl := sortI_len l
  have := count_above (sortI_up l) (k := (l.length - 1) / 2) (by omega)
  rw [(sortI_perm l).countP_eq] at this
  unfold midV
  omega
theorem sum_move (l : List Int) (b : Int) : (l.map (fun x => x + b)).sum = l.sum + l.length * b := by
  induction l with
  | nil => simp
  | cons x l ih => simp only [List.map_cons, List.sum_cons, List.length_cons, ih]; push_cast; rw [Int.add_mul]; omega
theorem mean_move {l : List Int} (b : Int) (h : 0 < l.length) : meanV (l.map (fun x => x + b)) = meanV l + b := by
  unfold meanV
  rw [sum_move, List.length_map, Int.add_mul_ediv_left _ _ (by omega)]
theorem mid_move {l : List Int} (b : Int) (h : 0 < l.length) : midV (l.map (fun x => x + b)) = midV l + b := by
  have hl := sortI_len l
  unfold midV
  rw [sortI_map, List.length_map, List.getD_eq_getElem?_getD, List.getD_eq_getElem?_getD, List.getElem?_map, List.getElem?_eq_getElem (by omega : (l.length - 1) / 2 < (sortI l).length)]
  rfl
theorem wan_move {l : List Int} (b : Int) (n : Nat) : ∀ k, n + k ≤ l.length → wanU (l.map (fun x => x + b)) n k = wanU l n k
  | 0, _ => rfl
  | k + 1, h => by
    unfold wanU
    rw [wan_move b n k (by omega)]
    rw [List.getD_eq_getElem?_getD, List.getD_eq_getElem?_getD, List.getD_eq_getElem?_getD, List.getD_eq_getElem?_getD, List.getElem?_map, List.getElem?_map, List.getElem?_eq_getElem (by omega : n + k < l.length), List.getElem?_eq_getElem (by omega : k < l.length)]
    simp only [Option.map_some, Option.getD_some]
    rw [show ∀ x y : Int, x + b - (y + b) = x - y from fun x y => by omega]
theorem sum_low {l : List Int} {a : Int} (h : ∀ x ∈ l, a ≤ x) : l.length * a ≤ l.sum := by
  induction l with
  | nil => simp
  | cons x l ih =>
    have h1 := ih (fun y hy => h y (List.mem_cons_of_mem _ hy))
    have h2 := h x (List.mem_cons_self ..)
    simp only [List.sum_cons, List.length_cons]; push_cast; rw [Int.add_mul]; omega
theorem sum_high {l : List Int} {a : Int} (h : ∀ x ∈ l, x ≤ a) : l.sum ≤ l.length * a := by
  induction l with
  | nil => simp
  | cons x l ih =>
    have h1 := ih (fun y hy => h y (List.mem_cons_of_mem _ hy))
    have h2 := h x (List.mem_cons_self ..)
    simp only [List.sum_cons, List.length_cons]; push_cast; rw [Int.add_mul]; omega
theorem mean_low {l : List Int} {a : Int} (h0 : 0 < l.length) (h : ∀ x ∈ l, a ≤ x) : a ≤ meanV l := by
  unfold meanV
  rw [Int.le_ediv_iff_mul_le (by omega), Int.mul_comm]
  exact sum_low h
theorem mean_high {l : List Int} {a : Int} (h0 : 0 < l.length) (h : ∀ x ∈ l, x ≤ a) : meanV l ≤ a := by
  unfold meanV
  have := sum_high h
  have h1 : l.sum / (l.length : Int) ≤ (l.length * a) / (l.length : Int) := Int.ediv_le_ediv (by omega) this
  rwa [Int.mul_ediv_cancel_left _ (by omega)] at h1
theorem wan_nonneg (l : List Int) (n : Nat) : ∀ k, 0 ≤ wanU l n k
  | 0 => by simp [wanU]
  | k + 1 => by have := wan_nonneg l n k; unfold wanU; omega
theorem wan_at {l : List Int} {n : Nat} : ∀ {k j : Nat}, j < k → l.getD (n + j) 0 - l.getD j 0 ≤ wanU l n k ∧ -(l.getD (n + j) 0 - l.getD j 0) ≤ wanU l n k
  | k + 1, j, h => by
    unfold wanU
    by_cases e : j = k
    · subst e; omega
    · have := wan_at (l := l) (n := n) (k := k) (j := j) (by omega); omega
theorem wan_le {l : List Int} {n : Nat} {m : Int} (h0 : 0 ≤ m) : ∀ {k : Nat}, (∀ j, j < k → l.getD (n + j) 0 - l.getD j 0 ≤ m ∧ -(l.getD (n + j) 0 - l.getD j 0) ≤ m) → wanU l n k ≤ m
  | 0, _ => by simpa [wanU] using h0
  | k + 1, h => by
    have h1 := wan_le h0 (k := k) (fun j hj => h j (by omega))
    have h2 := h k (by omega)
    unfold wanU
    omega
theorem wan_twice {l : List Int} {n : Nat} (h : 2 * n ≤ l.length) : wanU l (2 * n) (l.length - 2 * n) ≤ 2 * wanU l n (l.length - n) := by
  have h0 := wan_nonneg l n (l.length - n)
  refine wan_le (by omega) fun j hj => ?_
  have h1 := wan_at (l := l) (n := n) (k := l.length - n) (j := j) (by omega)
  have h2 := wan_at (l := l) (n := n) (k := l.length - n) (j := n + j) (by omega)
  rw [show n + (n + j) = 2 * n + j by omega] at h2
  omega
theorem getD_mem {l : List Int} {i : Nat} (h : i < l.length) : l.getD i 0 ∈ l := by
  rw [List.getD_eq_getElem?_getD, List.getElem?_eq_getElem h]
  exact List.getElem_mem h
theorem wan_span {l : List Int} {n : Nat} {lo hi : Int} (h : ∀ x ∈ l, lo ≤ x ∧ x ≤ hi) (h0 : 0 < l.length) : wanU l n (l.length - n) ≤ hi - lo := by
  have h3 := h _ (getD_mem h0)
  refine wan_le (by omega) fun j hj => ?_
  have h1 := h _ (getD_mem (l := l) (i := n + j) (by omega))
  have h2 := h _ (getD_mem (l := l) (i := j) (by omega))
  omega
theorem stat_range {zs : List Int} (h0 : numsC zs = 0) : (-1000000000000 ≤ midR zs ∧ midR zs ≤ 1000000000000) ∧ (-1000000000000 ≤ meanR zs ∧ meanR zs ≤ 1000000000000) := by
  obtain ⟨p1, p2, p3⟩ := numsC_0 h0
  unfold midR meanR
  rw [if_pos h0, if_pos h0]
  refine ⟨timeB_iff.1 (p3 _ (mid_mem p2)), mean_low p2 fun x hx => (timeB_iff.1 (p3 x hx)).1, mean_high p2 fun x hx => (timeB_iff.1 (p3 x hx)).2⟩
end Go.Proofs.Ytfjpfkejajgkbaa
