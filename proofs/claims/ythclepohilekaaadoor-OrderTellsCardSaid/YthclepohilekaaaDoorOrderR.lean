/- Ranks: how long the longest row is that ends with an event. Plain. -/
import Derived.Test.YthclepohilekaaaDoorOrderQ
namespace Go.Proofs.YthclepohilekaaaDoor
open Go.RowKit
set_option linter.unusedVariables false
set_option linter.unusedSimpArgs false
/-- the greatest of g over those that are surely ahead. -/
def bestOf (zs : List REvent) (g : Nat → Int) (lo : Int) : Nat → Int
  | 0 => 0
  | m + 1 => if (zs.getD m default).hi < lo then max (bestOf zs g lo m) (g m) else bestOf zs g lo m
def rk (zs : List REvent) : Nat → Nat → Int
  | 0, _ => 0
  | f + 1, i => bestOf zs (rk zs f) (zs.getD i default).lo zs.length + 1
def rankV (zs : List REvent) (i : Nat) : Int := rk zs (zs.length + 1) i
def mu (zs : List REvent) (i : Nat) : Nat := zs.countP fun z => decide (z.lo < (zs.getD i default).lo)
theorem best_congr {zs : List REvent} {g g' : Nat → Int} {lo : Int} : ∀ m, (∀ k, k < m → (zs.getD k default).hi < lo → g k = g' k) → bestOf zs g lo m = bestOf zs g' lo m
  | 0, _ => rfl
  | m + 1, h => by
    have ih := best_congr m fun k hk => h k (by omega)
    unfold bestOf
    split
    · rename_i c
      rw [ih, h m (by omega) c]
    · exact ih
theorem best_le {zs : List REvent} {g : Nat → Int} {lo B : Int} (hB : 0 ≤ B) : ∀ m, (∀ k, k < m → g k ≤ B) → 0 ≤ bestOf zs g lo m ∧ bestOf zs g lo m ≤ B
  | 0, _ => ⟨Int.le_refl _, hB⟩
  | m + 1, h => by
    have ih := best_le (zs := zs) (lo := lo) hB m fun k hk => h k (by omega)
    have := h m (by omega)
    unfold bestOf
    split <;> omega
theorem best_ge {zs : List REvent} {g : Nat → Int} {lo : Int} : ∀ m k, k < m → (zs.getD k default).hi < lo → g k ≤ bestOf zs g lo m
  | 0, k, h, _ => by omega
  | m + 1, k, h, hk => by
    unfold bestOf
    by_cases c : k < m
    · have := best_ge (g := g) m k c hk
      split <;> omega
    · obtain rfl : k = m := by omega
      rw [if_pos hk]; omega
theorem rk_le (zs : List REvent) : ∀ f i, 0 ≤ rk zs f i ∧ rk zs f i ≤ f
  | 0, _ => ⟨Int.le_refl _, Int.le_refl _⟩
  | f + 1, i => by
    have := best_le (zs := zs) (g := rk zs f) (lo := (zs.getD i default).lo) (B := (f : Int)) (by omega) zs.length fun k _ => (rk_le zs f k).2
    show 0 ≤ bestOf zs (rk zs f) (zs.getD i default).lo zs.length + 1 ∧ bestOf zs (rk zs f) (zs.getD i default).lo zs.length + 1 ≤ _
    omega
theorem countP_lt {α : Type} {p q : α → Bool} : ∀ {l : List α}, (∀ z ∈ l, p z = true → q z = true) → (∃ z ∈ l, q z = true ∧ p z = false) → l.countP p < l.countP q
  | [], _, ⟨z, hz, _⟩ => by cases hz
  | x :: l, h, ⟨z, hz, h1, h2⟩ => by
    rw [List.countP_cons, List.countP_cons]
    have hx := h x (List.mem_cons_self ..)
    rcases List.mem_cons.1 hz with rfl | hz
    · have := List.countP_mono_left (p := p) (q := q) (l := l) fun y hy => h y (List.mem_cons_of_mem _ hy)
      rw [h1, h2]; simp; omega
    · have ih := countP_lt (l := l) (fun y hy => h y (List.mem_cons_of_mem _ hy)) ⟨z, hz, h1, h2⟩
      cases e : p x
      · simp; split <;> omega
      · rw [hx e]; simp; exact ih
theorem mu_lt {zs : List REvent} (hr : ∀ z ∈ zs, evR z = true) {i k : Nat} (hk : k < zs.length) (h : (zs.getD k default).hi < (zs.getD i default).lo) : mu zs k < mu zs i := by
  have hm : zs.getD k default ∈ zs := by rw [List.getD_eq_getElem?_getD, List.getElem?_eq_getElem hk]; exact List.getElem_mem _
  have hb := rightB_iff.1 (hr _ hm)
  unfold mu
  refine countP_lt (fun z _ hz => ?_) ⟨zs.getD k default, hm, ?_, ?_⟩
  · simp only [decide_eq_true_eq] at hz ⊢; omega
  · simp only [decide_eq_true_eq]; omega
  · simp
theorem mu_le (zs : List REvent) (i : Nat) : mu zs i ≤ zs.length := List.countP_le_length
theorem rk_stable {zs : List REvent} (hr : ∀ z ∈ zs, evR z = true) : ∀ f f' i, mu zs i < f → mu zs i < f' → rk zs f i = rk zs f' i
  | 0, _, _, h, _ => by omega
  | _, 0, _, _, h => by omega
  | f + 1, f' + 1, i, h1, h2 => by
    show bestOf zs (rk zs f) _ _ + 1 = bestOf zs (rk zs f') _ _ + 1
    rw [best_congr (g := rk zs f) (g' := rk zs f') zs.length fun k hk hlt => rk_stable hr f f' k (by have := mu_lt hr hk hlt; omega) (by have := mu_lt hr hk hlt; omega)]
theorem rankV_eq {zs : List REvent} (hr : ∀ z ∈ zs, evR z = true) (i : Nat) : rankV zs i = bestOf zs (rankV zs) (zs.getD i default).lo zs.length + 1 := by
  show bestOf zs (rk zs zs.length) _ _ + 1 = _
  rw [best_congr (g := rk zs zs.length) (g' := rankV zs) zs.length fun k hk hlt => rk_stable hr _ _ k (by have := mu_lt hr hk hlt; have := mu_le zs i; omega) (by have := mu_le zs k; omega)]
theorem rankV_le {zs : List REvent} (h : zs.length ≤ 12) (i : Nat) : 0 ≤ rankV zs i ∧ rankV zs i ≤ 13 := by
  have := rk_le zs (zs.length + 1) i
  unfold rankV; omega
/-- ranks rise. -/
theorem rankV_lt {zs : List REvent} (hr : ∀ z ∈ zs, evR z = true) {i k : Nat} (hk : k < zs.length) (h : (zs.getD k default).hi < (zs.getD i default).lo) : rankV zs k < rankV zs i := by
  rw [rankV_eq hr i]
  have := best_ge (g := rankV zs) zs.length k hk h
  omega
def rankL (zs : List REvent) : Nat → List Int
  | 0 => []
  | k + 1 => rankL zs k ++ [rankV zs k]
theorem rankL_len (zs : List REvent) : ∀ k, (rankL zs k).length = k
  | 0 => rfl
  | k + 1 => by show (rankL zs k ++ [rankV zs k]).length = _; rw [List.length_append, rankL_len zs k]; rfl
theorem rankL_get (zs : List REvent) : ∀ k i, i < k → (rankL zs k)[i]? = some (rankV zs i)
  | 0, i, h => by omega
  | k + 1, i, h => by
    show (rankL zs k ++ [rankV zs k])[i]? = _
    by_cases c : i < k
    · rw [List.getElem?_append_left (by rw [rankL_len]; exact c)]; exact rankL_get zs k i c
    · obtain rfl : i = k := by omega
      rw [List.getElem?_append_right (by rw [rankL_len]; exact Nat.le_refl _), rankL_len]; simp
end Go.Proofs.YthclepohilekaaaDoor
