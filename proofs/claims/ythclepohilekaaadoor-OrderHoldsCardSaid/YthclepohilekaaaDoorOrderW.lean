/- Whether an order could be, by pairs. Plain. -/
import Derived.Test.YthclepohilekaaaDoorOrderR
namespace Go.Proofs.YthclepohilekaaaDoor
open Go.RowKit
set_option linter.unusedVariables false
set_option linter.unusedSimpArgs false
/-- nobody of the first k is surely behind the i-th. -/
def wI (zs : List REvent) (o : List Int) (i : Nat) : Nat → Bool
  | 0 => true
  | k + 1 => wI zs o i k && !decide ((evAt zs o i).hi < (evAt zs o k).lo)
def wB (zs : List REvent) (o : List Int) : Nat → Bool
  | 0 => true
  | i + 1 => wB zs o i && wI zs o i i
theorem wI_iff (zs : List REvent) (o : List Int) (i : Nat) : ∀ k, wI zs o i k = true ↔ ∀ j, j < k → (evAt zs o j).lo ≤ (evAt zs o i).hi
  | 0 => ⟨fun _ j hj => absurd hj (by omega), fun _ => rfl⟩
  | k + 1 => by
    have ih := wI_iff zs o i k
    unfold wI
    simp only [Bool.and_eq_true, Bool.not_eq_true', decide_eq_false_iff_not, ih]
    constructor
    · rintro ⟨h1, h2⟩ j hj
      rcases (by omega : j = k ∨ j < k) with rfl | h
      · omega
      · exact h1 j h
    · intro h
      exact ⟨fun j hj => h j (by omega), by have := h k (by omega); omega⟩
theorem wB_iff (zs : List REvent) (o : List Int) : ∀ m, wB zs o m = true ↔ ∀ i, i < m → wI zs o i i = true
  | 0 => ⟨fun _ j hj => absurd hj (by omega), fun _ => rfl⟩
  | m + 1 => by
    have ih := wB_iff zs o m
    unfold wB
    simp only [Bool.and_eq_true, ih]
    constructor
    · rintro ⟨h1, h2⟩ j hj
      rcases (by omega : j = m ∨ j < m) with rfl | h
      · exact h2
      · exact h1 j h
    · intro h
      exact ⟨fun j hj => h j (by omega), h m (by omega)⟩
theorem could_want {zs : List REvent} {o : List Int} (hr : ∀ i, i < o.length → (evAt zs o i).lo ≤ (evAt zs o i).hi) : couldB zs o = wB zs o o.length := by
  rw [Bool.eq_iff_iff, couldB_iff, wB_iff]
  constructor
  · intro h i hi
    rw [wI_iff]
    intro j hj
    have := (tmAt_max zs o i).1 j (by omega)
    have := h i hi
    omega
  · intro h i hi
    obtain ⟨_, j, hj, e⟩ := tmAt_max zs o i
    have h1 := (wI_iff zs o i i).1 (h i hi)
    rw [e]
    rcases (by omega : j = i ∨ j < i) with rfl | h2
    · exact hr j hi
    · exact h1 j h2
theorem tm_in {zs : List REvent} {o : List Int} (h : couldB zs o = true) {i : Nat} (hi : i < o.length) : (evAt zs o i).lo ≤ tmAt zs o i ∧ tmAt zs o i ≤ (evAt zs o i).hi :=
  ⟨(tmAt_max zs o i).1 i (Nat.le_refl _), couldB_iff.1 h i hi⟩
theorem tm_up (zs : List REvent) (o : List Int) (i : Nat) : tmAt zs o i ≤ tmAt zs o (i + 1) := by
  show _ ≤ max _ (tmAt zs o i); omega
def twoE : List REvent := [⟨1, 5, 9⟩, ⟨2, 1, 3⟩]
theorem two_evC : evC twoE = 0 := by decide
theorem two_could1 : couldB twoE [1, 0] = true := by decide
theorem two_could2 : couldB twoE [0, 1] = false := by decide
end Go.Proofs.YthclepohilekaaaDoor
