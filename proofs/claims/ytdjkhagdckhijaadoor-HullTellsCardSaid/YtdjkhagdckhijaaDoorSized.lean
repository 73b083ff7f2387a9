/- How long a slice that came in can be: its data. -/
import Derived.SizedLaws
import Derived.Test.YtdjkhagdckhijaaDoorOpen
namespace Go.Proofs.YtdjkhagdckhijaaDoor
open Go.ChangeShapes Go.WideShapes Go.ChangeAt Go.RowKit
set_option linter.unusedVariables false
set_option linter.unusedSimpArgs false
theorem slice_data {H : Type} {enc : TypeId × Value → H} {P : Program} {w : World} {base : Nat} {spare : Nat → Bool} {held : Bool} {t e : TypeId} {A : Option Addr} {n c : Nat} {d : DataW H} {p : List MemPlace} (ht : P.underlying t = some (.slice e)) (h : DataW.Trod enc P w base spare held t (.slice A n c) d p) :
    (d = .nil ∧ n = 0) ∨ ∃ el sp, d = .slice el sp ∧ el.length = n := by
  obtain ⟨fuel, hf⟩ := h
  rcases DataW.trod_slice ht hf with ⟨h1, h2⟩ | ⟨a, len, cap, elems, rest, m, _, h1, h2, _, _, _, hl, _⟩
  · simp [Value.cells] at h1
    cases h2
    exact .inl ⟨rfl, h1.2.1⟩
  · simp [Value.cells] at h1
    cases h2
    refine .inr ⟨_, _, rfl, ?_⟩
    rw [List.length_map, hl]; exact h1.2.1.symm
end Go.Proofs.YtdjkhagdckhijaaDoor
