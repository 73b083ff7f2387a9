/- Clocks that fit leave no way around below nothing. -/
import Derived.Test.YtfjpfkejajgkbaaDoorHFits
namespace Go.Proofs.YtfjpfkejajgkbaaDoor
open Go.RowKit
set_option linter.unusedVariables false
set_option linter.unusedSimpArgs false
theorem way_pot {A : Nat → Nat → Int → Prop} {p : Nat → Int} (h : ∀ x y w, A x y w → p y - p x ≤ w) {a b r : Nat} {c : Int} (g : Way A a b r c) : p b - p a ≤ c := by
  induction g with
  | start => omega
  | go _ hw ih => have := h _ _ _ hw; omega
theorem arc_rev {l : List REdge} {x y : Nat} {w : Int} (h : Arc l x y w) : ∃ v, Arc l y x v := by
  obtain ⟨e, he, ⟨h1, h2, h3⟩ | ⟨h1, h2, h3⟩⟩ := h
  · exact ⟨-e.lo, e, he, .inr ⟨h2, h1, rfl⟩⟩
  · exact ⟨e.hi, e, he, .inl ⟨h2, h1, rfl⟩⟩
theorem way_rev {l : List REdge} {a b r : Nat} {c : Int} (h : Way (Arc l) a b r c) : ∃ s d, Way (Arc l) b a s d := by
  induction h with
  | start => exact ⟨0, 0, .start⟩
  | go _ hw ih =>
    obtain ⟨s, d, h1⟩ := ih
    obtain ⟨v, hv⟩ := arc_rev hw
    exact ⟨1 + s, v + d, (Way.one hv).app h1⟩
theorem fit_arc {n : Int} {zs : List REdge} {cl : List Int} (h : fitsV n zs cl = true) : ∀ x y w, Arc zs x y w → cl.getD y 0 - cl.getD x 0 ≤ w := by
  intro x y w hw
  unfold fitsV at h
  simp only [Bool.and_eq_true, List.all_eq_true] at h
  obtain ⟨e, he, hx⟩ := hw
  have hf := h.2 e he
  unfold fitB at hf
  simp only [Bool.and_eq_true, decide_eq_true_eq] at hf
  rcases hx with ⟨h1, h2, h3⟩ | ⟨h1, h2, h3⟩
  · rw [h1, h2] at hf
    simp only [Int.toNat_natCast] at hf
    omega
  · rw [h1, h2] at hf
    simp only [Int.toNat_natCast] at hf
    omega
theorem fit_not_sunk {n : Int} {zs : List REdge} {cl : List Int} {k : Nat} (h : fitsV n zs cl = true) : ¬ Sunk (Arc zs) k := by
  rintro ⟨v, r, c, _, hc, hw⟩
  have := way_pot (p := fun i => cl.getD i 0) (fit_arc h) hw
  omega
end Go.Proofs.YtfjpfkejajgkbaaDoor
