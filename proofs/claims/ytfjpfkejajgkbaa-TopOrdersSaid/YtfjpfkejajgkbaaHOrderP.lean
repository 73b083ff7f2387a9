/- What package order says, on lists. Plain. -/
import Derived.Test.YtfjpfkejajgkbaaHG1
namespace Go.Proofs.Ytfjpfkejajgkbaa
open Go.RowKit
set_option linter.unusedVariables false
set_option linter.unusedSimpArgs false
deriving instance Inhabited for REvent
def evR (z : REvent) : Bool := rightB z.lo z.hi
def hasId (zs : List REvent) (d : Int) : Bool := zs.any (fun x => x.id == d)
/-- what is wrong with the i-th event. -/
def evBad (zs : List REvent) (i : Nat) : Int := if evR (zs.getD i default) = true then (if hasId (zs.take i) (zs.getD i default).id = true then 3 else 0) else 1
/-- what is wrong first. -/
def evFirst (zs : List REvent) : Nat → Int
  | 0 => 0
  | k + 1 => if evFirst zs k = 0 then evBad zs k else evFirst zs k
def evC (zs : List REvent) : Int := if 12 < zs.length then 4 else evFirst zs zs.length
theorem evFirst_mono {zs : List REvent} {k n : Nat} (h : evFirst zs k ≠ 0) (hk : k ≤ n) : evFirst zs n = evFirst zs k := by
  induction n with
  | zero => obtain rfl : k = 0 := by omega
            rfl
  | succ n ih =>
    by_cases e : k = n + 1
    · rw [e]
    · have h1 := ih (by omega)
      have h2 : evFirst zs n ≠ 0 := by rw [h1]; exact h
      show (if evFirst zs n = 0 then evBad zs n else evFirst zs n) = _
      rw [if_neg h2, h1]
theorem evC_at {zs : List REvent} {k n : Nat} {E : Int} (hn : zs.length = n) (h12 : ¬ 12 < n) (h0 : evFirst zs k = 0) (h : evBad zs k = E) (hE : E ≠ 0) (hk : k < n) : evC zs = E := by
  have h1 : evFirst zs (k + 1) = E := by show (if evFirst zs k = 0 then evBad zs k else evFirst zs k) = E; rw [if_pos h0, h]
  unfold evC
  rw [hn, if_neg h12, evFirst_mono (k := k + 1) (by rw [h1]; exact hE) (by omega), h1]
theorem evC_ok {zs : List REvent} {n : Nat} (hn : zs.length = n) (h12 : ¬ 12 < n) (h0 : evFirst zs n = 0) : evC zs = 0 := by
  unfold evC
  rw [hn, if_neg h12, h0]
theorem ev_next {zs : List REvent} {k : Nat} (h0 : evFirst zs k = 0) (h : evBad zs k = 0) : evFirst zs (k + 1) = 0 := by
  show (if evFirst zs k = 0 then evBad zs k else evFirst zs k) = 0
  rw [if_pos h0, h]
theorem ev_all {zs : List REvent} : ∀ n, evFirst zs n = 0 → ∀ k, k < n → evBad zs k = 0
  | 0, _, k, hk => by omega
  | n + 1, h, k, hk => by
    have h1 : (if evFirst zs n = 0 then evBad zs n else evFirst zs n) = 0 := h
    by_cases c : evFirst zs n = 0
    · rw [if_pos c] at h1
      rcases (by omega : k = n ∨ k < n) with rfl | hlt
      · exact h1
      · exact ev_all n c k hlt
    · rw [if_neg c] at h1; exact absurd h1 c
theorem evC_0 {zs : List REvent} (h : evC zs = 0) : zs.length ≤ 12 ∧ ∀ z ∈ zs, evR z = true := by
  unfold evC at h
  by_cases c : 12 < zs.length
  · rw [if_pos c] at h; cases h
  · rw [if_neg c] at h
    refine ⟨by omega, fun z hz => ?_⟩
    obtain ⟨i, hi, rfl⟩ := List.getElem_of_mem hz
    have h1 := ev_all _ h i hi
    unfold evBad at h1
    rw [List.getD_eq_getElem?_getD, List.getElem?_eq_getElem hi] at h1
    simp only [Option.getD_some] at h1
    by_cases d : evR zs[i] = true
    · exact d
    · rw [if_neg d] at h1; cases h1
theorem hasId_snoc {zs : List REvent} {k : Nat} {z : REvent} (h : zs[k]? = some z) (d : Int) : hasId (zs.take (k + 1)) d = (hasId (zs.take k) d || (z.id == d)) := by
  unfold hasId
  rw [List.take_add_one, h, List.any_append]
  simp
theorem getD_of {α : Type} [Inhabited α] {zs : List α} {k : Nat} {z : α} (h : zs[k]? = some z) : zs.getD k default = z := by rw [List.getD_eq_getElem?_getD, h]; rfl
end Go.Proofs.Ytfjpfkejajgkbaa
