/- Points on a line: their hull. No program stands here. -/
import Derived.Test.YtdjkhagdckhijaaDoorHullL
namespace Go.Proofs.YtdjkhagdckhijaaDoor
open Go.RowKit
set_option linter.unusedVariables false
set_option linter.unusedSimpArgs false
def lineL (s : Int) (n : Nat) : List RPoint := (List.range n).map fun (i : Nat) => ⟨(i : Int), s * (i : Int)⟩
theorem lineL_snoc (s : Int) (n : Nat) : lineL s (n + 1) = lineL s n ++ [⟨(n : Int), s * (n : Int)⟩] := by
  unfold lineL; rw [List.range_succ, List.map_append]; rfl
theorem lineL_at {s : Int} {n i : Nat} (h : i < n) : (lineL s n)[i]? = some ⟨(i : Int), s * (i : Int)⟩ := by
  unfold lineL; rw [List.getElem?_map, List.getElem?_range h]; rfl
theorem lineL_len (s : Int) (n : Nat) : (lineL s n).length = n := by simp [lineL]
theorem lineL_mem {s : Int} {n : Nat} {p : RPoint} (h : p ∈ lineL s n) : ∃ i : Nat, i < n ∧ p = ⟨(i : Int), s * (i : Int)⟩ := by
  obtain ⟨i, hi, rfl⟩ := List.mem_map.1 h
  exact ⟨i, List.mem_range.1 hi, rfl⟩
def endsL (s : Int) (m : Nat) : List RPoint := [⟨0, 0⟩, ⟨(m : Int), s * (m : Int)⟩]
theorem line_bd {s : Int} {i : Nat} (hs : -1000 ≤ s ∧ s ≤ 1000) (hi : i ≤ 60) : -60000 ≤ s * (i : Int) ∧ s * (i : Int) ≤ 60000 := by
  have h : (s * (i : Int)).natAbs ≤ 1000 * 60 := by
    rw [Int.natAbs_mul]
    exact Nat.mul_le_mul (by omega) (by omega)
  omega
theorem line_ok {s : Int} {n : Nat} (hs : -1000 ≤ s ∧ s ≤ 1000) (hn : n ≤ 60) : ptsC (lineL s n) = 0 := by
  unfold ptsC
  rw [lineL_len, if_neg (by omega), badP_no]
  · rfl
  · intro p hp
    obtain ⟨i, hi, rfl⟩ := lineL_mem hp
    have := line_bd (i := i) hs (by omega)
    rw [ptB_iff]
    simp only
    omega
theorem line_hull (s : Int) {m : Nat} (hm : 1 ≤ m) : IsHull (lineL s (m + 1)) (endsL s m) := by
  have mem0 : (⟨0, 0⟩ : RPoint) ∈ lineL s (m + 1) := by
    have := List.mem_of_getElem? (lineL_at (s := s) (n := m + 1) (i := 0) (by omega))
    simpa using this
  have memm := List.mem_of_getElem? (lineL_at (s := s) (n := m + 1) (i := m) (by omega))
  refine ⟨fun p hp => ?_, ?_, fun a ha p hp e => ?_, fun i a b h1 h2 p hp => ?_, fun i a b d h1 h2 h3 => ?_, fun a h p hp => ?_, fun a h p hp => ?_, fun _ => by simp [endsL]⟩
  · simp [endsL] at hp
    rcases hp with rfl | rfl
    · exact mem0
    · exact memm
  · simp [RiseX, endsL]; omega
  · obtain ⟨i, hi, rfl⟩ := lineL_mem hp
    simp [endsL] at ha
    rcases ha with rfl | rfl
    · simp at e ⊢; subst e; simp
    · simp at e ⊢; rw [e]; exact Int.le_refl _
  · obtain ⟨j, hj, rfl⟩ := lineL_mem hp
    match i with
    | 0 =>
      simp [endsL] at h1 h2
      subst h1; subst h2
      have : turn ⟨0, 0⟩ ⟨(m : Int), s * (m : Int)⟩ ⟨(j : Int), s * (j : Int)⟩ = 0 := by unfold turn; grind
      omega
    | i + 1 => simp [endsL] at h2
  · match i with
    | 0 => simp [endsL] at h3
    | i + 1 => simp [endsL] at h3
  · obtain ⟨j, hj, rfl⟩ := lineL_mem hp
    simp [endsL] at h
    subst h; simp
  · obtain ⟨j, hj, rfl⟩ := lineL_mem hp
    simp [endsL] at h
    subst h; simp; omega
theorem line_over {s x v k : Int} {m : Nat} (hs : -1000 ≤ s ∧ s ≤ 1000) (hm : 1 ≤ m) (h60 : m + 1 ≤ 60) (h : OverC (lineL s (m + 1)) x v k) : ((x < 0 ∨ (m : Int) < x) ∧ k = 1) ∨ (0 ≤ x ∧ x ≤ (m : Int) ∧ k = 0 ∧ v = s * x) := by
  have hz := line_ok hs h60
  rcases h with ⟨h1, _⟩ | ⟨_, ⟨h1, _⟩ | ⟨_, cs, h3, h4⟩⟩
  · exact absurd hz h1
  · have := lineL_len s (m + 1); rw [h1] at this; simp at this
  · have he := hull_one h3 (line_hull s hm)
    subst he
    rcases h4 with ⟨h4, _, ⟨a, ha, h5⟩ | ⟨a, ha, h5⟩⟩ | ⟨h4, h5, h6, h7⟩
    · simp [endsL] at ha; subst ha; exact .inl ⟨.inl h5, h4⟩
    · simp [endsL] at ha; subst ha; exact .inl ⟨.inr h5, h4⟩
    · refine .inr ⟨h5 _ rfl, h6 _ rfl, h4, ?_⟩
      rcases h7 with ⟨h7, _⟩ | ⟨i, a, b, h1, h2, _, _, _, h8⟩
      · simp [endsL] at h7
      · match i with
        | 0 =>
          simp [endsL] at h1 h2
          subst h1; subst h2
          have g : IsUp ((s * (m : Int) - 0) * (x - 0)) ((m : Int) - 0) (s * x - 0) := by
            unfold IsUp
            have e1 : (s * x - 0 - 1) * ((m : Int) - 0) = (s * (m : Int) - 0) * (x - 0) - m := by grind
            have e2 : (s * x - 0) * ((m : Int) - 0) = (s * (m : Int) - 0) * (x - 0) := by grind
            rw [e1, e2]; omega
          have h9 : v - 0 = s * x - 0 := up_one (show (0 : Int) < (m : Int) - 0 by omega) h8 g
          omega
        | i + 1 => simp [endsL] at h2
theorem line_flip {s : Int} {n : Nat} (hs : -1000 ≤ s ∧ s ≤ 1000) (hn : n ≤ 60) : (lineL s n).map flipW = lineL (-s) n := by
  rw [map_flip (ptsC_0 (line_ok hs hn)).2]
  unfold lineL
  rw [List.map_map]
  apply List.map_congr_left
  intro i _
  simp [flipP, Int.neg_mul]
theorem line_under {s x u j : Int} {m : Nat} (hs : -1000 ≤ s ∧ s ≤ 1000) (hm : 1 ≤ m) (h60 : m + 1 ≤ 60) (h : OverC ((lineL s (m + 1)).map flipW) x u j) (h0 : 0 ≤ x) (h1 : x ≤ (m : Int)) : j = 0 ∧ -u = s * x := by
  rw [line_flip hs h60] at h
  rcases line_over (by omega) hm h60 h with ⟨h2, _⟩ | ⟨_, _, h2, h3⟩
  · omega
  · refine ⟨h2, ?_⟩
    rw [h3, Int.neg_mul, Int.neg_neg]
theorem over_none {x v k : Int} (h : OverC [] x v k) : k = 5 := by
  rcases h with ⟨h1, _⟩ | ⟨_, ⟨_, h1, _⟩ | ⟨h1, _⟩⟩
  · exact absurd (by decide) h1
  · exact h1
  · exact absurd rfl h1
end Go.Proofs.YtdjkhagdckhijaaDoor
