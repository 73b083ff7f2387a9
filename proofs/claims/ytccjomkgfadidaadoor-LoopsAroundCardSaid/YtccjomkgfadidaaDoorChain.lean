/- Edges along a chain; rows of edges that a call appends to. -/
import Derived.Test.YtccjomkgfadidaaDoorEdgeP
import Derived.Test.YtccjomkgfadidaaDoorArr
namespace Go.Proofs.YtccjomkgfadidaaDoor
open Go.RowKit
set_option linter.unusedVariables false
set_option linter.unusedSimpArgs false
def chainL (lo hi : Int) : Nat → List REdge
  | 0 => []
  | k + 1 => chainL lo hi k ++ [⟨((k + 1 : Nat) : Int) - 1, ((k + 1 : Nat) : Int), lo, hi⟩]
theorem chainL_len (lo hi : Int) : ∀ k, (chainL lo hi k).length = k
  | 0 => rfl
  | k + 1 => by unfold chainL; simp [chainL_len lo hi k]
theorem chainL_succ (lo hi : Int) {i : Nat} (h : 1 ≤ i) : chainL lo hi (i + 1 - 1) = chainL lo hi (i - 1) ++ [⟨(i : Int) - 1, (i : Int), lo, hi⟩] := by
  obtain ⟨k, rfl⟩ : ∃ k, i = k + 1 := ⟨i - 1, by omega⟩
  rfl
theorem chainL_mem {lo hi : Int} : ∀ {k : Nat} {e : REdge}, e ∈ chainL lo hi k → ∃ j : Nat, j < k ∧ e = ⟨j, j + 1, lo, hi⟩
  | 0, e, h => absurd h (by simp [chainL])
  | k + 1, e, h => by
    unfold chainL at h
    rcases List.mem_append.1 h with h | h
    · obtain ⟨j, h1, h2⟩ := chainL_mem h
      exact ⟨j, by omega, h2⟩
    · have h' : e = ⟨((k + 1 : Nat) : Int) - 1, ((k + 1 : Nat) : Int), lo, hi⟩ := by simpa using h
      exact ⟨k, by omega, by rw [h']; congr 1; omega⟩
theorem chainL_mk {lo hi : Int} {j : Nat} : ∀ {k : Nat}, j < k → (⟨j, j + 1, lo, hi⟩ : REdge) ∈ chainL lo hi k
  | 0, h => absurd h (by omega)
  | k + 1, h => by
    unfold chainL
    rw [List.mem_append]
    by_cases e : j = k
    · subst e
      right
      have : (⟨j, j + 1, lo, hi⟩ : REdge) = ⟨((j + 1 : Nat) : Int) - 1, ((j + 1 : Nat) : Int), lo, hi⟩ := by congr 1; omega
      rw [this]; simp
    · exact .inl (chainL_mk (by omega))
theorem chainL_ok {lo hi : Int} {k : Nat} (h1 : -1000000000000 ≤ lo) (h2 : lo ≤ hi) (h3 : hi ≤ 1000000000000) (hk : k ≤ 5) : ∀ e ∈ chainL lo hi k, REdge.ok e := fun e he => by
  obtain ⟨j, h, rfl⟩ := chainL_mem he
  unfold REdge.ok i64B
  simp only []
  omega
theorem chainL_c {lo hi : Int} {n k : Nat} (h0 : 1 ≤ n) (h6 : n ≤ 6) (h1 : -1000000000000 ≤ lo) (h2 : lo ≤ hi) (h3 : hi ≤ 1000000000000) (hk : k + 1 ≤ n) : edgesC n (chainL lo hi k) = 0 := by
  refine edgesC_mk (by omega) (by omega) (by rw [chainL_len]; omega) (fun e he => ?_)
  obtain ⟨j, h, rfl⟩ := chainL_mem he
  have a1 : nodeB n (j : Int) = true := nodeB_iff.2 (by omega)
  have a2 : nodeB n ((j : Int) + 1) = true := nodeB_iff.2 (by omega)
  have a3 : rightB lo hi = true := rightB_iff.2 (by omega)
  unfold edgeC
  simp only []
  rw [if_pos ⟨a1, a2⟩, if_neg (by omega), a3]
  rfl
theorem edge_one (z : REdge) : ∀ u ∈ REdge.cells z, u.oneCell' = true := by
  intro u hu
  simp [REdge.cells] at hu
  rcases hu with rfl | rfl | rfl | rfl <;> rfl
theorem infoEdge : (Tryd.prog.info? 43).map (fun i => (i.zero, i.size, i.bytes)) = some (some (.agg #[.int .i64 0, .int .i64 0, .int .i64 0, .int .i64 0]), 4, 32) := by kernel_rfl
end Go.Proofs.YtccjomkgfadidaaDoor
