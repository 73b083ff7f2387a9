/- Edges: what is wrong with them, in plain words. -/
import Derived.Test.YtdjkhagdckhijaaDoorGraphP
namespace Go.Proofs.YtdjkhagdckhijaaDoor
open Go.RowKit
set_option linter.unusedVariables false
set_option linter.unusedSimpArgs false
def nodeB (n i : Int) : Bool := decide (0 ≤ i) && decide (i < n)
theorem nodeB_iff {n i : Int} : nodeB n i = true ↔ 0 ≤ i ∧ i < n := by simp [nodeB]
def edgeC (n : Int) (e : REdge) : Int := if nodeB n e.a = true ∧ nodeB n e.b = true then (if e.a = e.b then 3 else okC (rightB e.lo e.hi)) else 1
def edgesGo (n : Int) : List REdge → Int
  | [] => 0
  | e :: l => if edgeC n e = 0 then edgesGo n l else edgeC n e
def edgesC (n : Int) (l : List REdge) : Int := if n < 1 ∨ 6 < n then 1 else if 40 < l.length then 4 else edgesGo n l
theorem edgesGo_at {n : Int} {l : List REdge} {k : Nat} {e : REdge} (h : l[k]? = some e) : edgesGo n (l.drop k) = if edgeC n e = 0 then edgesGo n (l.drop (k + 1)) else edgeC n e := by
  obtain ⟨hk, he⟩ := List.getElem?_eq_some_iff.1 h
  rw [List.drop_eq_getElem_cons hk, he]
  rfl
theorem edgesGo_end {n : Int} {l : List REdge} {k : Nat} (h : l.length ≤ k) : edgesGo n (l.drop k) = 0 := by
  rw [List.drop_eq_nil_of_le h]; rfl
theorem edgeC_0 {n : Int} {e : REdge} (h : edgeC n e = 0) : 0 ≤ e.a ∧ e.a < n ∧ 0 ≤ e.b ∧ e.b < n ∧ e.a ≠ e.b ∧ rightB e.lo e.hi = true := by
  unfold edgeC at h
  split at h
  · rename_i g
    have g1 := nodeB_iff.1 g.1
    have g2 := nodeB_iff.1 g.2
    split at h
    · omega
    · rename_i g3
      refine ⟨g1.1, g1.2, g2.1, g2.2, g3, ?_⟩
      unfold okC at h
      split at h
      · assumption
      · omega
  · omega
theorem edgesGo_0 {n : Int} : ∀ {l : List REdge}, edgesGo n l = 0 → ∀ e ∈ l, edgeC n e = 0
  | [], _, e, he => absurd he (by simp)
  | x :: l, h, e, he => by
    unfold edgesGo at h
    by_cases c : edgeC n x = 0
    · rw [if_pos c] at h
      rcases List.mem_cons.1 he with rfl | he
      · exact c
      · exact edgesGo_0 h e he
    · rw [if_neg c] at h; exact absurd h c
theorem edgesC_0 {n : Int} {l : List REdge} (h : edgesC n l = 0) : 1 ≤ n ∧ n ≤ 6 ∧ l.length ≤ 40 ∧ EdgesOk n.toNat l := by
  unfold edgesC at h
  split at h
  · omega
  · split at h
    · omega
    · refine ⟨by omega, by omega, by omega, fun e he => ?_⟩
      obtain ⟨h1, h2, h3, h4, h5, h6⟩ := edgeC_0 (edgesGo_0 h e he)
      have := rightB_iff.1 h6
      unfold edgeB
      omega
theorem edgesGo_mk {n : Int} : ∀ {l : List REdge}, (∀ e ∈ l, edgeC n e = 0) → edgesGo n l = 0
  | [], _ => rfl
  | x :: l, h => by
    unfold edgesGo
    rw [if_pos (h x (by simp))]
    exact edgesGo_mk (fun e he => h e (by simp [he]))
theorem edgesC_mk {n : Int} {l : List REdge} (h1 : 1 ≤ n) (h2 : n ≤ 6) (h3 : l.length ≤ 40) (h : ∀ e ∈ l, edgeC n e = 0) : edgesC n l = 0 := by
  unfold edgesC
  rw [if_neg (by omega), if_neg (by omega)]
  exact edgesGo_mk h
/-- the beginning of edges that may be. -/
theorem edgesC_take {n : Int} {l : List REdge} (h : edgesC n l = 0) (k : Nat) : edgesC n (l.take k) = 0 := by
  unfold edgesC at h
  split at h
  · omega
  · split at h
    · omega
    · refine edgesC_mk (by omega) (by omega) (by simp; omega) (fun e he => edgesGo_0 h e (List.mem_of_mem_take he))
theorem edgeC_c (n : Int) (e : REdge) : edgeC n e = 0 ∨ edgeC n e = 1 ∨ edgeC n e = 3 := by
  unfold edgeC okC
  split
  · split
    · simp
    · split <;> simp
  · simp
theorem edgesGo_c (n : Int) : ∀ l : List REdge, edgesGo n l = 0 ∨ edgesGo n l = 1 ∨ edgesGo n l = 3
  | [] => .inl rfl
  | e :: l => by
    unfold edgesGo
    split
    · exact edgesGo_c n l
    · exact edgeC_c n e
theorem edgesC_c (n : Int) (l : List REdge) : edgesC n l = 0 ∨ edgesC n l = 1 ∨ edgesC n l = 3 ∨ edgesC n l = 4 := by
  unfold edgesC
  split
  · simp
  · split
    · simp
    · rcases edgesGo_c n l with h | h | h <;> simp [h]
end Go.Proofs.YtdjkhagdckhijaaDoor
