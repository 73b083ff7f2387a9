/- What the document's bounds and the program's tell alike. -/
import Derived.Test.YtfjpfkejajgkbaaDoorHBetween
import Derived.Test.YtfjpfkejajgkbaaDoorHFitP
namespace Go.Proofs.YtfjpfkejajgkbaaDoor
open Go.RowKit
set_option linter.unusedVariables false
set_option linter.unusedSimpArgs false
theorem tells_rev {l : List REdge} {n : Nat} {D : Nat → Nat → Int} {H : Nat → Nat → Bool} (h : Tells (Arc l) n D H) {a b : Nat} (ha : a < n) (hb : b < n) (hh : H a b = true) : H b a = true := by
  rcases h a b ha hb with ⟨h1, _⟩ | ⟨_, ⟨r, hw⟩, _⟩
  · rw [hh] at h1; cases h1
  · obtain ⟨s, d, g⟩ := way_rev hw
    rcases h b a hb ha with ⟨_, h2⟩ | ⟨h2, _⟩
    · exact absurd g (h2 _ _)
    · exact h2
/-- are all bounds times? -/
def TimeS (n : Nat) (D : Nat → Nat → Int) (H : Nat → Nat → Bool) (F : Int) : Prop :=
  (F = 0 ∧ ∀ a b, a < n → b < n → H a b = true → timeB (D a b) = true) ∨ (F = 1 ∧ ∃ a b, a < n ∧ b < n ∧ H a b = true ∧ timeB (D a b) = false)
theorem time_neg {x : Int} (h : timeB x = true) : timeB (-x) = true := by
  rw [timeB_iff] at h ⊢; omega
theorem time_yes {l : List REdge} {n : Nat} {D E : Nat → Nat → Int} {H : Nat → Nat → Bool} (h : Tells (Arc l) n D H) (g : Tells (Arc l) n E (fun a b => decide (E a b < farI))) {a b : Nat} (ha : a < n) (hb : b < n)
    (ht : timeD E a b) (hh : H a b = true) : timeB (D a b) = true := by
  have hg := (h.has g ha hb).symm.trans hh
  rw [h.same g ha hb hh]
  exact (ht (of_decide_eq_true hg)).1
theorem time_no {l : List REdge} {n : Nat} {D E : Nat → Nat → Int} {H : Nat → Nat → Bool} (h : Tells (Arc l) n D H) (g : Tells (Arc l) n E (fun a b => decide (E a b < farI)))
    (ht : ∀ a b, a < n → b < n → H a b = true → timeB (D a b) = true) {a b : Nat} (ha : a < n) (hb : b < n) : timeD E a b := by
  intro hlt
  have hg : H a b = true := (h.has g ha hb).trans (decide_eq_true hlt)
  have hr := tells_rev h ha hb hg
  exact ⟨by rw [← h.same g ha hb hg]; exact ht a b ha hb hg, time_neg (by rw [← h.same g hb ha hr]; exact ht b a hb ha hr)⟩
/-- a bound as a span; none: nothing. -/
def bndS (D : Nat → Nat → Int) (H : Nat → Nat → Bool) (a b : Nat) : RSpan := if H a b = true then ⟨-(D b a), D a b⟩ else ⟨0, 0⟩
theorem bnd_same {l : List REdge} {n : Nat} {D E : Nat → Nat → Int} {H : Nat → Nat → Bool} (h : Tells (Arc l) n D H) (g : Tells (Arc l) n E (fun a b => decide (E a b < farI))) {a b : Nat} (ha : a < n) (hb : b < n) :
    (if E a b < farI then (⟨-(E b a), E a b⟩ : RSpan) else ⟨0, 0⟩) = bndS D H a b := by
  have hh := h.has g ha hb
  unfold bndS
  by_cases hlt : E a b < farI
  · have hg : H a b = true := hh.trans (decide_eq_true hlt)
    rw [if_pos hlt, if_pos hg, h.same g ha hb hg, h.same g hb ha (tells_rev h ha hb hg)]
  · have hg : H a b = false := hh.trans (decide_eq_false hlt)
    rw [if_neg hlt, if_neg (by rw [hg]; simp)]
/-- what All answers, in the document's words. -/
theorem all_tell {N : Nat} {zs : List REdge} {w w' : World} {e : Ending} {D : Nat → Nat → Int} {H : Nat → Nat → Bool} {F : Int} (h : AllP N zs w w' e) (hs : ¬ Sunk (Arc zs) N) (hD : Tells (Arc zs) N D H) (hF : TimeS N D H F) :
    ∃ (A : Option Addr) (n c : Nat) (B : Option Addr) (m d : Nat), e = .returned (.tuple #[.slice A n c, .slice B m d, errV F]) ∧ Below w.heap.size w w' ∧
      (F = 0 → IsMat w' RSpan.cells 2 A n c N (bndS D H) ∧ IsMat w' boolCells 1 B m d N H) := by
  obtain ⟨A, n, c, B, m, d, k, he, hb, h⟩ := h
  rcases h with ⟨h, _⟩ | ⟨_, E, hE, h⟩
  · exact absurd h hs
  · refine ⟨A, n, c, B, m, d, ?_, hb, fun hF0 => ?_⟩
    · have : k = F := by
        rcases h with ⟨h1, a, b, ha, hb, h2⟩ | ⟨h1, h2, _⟩ <;> rcases hF with ⟨g1, g2⟩ | ⟨g1, a', b', ha', hb', g2, g3⟩
        · exact absurd (time_no hD hE g2 ha hb) h2
        · rw [h1, g1]
        · rw [h1, g1]
        · have := time_yes hD hE ha' hb' (h2 a' b' ha' hb') g2
          rw [g3] at this; cases this
      rw [he, this]
    · rcases h with ⟨h1, a, b, ha, hb, h2⟩ | ⟨h1, h2, h3, h4⟩
      · rcases hF with ⟨g1, g2⟩ | ⟨g1, _⟩
        · exact absurd (time_no hD hE g2 ha hb) h2
        · omega
      · exact ⟨h3.congr (fun a b ha hb => bnd_same hD hE ha hb), h4.congr (fun a b ha hb => (hD.has hE ha hb).symm)⟩
/-- what Between answers, in the document's words. -/
theorem bet_tell {N : Nat} {zs : List REdge} {a b : Int} {x : RSpan} {c F : Int} {D : Nat → Nat → Int} {H : Nat → Nat → Bool} (h : BetS N zs a b x c) (hc : edgesC N zs = 0) (hs : ¬ Sunk (Arc zs) N) (hD : Tells (Arc zs) N D H) (hF : TimeS N D H F) :
    ((nodeB N a && nodeB N b) = false ∧ c = 1 ∧ x = ⟨0, 0⟩) ∨ (∃ i j : Nat, a = i ∧ b = j ∧ i < N ∧ j < N ∧
      ((F = 1 ∧ c = 1 ∧ x = ⟨0, 0⟩) ∨ (F = 0 ∧ ((H i j = false ∧ c = 5 ∧ x = ⟨0, 0⟩) ∨ (H i j = true ∧ c = 0 ∧ x = ⟨-(D j i), D i j⟩))))) := by
  rcases h with ⟨h, _⟩ | ⟨_, h1, h2, h3⟩ | ⟨_, h1, h⟩
  · exact absurd hc h
  · exact .inl ⟨h1, h2, h3⟩
  · right
    simp only [Bool.and_eq_true, nodeB_iff] at h1
    obtain ⟨⟨p1, p2⟩, p3, p4⟩ := h1
    obtain ⟨i, rfl⟩ := Int.eq_ofNat_of_zero_le p1
    obtain ⟨j, rfl⟩ := Int.eq_ofNat_of_zero_le p3
    have hi : i < N := by omega
    have hj : j < N := by omega
    simp only [Int.toNat_natCast] at h
    refine ⟨i, j, rfl, rfl, hi, hj, ?_⟩
    rcases h with ⟨h, _⟩ | ⟨_, E, hE, h⟩
    · exact absurd h hs
    · rcases h with ⟨⟨p, q, hp, hq, h1⟩, h2, h3⟩ | ⟨h1, h2⟩
      · left
        rcases hF with ⟨g1, g2⟩ | ⟨g1, _⟩
        · exact absurd (time_no hD hE g2 hp hq) h1
        · exact ⟨g1, h2, h3⟩
      · right
        have hF0 : F = 0 := by
          rcases hF with ⟨g1, g2⟩ | ⟨g1, a', b', ha', hb', g2, g3⟩
          · exact g1
          · have := time_yes hD hE ha' hb' (h1 a' b' ha' hb') g2
            rw [g3] at this; cases this
        refine ⟨hF0, ?_⟩
        rcases h2 with ⟨q1, q2, q3⟩ | ⟨q1, q2, q3⟩
        · exact .inl ⟨(hD.has hE hi hj).trans (decide_eq_false q1), q2, q3⟩
        · have hg : H i j = true := (hD.has hE hi hj).trans (decide_eq_true q1)
          exact .inr ⟨hg, q2, by rw [q3, hD.same hE hi hj hg, hD.same hE hj hi (tells_rev hD hi hj hg)]⟩
end Go.Proofs.YtfjpfkejajgkbaaDoor
