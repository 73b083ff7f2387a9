/- What Over and Under answer beside the document. No program stands here. -/
import Derived.Test.YtdjkhagdckhijaaDoorHullL
import Derived.Test.YtdjkhagdckhijaaDoorHullY
namespace Go.Proofs.YtdjkhagdckhijaaDoor
open Go.RowKit
set_option linter.unusedVariables false
set_option linter.unusedSimpArgs false
theorem over_bad {zs : List RPoint} {x v k c : Int} (hc : ptsC zs = c) (h0 : c ≠ 0) (h : OverC zs x v k) : k = c ∧ v = 0 := by
  rcases h with ⟨_, h1, h2⟩ | ⟨h1, _⟩
  · exact ⟨h1.trans hc, h2⟩
  · exact absurd (hc.symm.trans h1) h0
theorem over_nil {x v k : Int} (h : OverC [] x v k) : k = 5 ∧ v = 0 := by
  rcases h with ⟨h1, _⟩ | ⟨_, ⟨_, h1, h2⟩ | ⟨h1, _⟩⟩
  · exact absurd (by decide) h1
  · exact ⟨h1, h2⟩
  · exact absurd rfl h1
theorem over_out {zs cs : List RPoint} {x v k : Int} (hz : ptsC zs = 0) (hh : IsHull zs cs) (hne : zs ≠ []) {a b : RPoint} (ha : cs[0]? = some a) (hb : cs[cs.length - 1]? = some b) (hx : x < a.x ∨ b.x < x) (h : OverC zs x v k) : k = 1 ∧ v = 0 := by
  rcases h with ⟨h1, _⟩ | ⟨_, ⟨h1, _⟩ | ⟨_, ds, h3, h4⟩⟩
  · exact absurd hz h1
  · exact absurd h1 hne
  · have he := hull_one h3 hh
    subst he
    rcases h4 with ⟨h4, h5, _⟩ | ⟨_, h5, h6, _⟩
    · exact ⟨h4, h5⟩
    · have q1 := h5 a ha
      have q2 := h6 b hb
      omega
theorem over_in {zs cs : List RPoint} {x v k : Int} (hz : ptsC zs = 0) (hh : IsHull zs cs) (hne : zs ≠ []) {a b : RPoint} (ha : cs[0]? = some a) (hb : cs[cs.length - 1]? = some b) (h1 : a.x ≤ x) (h2 : x ≤ b.x) (h : OverC zs x v k) : k = 0 ∧ OverR cs x v := by
  rcases h with ⟨g1, _⟩ | ⟨_, ⟨g1, _⟩ | ⟨_, ds, h3, h4⟩⟩
  · exact absurd hz g1
  · exact absurd g1 hne
  · have he := hull_one h3 hh
    subst he
    rcases h4 with ⟨_, _, ⟨y, hy, h5⟩ | ⟨y, hy, h5⟩⟩ | ⟨h4, _, _, h5⟩
    · rw [ha] at hy; cases hy; omega
    · rw [hb] at hy; cases hy; omega
    · exact ⟨h4, h5⟩
/-- upside down the ends are where they were. -/
theorem flip_ends {zs cs ds : List RPoint} (h : IsHull zs cs) (g : IsHull (zs.map flipP) ds) {a b p q : RPoint} (ha : cs[0]? = some a) (hb : cs[cs.length - 1]? = some b) (hp : ds[0]? = some p) (hq : ds[ds.length - 1]? = some q) : p.x = a.x ∧ q.x = b.x := by
  have m1 : ∀ z ∈ zs, flipP z ∈ zs.map flipP := fun z hz => List.mem_map.2 ⟨z, hz, rfl⟩
  have m2 : ∀ z ∈ ds, ∃ y ∈ zs, y.x = z.x := fun z hz => by
    obtain ⟨y, hy, rfl⟩ := List.mem_map.1 (g.sub z hz)
    exact ⟨y, hy, rfl⟩
  obtain ⟨y1, k1, e1⟩ := m2 p (List.mem_of_getElem? hp)
  obtain ⟨y2, k2, e2⟩ := m2 q (List.mem_of_getElem? hq)
  have f1 := h.first a ha y1 k1
  have f2 := h.last b hb y2 k2
  have f3 := g.first p hp _ (m1 a (h.sub a (List.mem_of_getElem? ha)))
  have f4 := g.last q hq _ (m1 b (h.sub b (List.mem_of_getElem? hb)))
  simp only [flipP] at f3 f4
  omega
theorem flip_twice (l : List RPoint) : (l.map flipP).map flipP = l := by
  rw [List.map_map]
  conv => rhs; rw [← List.map_id l]
  exact List.map_congr_left fun z _ => flip_flip z
theorem ends_of {c : List RPoint} (h : c ≠ []) : ∃ a b, c[0]? = some a ∧ c[c.length - 1]? = some b := by
  have := List.length_pos_iff.2 h
  exact ⟨_, _, List.getElem?_eq_getElem (by omega), List.getElem?_eq_getElem (by omega)⟩
end Go.Proofs.YtdjkhagdckhijaaDoor
