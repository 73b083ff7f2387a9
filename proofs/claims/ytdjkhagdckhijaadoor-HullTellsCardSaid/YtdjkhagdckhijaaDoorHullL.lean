/- What Over and Under answer, for the laws. No program stands here. -/
import Derived.Test.YtdjkhagdckhijaaDoorHullW
namespace Go.Proofs.YtdjkhagdckhijaaDoor
open Go.RowKit
set_option linter.unusedVariables false
set_option linter.unusedSimpArgs false
theorem over_ok {zs : List RPoint} {x v : Int} (h : OverC zs x v 0) : ptsC zs = 0 ∧ zs ≠ [] ∧ ∃ cs, IsHull zs cs ∧ OverR cs x v := by
  rcases h with ⟨h1, h2, _⟩ | ⟨h1, ⟨_, h2, _⟩ | ⟨h2, cs, h3, ⟨h4, _⟩ | ⟨_, _, _, h5⟩⟩⟩
  · exact absurd h2.symm h1
  · exact absurd h2 (by decide)
  · exact absurd h4 (by decide)
  · exact ⟨h1, h2, cs, h3, h5⟩
theorem over_at {zs : List RPoint} {v k : Int} (hz : ptsC zs = 0) {z : RPoint} (hm : z ∈ zs) (h : OverC zs z.x v k) : k = 0 ∧ ∃ cs, IsHull zs cs ∧ OverR cs z.x v := by
  rcases h with ⟨h1, _⟩ | ⟨_, ⟨h1, _⟩ | ⟨_, cs, h3, ⟨_, _, ⟨a, ha, h4⟩ | ⟨a, ha, h4⟩⟩ | ⟨h4, _, _, h5⟩⟩⟩
  · exact absurd hz h1
  · rw [h1] at hm; simp at hm
  · have := h3.first a ha z hm; omega
  · have := h3.last a ha z hm; omega
  · exact ⟨h4, cs, h3, h5⟩
theorem hull_bd {zs cs : List RPoint} (h : IsHull zs cs) (hz : ptsC zs = 0) (hl : cs.length ≤ 60) : ptsC cs = 0 := by
  have hb := (ptsC_0 hz).2
  unfold ptsC
  rw [if_neg (by omega), badP_no fun x hx => hb x (h.sub x hx)]
  rfl
/-- at a point: over it, and under it. -/
theorem point_in {zs : List RPoint} {v k u j : Int} (hz : ptsC zs = 0) {z : RPoint} (hm : z ∈ zs) (h : OverC zs z.x v k) (g : OverC (zs.map flipW) z.x u j) : k = 0 ∧ j = 0 ∧ z.y ≤ v ∧ -u ≤ z.y := by
  obtain ⟨h1, cs, h2, h3⟩ := over_at hz hm h
  have hb := (ptsC_0 hz).2
  have hzf : ptsC (zs.map flipW) = 0 := by rw [ptsC_flip]; exact hz
  have hmf : flipW z ∈ zs.map flipW := List.mem_map.2 ⟨z, hm, rfl⟩
  obtain ⟨g1, ds, g2, g3⟩ := over_at (z := flipW z) hzf hmf g
  refine ⟨h1, g1, over_point h2 h3 hm rfl, ?_⟩
  have := over_point g2 g3 hmf rfl
  rw [flipW_P (hb z hm)] at this
  simp only [flipP] at this
  omega
/-- with more points. -/
theorem all_more {l m : List RPoint} {x a b p q : Int} (hs : ∀ z ∈ l, z ∈ m) (h1 : OverC l x a 0) (h2 : OverC (l.map flipW) x b 0) (h3 : OverC m x p 0) (h4 : OverC (m.map flipW) x q 0) : a ≤ p ∧ -q ≤ -b ∧ -b ≤ a := by
  obtain ⟨z1, _, c1, i1, o1⟩ := over_ok h1
  obtain ⟨_, _, c2, i2, o2⟩ := over_ok h2
  obtain ⟨z3, _, c3, i3, o3⟩ := over_ok h3
  obtain ⟨_, _, c4, i4, o4⟩ := over_ok h4
  have q1 := over_more i1 i3 hs o1 o3
  have q2 := over_more i2 i4 (fun z hz => by
    obtain ⟨y, hy, rfl⟩ := List.mem_map.1 hz
    exact List.mem_map.2 ⟨y, hs y hy, rfl⟩) o2 o4
  rw [map_flip (ptsC_0 z1).2] at i2
  have q3 := under_over i1 i2 o1 o2
  omega
def hull3 : List RPoint := [⟨0, 0⟩, ⟨2, 5⟩, ⟨4, 0⟩]
theorem hull3_self : IsHull hull3 hull3 := by
  refine ⟨fun _ h => h, by simp [RiseX, hull3], ?_, ?_, ?_, ?_, ?_, fun h => h⟩
  · intro m hm p hp e
    simp [hull3] at hm hp
    rcases hm with rfl | rfl | rfl <;> rcases hp with rfl | rfl | rfl <;> simp at e ⊢
  · intro i a b h1 h2 p hp
    match i with
    | 0 => simp [hull3] at h1 h2 hp; subst h1; subst h2; rcases hp with rfl | rfl | rfl <;> simp [turn]
    | 1 => simp [hull3] at h1 h2 hp; subst h1; subst h2; rcases hp with rfl | rfl | rfl <;> simp [turn]
    | i + 2 => simp [hull3] at h2
  · intro i a b d h1 h2 h3
    match i with
    | 0 => simp [hull3] at h1 h2 h3; subst h1; subst h2; subst h3; simp [turn]
    | i + 1 => simp [hull3] at h3
  · intro a h p hp
    simp [hull3] at h hp; subst h; rcases hp with rfl | rfl | rfl <;> simp
  · intro a h p hp
    simp [hull3] at h hp; subst h; rcases hp with rfl | rfl | rfl <;> simp
theorem over_3 {v k : Int} (h : OverC hull3 1 v k) : k = 0 ∧ v = 3 := by
  have hz : ptsC hull3 = 0 := by decide
  rcases h with ⟨h1, _⟩ | ⟨_, ⟨h1, _⟩ | ⟨_, cs, h3, h4⟩⟩
  · exact absurd hz h1
  · simp [hull3] at h1
  · have he := hull_one h3 hull3_self
    subst he
    rcases h4 with ⟨_, _, ⟨a, ha, h4⟩ | ⟨a, ha, h4⟩⟩ | ⟨h4, _, _, h5⟩
    · simp [hull3] at ha; subst ha; simp at h4
    · simp [hull3] at ha; subst ha; simp at h4
    · refine ⟨h4, ?_⟩
      rcases h5 with ⟨h5, _⟩ | ⟨i, a, b, h1, h2, _, h6, h7, h8⟩
      · simp [hull3] at h5
      · match i with
        | 0 =>
          simp [hull3] at h1 h2; subst h1; subst h2
          unfold IsUp at h8
          simp at h8
          omega
        | 1 => simp [hull3] at h1; subst h1; simp at h6
        | i + 2 => simp [hull3] at h2
/-- a slice's cells, one behind the other. -/
theorem recs_news {w : World} {b off n c : Nat} {zs : List RPoint} (h : IsRecs w RPoint.cells RPoint.ok 2 (some ⟨b, off, none⟩) n c zs) : ∀ j u, (zs.flatMap RPoint.cells)[j]? = some u → w.cell? ((⟨b, off, none⟩ : Addr).add j) = some u := by
  intro j u hj
  have hL : (zs.flatMap RPoint.cells).length = n * 2 := by rw [flat_len RPoint.cells 2 (fun _ => rfl), h.1]
  have hjl : j < n * 2 := by rw [← hL]; exact (List.getElem?_eq_some_iff.1 hj).1
  obtain ⟨b', off', e, _, hc⟩ := h.2.2.2.2 (by omega)
  cases e
  obtain ⟨z, hz⟩ : ∃ z, zs[j / 2]? = some z := ⟨_, List.getElem?_eq_getElem (by have := h.1; omega)⟩
  obtain ⟨u', hu'⟩ : ∃ u', (RPoint.cells z)[j % 2]? = some u' := ⟨_, List.getElem?_eq_getElem (by show j % 2 < 2; omega)⟩
  have hf := flat_get RPoint.cells 2 (fun _ => rfl) zs (j / 2) (j % 2) z u' hz hu'
  rw [show j / 2 * 2 + j % 2 = j by omega, hj] at hf
  cases hf
  have := hc (j / 2) z hz (j % 2) u hu'
  rw [show off + j / 2 * 2 + j % 2 = off + j by omega] at this
  rw [show (⟨b, off, none⟩ : Addr).add j = ⟨b, off + j, none⟩ by unfold Addr.add; split <;> simp_all]
  exact this
end Go.Proofs.YtdjkhagdckhijaaDoor
