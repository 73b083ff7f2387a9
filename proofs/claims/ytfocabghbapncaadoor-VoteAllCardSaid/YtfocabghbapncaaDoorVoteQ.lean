/- What most and safe say of a number. Plain. -/
import Derived.Test.YtfocabghbapncaaDoorMeetV
namespace Go.Proofs.YtfocabghbapncaaDoor
open Go.RowKit Go.Shelf
set_option linter.unusedVariables false
set_option linter.unusedSimpArgs false
theorem most_ge {zs es : List RSpan} (hp : es.Perm (edgesL zs)) (hs : es.Pairwise (fun x y => x.lo ≤ y.lo)) (hr : ∀ z ∈ zs, spB z = true) (x : Int) : (cntS zs x : Int) ≤ (mostF (segsA es (es.length - 1))).2.2 := by
  have h := fold_le (segsA es (es.length - 1)) (0, 0, 0)
  by_cases c : 0 < cntS zs x
  · obtain ⟨f, t, hm, _, _⟩ := seg_has hp hs hr c
    exact h.2 _ hm
  · have : cntS zs x = 0 := by omega
    rw [this]
    exact h.1
theorem most_pos {zs es : List RSpan} (hp : es.Perm (edgesL zs)) (hs : es.Pairwise (fun x y => x.lo ≤ y.lo)) (hr : ∀ z ∈ zs, spB z = true) (h0 : 0 < zs.length) : 1 ≤ (mostF (segsA es (es.length - 1))).2.2 := by
  have hm : zs[0]'h0 ∈ zs := List.getElem_mem h0
  have h1 := most_ge hp hs hr (zs[0]'h0).lo
  have h2 : 0 < cntS zs (zs[0]'h0).lo := List.countP_pos_iff.2 ⟨_, hm, by have := bounds_S (hr _ hm); unfold inS; simp; omega⟩
  omega
theorem safe_inv (need : Int) {es : List RSpan} (hs : es.Pairwise (fun x y => x.lo ≤ y.lo)) : ∀ k, k + 1 ≤ es.length →
    (∀ f t m, (f, t, m) ∈ segsA es k → need ≤ m → (safeF need (segsA es k)).1 = true ∧ (safeF need (segsA es k)).2.1 ≤ f ∧ t - 1 ≤ (safeF need (segsA es k)).2.2) ∧
    ((safeF need (segsA es k)).1 = true → (safeF need (segsA es k)).2.1 ≤ (es.getD k default).lo ∧ (safeF need (segsA es k)).2.2 ≤ (es.getD k default).lo - 1)
  | 0, _ => ⟨fun f t m h => (by cases h), fun h => (by cases h)⟩
  | k + 1, hk => by
    obtain ⟨i1, i2⟩ := safe_inv need hs k (by omega)
    have hle : (es.getD k default).lo ≤ (es.getD (k + 1) default).lo := by
      have := List.pairwise_iff_getElem.1 hs k (k + 1) (by omega) (by omega) (by omega)
      rw [List.getD_eq_getElem?_getD, List.getD_eq_getElem?_getD, List.getElem?_eq_getElem (by omega : k < es.length), List.getElem?_eq_getElem (by omega : k + 1 < es.length)]
      exact this
    unfold segsA
    generalize (es.getD k default).lo = a at *
    generalize (es.getD (k + 1) default).lo = b at *
    generalize manyA es (k + 1) = mm
    split
    · rename_i c
      rw [safeF_snoc]
      generalize safeF need (segsA es k) = st at *
      obtain ⟨fd, lo, hi⟩ := st
      simp only [] at i1 i2
      unfold safeStep
      simp only []
      by_cases c1 : mm < need
      · rw [if_pos c1]
        refine ⟨fun f t m h hm => ?_, fun h => ?_⟩
        · rcases List.mem_append.1 h with h | h
          · exact i1 f t m h hm
          · simp only [List.mem_cons, List.not_mem_nil, or_false, Prod.mk.injEq] at h; omega
        · have := i2 h; simp only []; omega
      · rw [if_neg c1]
        cases fd
        · rw [if_neg (by simp)]
          refine ⟨fun f t m h hm => ?_, fun h => by simp only []; omega⟩
          rcases List.mem_append.1 h with h | h
          · exact absurd (i1 f t m h hm).1 (by simp)
          · simp only [List.mem_cons, List.not_mem_nil, or_false, Prod.mk.injEq] at h
            refine ⟨rfl, by simp only []; omega, by simp only []; omega⟩
        · rw [if_pos rfl]
          have j2 := i2 rfl
          refine ⟨fun f t m h hm => ?_, fun h => by simp only []; omega⟩
          rcases List.mem_append.1 h with h | h
          · have := i1 f t m h hm
            exact ⟨rfl, by simp only []; omega, by simp only []; omega⟩
          · simp only [List.mem_cons, List.not_mem_nil, or_false, Prod.mk.injEq] at h
            refine ⟨rfl, by simp only []; omega, by simp only []; omega⟩
    · refine ⟨i1, fun h => ?_⟩
      have := i2 h; omega
theorem safe_in {zs es : List RSpan} (hp : es.Perm (edgesL zs)) (hs : es.Pairwise (fun x y => x.lo ≤ y.lo)) (hr : ∀ z ∈ zs, spB z = true) {need x : Int} (h1 : 1 ≤ need) (hx : need ≤ (cntS zs x : Int)) (hl : 0 < es.length) :
    (safeF need (segsA es (es.length - 1))).1 = true ∧ (safeF need (segsA es (es.length - 1))).2.1 ≤ x ∧ x ≤ (safeF need (segsA es (es.length - 1))).2.2 := by
  obtain ⟨f, t, hm, q1, q2⟩ := seg_has hp hs hr (x := x) (by omega)
  obtain ⟨a1, a2, a3⟩ := (safe_inv need hs (es.length - 1) (by omega)).1 f t _ hm hx
  exact ⟨a1, by omega, by omega⟩
theorem fold_low (need A : Int) : ∀ (s : List (Int × Int × Int)) (st : Bool × Int × Int), (st.1 = true → A ≤ st.2.1) → (∀ g ∈ s, A ≤ g.1) → (s.foldl (safeStep need) st).1 = true → A ≤ (s.foldl (safeStep need) st).2.1
  | [], st, h, _, h2 => h h2
  | g :: s, st, h, hs, h2 => by
    refine fold_low need A s (safeStep need st g) (fun h3 => ?_) (fun y hy => hs y (List.mem_cons_of_mem _ hy)) h2
    have hg := hs g (List.mem_cons_self ..)
    unfold safeStep at h3 ⊢
    split
    · rename_i c
      rw [if_pos c] at h3
      exact h h3
    · split
      · rename_i c
        exact h c
      · exact hg
theorem seg_low {es : List RSpan} (he : ∀ y ∈ es, edgeOk y) : ∀ k, k + 1 ≤ es.length → ∀ g ∈ segsA es k, -1000000000000 ≤ g.1
  | 0, _, g, h => (by cases h)
  | k + 1, hk, g, h => by
    unfold segsA at h
    split at h
    · rcases List.mem_append.1 h with h | h
      · exact seg_low he k (by omega) g h
      · simp only [List.mem_cons, List.not_mem_nil, or_false] at h
        subst h
        have := (he (es.getD k default) (by rw [List.getD_eq_getElem?_getD, List.getElem?_eq_getElem (by omega : k < es.length)]; exact List.getElem_mem _)).2.1
        exact this
    · exact seg_low he k (by omega) g h
/-- what is sure is a right span. -/
theorem safe_right {zs es : List RSpan} (hp : es.Perm (edgesL zs)) (hs : es.Pairwise (fun x y => x.lo ≤ y.lo)) (hr : ∀ z ∈ zs, spB z = true) {need : Int} (hl : 0 < es.length) (h : (safeF need (segsA es (es.length - 1))).1 = true) :
    -1000000000000 ≤ (safeF need (segsA es (es.length - 1))).2.1 ∧ (safeF need (segsA es (es.length - 1))).2.2 ≤ 1000000000000 := by
  have he : ∀ y ∈ es, edgeOk y := fun y hy => edgesL_range hr y (hp.mem_iff.1 hy)
  have h2 := (safe_inv need hs (es.length - 1) (by omega)).2 h
  have h3 := (he (es.getD (es.length - 1) default) (by rw [List.getD_eq_getElem?_getD, List.getElem?_eq_getElem (by omega : es.length - 1 < es.length)]; exact List.getElem_mem _)).2.2
  refine ⟨fold_low need _ _ (false, 0, 0) (fun h => by cases h) (seg_low he _ (by omega)) h, by omega⟩
/-- three spans, of which one is wrong. -/
def three : List RSpan := [⟨1, 5⟩, ⟨3, 9⟩, ⟨20, 30⟩]
def threeE : List RSpan := [⟨1, 1⟩, ⟨3, 1⟩, ⟨6, -1⟩, ⟨10, -1⟩, ⟨20, 1⟩, ⟨31, -1⟩]
theorem three_safe {es : List RSpan} (hp : es.Perm (edgesL three)) (hs : es.Pairwise (fun x y => x.lo ≤ y.lo)) : safeF 2 (segsA es 5) = (true, 3, 5) := by
  have hq : threeE.Perm (edgesL three) := by
    show [(⟨1, 1⟩ : RSpan), ⟨3, 1⟩, ⟨6, -1⟩, ⟨10, -1⟩, ⟨20, 1⟩, ⟨31, -1⟩].Perm [(⟨1, 1⟩ : RSpan), ⟨6, -1⟩, ⟨3, 1⟩, ⟨10, -1⟩, ⟨20, 1⟩, ⟨31, -1⟩]
    exact List.Perm.cons _ (List.Perm.swap _ _ _)
  have he : es = threeE := List.Perm.eq_of_pairwise (le := fun x y : RSpan => x.lo ≤ y.lo) (fun a b ha hb h1 h2 => by
      have ha' := (hp.trans hq.symm).mem_iff.1 ha
      simp only [threeE, List.mem_cons, List.not_mem_nil, or_false] at ha' hb
      rcases ha' with rfl | rfl | rfl | rfl | rfl | rfl <;> rcases hb with rfl | rfl | rfl | rfl | rfl | rfl <;> first | rfl | (exfalso; simp only [] at h1 h2; omega)) hs
    (by unfold threeE; simp) (hp.trans hq.symm)
  subst he
  decide
end Go.Proofs.YtfocabghbapncaaDoor
