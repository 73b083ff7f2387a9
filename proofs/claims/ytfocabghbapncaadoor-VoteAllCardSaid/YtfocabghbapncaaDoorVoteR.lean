/- What most and safe say, by counts: just one answer each. Plain. -/
import Derived.Test.YtfocabghbapncaaDoorVoteQ
namespace Go.Proofs.YtfocabghbapncaaDoor
open Go.RowKit Go.Shelf
set_option linter.unusedVariables false
set_option linter.unusedSimpArgs false
/-- the first stretch of numbers that are in the most of spans, and how many. -/
def IsMost (zs : List RSpan) (lo hi top : Int) : Prop :=
  (∀ x, (cntS zs x : Int) ≤ top) ∧ (∀ x, x < lo → (cntS zs x : Int) < top) ∧ lo ≤ hi ∧ (∀ x, lo ≤ x → x ≤ hi → (cntS zs x : Int) = top) ∧ (cntS zs (hi + 1) : Int) < top
theorem IsMost.uniq {zs : List RSpan} {lo hi top lo' hi' top' : Int} (h : IsMost zs lo hi top) (g : IsMost zs lo' hi' top') : lo = lo' ∧ hi = hi' ∧ top = top' := by
  obtain ⟨a1, a2, a3, a4, a5⟩ := h
  obtain ⟨b1, b2, b3, b4, b5⟩ := g
  have t1 := a4 lo (by omega) a3
  have t2 := b4 lo' (by omega) b3
  have t3 := a1 lo'
  have t4 := b1 lo
  have ht : top = top' := by omega
  subst ht
  have hl : lo = lo' := by
    rcases Int.lt_trichotomy lo lo' with h | h | h
    · have := b2 lo h; omega
    · exact h
    · have := a2 lo' h; omega
  subst hl
  refine ⟨rfl, ?_, rfl⟩
  rcases Int.lt_trichotomy hi hi' with h | h | h
  · have := b4 (hi + 1) (by omega) (by omega); omega
  · exact h
  · have := a4 (hi' + 1) (by omega) (by omega); omega
/-- the least and the greatest number that is in so many. -/
def IsSafe (zs : List RSpan) (need : Int) (fd : Bool) (lo hi : Int) : Prop :=
  (fd = true → need ≤ (cntS zs lo : Int) ∧ need ≤ (cntS zs hi : Int) ∧ ∀ x, need ≤ (cntS zs x : Int) → lo ≤ x ∧ x ≤ hi) ∧ (fd = false → ∀ x, (cntS zs x : Int) < need)
theorem IsSafe.uniq {zs : List RSpan} {need : Int} {fd fd' : Bool} {lo hi lo' hi' : Int} (h : IsSafe zs need fd lo hi) (g : IsSafe zs need fd' lo' hi') : fd = fd' ∧ (fd = true → lo = lo' ∧ hi = hi') := by
  obtain ⟨a1, a2⟩ := h
  obtain ⟨b1, b2⟩ := g
  cases fd <;> cases fd'
  · exact ⟨rfl, fun h => by cases h⟩
  · have h1 := b1 rfl; have h2 := a2 rfl lo'; omega
  · have h1 := a1 rfl; have h2 := b2 rfl lo; omega
  · obtain ⟨p1, p2, p3⟩ := a1 rfl
    obtain ⟨q1, q2, q3⟩ := b1 rfl
    have := p3 lo' q1
    have := p3 hi' q2
    have := q3 lo p1
    have := q3 hi p2
    exact ⟨rfl, fun _ => by omega⟩
theorem cnt_pos {zs : List RSpan} {x : Int} (h : 0 < cntS zs x) : ∃ z ∈ zs, z.lo ≤ x ∧ x ≤ z.hi := by
  obtain ⟨z, hz, hzx⟩ := List.countP_pos_iff.1 h
  unfold inS at hzx
  simp only [Bool.and_eq_true, decide_eq_true_eq] at hzx
  exact ⟨z, hz, hzx⟩
theorem es_mem {zs es : List RSpan} (hp : es.Perm (edgesL zs)) {z : RSpan} (hz : z ∈ zs) : (⟨z.lo, 1⟩ : RSpan) ∈ es ∧ (⟨z.hi + 1, -1⟩ : RSpan) ∈ es :=
  ⟨hp.mem_iff.2 (List.mem_flatMap.2 ⟨z, hz, by simp [edgesOf]⟩), hp.mem_iff.2 (List.mem_flatMap.2 ⟨z, hz, by simp [edgesOf]⟩)⟩
theorem es_le {es : List RSpan} (hs : es.Pairwise (fun x y => x.lo ≤ y.lo)) {e : RSpan} (he : e ∈ es) : (es.getD 0 default).lo ≤ e.lo ∧ e.lo ≤ (es.getD (es.length - 1) default).lo := by
  obtain ⟨i, hi, rfl⟩ := List.getElem_of_mem he
  have gD : ∀ k (hk : k < es.length), es.getD k default = es[k] := fun k hk => by rw [List.getD_eq_getElem?_getD, List.getElem?_eq_getElem hk]; rfl
  rw [gD 0 (by omega), gD (es.length - 1) (by omega)]
  constructor
  · rcases Nat.eq_zero_or_pos i with rfl | h
    · exact Int.le_refl _
    · exact List.pairwise_iff_getElem.1 hs 0 i (by omega) hi h
  · rcases (by omega : i = es.length - 1 ∨ i < es.length - 1) with h | h
    · subst h; exact Int.le_refl _
    · exact List.pairwise_iff_getElem.1 hs i (es.length - 1) hi (by omega) h
theorem cnt_low {zs es : List RSpan} (hp : es.Perm (edgesL zs)) (hs : es.Pairwise (fun x y => x.lo ≤ y.lo)) {x : Int} (h : x < (es.getD 0 default).lo) : cntS zs x = 0 := by
  rcases Nat.eq_zero_or_pos (cntS zs x) with h1 | h1
  · exact h1
  · obtain ⟨z, hz, h2, _⟩ := cnt_pos h1
    have := (es_le hs (es_mem hp hz).1).1
    simp only [] at this
    omega
theorem cnt_high {zs es : List RSpan} (hp : es.Perm (edgesL zs)) (hs : es.Pairwise (fun x y => x.lo ≤ y.lo)) {x : Int} (h : (es.getD (es.length - 1) default).lo ≤ x) : cntS zs x = 0 := by
  rcases Nat.eq_zero_or_pos (cntS zs x) with h1 | h1
  · exact h1
  · obtain ⟨z, hz, _, h2⟩ := cnt_pos h1
    have := (es_le hs (es_mem hp hz).2).2
    simp only [] at this
    omega
theorem cnt_first {zs es : List RSpan} (hp : es.Perm (edgesL zs)) (hr : ∀ z ∈ zs, spB z = true) (hs : es.Pairwise (fun x y => x.lo ≤ y.lo)) (hl : 0 < es.length) : 0 < cntS zs (es.getD 0 default).lo := by
  have hm : es.getD 0 default ∈ es := by rw [List.getD_eq_getElem?_getD, List.getElem?_eq_getElem hl]; exact List.getElem_mem hl
  obtain ⟨z, hz, hy⟩ := List.mem_flatMap.1 (hp.mem_iff.1 hm)
  have h2 := rightB_iff.1 (hr z hz)
  have h3 := (es_le hs (es_mem hp hz).1).1
  simp only [] at h3
  unfold edgesOf at hy
  simp only [List.mem_cons, List.not_mem_nil, or_false] at hy
  refine List.countP_pos_iff.2 ⟨z, hz, ?_⟩
  unfold inS
  rcases hy with hy | hy <;> (rw [hy] at h3 ⊢; simp only [] at h3 ⊢; simp; omega)
/-- what is so ahead of the k-th edge. -/
def MostI (zs : List RSpan) (e0 ek : Int) (st : Int × Int × Int) : Prop :=
  (ek = e0 ∧ st = (0, 0, 0)) ∨ (1 ≤ st.2.2 ∧ (∀ x, x < ek → (cntS zs x : Int) ≤ st.2.2) ∧ (∀ x, x < st.1 → (cntS zs x : Int) < st.2.2) ∧ st.1 ≤ st.2.1 ∧ st.2.1 + 1 ≤ ek ∧ (∀ x, st.1 ≤ x → x ≤ st.2.1 → (cntS zs x : Int) = st.2.2) ∧ (st.2.1 + 1 = ek ∨ (cntS zs (st.2.1 + 1) : Int) < st.2.2))
theorem MostI.step {zs : List RSpan} {e0 f t m : Int} {st : Int × Int × Int} (h : MostI zs e0 f st) (hlow : ∀ x, x < e0 → cntS zs x = 0) (hfst : 0 < cntS zs e0) (hft : f < t) (hm : ∀ x, f ≤ x → x < t → (cntS zs x : Int) = m) : MostI zs e0 t (mostStep st (f, t, m)) := by
  obtain ⟨lo, hi, top⟩ := st
  have hmf := hm f (by omega) hft
  rcases h with ⟨rfl, he⟩ | ⟨a1, a2, a3, a4, a5, a6, a7⟩
  · simp only [Prod.mk.injEq] at he
    obtain ⟨rfl, rfl, rfl⟩ := he
    unfold mostStep
    rw [if_pos (by simp only []; omega)]
    right
    simp only []
    refine ⟨by omega, fun x hx => ?_, fun x hx => ?_, by omega, by omega, fun x h1 h2 => hm x h1 (by omega), by left; omega⟩
    · by_cases c : x < f
      · have := hlow x c; omega
      · have := hm x (by omega) hx; omega
    · have := hlow x hx; omega
  · simp only [] at a1 a2 a3 a4 a5 a6 a7
    unfold mostStep
    simp only []
    right
    by_cases c1 : top < m
    · rw [if_pos c1]
      simp only []
      refine ⟨by omega, fun x hx => ?_, fun x hx => ?_, by omega, by omega, fun x h1 h2 => hm x h1 (by omega), by left; omega⟩
      · by_cases c : x < f
        · have := a2 x c; omega
        · have := hm x (by omega) hx; omega
      · have := a2 x hx; omega
    · have hle : ∀ x, x < t → (cntS zs x : Int) ≤ top := fun x hx => by
        by_cases c : x < f
        · exact a2 x c
        · have := hm x (by omega) hx; omega
      rw [if_neg c1]
      by_cases c2 : m = top ∧ hi = f - 1
      · rw [if_pos c2]
        simp only []
        refine ⟨by omega, hle, a3, by omega, by omega, fun x h1 h2 => ?_, by left; omega⟩
        by_cases c : x ≤ hi
        · exact a6 x h1 c
        · have := hm x (by omega) (by omega); omega
      · rw [if_neg c2]
        simp only []
        refine ⟨a1, hle, a3, a4, by omega, a6, ?_⟩
        right
        rcases a7 with h | h
        · have := hm (hi + 1) (by omega) (by omega); omega
        · exact h
theorem most_inv {zs es : List RSpan} (hp : es.Perm (edgesL zs)) (hs : es.Pairwise (fun x y => x.lo ≤ y.lo)) (hr : ∀ z ∈ zs, spB z = true) : ∀ k, k + 1 ≤ es.length → MostI zs (es.getD 0 default).lo (es.getD k default).lo (mostF (segsA es k))
  | 0, _ => .inl ⟨rfl, rfl⟩
  | k + 1, hk => by
    have ih := most_inv hp hs hr k (by omega)
    have hle : (es.getD k default).lo ≤ (es.getD (k + 1) default).lo := by
      have := List.pairwise_iff_getElem.1 hs k (k + 1) (by omega) (by omega) (by omega)
      rw [List.getD_eq_getElem?_getD, List.getD_eq_getElem?_getD, List.getElem?_eq_getElem (by omega : k < es.length), List.getElem?_eq_getElem (by omega : k + 1 < es.length)]
      exact this
    unfold segsA
    split
    · rename_i c
      rw [mostF_snoc]
      refine ih.step (fun x hx => cnt_low hp hs hx) (cnt_first hp hr hs (by omega)) c fun x h1 h2 => ?_
      rw [many_between hs (by omega) h1 h2, upTo_perm hp, upTo_cnt hr]
    · rename_i c
      have e : (es.getD (k + 1) default).lo = (es.getD k default).lo := by omega
      rw [e]
      exact ih
theorem most_is {zs es : List RSpan} (hp : es.Perm (edgesL zs)) (hs : es.Pairwise (fun x y => x.lo ≤ y.lo)) (hr : ∀ z ∈ zs, spB z = true) (hl : 0 < zs.length) {lo hi top : Int} (h : mostF (segsA es (es.length - 1)) = (lo, hi, top)) : IsMost zs lo hi top := by
  have hle : es.length = zs.length * 2 := by rw [hp.length_eq, edgesL_len]
  have hi1 := most_inv hp hs hr (es.length - 1) (by omega)
  have hpos := most_pos hp hs hr hl
  rw [h] at hi1 hpos
  rcases hi1 with ⟨_, he⟩ | ⟨a1, a2, a3, a4, a5, a6, a7⟩
  · simp only [Prod.mk.injEq] at he hpos; omega
  · simp only [] at a1 a2 a3 a4 a5 a6 a7
    refine ⟨fun x => ?_, a3, a4, a6, ?_⟩
    · by_cases c : x < (es.getD (es.length - 1) default).lo
      · exact a2 x c
      · have := cnt_high hp hs (x := x) (by omega); omega
    · rcases a7 with h | h
      · have := cnt_high hp hs (x := hi + 1) (by omega); omega
      · exact h
theorem safe_att (need : Int) {P : Int → Prop} : ∀ (s : List (Int × Int × Int)) (st : Bool × Int × Int), (st.1 = true → P st.2.1 ∧ P st.2.2) → (∀ g ∈ s, ¬ g.2.2 < need → P g.1 ∧ P (g.2.1 - 1)) → (s.foldl (safeStep need) st).1 = true → P (s.foldl (safeStep need) st).2.1 ∧ P (s.foldl (safeStep need) st).2.2
  | [], st, h, _, h2 => h h2
  | g :: s, st, h, hs, h2 => by
    refine safe_att need s (safeStep need st g) (fun h3 => ?_) (fun y hy => hs y (List.mem_cons_of_mem _ hy)) h2
    have hg := hs g (List.mem_cons_self ..)
    unfold safeStep at h3 ⊢
    split
    · rename_i c
      rw [if_pos c] at h3
      exact h h3
    · rename_i c0
      split
      · rename_i c
        exact ⟨(h c).1, (hg c0).2⟩
      · exact hg c0
theorem safe_is {zs es : List RSpan} (hp : es.Perm (edgesL zs)) (hs : es.Pairwise (fun x y => x.lo ≤ y.lo)) (hr : ∀ z ∈ zs, spB z = true) (hl : 0 < zs.length) {need : Int} (hn : 1 ≤ need) {fd : Bool} {lo hi : Int} (h : safeF need (segsA es (es.length - 1)) = (fd, lo, hi)) : IsSafe zs need fd lo hi := by
  have hle : es.length = zs.length * 2 := by rw [hp.length_eq, edgesL_len]
  refine ⟨fun h1 => ?_, fun h1 x => ?_⟩
  · have ha := safe_att need (P := fun x => need ≤ (cntS zs x : Int)) (segsA es (es.length - 1)) (false, 0, 0) (fun h => by cases h) (fun g hg hm => by
      obtain ⟨f, t, m⟩ := g
      obtain ⟨q1, q2⟩ := seg_cnt hp hs hr (es.length - 1) (by omega) f t m hg
      have x1 := q2 f (by omega) q1
      have x2 := q2 (t - 1) (by omega) (by omega)
      simp only [] at hm ⊢
      omega) (by show (safeF need (segsA es (es.length - 1))).1 = true; rw [h]; exact h1)
    have hb : (segsA es (es.length - 1)).foldl (safeStep need) (false, 0, 0) = (fd, lo, hi) := h
    rw [hb] at ha
    refine ⟨ha.1, ha.2, fun x hx => ?_⟩
    obtain ⟨_, g2, g3⟩ := safe_in hp hs hr hn hx (by omega)
    rw [h] at g2 g3
    exact ⟨g2, g3⟩
  · rcases Int.lt_or_le (cntS zs x : Int) need with c | c
    · exact c
    · obtain ⟨g1, _, _⟩ := safe_in hp hs hr hn c (by omega)
      rw [h] at g1
      simp only [] at g1
      rw [h1] at g1
      cases g1
/-- all numbers from one to another one are in as many, if the ends are, and no span begins or ends between. -/
theorem cnt_all_between {zs : List RSpan} {lo hi : Int} {m : Nat} (h0 : cntS zs lo = m) (h1 : ∀ z ∈ zs, lo ≤ z.lo → z.lo ≤ hi → cntS zs z.lo = m) (h2 : ∀ z ∈ zs, lo ≤ z.hi + 1 → z.hi + 1 ≤ hi → cntS zs (z.hi + 1) = m) : ∀ d : Nat, lo + d ≤ hi → cntS zs (lo + d) = m := by
  intro d
  induction d with
  | zero => intro _; simpa using h0
  | succ d ih =>
    intro hd
    have i1 := ih (by omega)
    by_cases c1 : ∃ z ∈ zs, z.lo = lo + ((d + 1 : Nat) : Int)
    · obtain ⟨z, hz, e⟩ := c1
      rw [← e]; exact h1 z hz (by omega) (by omega)
    · by_cases c2 : ∃ z ∈ zs, z.hi + 1 = lo + ((d + 1 : Nat) : Int)
      · obtain ⟨z, hz, e⟩ := c2
        rw [← e]; exact h2 z hz (by omega) (by omega)
      · rw [← i1]
        unfold cntS
        refine List.countP_congr fun z hz => ?_
        have d1 : z.lo ≠ lo + ((d + 1 : Nat) : Int) := fun e => c1 ⟨z, hz, e⟩
        have d2 : z.hi + 1 ≠ lo + ((d + 1 : Nat) : Int) := fun e => c2 ⟨z, hz, e⟩
        unfold inS
        simp only [Bool.and_eq_true, decide_eq_true_eq]
        omega
/-- where fewer have the next number a span ends. -/
theorem cnt_drop {zs : List RSpan} {x : Int} (h : cntS zs (x + 1) < cntS zs x) : ∃ z ∈ zs, z.hi = x ∧ z.lo ≤ x := by
  rcases Classical.em (∃ z ∈ zs, z.hi = x ∧ z.lo ≤ x) with c | c
  · exact c
  · exfalso
    have : cntS zs x ≤ cntS zs (x + 1) := by
      unfold cntS
      refine List.countP_mono_left fun z hz hx => ?_
      unfold inS at hx ⊢
      simp only [Bool.and_eq_true, decide_eq_true_eq] at hx ⊢
      have : ¬ z.hi = x := fun e => c ⟨z, hz, e, hx.1⟩
      omega
    omega
end Go.Proofs.YtfocabghbapncaaDoor
