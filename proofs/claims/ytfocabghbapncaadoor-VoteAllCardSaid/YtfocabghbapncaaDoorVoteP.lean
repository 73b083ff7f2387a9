/- What the stretches of vote.walk say: how many spans have a number. Plain. -/
import Derived.Test.YtfocabghbapncaaDoorWalkV
namespace Go.Proofs.YtfocabghbapncaaDoor
open Go.RowKit
set_option linter.unusedVariables false
set_option linter.unusedSimpArgs false
def inS (x : Int) (z : RSpan) : Bool := decide (z.lo ≤ x) && decide (x ≤ z.hi)
/-- how many spans have x. -/
def cntS (zs : List RSpan) (x : Int) : Nat := zs.countP (inS x)
/-- the sum of what the edges up to x bring. -/
def upTo (es : List RSpan) (x : Int) : Int := (es.map (fun e => if e.lo ≤ x then e.hi else 0)).sum
theorem sum_perm {l s : List Int} (h : l.Perm s) : l.sum = s.sum := by
  induction h with
  | nil => rfl
  | cons x _ ih => simp only [List.sum_cons, ih]
  | swap x y l => simp only [List.sum_cons]; omega
  | trans _ _ h1 h2 => exact h1.trans h2
theorem upTo_perm {es fs : List RSpan} (h : es.Perm fs) (x : Int) : upTo es x = upTo fs x := sum_perm (h.map _)
theorem upTo_cnt {zs : List RSpan} (h : ∀ z ∈ zs, spB z = true) (x : Int) : upTo (edgesL zs) x = (cntS zs x : Int) := by
  induction zs with
  | nil => rfl
  | cons z zs ih =>
    have h1 := ih fun y hy => h y (List.mem_cons_of_mem _ hy)
    have h2 := rightB_iff.1 (h z (List.mem_cons_self ..))
    have e : upTo (edgesL (z :: zs)) x = (if z.lo ≤ x then 1 else 0) + ((if z.hi + 1 ≤ x then -1 else 0) + upTo (edgesL zs) x) := by
      show upTo (edgesOf z ++ edgesL zs) x = _
      simp [upTo, edgesOf]
    rw [e, h1]
    unfold cntS
    rw [List.countP_cons]
    unfold inS
    by_cases c1 : z.lo ≤ x <;> by_cases c2 : z.hi + 1 ≤ x
    · rw [if_pos c1, if_pos c2, if_neg (by simp; omega)]; omega
    · rw [if_pos c1, if_neg c2, if_pos (by simp; omega)]; push_cast; omega
    · omega
    · rw [if_neg c1, if_neg c2, if_neg (by simp; omega)]; omega
theorem sumP_low {es : List RSpan} {x : Int} (h : ∀ e ∈ es, x < e.lo) : upTo es x = 0 := by
  unfold upTo
  induction es with
  | nil => rfl
  | cons e es ih =>
    have h1 := h e (List.mem_cons_self ..)
    simp only [List.map_cons, List.sum_cons]
    rw [if_neg (by omega), ih fun y hy => h y (List.mem_cons_of_mem _ hy)]; rfl
theorem sumP_all {es : List RSpan} {x : Int} (h : ∀ e ∈ es, e.lo ≤ x) : upTo es x = (es.map (fun e => e.hi)).sum := by
  unfold upTo
  induction es with
  | nil => rfl
  | cons e es ih =>
    have h1 := h e (List.mem_cons_self ..)
    simp only [List.map_cons, List.sum_cons]
    rw [if_pos h1, ih fun y hy => h y (List.mem_cons_of_mem _ hy)]
theorem manyA_take (es : List RSpan) : ∀ k, k ≤ es.length → manyA es k = ((es.take k).map (fun e => e.hi)).sum
  | 0, _ => rfl
  | k + 1, h => by
    have h1 := manyA_take es k (by omega)
    unfold manyA
    rw [h1, List.take_add_one, List.getElem?_eq_getElem (by omega : k < es.length), List.getD_eq_getElem?_getD, List.getElem?_eq_getElem (by omega : k < es.length)]
    rw [List.map_append, List.sum_append]
    simp
theorem up_append (a b : List RSpan) (x : Int) : upTo (a ++ b) x = upTo a x + upTo b x := by unfold upTo; simp
/-- between two edges as many have a number as the edges ahead of it say. -/
theorem many_between {es : List RSpan} (hs : es.Pairwise (fun x y => x.lo ≤ y.lo)) {k : Nat} (hk : k + 1 < es.length) {x : Int} (h1 : (es.getD k default).lo ≤ x) (h2 : x < (es.getD (k + 1) default).lo) : manyA es (k + 1) = upTo es x := by
  have g : ∀ i, i < es.length → es.getD i default = es[i]! := fun i hi => by rw [List.getD_eq_getElem?_getD, List.getElem?_eq_getElem hi, getElem!_pos es i hi]; rfl
  have hle : ∀ i j, i ≤ j → j < es.length → (es.getD i default).lo ≤ (es.getD j default).lo := fun i j hij hj => by
    rcases Nat.lt_or_eq_of_le hij with h | rfl
    · have := List.pairwise_iff_getElem.1 hs i j (by omega) hj h
      rw [List.getD_eq_getElem?_getD, List.getD_eq_getElem?_getD, List.getElem?_eq_getElem hj, List.getElem?_eq_getElem (by omega : i < es.length)]
      exact this
    · omega
  have ha : ∀ e ∈ es.take (k + 1), e.lo ≤ x := fun e he => by
    obtain ⟨i, hi, rfl⟩ := List.getElem_of_mem he
    rw [List.length_take] at hi
    rw [List.getElem_take]
    have := hle i k (by omega) (by omega)
    rw [List.getD_eq_getElem?_getD, List.getElem?_eq_getElem (by omega : i < es.length)] at this
    simp only [Option.getD_some] at this
    omega
  have hb : ∀ e ∈ es.drop (k + 1), x < e.lo := fun e he => by
    obtain ⟨i, hi, rfl⟩ := List.getElem_of_mem he
    rw [List.length_drop] at hi
    rw [List.getElem_drop]
    have := hle (k + 1) (k + 1 + i) (by omega) (by omega)
    rw [List.getD_eq_getElem?_getD (i := k + 1 + i), List.getElem?_eq_getElem (by omega : k + 1 + i < es.length)] at this
    simp only [Option.getD_some] at this
    omega
  rw [manyA_take es (k + 1) (by omega), ← sumP_all ha]
  have : upTo es x = upTo (es.take (k + 1)) x + upTo (es.drop (k + 1)) x := by rw [← up_append, List.take_append_drop]
  rw [this, sumP_low hb]; omega
/-- each stretch says how many have each of its numbers. -/
theorem seg_cnt {zs es : List RSpan} (hp : es.Perm (edgesL zs)) (hs : es.Pairwise (fun x y => x.lo ≤ y.lo)) (hr : ∀ z ∈ zs, spB z = true) : ∀ k, k + 1 ≤ es.length → ∀ f t m, (f, t, m) ∈ segsA es k → f < t ∧ ∀ x, f ≤ x → x < t → (cntS zs x : Int) = m
  | 0, _, f, t, m, h => by cases h
  | k + 1, hk, f, t, m, h => by
    have ih := seg_cnt hp hs hr k (by omega) f t m
    unfold segsA at h
    split at h
    · rename_i c
      rcases List.mem_append.1 h with h | h
      · exact ih h
      · simp only [List.mem_cons, List.not_mem_nil, or_false, Prod.mk.injEq] at h
        obtain ⟨rfl, rfl, rfl⟩ := h
        refine ⟨c, fun x h1 h2 => ?_⟩
        rw [many_between hs (by omega) h1 h2, upTo_perm hp, upTo_cnt hr]
    · exact ih h
theorem segs_mono (es : List RSpan) {a b : Nat} (h : a ≤ b) : ∀ s ∈ segsA es a, s ∈ segsA es b := by
  induction b with
  | zero => intro s hs; have : a = 0 := by omega
            subst this; exact hs
  | succ b ih =>
    intro s hs
    by_cases e : a = b + 1
    · subst e; exact hs
    · have h1 := ih (by omega) s hs
      unfold segsA
      split
      · exact List.mem_append_left _ h1
      · exact h1
/-- a number that some span has lies in a stretch. -/
theorem seg_has {zs es : List RSpan} (hp : es.Perm (edgesL zs)) (hs : es.Pairwise (fun x y => x.lo ≤ y.lo)) (hr : ∀ z ∈ zs, spB z = true) {x : Int} (hx : 0 < cntS zs x) : ∃ f t, (f, t, (cntS zs x : Int)) ∈ segsA es (es.length - 1) ∧ f ≤ x ∧ x < t := by
  obtain ⟨z, hz, hzx⟩ := List.countP_pos_iff.1 hx
  unfold inS at hzx
  simp only [Bool.and_eq_true, decide_eq_true_eq] at hzx
  have m1 : (⟨z.lo, 1⟩ : RSpan) ∈ es := hp.mem_iff.2 (List.mem_flatMap.2 ⟨z, hz, by simp [edgesOf]⟩)
  have m2 : (⟨z.hi + 1, -1⟩ : RSpan) ∈ es := hp.mem_iff.2 (List.mem_flatMap.2 ⟨z, hz, by simp [edgesOf]⟩)
  obtain ⟨i, hi, ei⟩ := List.getElem_of_mem m1
  obtain ⟨j, hj, ej⟩ := List.getElem_of_mem m2
  have gD : ∀ k (hk : k < es.length), es.getD k default = es[k] := fun k hk => by rw [List.getD_eq_getElem?_getD, List.getElem?_eq_getElem hk]; rfl
  -- the first edge beyond x
  have key : ∀ d k, k + d < es.length → (es.getD k default).lo ≤ x → x < (es.getD (k + d) default).lo → ∃ q, q + 1 < es.length ∧ (es.getD q default).lo ≤ x ∧ x < (es.getD (q + 1) default).lo := by
    intro d
    induction d with
    | zero => intro k _ h1 h2; rw [Nat.add_zero] at h2; omega
    | succ d ih =>
      intro k hk h1 h2
      by_cases c : x < (es.getD (k + 1) default).lo
      · exact ⟨k, by omega, h1, c⟩
      · exact ih (k + 1) (by omega) (by omega) (by rw [show k + 1 + d = k + (d + 1) by omega]; exact h2)
  have hij : i < j := by
    rcases Nat.lt_or_ge i j with h | h
    · exact h
    · exfalso
      rcases Nat.lt_or_eq_of_le h with h | h
      · have := List.pairwise_iff_getElem.1 hs j i hj hi h
        rw [ei, ej] at this
        simp only [] at this
        omega
      · subst h; rw [ei] at ej; exact absurd (congrArg RSpan.hi ej) (by show ¬ (1 : Int) = -1; decide)
  obtain ⟨q, q1, q2, q3⟩ := key (j - i) i (by omega) (by rw [gD i hi, ei]; exact hzx.1) (by rw [show i + (j - i) = j by omega, gD j hj, ej]; show x < z.hi + 1; omega)
  refine ⟨(es.getD q default).lo, (es.getD (q + 1) default).lo, ?_, q2, q3⟩
  refine segs_mono es (a := q + 1) (by omega) _ ?_
  have hm : manyA es (q + 1) = (cntS zs x : Int) := by rw [many_between hs q1 q2 q3, upTo_perm hp, upTo_cnt hr]
  unfold segsA
  rw [if_pos (by omega), hm]
  exact List.mem_append_right _ (List.mem_cons_self ..)
end Go.Proofs.YtfocabghbapncaaDoor
