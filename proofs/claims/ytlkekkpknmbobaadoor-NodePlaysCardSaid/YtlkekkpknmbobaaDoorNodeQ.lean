/- What a node tells of all: spans, whether there are any, edges, in plain Lean. -/
import Derived.Test.YtlkekkpknmbobaaDoorNodeP
namespace Go.Proofs.YtlkekkpknmbobaaDoor
open Go.RowKit
set_option linter.unusedVariables false
set_option linter.unusedSimpArgs false
def spanAt (s : NSt) (here : Int) (i : Nat) : RSpan := match s.f i with | some k => ⟨ageL k s.p here, ageH k s.p here⟩ | none => ⟨0, 0⟩
def hasAt (s : NSt) (i : Nat) : Bool := match s.f i with | some _ => true | none => decide (i = s.id)
def farAt (s : NSt) (here : Int) (i : Nat) : Bool := match s.f i with | some k => !rightB (ageL k s.p here) (ageH k s.p here) | none => false
/-- the fault of what is told. -/
def tellC (s : NSt) (here : Int) : Int := if s.backB here = true then 8 else if (List.range s.N).any (farAt s here) = true then 1 else 0
def partS (s : NSt) (here : Int) (i : Nat) : List RSpan := (List.range s.N).map fun j => if j < i then spanAt s here j else ⟨0, 0⟩
def partB (s : NSt) (i : Nat) : List Bool := (List.range s.N).map fun j => if j < i then hasAt s j else false
def tellS (s : NSt) (here : Int) : List RSpan := if tellC s here = 0 then (List.range s.N).map (spanAt s here) else []
def tellB (s : NSt) (here : Int) : List Bool := if tellC s here = 0 then (List.range s.N).map (hasAt s) else []
def edgeAt (s : NSt) (here : Int) (i : Nat) : List REdge := if hasAt s i = true ∧ i ≠ s.id then [⟨s.id, i, (spanAt s here i).lo, (spanAt s here i).hi⟩] else []
def tellE (s : NSt) (here : Int) : List REdge := if tellC s here = 0 then (List.range s.N).flatMap (edgeAt s here) else []
theorem partS_0 (s : NSt) (here : Int) : partS s here 0 = List.replicate s.N ⟨0, 0⟩ := by
  unfold partS
  simp [List.map_const']
theorem partB_0 (s : NSt) : partB s 0 = List.replicate s.N false := by
  unfold partB
  simp [List.map_const']
theorem partS_len (s : NSt) (here : Int) (i : Nat) : (partS s here i).length = s.N := by simp [partS]
theorem partB_len (s : NSt) (i : Nat) : (partB s i).length = s.N := by simp [partB]
theorem partS_get {s : NSt} {here : Int} {i j : Nat} (hj : j < s.N) : (partS s here i)[j]? = some (if j < i then spanAt s here j else ⟨0, 0⟩) := by
  unfold partS; rw [List.getElem?_map, List.getElem?_range hj]; rfl
theorem partB_get {s : NSt} {i j : Nat} (hj : j < s.N) : (partB s i)[j]? = some (if j < i then hasAt s j else false) := by
  unfold partB; rw [List.getElem?_map, List.getElem?_range hj]; rfl
theorem partS_set {s : NSt} {here : Int} {i : Nat} (hi : i < s.N) : (partS s here i).set i (spanAt s here i) = partS s here (i + 1) := by
  apply List.ext_getElem?
  intro j
  by_cases hj : j < s.N
  · rw [List.getElem?_set, partS_get hj, partS_get hj, partS_len]
    by_cases c : i = j
    · subst c; rw [if_pos rfl, if_pos hi, if_pos (by omega)]
    · rw [if_neg c]
      by_cases c2 : j < i
      · rw [if_pos c2, if_pos (by omega)]
      · rw [if_neg c2, if_neg (by omega)]
  · rw [List.getElem?_eq_none (by rw [List.length_set, partS_len]; omega), List.getElem?_eq_none (by rw [partS_len]; omega)]
theorem partS_skip {s : NSt} {here : Int} {i : Nat} (hf : s.f i = none) : partS s here (i + 1) = partS s here i := by
  unfold partS
  apply List.map_congr_left
  intro j _
  by_cases c : j < i
  · rw [if_pos c, if_pos (by omega)]
  · rw [if_neg c]
    by_cases c2 : j = i
    · subst c2; rw [if_pos (by omega)]; unfold spanAt; rw [hf]
    · rw [if_neg (by omega)]
theorem partB_set {s : NSt} {i : Nat} (hi : i < s.N) : (partB s i).set i (hasAt s i) = partB s (i + 1) := by
  apply List.ext_getElem?
  intro j
  by_cases hj : j < s.N
  · rw [List.getElem?_set, partB_get hj, partB_get hj, partB_len]
    by_cases c : i = j
    · subst c; rw [if_pos rfl, if_pos hi, if_pos (by omega)]
    · rw [if_neg c]
      by_cases c2 : j < i
      · rw [if_pos c2, if_pos (by omega)]
      · rw [if_neg c2, if_neg (by omega)]
  · rw [List.getElem?_eq_none (by rw [List.length_set, partB_len]; omega), List.getElem?_eq_none (by rw [partB_len]; omega)]
theorem partS_all {s : NSt} {here : Int} (h : tellC s here = 0) : partS s here s.N = tellS s here := by
  unfold tellS partS
  rw [if_pos h]
  apply List.map_congr_left
  intro j hj
  rw [if_pos (List.mem_range.1 hj)]
theorem partB_all {s : NSt} {here : Int} (h : tellC s here = 0) : partB s s.N = tellB s here := by
  unfold tellB partB
  rw [if_pos h]
  apply List.map_congr_left
  intro j hj
  rw [if_pos (List.mem_range.1 hj)]
theorem tell_far {s : NSt} {here : Int} {i : Nat} (hb : s.backB here = false) (hi : i < s.N) (h : farAt s here i = true) : tellC s here = 1 := by
  unfold tellC
  rw [hb, if_neg (by simp), if_pos]
  rw [List.any_eq_true]
  exact ⟨i, List.mem_range.2 hi, h⟩
theorem tell_ok {s : NSt} {here : Int} (hb : s.backB here = false) (h : ∀ i, i < s.N → farAt s here i = false) : tellC s here = 0 := by
  unfold tellC
  rw [hb, if_neg (by simp), if_neg]
  rw [List.any_eq_true]
  rintro ⟨i, hi, hf⟩
  rw [h i (List.mem_range.1 hi)] at hf
  cases hf
theorem tell_back {s : NSt} {here : Int} (hb : s.backB here = true) : tellC s here = 8 := by unfold tellC; rw [if_pos hb]
theorem tell_3 (s : NSt) (here : Int) : (tellC s here = 8 ∧ s.backB here = true) ∨ (tellC s here = 1 ∧ s.backB here = false) ∨ (tellC s here = 0 ∧ s.backB here = false ∧ ∀ i, i < s.N → farAt s here i = false) := by
  cases hb : s.backB here
  · right
    by_cases h : ∀ i, i < s.N → farAt s here i = false
    · right; exact ⟨tell_ok hb h, rfl, h⟩
    · left
      have : ∃ i, i < s.N ∧ farAt s here i = true := by
        by_cases c : ∃ i, i < s.N ∧ farAt s here i = true
        · exact c
        · exfalso; apply h; intro i hi
          cases hf : farAt s here i
          · rfl
          · exact absurd ⟨i, hi, hf⟩ c
      obtain ⟨i, hi, hf⟩ := this
      exact ⟨tell_far hb hi hf, rfl⟩
  · left; exact ⟨tell_back hb, rfl⟩
theorem spanAt_bd {s : NSt} {here : Int} {i : Nat} (h : s.Ok) (hb : s.backB here = false) : -2000000000000 ≤ (spanAt s here i).lo ∧ (spanAt s here i).lo ≤ 2000000000000 ∧ -2000000000000 ≤ (spanAt s here i).hi ∧ (spanAt s here i).hi ≤ 2000000000000 := by
  unfold spanAt
  cases hf : s.f i with
  | none => simp
  | some k =>
    obtain ⟨a, b, c, d, e, f, g⟩ := age_bd h hf hb
    simp only [ageL, ageH]
    omega
theorem spans_ok {s : NSt} {here : Int} (h : s.Ok) (hb : s.backB here = false) (i : Nat) : ∀ z ∈ partS s here i, z.ok := by
  intro z hz
  obtain ⟨j, hj, rfl⟩ := List.mem_map.1 hz
  have := spanAt_bd (i := j) h hb
  split
  · unfold RSpan.ok i64B; omega
  · exact ⟨by unfold i64B; simp, by unfold i64B; simp⟩
theorem edgeAt_ok {s : NSt} {here : Int} (h : s.Ok) (hb : s.backB here = false) {i : Nat} (hi : i < s.N) : ∀ z ∈ edgeAt s here i, z.ok := by
  intro z hz
  unfold edgeAt at hz
  split at hz
  · rw [List.mem_singleton] at hz
    subst hz
    have := spanAt_bd (i := i) h hb
    have := h.n6
    have := h.idN
    unfold REdge.ok i64B
    simp only []
    omega
  · simp at hz
theorem tellE_ok {s : NSt} {here : Int} (h : s.Ok) : ∀ z ∈ tellE s here, z.ok := by
  intro z hz
  unfold tellE at hz
  rcases tell_3 s here with ⟨h1, _⟩ | ⟨h1, _⟩ | ⟨h1, hb, _⟩
  · rw [if_neg (by omega)] at hz; cases hz
  · rw [if_neg (by omega)] at hz; cases hz
  · rw [if_pos h1] at hz
    obtain ⟨i, hi, hz⟩ := List.mem_flatMap.1 hz
    exact edgeAt_ok h hb (List.mem_range.1 hi) z hz
theorem edgeAt_len (s : NSt) (here : Int) (i : Nat) : (edgeAt s here i).length ≤ 1 := by unfold edgeAt; split <;> simp
theorem flat_le {E : Type} (f : Nat → List E) (hf : ∀ i, (f i).length ≤ 1) (n : Nat) : ((List.range n).flatMap f).length ≤ n := by
  induction n with
  | zero => simp
  | succ n ih => rw [List.range_succ, List.flatMap_append, List.length_append, List.flatMap_cons, List.flatMap_nil, List.append_nil]; have := hf n; omega
theorem tellE_len (s : NSt) (here : Int) : (tellE s here).length ≤ s.N := by
  unfold tellE
  split
  · exact flat_le _ (edgeAt_len s here) _
  · simp
end Go.Proofs.YtlkekkpknmbobaaDoor
