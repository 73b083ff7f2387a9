/- Times along an order; which orders name each event once. Plain. -/
import Derived.Test.YtfjpfkejajgkbaaHOrderP
import Derived.Test.YtfjpfkejajgkbaaHStatP
namespace Go.Proofs.Ytfjpfkejajgkbaa
open Go.RowKit
set_option linter.unusedVariables false
set_option linter.unusedSimpArgs false
/-- the event that stands at i. -/
def evAt (zs : List REvent) (o : List Int) (i : Nat) : REvent := zs.getD (o.getD i 0).toNat default
def tmAt (zs : List REvent) (o : List Int) : Nat → Int
  | 0 => (evAt zs o 0).lo
  | i + 1 => max (evAt zs o (i + 1)).lo (tmAt zs o i)
def tmL (zs : List REvent) (o : List Int) : Nat → List Int
  | 0 => []
  | k + 1 => tmL zs o k ++ [tmAt zs o k]
theorem tmL_len (zs : List REvent) (o : List Int) : ∀ k, (tmL zs o k).length = k
  | 0 => rfl
  | k + 1 => by show (tmL zs o k ++ [tmAt zs o k]).length = _; rw [List.length_append, tmL_len zs o k]; rfl
theorem tmL_get (zs : List REvent) (o : List Int) : ∀ k i, i < k → (tmL zs o k)[i]? = some (tmAt zs o i)
  | 0, i, h => by omega
  | k + 1, i, h => by
    show (tmL zs o k ++ [tmAt zs o k])[i]? = _
    by_cases c : i < k
    · rw [List.getElem?_append_left (by rw [tmL_len]; exact c)]; exact tmL_get zs o k i c
    · obtain rfl : i = k := by omega
      rw [List.getElem?_append_right (by rw [tmL_len]; exact Nat.le_refl _), tmL_len]; simp
/-- each of the first k times is within its span. -/
def tmOk (zs : List REvent) (o : List Int) (k : Nat) : Prop := ∀ i, i < k → tmAt zs o i ≤ (evAt zs o i).hi
def couldB (zs : List REvent) (o : List Int) : Bool := (List.range o.length).all fun i => decide (tmAt zs o i ≤ (evAt zs o i).hi)
theorem couldB_iff {zs : List REvent} {o : List Int} : couldB zs o = true ↔ tmOk zs o o.length := by
  unfold couldB tmOk
  simp [List.all_eq_true]
theorem tmAt_max (zs : List REvent) (o : List Int) : ∀ i, (∀ j, j ≤ i → (evAt zs o j).lo ≤ tmAt zs o i) ∧ ∃ j, j ≤ i ∧ tmAt zs o i = (evAt zs o j).lo
  | 0 => ⟨fun j hj => by obtain rfl : j = 0 := by omega
                         exact Int.le_refl _, 0, Nat.le_refl _, rfl⟩
  | i + 1 => by
    obtain ⟨h1, j0, h2, h3⟩ := tmAt_max zs o i
    have e : tmAt zs o (i + 1) = max (evAt zs o (i + 1)).lo (tmAt zs o i) := rfl
    refine ⟨fun j hj => ?_, ?_⟩
    · rcases (by omega : j = i + 1 ∨ j ≤ i) with rfl | h
      · omega
      · have := h1 j h; omega
    · by_cases c : (evAt zs o (i + 1)).lo ≤ tmAt zs o i
      · exact ⟨j0, by omega, by omega⟩
      · exact ⟨i + 1, Nat.le_refl _, by omega⟩
def iotaL (n : Nat) : List Int := (List.range n).map Int.ofNat
theorem iotaL_len (n : Nat) : (iotaL n).length = n := by simp [iotaL]
theorem iotaL_succ (n : Nat) : iotaL (n + 1) = iotaL n ++ [(n : Int)] := by simp [iotaL, List.range_succ]
theorem iotaL_get {n i : Nat} (h : i < n) : (iotaL n)[i]? = some (i : Int) := by simp [iotaL, h]
theorem iotaL_mem {n : Nat} {x : Int} : x ∈ iotaL n ↔ 0 ≤ x ∧ x < n := by
  unfold iotaL
  simp only [List.mem_map, List.mem_range]
  constructor
  · rintro ⟨a, h, rfl⟩; exact ⟨Int.natCast_nonneg a, by simpa using h⟩
  · rintro ⟨h1, h2⟩; exact ⟨x.toNat, by omega, by show ((x.toNat : Nat) : Int) = x; omega⟩
theorem iotaL_up (n : Nat) : (iotaL n).Pairwise (fun x y => x ≤ y) := by
  induction n with
  | zero => exact List.Pairwise.nil
  | succ n ih =>
    rw [iotaL_succ, List.pairwise_append]
    refine ⟨ih, List.pairwise_singleton _ _, fun a ha b hb => ?_⟩
    have := iotaL_mem.1 ha
    simp at hb
    omega
theorem iotaL_nodup (n : Nat) : (iotaL n).Nodup := by
  induction n with
  | zero => exact List.Pairwise.nil
  | succ n ih =>
    rw [iotaL_succ, List.nodup_append]
    refine ⟨ih, by simp, fun a ha b hb => ?_⟩
    have := iotaL_mem.1 ha
    simp at hb
    omega
theorem pigeonL : ∀ (n : Nat) (l : List Int), l.Nodup → (∀ x ∈ l, 0 ≤ x ∧ x < n) → l.length ≤ n ∧ (l.length = n → l.Perm (iotaL n))
  | 0, l, _, h => by
    have : l = [] := List.eq_nil_iff_forall_not_mem.2 fun x hx => by have := h x hx; omega
    subst this
    exact ⟨Nat.le_refl _, fun _ => List.Perm.refl _⟩
  | n + 1, l, hd, h => by
    by_cases c : (n : Int) ∈ l
    · have h1 := pigeonL n (l.erase (n : Int)) (hd.erase _) (fun x hx => by
        have := (hd.mem_erase_iff).1 hx
        have h2 := h x this.2
        have h3 := this.1
        omega)
      have hl := List.length_erase_of_mem c
      have hp : 0 < l.length := List.length_pos_of_mem c
      refine ⟨by omega, fun e => ?_⟩
      rw [iotaL_succ]
      exact ((List.perm_cons_erase c).trans (List.Perm.cons _ (h1.2 (by omega)))).trans (List.perm_append_comm (l₁ := [(n : Int)]) (l₂ := iotaL n))
    · have h1 := pigeonL n l hd (fun x hx => by
        have h2 := h x hx
        have h3 : x ≠ (n : Int) := fun e => c (e ▸ hx)
        omega)
      exact ⟨by omega, fun e => by omega⟩
/-- each of n once. -/
def EachP (n : Nat) (o : List Int) : Prop := o.length = n ∧ (∀ x ∈ o, 0 ≤ x ∧ x < n) ∧ o.Nodup
theorem each_sort {n : Nat} {o : List Int} : EachP n o ↔ sortI o = iotaL n := by
  constructor
  · rintro ⟨h1, h2, h3⟩
    exact sortI_eq ((pigeonL n o h3 h2).2 h1).symm (iotaL_up n)
  · intro h
    have hp : (iotaL n).Perm o := by rw [← h]; exact sortI_perm o
    exact ⟨by rw [← hp.length_eq, iotaL_len], fun x hx => iotaL_mem.1 (hp.mem_iff.2 hx), hp.nodup (iotaL_nodup n)⟩
def eachB (n : Nat) (o : List Int) : Bool := decide (sortI o = iotaL n)
theorem eachB_iff {n : Nat} {o : List Int} : eachB n o = true ↔ EachP n o := by unfold eachB; rw [decide_eq_true_iff]; exact each_sort.symm
end Go.Proofs.Ytfjpfkejajgkbaa
