/- slices.Delete of one letter out of an owned row, walked. -/
import Derived.Test.YtdjkhagdckhijaaDoorRec
import Derived.Test.YtdjkhagdckhijaaDoorOwn
import Derived.Test.YtdjkhagdckhijaaDoorBlk
import Derived.Deep.RegionLaw
import Derived.Lib.SliceRun
import Derived.IntWalk
namespace Go.Proofs.YtdjkhagdckhijaaDoor
open Go.RowKit
set_option linter.unusedVariables false
set_option linter.unusedSimpArgs false
/-- some cells anew, from o on. -/
def putL : Array Value → Nat → List Value → Array Value
  | cs, _, [] => cs
  | cs, o, v :: r => putL (cs.setIfInBounds o v) (o + 1) r
theorem putL_size : ∀ (vs : List Value) (cs : Array Value) (o : Nat), (putL cs o vs).size = cs.size
  | [], _, _ => rfl
  | v :: r, cs, o => by show (putL (cs.setIfInBounds o v) (o + 1) r).size = _; rw [putL_size r, Array.size_setIfInBounds]
theorem putL_get : ∀ (vs : List Value) (cs : Array Value) (o i : Nat), (putL cs o vs)[i]? = if o ≤ i ∧ i < o + vs.length ∧ i < cs.size then vs[i - o]? else cs[i]?
  | [], cs, o, i => by rw [if_neg (by simp only [List.length_nil]; omega)]; rfl
  | v :: r, cs, o, i => by
    show (putL (cs.setIfInBounds o v) (o + 1) r)[i]? = _
    rw [putL_get r, Array.size_setIfInBounds]
    simp only [List.length_cons]
    by_cases h : o + 1 ≤ i ∧ i < o + 1 + r.length ∧ i < cs.size
    · rw [if_pos h, if_pos (by omega), show i - o = (i - (o + 1)) + 1 by omega, List.getElem?_cons_succ]
    · rw [if_neg h, Array.getElem?_setIfInBounds]
      by_cases e : o = i
      · subst e
        rw [if_pos rfl]
        by_cases hs : o < cs.size
        · rw [if_pos hs, if_pos (by omega), Nat.sub_self, List.getElem?_cons_zero]
        · rw [if_neg hs, if_neg (by omega), Array.getElem?_eq_none (by omega)]
      · rw [if_neg e, if_neg (by omega)]
theorem Blk.setCells {g : Nat} {t : TypeId} : ∀ (vs : List Value) (o : Nat) (w : World) (cs : Array Value), Blk w g t cs → Blk (w.setCells g o vs) g t (putL cs o vs)
  | [], _, _, _, h => h
  | v :: r, o, w, cs, h => Blk.setCells r (o + 1) _ _ (h.set o v)
theorem Touched.setCells {g : Nat} {w : World} : ∀ (vs : List Value) (o : Nat) (w1 : World), Touched g w w1 → Touched g w (w1.setCells g o vs)
  | [], _, _, h => h
  | v :: r, o, w1, h => Touched.setCells r (o + 1) _ (h.set o v)
theorem flat_lenK {E : Type} (cells : E → List Value) (k : Nat) (hk : ∀ z, (cells z).length = k) : ∀ zs : List E, (zs.flatMap cells).length = zs.length * k
  | [] => by simp
  | z :: r => by rw [List.flatMap_cons, List.length_append, hk, flat_lenK cells k hk r, List.length_cons, Nat.succ_mul]; omega
theorem flat_drop {E : Type} (cells : E → List Value) (k : Nat) (hk : ∀ z, (cells z).length = k) : ∀ (zs : List E) (i : Nat), (zs.drop i).flatMap cells = (zs.flatMap cells).drop (i * k)
  | [], i => by simp
  | z :: r, 0 => by simp
  | z :: r, i + 1 => by
    rw [List.drop_succ_cons, flat_drop cells k hk r i, List.flatMap_cons, Nat.succ_mul, Nat.add_comm, ← List.drop_drop, List.drop_left' (hk z)]
theorem flat_take {E : Type} (cells : E → List Value) (k : Nat) (hk : ∀ z, (cells z).length = k) : ∀ (zs : List E) (i : Nat), (zs.take i).flatMap cells = (zs.flatMap cells).take (i * k)
  | [], i => by simp
  | z :: r, 0 => by simp
  | z :: r, i + 1 => by
    rw [List.take_succ_cons, List.flatMap_cons, flat_take cells k hk r i, List.flatMap_cons, Nat.succ_mul, Nat.add_comm, ← hk z, List.take_length_add_append]
/-- what is left of the cells when the i-th of n is deleted. -/
theorem del_cells {cur : Array Value} {L zr : List Value} {n i k cap : Nat} (hi : i < n) (hL : L.length = n * k) (hs : cur.size = cap * k) (hn : n ≤ cap) (ht : cur.toList.take (n * k) = L) (hz : zr.length = k) :
    (putL (putL cur (i * k) (L.drop ((i + 1) * k))) ((n - 1) * k) zr).toList.take ((n - 1) * k) = L.take (i * k) ++ L.drop ((i + 1) * k) := by
  have h1 : (i + 1) * k ≤ n * k := Nat.mul_le_mul_right _ (by omega)
  have h2 : n * k ≤ cap * k := Nat.mul_le_mul_right _ hn
  have h3 : (n - 1) * k + k = n * k := by
    obtain ⟨m, rfl⟩ : ∃ m, n = m + 1 := ⟨n - 1, by omega⟩
    rw [Nat.succ_mul]; simp
  have h4 : (i + 1) * k = i * k + k := Nat.succ_mul _ _
  have hL2 : ∀ j, j < n * k → cur[j]? = L[j]? := fun j hj => by
    rw [← ht, List.getElem?_take, if_pos hj, Array.getElem?_toList]
  apply List.ext_getElem?
  intro j
  rw [List.getElem?_take]
  by_cases c : j < (n - 1) * k
  · rw [if_pos c, Array.getElem?_toList, putL_get, if_neg (by omega), putL_get, List.length_drop, List.getElem?_append, List.length_take, hL]
    by_cases d : i * k ≤ j
    · rw [if_pos (by omega), if_neg (by omega)]
      congr 1; omega
    · rw [if_neg (by omega), if_pos (by omega), List.getElem?_take, if_pos (by omega), hL2 j (by omega)]
  · rw [if_neg c, List.getElem?_eq_none]
    rw [List.length_append, List.length_take, List.length_drop, hL]; omega
theorem letter_one (z : RLetter) : ∀ u ∈ RLetter.cells z, u.oneCell' = true := by
  intro u hu
  simp [RLetter.cells] at hu
  rcases hu with rfl | rfl | rfl | rfl | rfl | rfl <;> rfl
