/- A row of cells as a function of the index. -/
import Derived.Test.YthclepohilekaaaDoorBase
import Derived.Test.YthclepohilekaaaDoorBlk
namespace Go.Proofs.YthclepohilekaaaDoor
open Go.RowKit
set_option linter.unusedVariables false
set_option linter.unusedSimpArgs false
def FCells (f : Nat → Value) (n : Nat) : Array Value := ((List.range n).map f).toArray
theorem FCells.size (f : Nat → Value) (n : Nat) : (FCells f n).size = n := by simp [FCells]
theorem FCells.get (f : Nat → Value) {n t : Nat} (h : t < n) : (FCells f n)[t]? = some (f t) := by simp [FCells, h]
theorem FCells.congr {f g : Nat → Value} {n : Nat} (h : ∀ t, t < n → f t = g t) : FCells f n = FCells g n := by
  unfold FCells
  congr 1
  exact List.map_congr_left fun t ht => h t (List.mem_range.1 ht)
theorem FCells.set (f : Nat → Value) (n i : Nat) (v : Value) : (FCells f n).setIfInBounds i v = FCells (fun t => if t = i then v else f t) n := by
  apply Array.ext_getElem?
  intro t
  by_cases ht : t < n
  · rw [FCells.get _ ht]
    by_cases e : t = i
    · subst e
      rw [Array.getElem?_setIfInBounds]
      simp [FCells.size, ht]
    · rw [Array.getElem?_setIfInBounds, if_neg (fun h => e h.symm), FCells.get f ht, if_neg e]
  · rw [Array.getElem?_eq_none (by rw [Array.size_setIfInBounds, FCells.size]; omega), Array.getElem?_eq_none (by rw [FCells.size]; omega)]
theorem Blk.fat {w : World} {g : Nat} {t : TypeId} {f : Nat → Value} {n : Nat} (h : Blk w g t (FCells f n)) {i : Nat} (hi : i < n) : w.cell? ⟨g, i, none⟩ = some (f i) := (h.cell i).trans (FCells.get f hi)
theorem Blk.fset {w : World} {g : Nat} {t : TypeId} {f : Nat → Value} {n : Nat} (h : Blk w g t (FCells f n)) (i : Nat) (v : Value) : Blk (w.setCell ⟨g, i, none⟩ v) g t (FCells (fun t => if t = i then v else f t) n) := by
  have := h.set i v
  rw [FCells.set] at this
  exact this
theorem Blk.fcongr {w : World} {g : Nat} {t : TypeId} {f f' : Nat → Value} {n : Nat} (h : Blk w g t (FCells f n)) (e : ∀ t, t < n → f t = f' t) : Blk w g t (FCells f' n) := by rw [← FCells.congr e]; exact h
theorem made_f (v : Value) (n : Nat) : madeCells #[v] n = FCells (fun _ => v) n := by
  apply Array.ext'
  rw [toList_madeCells_one]
  simp [FCells, List.map_const']
end Go.Proofs.YthclepohilekaaaDoor
