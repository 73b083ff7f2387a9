/- A square table of a call's own: rows behind a slice of slices, in a box. -/
import Derived.Test.YtdjkhagdckhijaaDoorArr
import Derived.Test.YtdjkhagdckhijaaDoorEdgeP
namespace Go.Proofs.YtdjkhagdckhijaaDoor
open Go.RowKit
set_option linter.unusedVariables false
set_option linter.unusedSimpArgs false
def rowOf (N : Nat) (D : Nat → Nat → Int) (i : Nat) : List Int := (List.range N).map (D i)
theorem rowOf_at {N : Nat} {D : Nat → Nat → Int} {i k : Nat} (h : k < N) : (rowOf N D i)[k]? = some (D i k) := by
  unfold rowOf
  rw [List.getElem?_map, List.getElem?_range h]
  rfl
theorem rowOf_len (N : Nat) (D : Nat → Nat → Int) (i : Nat) : (rowOf N D i).length = N := by simp [rowOf]
theorem rowOf_set {N : Nat} {D : Nat → Nat → Int} {i k : Nat} (v : Int) : (rowOf N D i).set k v = rowOf N (up2 D i k v) i := by
  apply List.ext_getElem?
  intro j
  rw [List.getElem?_set]
  by_cases hj : j < N
  · rw [rowOf_at (D := up2 D i k v) hj]
    by_cases e : k = j
    · subst e
      rw [if_pos rfl, if_pos (by rw [rowOf_len]; exact hj), up2_at]
    · rw [if_neg e, rowOf_at hj, up2_ne _ _ (by omega)]
  · rw [List.getElem?_eq_none (l := rowOf N (up2 D i k v) i) (by rw [rowOf_len]; omega)]
    by_cases e : k = j
    · subst e
      rw [if_pos rfl, if_neg (by rw [rowOf_len]; omega)]
    · rw [if_neg e, List.getElem?_eq_none (by rw [rowOf_len]; omega)]
theorem rowOf_ne {N : Nat} {D : Nat → Nat → Int} {i j k : Nat} (v : Int) (h : j ≠ i) : rowOf N (up2 D i k v) j = rowOf N D j := by
  unfold rowOf
  apply List.map_congr_left
  intro a _
  rw [up2_ne _ _ (by omega)]
/-- the slices of the first i rows; the others are nil. -/
def slCells (B N i : Nat) : Array Value := ((List.range N).map fun j => if j < i then Value.slice (some ⟨B + 2 + j, 0, none⟩) N N else .slice none 0 0).toArray
theorem slCells_at {B N i j : Nat} (h : j < N) : (slCells B N i)[j]? = some (if j < i then Value.slice (some ⟨B + 2 + j, 0, none⟩) N N else .slice none 0 0) := by
  unfold slCells
  rw [List.getElem?_toArray, List.getElem?_map, List.getElem?_range h]
  rfl
theorem slCells_set {B N i : Nat} : (slCells B N i).setIfInBounds i (.slice (some ⟨B + 2 + i, 0, none⟩) N N) = slCells B N (i + 1) := by
  unfold slCells
  rw [List.setIfInBounds_toArray]
  congr 1
  apply List.ext_getElem?
  intro j
  rw [List.getElem?_set]
  by_cases hj : j < N
  · rw [List.getElem?_map, List.getElem?_map, List.getElem?_range hj]
    by_cases e : i = j
    · subst e
      rw [if_pos rfl, if_pos (by simpa using hj)]
      simp
    · rw [if_neg e]
      simp only [Option.map_some]
      by_cases f : j < i
      · rw [if_pos f, if_pos (by omega)]
      · rw [if_neg f, if_neg (by omega)]
  · by_cases e : i = j
    · subst e
      rw [if_pos rfl, if_neg (by simp; omega), List.getElem?_eq_none (by simp; omega)]
    · rw [if_neg e, List.getElem?_eq_none (by simp; omega), List.getElem?_eq_none (by simp; omega)]
theorem made_sl (B N : Nat) : madeCells #[.slice none 0 0] N = slCells B N 0 := by
  apply Array.ext'
  rw [toList_madeCells_one]
  unfold slCells
  apply List.ext_getElem?
  intro j
  simp only [List.getElem?_replicate, Nat.not_lt_zero, if_false, List.getElem?_map]
  by_cases hj : j < N
  · rw [if_pos hj, List.getElem?_range hj]; rfl
  · rw [if_neg hj, List.getElem?_eq_none (by simp; omega)]; rfl
/-- the table, its first i rows. -/
structure MatAt (w : World) (B N : Nat) (Tb Ts Ti : TypeId) (i : Nat) (D : Nat → Nat → Int) : Prop where
  outer : Blk w B Ts (slCells B N i)
  box : Blk w (B + 1) Tb #[.slice (some ⟨B, 0, none⟩) N N]
  rows : ∀ j, j < i → Blk w (B + 2 + j) Ti (ICells (rowOf N D j))
section
variable {w : World} {B N : Nat} {Tb Ts Ti : TypeId} {i : Nat} {D : Nat → Nat → Int}
theorem MatAt.cbox (h : MatAt w B N Tb Ts Ti i D) : w.cell? ⟨B + 1, 0, none⟩ = some (.slice (some ⟨B, 0, none⟩) N N) := by
  rw [h.box.cell]; rfl
theorem MatAt.csl (h : MatAt w B N Tb Ts Ti i D) {j : Nat} (hj : j < i) (hN : i ≤ N) : w.cell? ⟨B, j, none⟩ = some (.slice (some ⟨B + 2 + j, 0, none⟩) N N) := by
  rw [h.outer.cell, slCells_at (by omega), if_pos hj]
theorem MatAt.cat (h : MatAt w B N Tb Ts Ti i D) {j k : Nat} (hj : j < i) (hk : k < N) : w.cell? ⟨B + 2 + j, k, none⟩ = some (.int .i64 (D j k)) :=
  (h.rows j hj).iat (rowOf_at hk)
theorem MatAt.fz (h : MatAt w B N Tb Ts Ti i D) {j : Nat} (hj : j < i) (k : Nat) : w.frozen? ⟨B + 2 + j, k, none⟩ = false := (h.rows j hj).fz k
theorem MatAt.lt (h : MatAt w B N Tb Ts Ti i D) {j : Nat} (hj : j < i) : B + 2 + j < w.heap.size := (h.rows j hj).lt
theorem MatAt.drewN (h : MatAt w B N Tb Ts Ti i D) (m : Nat) : MatAt (w.drewN m) B N Tb Ts Ti i D := ⟨h.outer, h.box, h.rows⟩
theorem MatAt.alloc (h : MatAt w B N Tb Ts Ti i D) (o : Obj) : MatAt (w.alloc o) B N Tb Ts Ti i D := ⟨h.outer.alloc o, h.box.alloc o, fun j hj => (h.rows j hj).alloc o⟩
theorem MatAt.set (h : MatAt w B N Tb Ts Ti i D) (j k : Nat) (v : Int) : MatAt (w.setCell ⟨B + 2 + j, k, none⟩ (.int .i64 v)) B N Tb Ts Ti i (up2 D j k v) :=
  ⟨h.outer.far (by simp; omega) _, h.box.far (by simp; omega) _, fun a ha => by
    by_cases e : a = j
    · subst e
      have := (h.rows a ha).iset k v
      rw [rowOf_set] at this
      exact this
    · rw [rowOf_ne _ e]
      exact (h.rows a ha).far (by simp; omega) _⟩
theorem MatAt.congr (h : MatAt w B N Tb Ts Ti i D) {E : Nat → Nat → Int} (e : ∀ a b, a < i → b < N → D a b = E a b) : MatAt w B N Tb Ts Ti i E :=
  ⟨h.outer, h.box, fun j hj => by
    have : rowOf N E j = rowOf N D j := by
      unfold rowOf
      apply List.map_congr_left
      intro a ha
      exact (e j a hj (List.mem_range.1 ha)).symm
    rw [this]; exact h.rows j hj⟩
theorem MatAt.below {w' : World} {C : Nat} (h : MatAt w B N Tb Ts Ti i D) (hb : Below C w w') (h1 : B + 1 < C) (h2 : B + 2 + i ≤ C) : MatAt w' B N Tb Ts Ti i D :=
  ⟨h.outer.below hb (by omega), h.box.below hb (by omega), fun j hj => (h.rows j hj).below hb (by omega)⟩
end
end Go.Proofs.YtdjkhagdckhijaaDoor
