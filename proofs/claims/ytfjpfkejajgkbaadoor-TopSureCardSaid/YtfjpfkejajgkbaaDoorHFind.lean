/- loops.Find, loops.Fault, bounds.Fit, slices.Reverse, walked. -/
import Derived.Test.YtfjpfkejajgkbaaDoorHRoom
import Derived.Test.YtfjpfkejajgkbaaDoorHClosed
import Derived.Test.YtfjpfkejajgkbaaDoorHMat2
namespace Go.Proofs.YtfjpfkejajgkbaaDoor
open Go.RowKit
set_option linter.unusedVariables false
set_option linter.unusedSimpArgs false
def listF {α : Type} (m : Nat) (f : Nat → α) : List α := (List.range m).map f
theorem listF_at {α : Type} {m : Nat} {f : Nat → α} {k : Nat} (h : k < m) : (listF m f)[k]? = some (f k) := by
  unfold listF
  rw [List.getElem?_map, List.getElem?_range h]
  rfl
theorem listF_len {α : Type} (m : Nat) (f : Nat → α) : (listF m f).length = m := by simp [listF]
theorem listF_set {α : Type} {m : Nat} {f : Nat → α} {k : Nat} (v : α) : (listF m f).set k v = listF m (upF f k v) := by
  apply List.ext_getElem?
  intro j
  rw [List.getElem?_set]
  by_cases hj : j < m
  · rw [listF_at (f := upF f k v) hj]
    by_cases e : k = j
    · subst e
      rw [if_pos rfl, if_pos (by rw [listF_len]; exact hj), upF_at]
    · rw [if_neg e, listF_at hj, upF_ne _ _ (fun h => e h.symm)]
  · rw [List.getElem?_eq_none (l := listF m (upF f k v)) (by rw [listF_len]; omega)]
    by_cases e : k = j
    · subst e
      rw [if_pos rfl, if_neg (by rw [listF_len]; omega)]
    · rw [if_neg e, List.getElem?_eq_none (by rw [listF_len]; omega)]
theorem listF_congr {α : Type} {m : Nat} {f g : Nat → α} (h : ∀ j, j < m → f j = g j) : listF m f = listF m g := by
  unfold listF
  exact List.map_congr_left fun a ha => h a (List.mem_range.1 ha)
theorem listF_of (xs : List Int) : listF xs.length (fun j => xs.getD j 0) = xs := by
  apply List.ext_getElem?
  intro j
  by_cases hj : j < xs.length
  · rw [listF_at hj, List.getElem?_eq_getElem hj]; simp [List.getD, hj]
  · rw [List.getElem?_eq_none (by rw [listF_len]; omega), List.getElem?_eq_none (by omega)]
theorem listF_rev {α : Type} (m : Nat) (f : Nat → α) : listF m (fun j => f (m - 1 - j)) = (listF m f).reverse := by
  apply List.ext_getElem?
  intro j
  by_cases hj : j < m
  · rw [listF_at hj, List.getElem?_reverse (by rw [listF_len]; exact hj), listF_len, listF_at (by omega)]
  · rw [List.getElem?_eq_none (by rw [listF_len]; omega), List.getElem?_eq_none (by rw [List.length_reverse, listF_len]; omega)]
/-- numbers, and what lies behind them. -/
def RC (ys : List Int) (rest : List Value) : Array Value := (ys.map (Value.int .i64) ++ rest).toArray
theorem RC_set {ys : List Int} {rest : List Value} {k : Nat} (h : k < ys.length) (v : Int) : (RC ys rest).setIfInBounds k (.int .i64 v) = RC (ys.set k v) rest := by
  unfold RC
  rw [List.setIfInBounds_toArray]
  congr 1
  rw [List.set_append_left _ _ (by simpa using h), List.map_set]
theorem RC_at {ys : List Int} {rest : List Value} {k : Nat} {v : Int} (h : ys[k]? = some v) : (RC ys rest)[k]? = some (.int .i64 v) := by
  unfold RC
  have hk := (List.getElem?_eq_some_iff.1 h).1
  rw [List.getElem?_toArray, List.getElem?_append_left (by simpa using hk), List.getElem?_map, h]
  rfl
/-- i steps of turning about. -/
def turnF (m : Nat) (R : Nat → Int) (i : Nat) : Nat → Int := fun j => if j < i ∨ m ≤ j + i then R (m - 1 - j) else R j
theorem turnF_step {m : Nat} {R : Nat → Int} {i j : Nat} (h : i + j + 1 = m) (hij : i < j) {k : Nat} (hk : k < m) : upF (upF (turnF m R i) i (turnF m R i j)) j (turnF m R i i) k = turnF m R (i + 1) k := by
  unfold upF turnF
  by_cases e1 : k = j
  · subst e1
    rw [if_pos rfl, if_neg (by omega), if_pos (by omega), show m - 1 - k = i by omega]
  · rw [if_neg e1]
    by_cases e2 : k = i
    · subst e2
      rw [if_pos rfl, if_neg (by omega), if_pos (by omega), show m - 1 - k = j by omega]
    · rw [if_neg e2]
      by_cases e3 : k < i ∨ m ≤ k + i
      · rw [if_pos e3, if_pos (by omega)]
      · rw [if_neg e3, if_neg (by omega)]
theorem turnF_end {m : Nat} {R : Nat → Int} {i j : Nat} (h : i + j + 1 = m) (hij : ¬ i < j) {k : Nat} (hk : k < m) : turnF m R i k = R (m - 1 - k) := by
  unfold turnF
  by_cases e3 : k < i ∨ m ≤ k + i
  · rw [if_pos e3]
  · rw [if_neg e3, show m - 1 - k = k by omega]
theorem RC_ints {w : World} {q : Nat} {t : TypeId} {ys : List Int} {rest : List Value} (h : Blk w q t (RC ys rest)) {c : Nat} (hc : ys.length ≤ c) (hm : c ≤ maxLen) (hok : ∀ y ∈ ys, i64B y) : IsInts w (some ⟨q, 0, none⟩) ys.length c ys := by
  refine ⟨rfl, hc, hm, hok, fun _ => ⟨q, 0, rfl, h.lt, fun i z hz j u hj => ?_⟩⟩
  have hj0 : j = 0 := by
    have := (List.getElem?_eq_some_iff.1 hj).1
    simp [intCells] at this; omega
  subst hj0
  simp [intCells] at hj
  subst hj
  rw [h.cell]
  have := RC_at (rest := rest) hz
  simpa using this
set_option maxHeartbeats 4000000 in
theorem rev_ints (q m c : Nat) (R : Nat → Int) (rest : List Value) (w : World) (hb : Blk w q 3 (RC (listF m R) rest)) (h1 : 1 ≤ m) (h2 : m ≤ 1000) (h3 : m ≤ c) (h4 : c ≤ 9223372036854775807) :
    Calls Tryd.prog 50 #[.slice (some ⟨q, 0, none⟩) m c] w fun e w' => e = .returned (.tuple #[]) ∧ Blk w' q 3 (RC (listF m (fun j => R (m - 1 - j))) rest) ∧ Touched q w w' := by
  have HB := Lib.hid hb
  clear hb
  go_enter Tryd.func50, Tryd.ntmps50
  go_wp2_with fail
  go_loopw [2, 3] (fun iv jv wr => ∃ i j : Nat, iv = .int .i64 i ∧ jv = .int .i64 j ∧ i + j + 1 = m ∧ Blk wr q 3 (RC (listF m (turnF m R i)) rest) ∧ Touched q w wr) (fun iv _ _ => m - (intOf iv).toNat)
  case atStart => exact ⟨0, m - 1, rfl, by rw [show ((m - 1 : Nat) : Int) = (m : Int) - 1 by omega], by omega, by
    rw [show listF m (turnF m R 0) = listF m R from listF_congr (fun j hj => by unfold turnF; rw [if_neg (by omega)])]; exact HB.out, Touched.refl _ _⟩
  case round =>
    obtain ⟨i, j, rfl, rfl, hij, hb, ht⟩ := hrel
    have HBB := Lib.hid hb
    have HT := Lib.hid ht
    by_cases d1 : i < j
    · obtain ⟨vi, hvi⟩ : ∃ v, turnF m R i i = v := ⟨_, rfl⟩
      obtain ⟨vj, hvj⟩ : ∃ v, turnF m R i j = v := ⟨_, rfl⟩
      have x0 : wr.cell? ⟨q, i, none⟩ = some (.int .i64 vi) := by rw [hb.cell, RC_at (listF_at (by omega)), hvi]
      have x1 : wr.cell? ⟨q, j, none⟩ = some (.int .i64 vj) := by rw [hb.cell, RC_at (listF_at (by omega)), hvj]
      have xf := fun o => hb.fz o
      have xl := hb.lt
      have k0 : (0 : Int) ≤ (i : Int) := by omega
      have k1 : (0 : Int) ≤ (j : Int) := by omega
      have k2 : (i : Int) < (m : Int) := by omega
      have k3 : (j : Int) < (m : Int) := by omega
      have k4 : (i : Int) < (j : Int) := by omega
      have k5 : i ≠ j := by omega
      have HN := Lib.hid (show Blk ((wr.setCell ⟨q, i, none⟩ (.int .i64 vj)).setCell ⟨q, j, none⟩ (.int .i64 vi)) q 3 (RC (listF m (turnF m R (i + 1))) rest) by
        have h := (hb.set i (.int .i64 vj)).set j (.int .i64 vi)
        rw [RC_set (by rw [listF_len]; omega), RC_set (by rw [List.length_set, listF_len]; omega), listF_set, listF_set, ← hvi, ← hvj,
          listF_congr (fun k hk => turnF_step hij d1 hk)] at h
        rw [hvi, hvj] at h
        exact h)
      have HIJ := Lib.hid hij
      have hj1 : 1 ≤ j := by omega
      clear hb ht hvi hvj hij
      go_wp2_with fail
      go_region
      go_wp2_with fail
      go_roundw
      case rel => exact ⟨i + 1, j - 1, by go_num, by rw [show ((j - 1 : Nat) : Int) = (j : Int) - 1 by omega], by have := HIJ.out; omega, HN.out.drew, ((HT.out.set _ _).set _ _).drew⟩
      case measure => have := HIJ.out; simp [intOf]; omega
    · have HN := Lib.hid (show Blk wr q 3 (RC (listF m (fun j => R (m - 1 - j))) rest) by
        rw [← listF_congr (fun k hk => turnF_end hij d1 hk)]
        exact hb)
      have k4 : ¬ (i : Int) < (j : Int) := by omega
      clear hb ht hij
      go_wp2_with fail
      go_end0
      exact ⟨rfl, HN.out, HT.out⟩
end Go.Proofs.YtfjpfkejajgkbaaDoor
