/- slices.Sorted(slices.Values(l)) for any slice of integers, the empty one too. -/
import Derived.Test.YtfjpfkejajgkbaaHSorted
import Derived.Shelf.SortM.SortNone
import Derived.Test.YtfjpfkejajgkbaaHG1
namespace Go.Proofs.Ytfjpfkejajgkbaa
open Go.RowKit Go.Maps Go.Sort Go.Shelf
set_option linter.unusedVariables false
set_option linter.unusedSimpArgs false
theorem values_boxA (A : Option Addr) (n c : Nat) (w : World) :
    Calls Try.prog 52 #[.slice A n c] w fun e w' => e = .returned (.func (.func 61) #[] #[.pointer (some ⟨w.heap.size, 0, none⟩)]) ∧ w' = w.alloc (.cells #[.slice A n c] 22) := by
  go_enter Try.func52, Try.ntmps52
  go_wp2_with fail
  go_ret
  exact ⟨rfl, rfl⟩
/-- slices.Sorted(slices.Values(l)), any l. -/
theorem sorted_any (A : Option Addr) (n c Bs0 : Nat) (zs : List Int) (w : World) (h : IsInts w A n c zs) (hn9 : n * 8 ≤ 140737488351232) (hB0 : Bs0 < w.heap.size) (hBs : w.cell? ⟨Bs0, 0, none⟩ = some (.slice A n c)) :
    Calls Try.prog 51 #[.func (.func 61) #[] #[.pointer (some ⟨Bs0, 0, none⟩)]] w fun e w' => ∃ A' n' c', e = .returned (.slice A' n' c') ∧ n' = n ∧ IsInts w' A' n' c' (sortI zs) ∧ Below w.heap.size w w' := by
  obtain ⟨l1, l2, l3, l4, l5⟩ := h
  rcases Nat.eq_zero_or_pos n with h0 | h0
  · have hz : zs = [] := List.length_eq_zero_iff.1 (by omega)
    subst hz
    subst h0
    have C := collect_ints 0 0 0 c Bs0 A (fun h => absurd h (by omega)) [] rfl (by omega) w (fun h => absurd h (by omega)) hB0 (fun j hj => absurd hj (by omega)) hBs
    go_enter Try.func51, Try.ntmps51
    go_wp2_with fail
    refine C.mono ?_
    rintro e W ⟨v, rfl, hrow, hB⟩
    have hs : sortI [] = [] := List.length_eq_zero_iff.1 (sortI_len [])
    obtain ⟨p, cap, rfl, hcap⟩ : ∃ p cap, v = .slice p 0 cap ∧ cap ≤ maxLen := by
      rcases hrow.2 with ⟨rfl, _⟩ | ⟨g, cap, cur, rfl, hbase, hgb, r1, r2, r3, r4⟩
      · exact ⟨none, 0, rfl, Nat.zero_le _⟩
      · exact ⟨_, cap, rfl, r2⟩
    have cS : Calls Try.prog 60 #[.slice p 0 cap] W fun e w' => e = .returned (.tuple #[]) ∧ w' = W := AnyM.slices_Sort_int_none sortL p cap W
    clear hrow C hBs
    go_wp2_with fail
    refine cS.mono ?_
    rintro e w' ⟨rfl, rfl⟩
    go_wp2_with fail
    go_ret
    exact ⟨p, 0, cap, rfl, rfl, by rw [hs]; exact ⟨rfl, Nat.zero_le _, hcap, by simp, fun h => absurd h (by omega)⟩, hB⟩
  · obtain ⟨b, off, rfl, hb, hc⟩ := l5 h0
    refine (sorted_ints b off n c Bs0 zs l1 h0 hn9 w hb hB0 (fun j hj => ?_) hBs).mono ?_
    · have hz : zs[j]? = some (zs.getD j 0) := by rw [List.getD_eq_getElem?_getD, List.getElem?_eq_getElem (by omega : j < zs.length)]; rfl
      have := hc j _ hz 0 _ rfl
      simpa using this
    · rintro e w' ⟨g, cap, rfl, r1, r2, r3, r4, r5⟩
      refine ⟨some ⟨g, 0, none⟩, n, cap, rfl, rfl, ⟨by rw [sortI_len, l1], r1, r2, fun z hz => l4 z ((sortI_perm zs).mem_iff.1 hz), fun _ => ⟨g, 0, rfl, r3, fun i z hz j u hu => ?_⟩⟩, r5⟩
      have hi : i < n := by have := (List.getElem?_eq_some_iff.1 hz).1; rw [sortI_len, l1] at this; exact this
      match j, hu with
      | 0, hu =>
        simp [intCells] at hu
        subst hu
        have := r4 i hi
        rw [List.getD_eq_getElem?_getD, hz] at this
        simpa using this
      | j + 1, hu => simp [intCells] at hu
end Go.Proofs.Ytfjpfkejajgkbaa
