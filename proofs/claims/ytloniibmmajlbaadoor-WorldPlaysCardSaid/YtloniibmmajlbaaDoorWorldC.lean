/- slices.Clone of letters; a world's letters under way, walked. -/
import Derived.Test.YtloniibmmajlbaaDoorWorldD
namespace Go.Proofs.YtloniibmmajlbaaDoor
open Go.RowKit
set_option linter.unusedVariables false
set_option linter.unusedSimpArgs false
set_option maxRecDepth 100000 in
set_option maxHeartbeats 4000000 in
theorem clone_letters (B : Nat) (v : Value) (us : List RLetter) (w : World) (ho : w.ownsRow B 37 6 v us.length (us.flatMap RLetter.cells)) (h40 : us.length ≤ 40) (hok : ∀ z ∈ us, RLetter.ok z) :
    Calls Tryd.prog 23 #[v] w fun e w' => ∃ A c, e = .returned (.slice A us.length c) ∧ us.length ≤ c ∧ c ≤ maxLen ∧ IsRecs w' RLetter.cells RLetter.ok 6 A us.length c us ∧ Below w.heap.size w w' := by
  obtain ⟨i0, hi, hz0, hz1, hz2⟩ := info_parts infoLt
  have hq := Lib.run_eql_slice_nil (P := Tryd.prog)
  rcases ho.2 with ⟨rfl, hn⟩ | ⟨q, cap, cur, rfl, hB, hg, hnc, hcm, hs, ht⟩
  · have he : us = [] := List.length_eq_zero_iff.1 hn
    subst he
    clear ho hn
    go_enter Tryd.func23, Tryd.ntmps23
    go_wp2_with fail
    go_ret
    exact ⟨none, 0, rfl, Nat.le_refl _, by unfold maxLen; omega, ⟨rfl, Nat.le_refl _, by unfold maxLen; omega, by simp, fun h => absurd h (by simp)⟩, Below.refl _ _⟩
  · have hlt : q < w.heap.size := (Array.getElem?_eq_some_iff.1 hg).1
    unfold maxLen at hcm
    obtain ⟨n, hn⟩ : ∃ n, us.length = n := ⟨_, rfl⟩
    have hL := ho.1
    rw [hn] at hL ht hnc h40 ⊢
    have hon : (w.alloc (.cells #[] 37)).ownsRow w.heap.size 37 6 (.slice (some ⟨w.heap.size, 0, none⟩) 0 0) 0 [] :=
      ⟨by simp, .inr ⟨w.heap.size, 0, #[], rfl, Nat.le_refl _, heap_alloc_new w _, by omega, by unfold maxLen; omega, by simp, by simp⟩⟩
    have hbk : Blk w q 37 cur := hg
    have hnew : ∀ j u, (us.flatMap RLetter.cells)[j]? = some u → (w.alloc (.cells #[] 37)).cell? ((⟨q, 0, none⟩ : Addr).add j) = some u := by
      intro j u hj
      have hjl : j < n * 6 := by rw [← hL]; exact (List.getElem?_eq_some_iff.1 hj).1
      rw [show (⟨q, 0, none⟩ : Addr).add j = ⟨q, j, none⟩ by unfold Addr.add; split <;> simp_all]
      rw [World.cell?_alloc_lt _ _ ⟨q, j, none⟩ hlt, hbk.cell]
      rw [← ht, List.getElem?_take, if_pos hjl, Array.getElem?_toList] at hj
      exact hj
    have hone : ∀ u ∈ us.flatMap RLetter.cells, u.oneCell' = true := fun u hu => by
      obtain ⟨z, _, h2⟩ := List.mem_flatMap.1 hu
      exact letter_one z u h2
    obtain ⟨L, hLe⟩ : ∃ L, us.flatMap RLetter.cells = L := ⟨_, rfl⟩
    rw [hLe] at hL hnew hone
    have HO := Lib.hid hon
    have HN := Lib.hid hnew
    have HL := Lib.hid hL
    have HOne := Lib.hid hone
    have HE := Lib.hid hLe
    have HUn := Lib.hid hn
    clear ho hg ht hbk hs hon hnew hL hone hLe hn cur
    rcases Nat.eq_zero_or_pos n with h0 | h0
    · subst h0
      go_enter Tryd.func23, Tryd.ntmps23
      go_wp2_with fail
      go_ret
      exact ⟨_, 0, rfl, Nat.le_refl _, by unfold maxLen; omega, ⟨HUn.out, Nat.le_refl _, by unfold maxLen; omega, hok, fun h => absurd h (by omega)⟩, (Below.refl _ _).alloc (Nat.le_refl _) _⟩
    · go_enter Tryd.func23, Tryd.ntmps23
      go_wp2_with (at_builtin; refine wpList_append_own _ rfl _ _ 34 rfl w.heap.size 37 i0 (.agg #[.int .i64 0, .int .i64 0, .bool false, .int .i64 0, .int .i64 0, .int .i64 0]) 6 48 Tryd.underlying34 hi hz0 hz1 hz2 rfl (by decide) _ _ _ rfl HO.out ⟨q, 0, none⟩ n cap L rfl (by rw [HL.out]) HN.out HOne.out (by unfold maxLen; omega) (by omega) (by simp) ?_; intro v' w1 ho1 hg1 hnil)
      have hb2 : Below w.heap.size w w1 := ((Below.refl _ _).alloc (Nat.le_refl _) _).grown hg1 (by simp) (fun k hk => (HO.out.lt k hk).1)
      have HO1 := Lib.hid (show w1.ownsRow w.heap.size 37 6 v' us.length (us.flatMap RLetter.cells) from by rw [HE.out, HUn.out]; simpa using ho1)
      have HB := Lib.hid hb2
      clear ho1 hnil hb2 hg1
      obtain ⟨A, m, c, rfl, hI⟩ := own_recs RLetter.cells RLetter.ok 6 (fun _ => rfl) HO1.out hok
      have HF := Lib.hid hI
      obtain rfl : n = m := by rw [← HUn.out]; exact hI.1
      clear hI HO1
      go_wp2_with fail
      go_ret
      exact ⟨A, c, rfl, HF.out.2.1, HF.out.2.2.1, HF.out, HB.out⟩
theorem world_Under (g B n : Nat) (ss rs : List Int) (t : Int) (uv : Value) (us : List RLetter) (w : World) (h : WorldU w g B n ss rs t uv us) :
    Calls Tryd.prog 8 #[.pointer (some ⟨g, 0, none⟩)] w fun e w' => ∃ A c, e = .returned (.slice A us.length c) ∧ us.length ≤ c ∧ c ≤ maxLen ∧ IsRecs w' RLetter.cells RLetter.ok 6 A us.length c us ∧ Below w.heap.size w w' := by
  have CC := Lib.hid (clone_letters B uv us w h.row h.l40 h.lok)
  obtain ⟨gs, cs, gr, cr, k1, _⟩ := h.ex
  have c3 := k1.cell 3
  simp at c3
  clear h k1
  go_enter Tryd.func8, Tryd.ntmps8
  go_wp2_with fail
  refine CC.out.mono ?_
  rintro e w1 ⟨A, c, rfl, h1, h2, h3, hb1⟩
  have H := Lib.hid h3
  clear h3
  go_wp2_with fail
  go_ret
  exact ⟨A, c, rfl, h1, h2, H.out, hb1⟩
end Go.Proofs.YtloniibmmajlbaaDoor
