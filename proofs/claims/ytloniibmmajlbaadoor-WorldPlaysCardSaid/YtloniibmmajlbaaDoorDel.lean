/- slices.Delete of one letter out of an owned row, walked. -/
import Derived.Test.YtloniibmmajlbaaDoorRec
import Derived.Test.YtloniibmmajlbaaDoorOwn
import Derived.Test.YtloniibmmajlbaaDoorBlk
import Derived.Deep.RegionLaw
import Derived.Lib.SliceRun
import Derived.IntWalk
namespace Go.Proofs.YtloniibmmajlbaaDoor
open Go.RowKit
set_option linter.unusedVariables false
set_option linter.unusedSimpArgs false
/-- some cells anew, from o on. -/
def putL : Array Value → Nat → List Value → Array Value
  | cs, _, [] => cs
  | cs, o, v :: r => putL (cs.setIfInBounds o v) (o + 1) r
theorem putL_size : ∀ (vs : List Value) (cs : Array Value) (o : Nat), (putL cs o vs).size = cs.size
  | [], _, _ => rfl
  | v :: r, cs, o => by show (putL (cs.setIfInBounds o v) (o + 1) r).size = _; rw [putL_size r, Array.size_setIfInBounds]
theorem putL_get : ∀ (vs : List Value) (cs : Array Value) (o i : Nat), (putL cs o vs)[i]? = if o ≤ i ∧ i < o + vs.length ∧ i < cs.size then vs[i - o]? else cs[i]?
  | [], cs, o, i => by rw [if_neg (by simp only [List.length_nil]; omega)]; rfl
  | v :: r, cs, o, i => by
    show (putL (cs.setIfInBounds o v) (o + 1) r)[i]? = _
    rw [putL_get r, Array.size_setIfInBounds]
    simp only [List.length_cons]
    by_cases h : o + 1 ≤ i ∧ i < o + 1 + r.length ∧ i < cs.size
    · rw [if_pos h, if_pos (by omega), show i - o = (i - (o + 1)) + 1 by omega, List.getElem?_cons_succ]
    · rw [if_neg h, Array.getElem?_setIfInBounds]
      by_cases e : o = i
      · subst e
        rw [if_pos rfl]
        by_cases hs : o < cs.size
        · rw [if_pos hs, if_pos (by omega), Nat.sub_self, List.getElem?_cons_zero]
        · rw [if_neg hs, if_neg (by omega), Array.getElem?_eq_none (by omega)]
      · rw [if_neg e, if_neg (by omega)]
theorem Blk.setCells {g : Nat} {t : TypeId} : ∀ (vs : List Value) (o : Nat) (w : World) (cs : Array Value), Blk w g t cs → Blk (w.setCells g o vs) g t (putL cs o vs)
  | [], _, _, _, h => h
  | v :: r, o, w, cs, h => Blk.setCells r (o + 1) _ _ (h.set o v)
theorem Touched.setCells {g : Nat} {w : World} : ∀ (vs : List Value) (o : Nat) (w1 : World), Touched g w w1 → Touched g w (w1.setCells g o vs)
  | [], _, _, h => h
  | v :: r, o, w1, h => Touched.setCells r (o + 1) _ (h.set o v)
theorem flat_lenK {E : Type} (cells : E → List Value) (k : Nat) (hk : ∀ z, (cells z).length = k) : ∀ zs : List E, (zs.flatMap cells).length = zs.length * k
  | [] => by simp
  | z :: r => by rw [List.flatMap_cons, List.length_append, hk, flat_lenK cells k hk r, List.length_cons, Nat.succ_mul]; omega
theorem flat_drop {E : Type} (cells : E → List Value) (k : Nat) (hk : ∀ z, (cells z).length = k) : ∀ (zs : List E) (i : Nat), (zs.drop i).flatMap cells = (zs.flatMap cells).drop (i * k)
  | [], i => by simp
  | z :: r, 0 => by simp
  | z :: r, i + 1 => by
    rw [List.drop_succ_cons, flat_drop cells k hk r i, List.flatMap_cons, Nat.succ_mul, Nat.add_comm, ← List.drop_drop, List.drop_left' (hk z)]
theorem flat_take {E : Type} (cells : E → List Value) (k : Nat) (hk : ∀ z, (cells z).length = k) : ∀ (zs : List E) (i : Nat), (zs.take i).flatMap cells = (zs.flatMap cells).take (i * k)
  | [], i => by simp
  | z :: r, 0 => by simp
  | z :: r, i + 1 => by
    rw [List.take_succ_cons, List.flatMap_cons, flat_take cells k hk r i, List.flatMap_cons, Nat.succ_mul, Nat.add_comm, ← hk z, List.take_length_add_append]
/-- what is left of the cells when the i-th of n is deleted. -/
theorem del_cells {cur : Array Value} {L zr : List Value} {n i k cap : Nat} (hi : i < n) (hL : L.length = n * k) (hs : cur.size = cap * k) (hn : n ≤ cap) (ht : cur.toList.take (n * k) = L) (hz : zr.length = k) :
    (putL (putL cur (i * k) (L.drop ((i + 1) * k))) ((n - 1) * k) zr).toList.take ((n - 1) * k) = L.take (i * k) ++ L.drop ((i + 1) * k) := by
  have h1 : (i + 1) * k ≤ n * k := Nat.mul_le_mul_right _ (by omega)
  have h2 : n * k ≤ cap * k := Nat.mul_le_mul_right _ hn
  have h3 : (n - 1) * k + k = n * k := by
    obtain ⟨m, rfl⟩ : ∃ m, n = m + 1 := ⟨n - 1, by omega⟩
    rw [Nat.succ_mul]; simp
  have h4 : (i + 1) * k = i * k + k := Nat.succ_mul _ _
  have hL2 : ∀ j, j < n * k → cur[j]? = L[j]? := fun j hj => by
    rw [← ht, List.getElem?_take, if_pos hj, Array.getElem?_toList]
  apply List.ext_getElem?
  intro j
  rw [List.getElem?_take]
  by_cases c : j < (n - 1) * k
  · rw [if_pos c, Array.getElem?_toList, putL_get, if_neg (by omega), putL_get, List.length_drop, List.getElem?_append, List.length_take, hL]
    by_cases d : i * k ≤ j
    · rw [if_pos (by omega), if_neg (by omega)]
      congr 1; omega
    · rw [if_neg (by omega), if_pos (by omega), List.getElem?_take, if_pos (by omega), hL2 j (by omega)]
  · rw [if_neg c, List.getElem?_eq_none]
    rw [List.length_append, List.length_take, List.length_drop, hL]; omega
theorem letter_one (z : RLetter) : ∀ u ∈ RLetter.cells z, u.oneCell' = true := by
  intro u hu
  simp [RLetter.cells] at hu
  rcases hu with rfl | rfl | rfl | rfl | rfl | rfl <;> rfl
theorem infoLt : (Tryd.prog.info? 37).map (fun i => (i.zero, i.size, i.bytes)) = some (some (.agg #[.int .i64 0, .int .i64 0, .bool false, .int .i64 0, .int .i64 0, .int .i64 0]), 6, 48) := by kernel_rfl
def zeroLt : List Value := [.int .i64 0, .int .i64 0, .bool false, .int .i64 0, .int .i64 0, .int .i64 0]
theorem clear_one (w : World) (ty : TypeId) (b o c : Nat) (hc : ∀ j, j < 6 → (w.cell? ⟨b, o + j, none⟩).isSome = true) (hf : ∀ j, j < 6 → w.frozen? ⟨b, o + j, none⟩ = false) :
    (Builtin.clear_ #[34] ty #[.slice (some ⟨b, o, none⟩) 1 c]).run Tryd.prog w = .ok (.tuple #[]) (w.setCells b o zeroLt) := by
  have hv : ∀ w, (zeroValue 37).run Tryd.prog w = .ok (.agg #[.int .i64 0, .int .i64 0, .bool false, .int .i64 0, .int .i64 0, .int .i64 0]) w := fun _ => by kernel_rfl
  have hzc : (Builtin.zeroCells (Value.agg #[.int .i64 0, .int .i64 0, .bool false, .int .i64 0, .int .i64 0, .int .i64 0]).cells 1).toList = zeroLt := by kernel_rfl
  have hst := run_storeCells_cells (P := Tryd.prog) b o zeroLt 0 w (by simpa [zeroLt] using hc) (by simpa [zeroLt] using hf) (by intro v hv'; simp only [zeroLt, List.mem_cons, List.not_mem_nil, or_false] at hv'; rcases hv' with rfl | rfl | rfl | rfl | rfl | rfl <;> rfl)
  simp only [Nat.add_zero] at hst
  simp [Builtin.clear_, run_underlying Tryd.underlying34, hv, hzc, hst]
set_option maxRecDepth 100000 in
set_option maxHeartbeats 4000000 in
theorem letters_Delete (g n cap i B : Nat) (zs : List RLetter) (w : World) (ho : w.ownsRow B 37 6 (.slice (some ⟨g, 0, none⟩) n cap) n (zs.flatMap RLetter.cells)) (hz : zs.length = n) (hi : i < n) (hn : n ≤ 1000) :
    Calls Tryd.prog 21 #[.slice (some ⟨g, 0, none⟩) n cap, .int .i64 i, .int .i64 ((i : Int) + 1)] w fun e w' => e = .returned (.slice (some ⟨g, 0, none⟩) (n - 1) cap) ∧ w'.ownsRow B 37 6 (.slice (some ⟨g, 0, none⟩) (n - 1) cap) (n - 1) ((zs.eraseIdx i).flatMap RLetter.cells) ∧ Touched g w w' := by
  obtain ⟨i0, hi0, hz0, hz1, hz2⟩ := info_parts infoLt
  obtain ⟨hlen, hrow⟩ := ho
  rcases hrow with ⟨h, _⟩ | ⟨g', cap', cur, he, hB, hg, hnc, hcm, hsz, htk⟩
  · cases h
  simp only [Value.slice.injEq, Option.some.injEq, Addr.mk.injEq, and_true, true_and] at he
  obtain ⟨rfl, rfl⟩ := he
  obtain ⟨L, hL⟩ : ∃ L, zs.flatMap RLetter.cells = L := ⟨_, rfl⟩
  rw [hL] at hlen htk
  have hk : ∀ z : RLetter, (RLetter.cells z).length = 6 := fun _ => rfl
  have hbk : Blk w g 37 cur := hg
  have hfin := del_cells (zr := zeroLt) hi hlen hsz hnc htk rfl
  have hend : L.take (i * 6) ++ L.drop ((i + 1) * 6) = (zs.eraseIdx i).flatMap RLetter.cells := by
    rw [List.eraseIdx_eq_take_drop_succ, List.flatMap_append, flat_take _ 6 hk, flat_drop _ 6 hk, hL]
  obtain ⟨news, hnews⟩ : ∃ news, L.drop ((i + 1) * 6) = news := ⟨_, rfl⟩
  have hnl : news.length = (n - (i + 1)) * 6 := by rw [← hnews, List.length_drop, hlen]; omega
  have hone : ∀ u ∈ news, u.oneCell' = true := fun u hu => by
    rw [← hnews] at hu
    have h1 := List.mem_of_mem_drop hu
    rw [← hL] at h1
    obtain ⟨z, _, h2⟩ := List.mem_flatMap.1 h1
    exact letter_one z u h2
  unfold maxLen at hcm
  have hcur : ∀ j, j < n * 6 → cur[j]? = L[j]? := fun j hj => by rw [← htk, List.getElem?_take, if_pos hj, Array.getElem?_toList]
  obtain ⟨A, hA, hsrc⟩ : ∃ A : Addr, (if cap = i + 1 then some (⟨g, 0, none⟩ : Addr) else some ⟨g, (i + 1) * 6, none⟩) = some A ∧ (∀ t u, news[t]? = some u → w.drew.cell? (A.add t) = some u) := by
    by_cases h : cap = i + 1
    · refine ⟨⟨g, 0, none⟩, by simp [h], fun t u hu => ?_⟩
      have h0 : news.length = 0 := by omega
      rw [List.length_eq_zero_iff.1 h0] at hu
      simp at hu
    · refine ⟨⟨g, (i + 1) * 6, none⟩, by simp [h], fun t u hu => ?_⟩
      have ht : t < news.length := (List.getElem?_eq_some_iff.1 hu).1
      rw [← hnews, List.getElem?_drop] at hu
      rw [show (⟨g, (i + 1) * 6, none⟩ : Addr).add t = ⟨g, (i + 1) * 6 + t, none⟩ by unfold Addr.add; split <;> simp_all]
      show w.cell? _ = _
      rw [hbk.cell, hcur _ (by omega)]
      exact hu
  have hsp : ∀ j, j < news.length → (w.drew.cell? ⟨g, 0 + i * 6 + j, none⟩).isSome = true ∧ w.drew.frozen? ⟨g, 0 + i * 6 + j, none⟩ = false := fun j hj => by
    constructor
    · show (w.cell? _).isSome = true
      rw [hbk.cell, Array.getElem?_eq_getElem (by omega)]; rfl
    · exact hbk.fz _
  obtain ⟨W1, hW1⟩ : ∃ W1, W1 = w.drew.setCells g (0 + i * 6) news := ⟨_, rfl⟩
  have hb1 : Blk W1 g 37 (putL cur (i * 6) news) := by rw [hW1, Nat.zero_add]; exact Blk.setCells news _ _ _ hbk.drew
  have ht1 : Touched g w W1 := by rw [hW1]; exact Touched.setCells news _ _ (Touched.refl g w).drew
  have hcl : ∀ ty, (Builtin.clear_ #[34] ty #[.slice (some ⟨g, (n - 1) * 6, none⟩) 1 (cap - (n - 1))]).run Tryd.prog W1 = .ok (.tuple #[]) (W1.setCells g ((n - 1) * 6) zeroLt) := fun ty => clear_one W1 ty g ((n - 1) * 6) (cap - (n - 1))
    (fun j hj => by rw [hb1.cell, Array.getElem?_eq_getElem (by rw [putL_size]; omega)]; rfl) (fun j hj => hb1.fz _)
  have hb2 : Blk (W1.setCells g ((n - 1) * 6) zeroLt) g 37 (putL (putL cur (i * 6) news) ((n - 1) * 6) zeroLt) := Blk.setCells zeroLt _ _ _ hb1
  have ht2 : Touched g w (W1.setCells g ((n - 1) * 6) zeroLt) := Touched.setCells zeroLt _ _ ht1
  rw [hnews] at hfin hend
  have hrow : (W1.setCells g ((n - 1) * 6) zeroLt).ownsRow B 37 6 (.slice (some ⟨g, 0, none⟩) (n - 1) cap) (n - 1) ((zs.eraseIdx i).flatMap RLetter.cells) := by
    refine ⟨?_, .inr ⟨g, cap, _, rfl, hB, hb2, by omega, by unfold maxLen; omega, by rw [putL_size, putL_size]; exact hsz, by rw [hfin]; exact hend⟩⟩
    rw [← hend, List.length_append, List.length_take, hnl, hlen]; omega
  have HR := Lib.hid hrow
  have HT := Lib.hid ht2
  have HW := Lib.hid hW1
  have HS := Lib.hid hsrc
  have HP := Lib.hid hsp
  have HO := Lib.hid hone
  have HN := Lib.hid hnl
  have q0 : i ≤ cap := by omega
  have q1 : i + 1 ≤ cap := by omega
  have q2 : i + 1 ≤ n := by omega
  have q3 : (0 : Int) ≤ (i : Int) + 1 := by omega
  have q4 : (i : Int) + 1 ≤ (n : Int) := by omega
  have q5 : (0 : Int) ≤ (i : Int) := by omega
  have q6 : (i : Int) ≤ (cap : Int) := by omega
  have be : ((i : Int) == (i : Int) + 1) = false := by simp; omega
  obtain ⟨p, hp⟩ : ∃ p, n - 1 = p := ⟨_, rfl⟩
  have he0 : i + (n - (i + 1)) = p := by omega
  have he1 : n - p = 1 := by omega
  have q7 : (0 : Int) ≤ (p : Int) := by omega
  have q8 : (p : Int) ≤ (n : Int) := by omega
  have q9 : (n : Int) ≤ (cap : Int) := by omega
  have q10 : ¬ cap = p := by omega
  have q11 : p ≤ n := by omega
  have q12 : n ≤ cap := hnc
  rw [hp] at hcl HR HT ⊢
  clear hrow ht2 hW1 hsrc hsp hone hnl hfin hend hb1 hb2 ht1 hnews hcur hbk hg htk hsz hL hlen hz
  go_enter Tryd.func21, Tryd.ntmps21
  go_wp2_with fail
  go_region_law (refine step_append_room rfl (.tmp 22) (.tmp 25) 34 rfl 37 i0 6 Tryd.underlying34 hi0 hz1 g 0 i cap (by simp [Act.eval, Act.put]) A (n - (i + 1)) (cap - (i + 1)) news (by simp [Act.eval, Act.put]) HN.out HS.out HO.out (by omega) HP.out ?_; rw [← HW.out])
  go_wp2_with fail
  go_ret
  exact ⟨rfl, HR.out, HT.out⟩
end Go.Proofs.YtloniibmmajlbaaDoor
