/- Letters and spans as bytes, forth and back: no program stands here. -/
import Derived.Test.YtfjpfkejajgkbaaHWireR
namespace Go.Proofs.Ytfjpfkejajgkbaa
open Go.RowKit
set_option linter.unusedVariables false
set_option linter.unusedSimpArgs false
theorem byteOf_small {n : Int} (h0 : 0 ≤ n) (h1 : n < 256) : ((byteOf n 0).toNat : Int) = n := by
  rw [byteOf_toNat]; simp only [Int.pow_zero]; omega
theorem getB_six' {n : Int} (h : timeW n = true) : getB (sixB n) = n := by
  obtain ⟨h0, h1⟩ := timeW_iff.1 h
  exact getB_six n h0 (by omega)
/-- a letter is read as it was. -/
theorem parB_letB {l : RLetter} (h : letC l = 0) : parB (letB l) = l := by
  obtain ⟨g1, g2, g3, g4, g5, g6, g7⟩ := letC_0 h
  obtain ⟨src, dst, ans, t1, t2, t⟩ := l
  dsimp only at g1 g2 g3 g4 g5 g7
  obtain ⟨s0, s1⟩ := nodeW_iff.1 g1
  obtain ⟨d0, d1⟩ := nodeW_iff.1 g2
  have e1 := byteOf_small s0 (by omega)
  have e2 := byteOf_small d0 (by omega)
  have e3 := getB_six' g3
  have e4 := getB_six' g4
  have e5 := getB_six' g5
  cases ans
  · obtain ⟨f1, f2⟩ := g7 rfl
    subst f1 f2
    have hL : letB ⟨src, dst, false, 0, 0, t⟩ = byteOf src 0 :: byteOf dst 0 :: 0 :: (sixB t ++ [lastB (bodyB ⟨src, dst, false, 0, 0, t⟩)]) := rfl
    have hl : (letB ⟨src, dst, false, 0, 0, t⟩).length = 10 := letB_len _
    unfold parB
    rw [hl, hL]
    simp only [List.getD_cons_zero, List.getD_cons_succ, List.drop_succ_cons, List.drop_zero]
    rw [show (sixB t ++ [lastB (bodyB ⟨src, dst, false, 0, 0, t⟩)]).take 6 = sixB t from rfl, e1, e2, e3]
    rfl
  · have hL : letB ⟨src, dst, true, t1, t2, t⟩ = byteOf src 0 :: byteOf dst 0 :: 1 :: (sixB t ++ (sixB t1 ++ (sixB t2 ++ [lastB (bodyB ⟨src, dst, true, t1, t2, t⟩)]))) := by
      unfold letB bodyB
      simp
    have hl : (letB ⟨src, dst, true, t1, t2, t⟩).length = 22 := letB_len _
    unfold parB
    rw [hl, hL]
    rw [show ((byteOf src 0 :: byteOf dst 0 :: 1 :: (sixB t ++ (sixB t1 ++ (sixB t2 ++ [lastB (bodyB ⟨src, dst, true, t1, t2, t⟩)])))).drop 9).take 6 = sixB t1 from rfl,
      show ((byteOf src 0 :: byteOf dst 0 :: 1 :: (sixB t ++ (sixB t1 ++ (sixB t2 ++ [lastB (bodyB ⟨src, dst, true, t1, t2, t⟩)])))).drop 15).take 6 = sixB t2 from rfl,
      show ((byteOf src 0 :: byteOf dst 0 :: 1 :: (sixB t ++ (sixB t1 ++ (sixB t2 ++ [lastB (bodyB ⟨src, dst, true, t1, t2, t⟩)])))).drop 3).take 6 = sixB t from rfl, e3, e4, e5]
    simp only [List.getD_cons_zero, List.getD_cons_succ, e1, e2, if_true]
    rfl
theorem readOk_letB {l : RLetter} (h : letC l = 0) : readOk (letB l) = true := by
  unfold readOk
  rw [parB_letB h]
  simp only [h, Bool.and_eq_true, Bool.or_eq_true, decide_eq_true_eq, and_true]
  rw [letB_len]
  split <;> simp
theorem readL_letB {l : RLetter} (h : letC l = 0) : readL (letB l) = l := by
  unfold readL; rw [if_pos (readOk_letB h)]; exact parB_letB h
theorem readC_letB {l : RLetter} (h : letC l = 0) : readC (letB l) = 0 := by
  unfold readC; rw [if_pos (readOk_letB h)]
/-- what is read right writes the same. -/
theorem readL_back {s : List UInt8} (h : readC s = 0) : letC (readL s) = 0 ∧ letB (readL s) = s := by
  unfold readC at h
  split at h
  · rename_i g
    have e : readL s = parB s := by unfold readL; rw [if_pos g]
    unfold readOk at g
    simp only [Bool.and_eq_true, decide_eq_true_eq] at g
    rw [e]
    exact g.2
  · omega
theorem sixB_getB {l : List UInt8} (h : l.length = 6) : sixB (getB l) = l := by
  obtain ⟨a, b, c, d, e, f, rfl⟩ := list6 h
  have h1 := a.toNat_lt
  have h2 := b.toNat_lt
  have h3 := c.toNat_lt
  have h4 := d.toNat_lt
  have h5 := e.toNat_lt
  have h6 := f.toNat_lt
  have q : ∀ (x : UInt8) (n : Int) (i : Nat), (x.toNat : Int) = n / 256 ^ i % 256 → byteOf n i = x := fun x n i hx => by
    apply UInt8.toNat_inj.1
    have := byteOf_toNat n i
    omega
  simp only [sixB, getB, List.foldl_cons, List.foldl_nil]
  rw [q a _ 5 (by simp only [Int.reducePow]; omega), q b _ 4 (by simp only [Int.reducePow]; omega), q c _ 3 (by simp only [Int.reducePow]; omega), q d _ 2 (by simp only [Int.reducePow]; omega), q e _ 1 (by simp only [Int.reducePow]; omega), q f _ 0 (by simp only [Int.pow_zero]; omega)]
theorem spanB_len (a b : Int) : (spanB a b).length = 12 := rfl
theorem readS_spanB {a b : Int} (h : rightB a b = true) : readS (spanB a b) = ⟨a, b, 0⟩ := by
  obtain ⟨g1, g2, g3⟩ := rightB_iff.1 h
  have e : parS (spanB a b) = (a, b) := by
    unfold parS
    rw [show (spanB a b).take 6 = sixB (a + 1000000000000) from rfl, show ((spanB a b).drop 6).take 6 = sixB (b + 1000000000000) from rfl, getB_six _ (by omega) (by omega), getB_six _ (by omega) (by omega)]
    congr 1 <;> omega
  unfold readS readSOk
  rw [e, spanB_len]
  simp [h]
theorem readS_back {s : List UInt8} (h : (readS s).c = 0) : rightB (readS s).lo (readS s).hi = true ∧ spanB (readS s).lo (readS s).hi = s := by
  have g : readSOk s = true := by
    unfold readS at h
    split at h
    · assumption
    · simp at h
  have e : readS s = ⟨(parS s).1, (parS s).2, 0⟩ := by unfold readS; rw [if_pos g]
  unfold readSOk at g
  simp only [Bool.and_eq_true, decide_eq_true_eq] at g
  rw [e]
  refine ⟨g.2, ?_⟩
  dsimp only
  unfold spanB parS
  rw [show getB (s.take 6) - 1000000000000 + 1000000000000 = getB (s.take 6) by omega, show getB ((s.drop 6).take 6) - 1000000000000 + 1000000000000 = getB ((s.drop 6).take 6) by omega]
  have l1 : (s.take 6).length = 6 := by rw [List.length_take]; omega
  have l2 : ((s.drop 6).take 6).length = 6 := by rw [List.length_take, List.length_drop]; omega
  rw [sixB_getB l1, sixB_getB l2]
  have : (s.drop 6).take 6 = s.drop 6 := List.take_of_length_le (by rw [List.length_drop]; omega)
  rw [this, List.take_append_drop]
end Go.Proofs.Ytfjpfkejajgkbaa
