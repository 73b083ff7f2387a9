/- Letters and spans as bytes, in plain Lean: no program stands here. -/
import Derived.Test.YtfjpfkejajgkbaaHG1
import Derived.Laws.IdiomStrings
import Derived.OwnWalk
import Derived.Deep.DeepCutAuto
import Derived.Laws.BitsAllLaws
namespace Go.Proofs.Ytfjpfkejajgkbaa
open Go.RowKit
set_option linter.unusedVariables false
set_option linter.unusedSimpArgs false
def byteOf (n : Int) (i : Nat) : UInt8 := UInt8.ofNat (n / 256 ^ i % 256).toNat
theorem byteOf_toNat (n : Int) (i : Nat) : ((byteOf n i).toNat : Int) = n / 256 ^ i % 256 := by
  unfold byteOf
  have h1 := Int.emod_nonneg (n / 256 ^ i) (show (256 : Int) ≠ 0 by omega)
  have h2 := Int.emod_lt_of_pos (n / 256 ^ i) (show (0 : Int) < 256 by omega)
  rw [UInt8.toNat_ofNat_of_lt' (by simp [UInt8.size]; omega)]
  omega
def sixB (n : Int) : List UInt8 := [byteOf n 5, byteOf n 4, byteOf n 3, byteOf n 2, byteOf n 1, byteOf n 0]
theorem sixB_len (n : Int) : (sixB n).length = 6 := rfl
def byteVs (l : List UInt8) : List Value := l.map fun b => .int .u8 (b.toNat : Int)
theorem byteVs_len (l : List UInt8) : (byteVs l).length = l.length := by simp [byteVs]
theorem byteVs_app (l m : List UInt8) : byteVs (l ++ m) = byteVs l ++ byteVs m := by simp [byteVs]
def getB : List UInt8 → Int := List.foldl (fun n c => n * 256 + c.toNat) 0
def timeW (n : Int) : Bool := decide (0 ≤ n) && decide (n ≤ 1000000000000)
theorem timeW_iff {n : Int} : timeW n = true ↔ 0 ≤ n ∧ n ≤ 1000000000000 := by simp [timeW]
def nodeW (n : Int) : Bool := decide (0 ≤ n) && decide (n ≤ 5)
theorem nodeW_iff {n : Int} : nodeW n = true ↔ 0 ≤ n ∧ n ≤ 5 := by simp [nodeW]
def letC (l : RLetter) : Int :=
  if nodeW l.src = true ∧ nodeW l.dst = true ∧ timeW l.t = true ∧ timeW l.t1 = true ∧ timeW l.t2 = true then
    (if l.src = l.dst ∨ (l.answer = false ∧ (l.t1 ≠ 0 ∨ l.t2 ≠ 0)) then 3 else 0) else 1
theorem letC_0 {l : RLetter} (h : letC l = 0) : nodeW l.src = true ∧ nodeW l.dst = true ∧ timeW l.t = true ∧ timeW l.t1 = true ∧ timeW l.t2 = true ∧ l.src ≠ l.dst ∧ (l.answer = false → l.t1 = 0 ∧ l.t2 = 0) := by
  unfold letC at h
  split at h
  · rename_i g
    split at h
    · omega
    · rename_i g2
      refine ⟨g.1, g.2.1, g.2.2.1, g.2.2.2.1, g.2.2.2.2, fun e => g2 (.inl e), fun e => ?_⟩
      constructor
      · apply Decidable.byContradiction; intro h1; exact g2 (.inr ⟨e, .inl h1⟩)
      · apply Decidable.byContradiction; intro h1; exact g2 (.inr ⟨e, .inr h1⟩)
  · omega
theorem letC_013 (l : RLetter) : letC l = 0 ∨ letC l = 1 ∨ letC l = 3 := by
  unfold letC; split
  · split <;> simp
  · simp
def sumB (l : List UInt8) : Int := l.foldl (fun n c => n + c.toNat) 0
theorem sumB_go (l : List UInt8) : ∀ a : Int, l.foldl (fun n c => n + (c.toNat : Int)) a = a + sumB l := by
  induction l with
  | nil => intro a; simp [sumB]
  | cons c l ih =>
    intro a
    simp only [sumB, List.foldl_cons]
    rw [ih, ih]; omega
theorem sumB_cons (c : UInt8) (l : List UInt8) : sumB (c :: l) = c.toNat + sumB l := by
  unfold sumB; rw [List.foldl_cons, sumB_go]; unfold sumB; omega
theorem sumB_bd (l : List UInt8) : 0 ≤ sumB l ∧ sumB l ≤ 255 * l.length := by
  induction l with
  | nil => simp [sumB]
  | cons c l ih =>
    rw [sumB_cons]
    have := c.toNat_lt
    simp only [List.length_cons]
    omega
theorem sumB_snoc (l : List UInt8) (c : UInt8) : sumB (l ++ [c]) = sumB l + c.toNat := by
  unfold sumB; rw [List.foldl_append]; rfl
def bodyB (l : RLetter) : List UInt8 :=
  [byteOf l.src 0, byteOf l.dst 0, if l.answer = true then 1 else 0] ++ sixB l.t ++ (if l.answer = true then sixB l.t1 ++ sixB l.t2 else [])
def lastB (l : List UInt8) : UInt8 := byteOf (sumB l % 251) 0
def letB (l : RLetter) : List UInt8 := bodyB l ++ [lastB (bodyB l)]
theorem bodyB_len (l : RLetter) : (bodyB l).length = if l.answer = true then 21 else 9 := by
  unfold bodyB; split <;> simp [sixB_len]
theorem letB_len (l : RLetter) : (letB l).length = if l.answer = true then 22 else 10 := by
  unfold letB; rw [List.length_append, bodyB_len]; split <;> simp
def letS (l : RLetter) : ByteArray := if letC l = 0 then ⟨(letB l).toArray⟩ else ⟨#[]⟩
/-- the letter that bytes are, if they are one; else all is 0. -/
def parB (s : List UInt8) : RLetter :=
  ⟨(s.getD 0 0).toNat, (s.getD 1 0).toNat, s.getD 2 0 == 1, if s.length = 22 then getB ((s.drop 9).take 6) else 0, if s.length = 22 then getB ((s.drop 15).take 6) else 0, getB ((s.drop 3).take 6)⟩
def zeroL : RLetter := ⟨0, 0, false, 0, 0, 0⟩
def readOk (s : List UInt8) : Bool := (decide (s.length = 10) || decide (s.length = 22)) && (decide (letC (parB s) = 0) && decide (letB (parB s) = s))
def readL (s : List UInt8) : RLetter := if readOk s = true then parB s else zeroL
def readC (s : List UInt8) : Int := if readOk s = true then 0 else 2
def spanB (a b : Int) : List UInt8 := sixB (a + 1000000000000) ++ sixB (b + 1000000000000)
def spanS (a b : Int) : ByteArray := if rightB a b = true then ⟨(spanB a b).toArray⟩ else ⟨#[]⟩
def parS (s : List UInt8) : Int × Int := (getB (s.take 6) - 1000000000000, getB ((s.drop 6).take 6) - 1000000000000)
def readSOk (s : List UInt8) : Bool := decide (s.length = 12) && rightB (parS s).1 (parS s).2
def readS (s : List UInt8) : SE := if readSOk s = true then ⟨(parS s).1, (parS s).2, 0⟩ else ⟨0, 0, 2⟩
theorem getB_go (l : List UInt8) : ∀ a : Int, l.foldl (fun n c => n * 256 + (c.toNat : Int)) a = a * 256 ^ l.length + getB l := by
  induction l with
  | nil => intro a; simp [getB]
  | cons c l ih =>
    intro a
    simp only [getB, List.foldl_cons, List.length_cons]
    rw [ih, ih, Int.pow_succ]
    generalize (256 : Int) ^ l.length = p
    rw [Int.add_mul, Int.add_mul, Int.mul_assoc, Int.mul_comm 256 p]
    simp
    omega
theorem getB_snoc (l : List UInt8) (c : UInt8) : getB (l ++ [c]) = getB l * 256 + c.toNat := by
  unfold getB; rw [List.foldl_append]; rfl
theorem getB_cons (c : UInt8) (l : List UInt8) : getB (c :: l) = c.toNat * 256 ^ l.length + getB l := by
  have h := getB_go l (0 * 256 + c.toNat)
  rw [show getB (c :: l) = l.foldl (fun n c => n * 256 + (c.toNat : Int)) (0 * 256 + c.toNat) from rfl, h]
  simp
theorem getB_bd (l : List UInt8) : 0 ≤ getB l ∧ getB l < 256 ^ l.length := by
  induction l with
  | nil => simp [getB]
  | cons c l ih =>
    rw [getB_cons, List.length_cons, Int.pow_succ]
    have := c.toNat_lt
    generalize (256 : Int) ^ l.length = p at ih ⊢
    have h1 := mul_bd (n := (c.toNat : Int)) (q := p) (A := 255) (B := p) (by omega) (by omega) (by omega) (by omega)
    omega
theorem getB_six (n : Int) (h0 : 0 ≤ n) (h1 : n < 281474976710656) : getB (sixB n) = n := by
  simp only [getB, sixB, List.foldl_cons, List.foldl_nil, byteOf_toNat]
  omega
theorem sixB_inj {n m : Int} (h0 : 0 ≤ n) (h1 : n < 281474976710656) (h2 : 0 ≤ m) (h3 : m < 281474976710656) (h : sixB n = sixB m) : n = m := by
  rw [← getB_six n h0 h1, h, getB_six m h2 h3]
end Go.Proofs.Ytfjpfkejajgkbaa
