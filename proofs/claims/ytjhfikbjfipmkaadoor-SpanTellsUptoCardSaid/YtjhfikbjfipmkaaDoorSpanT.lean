/- Numbers and spans as text, on bytes: what the program reads and writes; what was written is read as it was. -/
import Derived.Test.YtjhfikbjfipmkaaDoorPlain
import Derived.Lib.AtoiTie
import Derived.Lib.ItoaMem
import Derived.Lib.ItoaLen
import Derived.Lib.IndexMore
namespace Go.Proofs.YtjhfikbjfipmkaaDoor
open Go.Lib
set_option linter.unusedVariables false
set_option linter.unusedSimpArgs false
def atoV (l : List UInt8) : Int := match atoiAll l with
  | .ok v => v
  | .range => atoiSat l
  | _ => 0
def atoOk (l : List UInt8) : Bool := match atoiAll l with
  | .ok _ => true
  | _ => false
def longN (l : List UInt8) : Int := if atoV l < 0 then (l.length : Int) - 1 else (l.length : Int)
def sameL (a b : List UInt8) : Bool := decide (a = b)
def shortN (l : List UInt8) : Bool := decide (longN l ≤ 13)
def backN (l : List UInt8) : Bool := sameL (itoa (atoV l)) l
def numOk (l : List UInt8) : Bool := atoOk l && shortN l && backN l
def dots : List UInt8 := [46, 46]
def printL (lo hi : Int) : List UInt8 := itoa lo ++ dots ++ itoa hi
def printS (lo hi : Int) : List UInt8 := if rightB lo hi = true then printL lo hi else []
def cutA (l : List UInt8) : List UInt8 := (cut l dots).1
def cutB (l : List UInt8) : List UInt8 := (cut l dots).2.1
def cutIs (l : List UInt8) : Bool := (cut l dots).2.2
def parseS (l : List UInt8) : SE := if (cutIs l && numOk (cutA l) && numOk (cutB l)) = true then whole (atoV (cutA l)) (atoV (cutB l)) else ⟨0, 0, 2⟩
theorem atoV_in (l : List UInt8) : -9223372036854775808 ≤ atoV l ∧ atoV l ≤ 9223372036854775807 := by
  unfold atoV
  split
  · rename_i v h
    exact atoiAll_bounds h
  · unfold atoiSat
    split <;> omega
  · omega
/- the digits -/
theorem decDigits_ne (u : Nat) : decDigits u ≠ [] := by
  rw [decDigits]
  split <;> simp
theorem digit_at (d : Nat) (h : d < 10) : digitVal (UInt8.ofNat (48 + d)) = some d := by
  have hc : d = 0 ∨ d = 1 ∨ d = 2 ∨ d = 3 ∨ d = 4 ∨ d = 5 ∨ d = 6 ∨ d = 7 ∨ d = 8 ∨ d = 9 := by omega
  rcases hc with rfl | rfl | rfl | rfl | rfl | rfl | rfl | rfl | rfl | rfl <;> decide
theorem decFrom_append (l r : List UInt8) : ∀ acc, decFrom acc (l ++ r) = (decFrom acc l).bind fun n => decFrom n r := by
  induction l with
  | nil => intro acc; rfl
  | cons b l ih =>
    intro acc
    simp only [List.cons_append, decFrom]
    cases digitVal b with
    | none => rfl
    | some d => exact ih _
theorem decFrom_digits (u : Nat) : decFrom 0 (decDigits u) = some u := by
  induction u using Nat.strongRecOn with
  | _ u ih =>
    rw [decDigits]
    split
    · rename_i h
      simp only [decFrom, digit_at u h]
      rw [Nat.zero_mul, Nat.zero_add]
    · rename_i h
      rw [decFrom_append, ih (u / 10) (by omega)]
      simp only [Option.bind_some, decFrom, digit_at (u % 10) (Nat.mod_lt _ (by decide))]
      rw [show u / 10 * 10 + u % 10 = u by omega]
theorem decNat_digits (u : Nat) : decNat (decDigits u) = some u := by
  unfold decNat
  rw [if_neg (by simp [decDigits_ne]), decFrom_digits]
theorem digits_range (u : Nat) : ∀ c ∈ decDigits u, 48 ≤ c.toNat ∧ c.toNat ≤ 57 := by
  induction u using Nat.strongRecOn with
  | _ u ih =>
    have one : ∀ d, d < 10 → 48 ≤ (UInt8.ofNat (48 + d)).toNat ∧ (UInt8.ofNat (48 + d)).toNat ≤ 57 := by
      intro d h
      have e : (UInt8.ofNat (48 + d)).toNat = 48 + d := by simp; omega
      omega
    intro c hc
    rw [decDigits] at hc
    split at hc
    · rename_i h
      rw [List.mem_singleton] at hc
      subst hc
      exact one u h
    · rename_i h
      rcases List.mem_append.1 hc with h1 | h1
      · exact ih (u / 10) (by omega) c h1
      · rw [List.mem_singleton] at h1
        subst h1
        exact one (u % 10) (Nat.mod_lt _ (by decide))
theorem itoa_no46 (n : Int) : (46 : UInt8) ∉ itoa n := by
  intro h
  unfold itoa at h
  split at h
  · rcases List.mem_cons.1 h with h1 | h1
    · exact absurd h1 (by decide)
    · exact absurd (digits_range _ _ h1) (by decide)
  · exact absurd (digits_range _ _ h) (by decide)
theorem atoi_itoa (n : Int) : atoi (itoa n) = some n := by
  unfold itoa
  split
  · rename_i h
    have e : atoi (45 :: decDigits n.natAbs) = (decNat (decDigits n.natAbs)).map fun (m : Nat) => -(m : Int) := rfl
    rw [e, decNat_digits]
    simp only [Option.map_some]
    congr 1
    omega
  · rename_i h
    have hne := decDigits_ne n.toNat
    have hr := digits_range n.toNat
    have hd := decNat_digits n.toNat
    cases hl : decDigits n.toNat with
    | nil => exact absurd hl hne
    | cons c r =>
      rw [hl] at hr hd
      have hc := hr c (List.mem_cons_self ..)
      have h1 : (c == 45) = false := by
        rw [beq_eq_false_iff_ne]
        rintro rfl
        exact absurd hc (by decide)
      have h2 : (c == 43) = false := by
        rw [beq_eq_false_iff_ne]
        rintro rfl
        exact absurd hc (by decide)
      have e : atoi (c :: r) = if (c == 45) = true then (decNat r).map (fun (m : Nat) => -(m : Int)) else if (c == 43) = true then (decNat r).map (fun (m : Nat) => (m : Int)) else (decNat (c :: r)).map (fun (m : Nat) => (m : Int)) := rfl
      rw [e, h1, h2, if_neg (by decide), if_neg (by decide), hd]
      simp only [Option.map_some]
      congr 1
      omega
theorem nDigits_13 (u : Nat) (h : u ≤ 1000000000000) : nDigits u ≤ 13 := by
  rcases Nat.eq_zero_or_pos u with rfl | h1
  · rw [nDigits_small (by omega)]; omega
  · rcases Nat.lt_or_ge 13 (nDigits u) with h2 | h2
    · exfalso
      have key : ∀ k v, nDigits v = k + 1 → 1 ≤ v → 10 ^ k ≤ v := by
        intro k
        induction k with
        | zero => intro v _ hv; simpa using hv
        | succ k ih =>
          intro v hv _
          by_cases hs : v < 10
          · rw [nDigits_small hs] at hv; omega
          · rw [nDigits_big hs] at hv
            have h3 := ih (v / 10) (by omega) (by omega)
            rw [Nat.pow_succ]
            omega
      have h4 := key (nDigits u - 1) u (by omega) h1
      have h5 : 10 ^ 13 ≤ 10 ^ (nDigits u - 1) := Nat.pow_le_pow_right (by decide) (by omega)
      have h6 : (10 : Nat) ^ 13 = 10000000000000 := by decide
      omega
    · exact h2
theorem itoa_len (n : Int) (h0 : -1000000000000 ≤ n) (h1 : n ≤ 1000000000000) : (if n < 0 then ((itoa n).length : Int) - 1 else ((itoa n).length : Int)) ≤ 13 := by
  unfold itoa
  split
  · rename_i h
    rw [List.length_cons, decDigits_length]
    have := nDigits_13 n.natAbs (by omega)
    omega
  · rename_i h
    rw [decDigits_length]
    have := nDigits_13 n.toNat (by omega)
    omega
theorem ato_itoa (n : Int) (h0 : -1000000000000 ≤ n) (h1 : n ≤ 1000000000000) : atoiAll (itoa n) = .ok n := by
  have hl := itoa_len n h0 h1
  rw [atoiAll_short _ (by split at hl <;> omega), atoi_itoa]
  rfl
theorem atoV_itoa (n : Int) (h0 : -1000000000000 ≤ n) (h1 : n ≤ 1000000000000) : atoV (itoa n) = n := by
  unfold atoV
  rw [ato_itoa n h0 h1]
theorem numOk_itoa (n : Int) (h0 : -1000000000000 ≤ n) (h1 : n ≤ 1000000000000) : numOk (itoa n) = true := by
  have hl := itoa_len n h0 h1
  unfold numOk atoOk shortN backN sameL longN
  rw [ato_itoa n h0 h1, atoV_itoa n h0 h1]
  simp [hl]
/- the cut -/
theorem cut_at (a b : List UInt8) (h : (46 : UInt8) ∉ a) : cut (a ++ dots ++ b) dots = (a, b, true) := by
  have hi : index (a ++ dots ++ b) dots = (a.length : Int) := by
    refine index_first (by simp) ?_ ?_
    · simp [occAt, dots]
    · intro j hj
      unfold occAt dots
      cases hd : (a ++ [46, 46] ++ b).drop j with
      | nil => rfl
      | cons c r =>
        have hc : c ∈ a := by
          have h1 : (a ++ [46, 46] ++ b)[j]? = some c := by
            have := List.getElem?_drop (xs := a ++ [46, 46] ++ b) (i := j) (j := 0)
            rw [hd] at this
            simpa using this.symm
          rw [List.append_assoc, List.getElem?_append_left (by omega)] at h1
          exact List.mem_of_getElem? h1
        have hne : ((46 : UInt8) == c) = false := by
          rw [beq_eq_false_iff_ne]
          rintro rfl
          exact h hc
        show ((46 : UInt8) == c && [46].isPrefixOf r) = false
        rw [hne]
        rfl
  unfold cut
  rw [hi, if_pos (by omega)]
  simp [dots]
theorem cut_parts (l : List UInt8) (h : cutIs l = true) : cutA l ++ dots ++ cutB l = l := by
  unfold cutIs cutA cutB cut at *
  rcases index_spec l dots with ⟨h1, _⟩ | ⟨i, h1, h2, h3, _⟩
  · rw [h1] at h
    simp at h
  · rw [h1, if_pos (by omega)]
    have e1 : ((i : Int)).toNat = i := by omega
    simp only [e1]
    unfold occAt at h3
    rw [List.isPrefixOf_iff_prefix] at h3
    obtain ⟨r, hr⟩ := h3
    have h4 : l.drop (i + dots.length) = r := by
      rw [← List.drop_drop, ← hr]
      exact List.drop_left
    rw [h4, List.append_assoc, hr, List.take_append_drop]
theorem cut_len (l : List UInt8) : (cutA l).length ≤ l.length ∧ (cutB l).length ≤ l.length := by
  unfold cutA cutB cut
  split
  · simp only [List.length_take, List.length_drop]
    omega
  · simp
/- what was written is read as it was, and the other way round -/
theorem parse_print (lo hi : Int) (h : rightB lo hi = true) : parseS (printL lo hi) = ⟨lo, hi, 0⟩ := by
  obtain ⟨g1, g2, g3⟩ := rightB_iff.1 h
  have hc := cut_at (itoa lo) (itoa hi) (itoa_no46 lo)
  have ha : cutA (printL lo hi) = itoa lo := by unfold cutA printL; rw [hc]
  have hb : cutB (printL lo hi) = itoa hi := by unfold cutB printL; rw [hc]
  have hi' : cutIs (printL lo hi) = true := by unfold cutIs printL; rw [hc]
  unfold parseS
  rw [ha, hb, hi', numOk_itoa lo (by omega) (by omega), numOk_itoa hi (by omega) (by omega), if_pos (by rfl), atoV_itoa lo (by omega) (by omega), atoV_itoa hi (by omega) (by omega)]
  unfold whole
  rw [if_pos h]
theorem numOk_back {l : List UInt8} (h : numOk l = true) : itoa (atoV l) = l := by
  unfold numOk backN sameL at h
  simp only [Bool.and_eq_true, decide_eq_true_eq] at h
  exact h.2
theorem parse_back (l : List UInt8) (h : (parseS l).c = 0) : rightB (parseS l).lo (parseS l).hi = true ∧ printL (parseS l).lo (parseS l).hi = l := by
  unfold parseS at *
  split at h
  · rename_i hk
    rw [if_pos hk]
    simp only [Bool.and_eq_true] at hk
    unfold whole at *
    split at h
    · rename_i hr
      rw [if_pos hr]
      refine ⟨hr, ?_⟩
      show printL (atoV (cutA l)) (atoV (cutB l)) = l
      unfold printL
      rw [numOk_back hk.1.2, numOk_back hk.2]
      exact cut_parts l hk.1.1
    · cases h
  · cases h
end Go.Proofs.YtjhfikbjfipmkaaDoor
