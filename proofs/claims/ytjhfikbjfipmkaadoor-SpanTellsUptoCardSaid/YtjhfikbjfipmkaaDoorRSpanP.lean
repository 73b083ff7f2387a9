/- The reference's reading of a number is the program's, in plain Lean. -/
import Derived.Test.YtjhfikbjfipmkaaDoorSpanT
namespace Go.Proofs.YtjhfikbjfipmkaaDoor
open Go.Lib
set_option linter.unusedVariables false
set_option linter.unusedSimpArgs false
def digR (c : UInt8) : Bool := decide (48 ≤ c.toNat) && decide (c.toNat ≤ 57)
def valR (l : List UInt8) : Int := l.foldl (fun n c => n * 10 + ((c.toNat : Int) - 48)) 0
def allR (l : List UInt8) : Bool := l.all digR
theorem valR_snoc (l : List UInt8) (c : UInt8) : valR (l ++ [c]) = valR l * 10 + ((c.toNat : Int) - 48) := by simp [valR]
theorem allR_snoc (l : List UInt8) (c : UInt8) : allR (l ++ [c]) = (allR l && digR c) := by simp [allR]
theorem take_snoc_r {l : List UInt8} {k : Nat} (h : k < l.length) : l.take (k + 1) = l.take k ++ [l.getD k 0] := by
  rw [List.take_succ_eq_append_getElem h, List.getD_eq_getElem?_getD, List.getElem?_eq_getElem h]; rfl
theorem allR_take {l : List UInt8} {k : Nat} (h : allR (l.take k) = false) : allR l = false := by
  cases hb : allR l with
  | false => rfl
  | true =>
    have : allR (l.take k) = true := by
      unfold allR at hb ⊢
      rw [List.all_eq_true] at hb ⊢
      exact fun x hx => hb x (List.mem_of_mem_take hx)
    rw [this] at h; cases h
theorem digR_iff (c : UInt8) : digR c = true ↔ 48 ≤ (c.toNat : Int) ∧ (c.toNat : Int) ≤ 57 := by unfold digR; simp; omega
def lessR (l : List UInt8) : Bool := decide (1 < l.length) && decide (((l.getD 0 0).toNat : Int) = 45)
def bodyR (l : List UInt8) : List UInt8 := if lessR l = true then l.drop 1 else l
def zeroR (less : Bool) (d : List UInt8) : Bool := decide (((d.getD 0 0).toNat : Int) = 48) && (decide (1 < d.length) || less)
def goodR (less : Bool) (d : List UInt8) : Bool := !(decide (d.length = 0) || (decide (13 < d.length) || zeroR less d)) && allR d
def signR (less : Bool) (n : Int) : Int := if less = true then -n else n
def numRB (l : List UInt8) : Bool := goodR (lessR l) (bodyR l)
def numRV (l : List UInt8) : Int := if numRB l = true then signR (lessR l) (valR (bodyR l)) else 0
theorem ato_itoa_len (n : Int) (hl : (if n < 0 then ((itoa n).length : Int) - 1 else ((itoa n).length : Int)) ≤ 13) : atoiAll (itoa n) = .ok n := by
  rw [atoiAll_short _ (by split at hl <;> omega), atoi_itoa]
  rfl
theorem atoV_itoa_len (n : Int) (hl : (if n < 0 then ((itoa n).length : Int) - 1 else ((itoa n).length : Int)) ≤ 13) : atoV (itoa n) = n := by
  unfold atoV
  rw [ato_itoa_len n hl]
theorem numOk_itoa_len (n : Int) (hl : (if n < 0 then ((itoa n).length : Int) - 1 else ((itoa n).length : Int)) ≤ 13) : numOk (itoa n) = true := by
  unfold numOk atoOk shortN backN sameL longN
  rw [ato_itoa_len n hl, atoV_itoa_len n hl]
  simp [hl]
theorem dig_nat {c : UInt8} (h : digR c = true) : 48 ≤ c.toNat ∧ c.toNat ≤ 57 := by
  unfold digR at h
  simpa using h
theorem dig_back {c : UInt8} {k : Nat} (hk : c.toNat = 48 + k) (h : k < 10) : UInt8.ofNat (48 + k) = c := by
  apply UInt8.toNat_inj.1
  have e : (UInt8.ofNat (48 + k)).toNat = 48 + k := by simp; omega
  omega
theorem digits_take (d : List UInt8) (hb : allR d = true) (h0 : 0 < d.length) (hz : ¬ (((d.getD 0 0).toNat : Int) = 48 ∧ 1 < d.length)) :
    ∀ k, k < d.length → 0 ≤ valR (d.take (k + 1)) ∧ decDigits (valR (d.take (k + 1))).toNat = d.take (k + 1) := by
  have hdig : ∀ k, k < d.length → digR (d.getD k 0) = true := by
    intro k hk
    rw [allR, List.all_eq_true] at hb
    rw [List.getD_eq_getElem?_getD, List.getElem?_eq_getElem hk]
    exact hb _ (List.getElem_mem ..)
  intro k
  induction k with
  | zero =>
    intro hk
    obtain ⟨g1, g2⟩ := dig_nat (hdig 0 hk)
    rw [take_snoc_r hk, valR_snoc]
    simp only [List.take_zero, List.nil_append]
    have e : valR [] * 10 + (((d.getD 0 0).toNat : Int) - 48) = (((d.getD 0 0).toNat - 48 : Nat) : Int) := by
      show (0 : Int) * 10 + _ = _
      omega
    rw [e]
    refine ⟨by omega, ?_⟩
    rw [Int.toNat_natCast, decDigits_one (by omega)]
    rw [dig_back (c := d.getD 0 0) (by omega) (by omega)]
  | succ k ih =>
    intro hk
    obtain ⟨i1, i2⟩ := ih (by omega)
    obtain ⟨g1, g2⟩ := dig_nat (hdig (k + 1) hk)
    rw [take_snoc_r hk, valR_snoc]
    obtain ⟨u, eu⟩ : ∃ u : Nat, valR (d.take (k + 1)) = u := ⟨_, (Int.toNat_of_nonneg i1).symm⟩
    rw [eu, Int.toNat_natCast] at i2
    rw [eu]
    obtain ⟨c, ec⟩ : ∃ c : Nat, (d.getD (k + 1) 0).toNat = 48 + c := ⟨(d.getD (k + 1) 0).toNat - 48, by omega⟩
    have hu : u ≠ 0 := by
      rintro rfl
      rw [decDigits_one (by omega)] at i2
      apply hz
      refine ⟨?_, by omega⟩
      have h1 : (d.take (k + 1)).getD 0 0 = d.getD 0 0 := by
        rw [List.getD_eq_getElem?_getD, List.getD_eq_getElem?_getD, List.getElem?_take, if_pos (by omega)]
      rw [← h1, ← i2]
      rfl
    have e : (u : Int) * 10 + (((d.getD (k + 1) 0).toNat : Int) - 48) = ((u * 10 + c : Nat) : Int) := by omega
    rw [e]
    refine ⟨by omega, ?_⟩
    rw [Int.toNat_natCast, decDigits, dif_neg (by omega), show (u * 10 + c) / 10 = u by omega, show (u * 10 + c) % 10 = c by omega, i2, dig_back ec (by omega)]
theorem digits_all (d : List UInt8) (hb : allR d = true) (h0 : 0 < d.length) (hz : ¬ (((d.getD 0 0).toNat : Int) = 48 ∧ 1 < d.length)) : ∃ u : Nat, valR d = u ∧ decDigits u = d := by
  obtain ⟨h1, h2⟩ := digits_take d hb h0 hz (d.length - 1) (by omega)
  rw [show d.length - 1 + 1 = d.length by omega, List.take_length] at h1 h2
  exact ⟨(valR d).toNat, (Int.toNat_of_nonneg h1).symm, h2⟩
theorem allR_digits (u : Nat) : allR (decDigits u) = true := by
  rw [allR, List.all_eq_true]
  intro c hc
  have h := digits_range u c hc
  unfold digR
  simp
  exact h
theorem valR_digits (u : Nat) : valR (decDigits u) = u := by
  induction u using Nat.strongRecOn with
  | _ u ih =>
    rw [decDigits]
    split
    · rename_i h
      have e : (UInt8.ofNat (48 + u)).toNat = 48 + u := by simp; omega
      show (0 : Int) * 10 + (((UInt8.ofNat (48 + u)).toNat : Int) - 48) = u
      omega
    · rename_i h
      have e : (UInt8.ofNat (48 + u % 10)).toNat = 48 + u % 10 := by simp; omega
      rw [valR_snoc, ih (u / 10) (by omega)]
      omega
theorem digits_len (u : Nat) : 0 < (decDigits u).length := List.length_pos_iff.2 (decDigits_ne u)
theorem digits_head (u : Nat) (h : (((decDigits u).getD 0 0).toNat : Int) = 48) : u = 0 := by
  induction u using Nat.strongRecOn with
  | _ u ih =>
    rw [decDigits] at h
    split at h
    · rename_i h9
      have e : (UInt8.ofNat (48 + u)).toNat = 48 + u := by simp; omega
      have h2 : ((UInt8.ofNat (48 + u)).toNat : Int) = 48 := h
      omega
    · rename_i h9
      have hl := digits_len (u / 10)
      have e : (decDigits (u / 10) ++ [UInt8.ofNat (48 + u % 10)]).getD 0 0 = (decDigits (u / 10)).getD 0 0 := by
        rw [List.getD_eq_getElem?_getD, List.getD_eq_getElem?_getD, List.getElem?_append_left hl]
      rw [e] at h
      have := ih (u / 10) (by omega) h
      omega
theorem digits_first (u : Nat) : 48 ≤ ((decDigits u).getD 0 0).toNat ∧ ((decDigits u).getD 0 0).toNat ≤ 57 := by
  have hl := digits_len u
  rw [List.getD_eq_getElem?_getD, List.getElem?_eq_getElem hl]
  exact digits_range u _ (List.getElem_mem ..)
theorem itoa_pos (u : Nat) : itoa (u : Int) = decDigits u := itoa_nonneg u
/-- what the program takes for a number is what the reference takes for one -/
theorem num_of (l : List UInt8) (h : numOk l = true) : numRB l = true ∧ numRV l = atoV l := by
  have hb := numOk_back h
  have hs : longN l ≤ 13 := by
    unfold numOk shortN at h
    simp only [Bool.and_eq_true, decide_eq_true_eq] at h
    exact h.1.2
  unfold longN at hs
  obtain ⟨v, ev⟩ : ∃ v, atoV l = v := ⟨_, rfl⟩
  rw [ev] at hb hs ⊢
  suffices hk : numRB l = true ∧ signR (lessR l) (valR (bodyR l)) = v by
    refine ⟨hk.1, ?_⟩
    unfold numRV
    rw [if_pos hk.1, hk.2]
  by_cases hn : v < 0
  · obtain ⟨u, rfl⟩ : ∃ u : Nat, v = -(u : Int) := ⟨v.natAbs, by omega⟩
    rw [itoa_neg u (by omega)] at hb
    subst hb
    rw [if_pos hn, List.length_cons] at hs
    have hl := digits_len u
    have e1 : lessR (45 :: decDigits u) = true := by
      unfold lessR
      rw [decide_eq_true (by rw [List.length_cons]; omega)]
      rfl
    have e2 : bodyR (45 :: decDigits u) = decDigits u := by unfold bodyR; rw [if_pos e1]; rfl
    unfold numRB
    rw [e2, e1]
    refine ⟨?_, by unfold signR; rw [if_pos rfl, valR_digits]⟩
    unfold goodR zeroR
    have h3 : ¬ (((decDigits u).getD 0 0).toNat : Int) = 48 := fun h => by have := digits_head u h; omega
    rw [allR_digits, decide_eq_false h3, decide_eq_false (show ¬ (decDigits u).length = 0 by omega), decide_eq_false (show ¬ 13 < (decDigits u).length by omega)]
    rfl
  · obtain ⟨u, rfl⟩ : ∃ u : Nat, v = (u : Int) := ⟨v.toNat, by omega⟩
    rw [itoa_pos u] at hb
    subst hb
    rw [if_neg hn] at hs
    have hl := digits_len u
    have hf := digits_first u
    have e1 : lessR (decDigits u) = false := by
      unfold lessR
      rw [decide_eq_false (p := (((decDigits u).getD 0 0).toNat : Int) = 45) (by omega), Bool.and_false]
    have e2 : bodyR (decDigits u) = decDigits u := by unfold bodyR; rw [e1]; rfl
    unfold numRB
    rw [e2, e1]
    refine ⟨?_, by unfold signR; rw [valR_digits]; rfl⟩
    unfold goodR zeroR
    rw [allR_digits, decide_eq_false (show ¬ (decDigits u).length = 0 by omega), decide_eq_false (show ¬ 13 < (decDigits u).length by omega)]
    by_cases h3 : (((decDigits u).getD 0 0).toNat : Int) = 48
    · obtain rfl := digits_head u h3
      rw [decDigits_one (by omega)]
      rfl
    · rw [decide_eq_false h3]
      rfl
theorem num_back (l : List UInt8) (h : numRB l = true) : numOk l = true := by
  unfold numRB goodR zeroR at h
  simp only [Bool.and_eq_true, Bool.not_eq_true', Bool.or_eq_false_iff, decide_eq_false_iff_not] at h
  obtain ⟨⟨h1, h2, h3⟩, h4⟩ := h
  have hz : ¬ ((((bodyR l).getD 0 0).toNat : Int) = 48 ∧ 1 < (bodyR l).length) := by
    rintro ⟨k1, k2⟩
    rw [decide_eq_true k1, decide_eq_true k2] at h3
    cases h3
  obtain ⟨u, e1, e2⟩ := digits_all (bodyR l) h4 (by omega) hz
  cases hl : lessR l with
  | true =>
    rw [hl] at h3
    have hb : bodyR l = l.drop 1 := by unfold bodyR; rw [if_pos hl]
    unfold lessR at hl
    simp only [Bool.and_eq_true, decide_eq_true_eq] at hl
    obtain ⟨k1, k2⟩ := hl
    have hu : u ≠ 0 := by
      rintro rfl
      rw [decDigits_one (by omega)] at e2
      rw [← e2] at h3
      cases h3
    have el : l = 45 :: decDigits u := by
      rw [e2, hb]
      cases l with
      | nil => simp at k1
      | cons c r =>
        have : c = 45 := UInt8.toNat_inj.1 (by
          have k3 : (c.toNat : Int) = 45 := k2
          show c.toNat = 45
          omega)
        rw [this]
        rfl
    rw [el, ← itoa_neg u (by omega)]
    refine numOk_itoa_len _ ?_
    rw [if_pos (by omega), itoa_neg u (by omega), List.length_cons, e2]
    omega
  | false =>
    have hb : bodyR l = l := by unfold bodyR; rw [hl]; rfl
    rw [hb] at e2 h2
    rw [← e2, ← itoa_pos]
    refine numOk_itoa_len _ ?_
    rw [if_neg (by omega), itoa_pos, e2]
    omega
theorem occ_dots (l : List UInt8) (j : Nat) : occAt l dots j = true ↔ j + 1 < l.length ∧ ((l.getD j 0).toNat : Int) = 46 ∧ ((l.getD (j + 1) 0).toNat : Int) = 46 := by
  have e1 : ∀ k, l.getD k 0 = ((l.drop j)[k - j]?).getD 0 ∨ k < j := by
    intro k
    by_cases h : k < j
    · exact .inr h
    · left
      rw [List.getD_eq_getElem?_getD, List.getElem?_drop, show j + (k - j) = k by omega]
  have a0 := (e1 j).resolve_right (by omega)
  have a1 := (e1 (j + 1)).resolve_right (by omega)
  rw [Nat.sub_self] at a0
  rw [show j + 1 - j = 1 by omega] at a1
  rw [a0, a1]
  have hl : (l.drop j).length = l.length - j := List.length_drop
  unfold occAt dots
  cases hd : l.drop j with
  | nil =>
    rw [hd] at hl
    simp at hl
    simp
    try omega
  | cons x r =>
    rw [hd, List.length_cons] at hl
    cases r with
    | nil =>
      simp at hl
      simp
      try omega
    | cons y r =>
      rw [List.length_cons] at hl
      have hx : ∀ z : UInt8, ((46 : UInt8) == z) = true ↔ ((z.toNat : Int) = 46) := by
        intro z
        rw [beq_iff_eq]
        constructor
        · rintro rfl; rfl
        · intro h; exact UInt8.toNat_inj.1 (by show 46 = z.toNat; omega)
      show ((46 : UInt8) == x && ((46 : UInt8) == y && true)) = true ↔ _ ∧ ((x.toNat : Int) = 46) ∧ ((y.toNat : Int) = 46)
      rw [Bool.and_true, Bool.and_eq_true, hx, hx]
      constructor
      · exact fun h => ⟨by omega, h⟩
      · exact fun h => h.2
theorem cut_none (l : List UInt8) (h : ∀ j, j + 1 < l.length → occAt l dots j = false) : cutIs l = false := by
  unfold cutIs cut
  rcases index_spec l dots with ⟨h1, _⟩ | ⟨i, h1, h2, h3, _⟩
  · rw [h1]; rfl
  · have := (occ_dots l i).1 h3
    rw [h i this.1] at h3
    cases h3
theorem cut_first (l : List UInt8) (i : Nat) (h : ∀ j, j < i → occAt l dots j = false) (ho : occAt l dots i = true) : cutIs l = true ∧ cutA l = l.take i ∧ cutB l = l.drop (i + 2) := by
  have hi := (occ_dots l i).1 ho
  have e := index_first (s := l) (sub := dots) (i := i) (by omega) ho h
  unfold cutIs cutA cutB cut
  rw [e, if_pos (by omega)]
  refine ⟨rfl, ?_, ?_⟩
  · show l.take ((i : Int)).toNat = _
    rw [Int.toNat_natCast]
  · show l.drop (((i : Int)).toNat + dots.length) = _
    rw [Int.toNat_natCast]
    rfl
theorem num_same (l : List UInt8) : numRB l = numOk l := by
  cases h : numOk l with
  | true => exact (num_of l h).1
  | false =>
    cases h2 : numRB l with
    | false => rfl
    | true => rw [num_back l h2] at h; cases h
theorem parse_bad (l : List UInt8) (h : (cutIs l && numRB (cutA l) && numRB (cutB l)) = false) : parseS l = ⟨0, 0, 2⟩ := by
  unfold parseS
  rw [← num_same, ← num_same, h]
  rfl
theorem parse_good (l : List UInt8) (h0 : cutIs l = true) (h1 : numRB (cutA l) = true) (h2 : numRB (cutB l) = true) : parseS l = whole (numRV (cutA l)) (numRV (cutB l)) := by
  have k1 := h1
  have k2 := h2
  rw [num_same] at k1 k2
  unfold parseS
  rw [h0, k1, k2, (num_of _ k1).2, (num_of _ k2).2]
  rfl
end Go.Proofs.YtjhfikbjfipmkaaDoor
