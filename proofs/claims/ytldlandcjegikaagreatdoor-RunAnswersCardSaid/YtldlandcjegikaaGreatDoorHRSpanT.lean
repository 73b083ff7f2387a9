/- The reference's numbers and spans as texts, walked. -/
import Derived.Test.YtldlandcjegikaaGreatDoorHSpanS
import Derived.Test.YtldlandcjegikaaGreatDoorHRef1
import Derived.Deep.DeepCutAuto
namespace Go.Proofs.YtldlandcjegikaaGreatDoor
open Go.RowKit
set_option linter.unusedVariables false
set_option linter.unusedSimpArgs false
theorem dig_cutR (k : Nat) (h : k < 10) : (⟨#[48, 49, 50, 51, 52, 53, 54, 55, 56, 57]⟩ : ByteArray).extract k (k + 1) = ⟨[UInt8.ofNat (48 + k)].toArray⟩ := by
 have hc : k = 0 ∨ k = 1 ∨ k = 2 ∨ k = 3 ∨ k = 4 ∨ k = 5 ∨ k = 6 ∨ k = 7 ∨ k = 8 ∨ k = 9 := by omega
 rcases hc with rfl | rfl | rfl | rfl | rfl | rfl | rfl | rfl | rfl | rfl <;> rfl
set_option maxRecDepth 100000 in
theorem r1_Digits_1 (k : Nat) (w : World) (h1 : k < 10) : Calls Tryz.prog 10 #[.int .i64 k] w fun e w' => e = .returned (.string ⟨(Lib.decDigits k).toArray⟩) ∧ Below w.heap.size w w' := by
 have hd := Lib.hid (dig_cutR k h1)
 have hv := Lib.hid (Lib.decDigits_one h1)
 go_enter Tryz.func10, Tryz.ntmps10
 go_wp2_with fail
 go_ret
 exact ⟨by rw [hv.out, ← hd.out]; rfl, BeL⟩
set_option maxRecDepth 100000 in
theorem r1_Digits_step (u : Nat) (l : List UInt8) (w : World) (h0 : 10 ≤ u) (h1 : u ≤ 1000000000000) (hl : l.length ≤ 30) (C : ∀ w, Calls Tryz.prog 10 #[.int .i64 ((u / 10 : Nat) : Int)] w fun e w' => e = .returned (.string ⟨l.toArray⟩) ∧ Below w.heap.size w w') :
  Calls Tryz.prog 10 #[.int .i64 u] w fun e w' => e = .returned (.string ⟨(l ++ [UInt8.ofNat (48 + u % 10)]).toArray⟩) ∧ Below w.heap.size w w' := by
 obtain ⟨k, ek⟩ : ∃ k : Nat, u % 10 = k := ⟨_, rfl⟩
 have hk : k < 10 := by omega
 have HD := Lib.hid (dig_cutR k hk)
 rw [ek]
 have e1 : (u : Int) % 10 = (k : Int) := by omega
 obtain ⟨m, em⟩ : ∃ m : Nat, u / 10 = m := ⟨_, rfl⟩
 have e2 : (u : Int) / 10 = (m : Int) := by omega
 rw [em] at C
 obtain ⟨n, en⟩ : ∃ n : Int, (u : Int) = n := ⟨_, rfl⟩
 rw [en] at e1 e2 ⊢
 have g0 : 10 ≤ n := by omega
 have g1 : n ≤ 1000000000000 := by omega
 have C := Lib.hid C
 clear ek em en h0 h1
 go_enter Tryz.func10, Tryz.ntmps10
 go_wp2_with fail
 (try (go_at_call 10; refine (C.out _).mono ?_; rintro e w1 ⟨rfl, hb1⟩; obtain ⟨hc1, hf1⟩ := bcell hb1; have hz1 := hb1.size; (try simp at hz1); (try have := q00_ w w1); (try have := q02_ w w1); (try have := q03_ w w1); (try have := q10_ w w1); (try have := q12_ w w1); (try have := q13_ w w1); (try have := q20_ w w1); (try have := q22_ w w1); (try have := q23_ w w1); (try have := q30_ w w1); (try have := q32_ w w1); (try have := q33_ w w1); (try go_wp2_with fail)))
 go_ret
 exact ⟨ret_v (by rw [HD.out]; exact congrArg Value.string (ByteArray.ext (by simp [ByteArray.data_append]))), BeL⟩
theorem r1_DigitsU (u : Nat) (h : u ≤ 1000000000000) : ∀ w, Calls Tryz.prog 10 #[.int .i64 u] w fun e w' => e = .returned (.string ⟨(Lib.decDigits u).toArray⟩) ∧ Below w.heap.size w w' := by
 induction u using Nat.strongRecOn with
 | _ u ih =>
  intro w
  by_cases h9 : u < 10
  ·exact r1_Digits_1 u w h9
  ·have hl : (Lib.decDigits (u / 10)).length ≤ 30 := by
    rw [Lib.decDigits_length]
    have := nDigits_13 (u / 10) (by omega)
    omega
   have := r1_Digits_step u _ w (by omega) h hl (ih (u / 10) (by omega) (by omega))
   rw [Lib.decDigits, dif_neg h9]
   exact this
set_option maxRecDepth 100000 in
theorem r1_Digits (n : Int) (w : World) (h0 : -1000000000000 ≤ n) (h1 : n ≤ 1000000000000) : Calls Tryz.prog 10 #[.int .i64 n] w fun e w' => e = .returned (.string ⟨(Lib.itoa n).toArray⟩) ∧ Below w.heap.size w w' := by
 by_cases hn : n < 0
 ·obtain ⟨u, hu⟩ : ∃ u : Nat, -n = (u : Int) := ⟨n.natAbs, by omega⟩
  have hv := Lib.hid (show Lib.itoa n = 45 :: Lib.decDigits u by rw [show n = -(u : Int) by omega]; exact Lib.itoa_neg u (by omega))
  have C := r1_DigitsU u (by omega)
  obtain ⟨l, el⟩ : ∃ l, Lib.decDigits u = l := ⟨_, rfl⟩
  have hl : l.length ≤ 30 := by
   rw [← el, Lib.decDigits_length]
   have := nDigits_13 u (by omega)
   omega
  rw [el] at hv C
  rw [hv.out]
  have C := Lib.hid C
  clear el hv
  go_enter Tryz.func10, Tryz.ntmps10
  go_wp2_with fail
  (try (go_at_call 10; refine (C.out _).mono ?_; rintro e w1 ⟨rfl, hb1⟩; obtain ⟨hc1, hf1⟩ := bcell hb1; have hz1 := hb1.size; (try simp at hz1); (try have := q00_ w w1); (try have := q02_ w w1); (try have := q03_ w w1); (try have := q10_ w w1); (try have := q12_ w w1); (try have := q13_ w w1); (try have := q20_ w w1); (try have := q22_ w w1); (try have := q23_ w w1); (try have := q30_ w w1); (try have := q32_ w w1); (try have := q33_ w w1); (try go_wp2_with fail)))
  go_ret
  exact ⟨ret_v (congrArg Value.string (ByteArray.ext (by simp [ByteArray.data_append]))), BeL⟩
 ·obtain ⟨u, rfl⟩ : ∃ u : Nat, n = (u : Int) := ⟨n.toNat, by omega⟩
  rw [Lib.itoa_nonneg]
  exact r1_DigitsU u (by omega) w
set_option maxRecDepth 100000 in
theorem r1_SpanText (a b : Int) (w : World) (h : rightB a b = true) : Calls Tryz.prog 24 #[.agg #[.int .i64 a, .int .i64 b]] w fun e w' => e = .returned (.string ⟨(printL a b).toArray⟩) ∧ Below w.heap.size w w' := by
 obtain ⟨g1, g2, g3⟩ := rightB_iff.1 h
 have CA := fun w => r1_Digits a w (by omega) (by omega)
 have CB := fun w => r1_Digits b w (by omega) (by omega)
 have la := Lib.itoa_length_le a (by omega) (by omega)
 have lb := Lib.itoa_length_le b (by omega) (by omega)
 unfold printL
 obtain ⟨A, eA⟩ : ∃ l, Lib.itoa a = l := ⟨_, rfl⟩
 obtain ⟨B, eB⟩ : ∃ l, Lib.itoa b = l := ⟨_, rfl⟩
 rw [eA] at CA la ⊢
 rw [eB] at CB lb ⊢
 have CA := Lib.hid CA
 have CB := Lib.hid CB
 clear eA eB h
 go_enter Tryz.func24, Tryz.ntmps24
 go_wp2_with fail
 (try (go_at_call 10; refine (CA.out _).mono ?_; rintro e w1 ⟨rfl, hb1⟩; obtain ⟨hc1, hf1⟩ := bcell hb1; have hz1 := hb1.size; (try simp at hz1); (try have := q00_ w w1); (try have := q02_ w w1); (try have := q03_ w w1); (try have := q10_ w w1); (try have := q12_ w w1); (try have := q13_ w w1); (try have := q20_ w w1); (try have := q22_ w w1); (try have := q23_ w w1); (try have := q30_ w w1); (try have := q32_ w w1); (try have := q33_ w w1); (try go_wp2_with fail)))
 (try (go_at_call 10; refine (CB.out _).mono ?_; rintro e w2 ⟨rfl, hb2⟩; obtain ⟨hc2, hf2⟩ := bcell hb2; have hz2 := hb2.size; (try simp at hz2); (try have := q00_ w w2); (try have := q02_ w w2); (try have := q03_ w w2); (try have := q10_ w w2); (try have := q12_ w w2); (try have := q13_ w w2); (try have := q20_ w w2); (try have := q22_ w w2); (try have := q23_ w w2); (try have := q30_ w w2); (try have := q32_ w w2); (try have := q33_ w w2); (try have := q00_ w1 w2); (try have := q02_ w1 w2); (try have := q10_ w1 w2); (try have := q12_ w1 w2); (try go_wp2_with fail)))
 go_ret
 exact ⟨ret_v (congrArg Value.string (ByteArray.ext (by simp [ByteArray.data_append, dots]))), BeL⟩
theorem idx_r (s : ByteArray) (k : Nat) (h : k < s.size) (i : Int) (hi : i = (k : Int)) (w : World) : (Instr.index 9 (.string s) (.int .i64 i)).run Tryz.prog w = .ok (.int .u8 ((s.data.toList.getD k 0).toNat : Int)) w := by
 subst hi
 rw [run_index_string w 9 s .i64 k Tryz.underlying9, dif_pos ⟨by omega, by omega⟩]
 have : ((s[k]'h).toNat : Int) = ((s.data.toList.getD k 0).toNat : Int) := by rw [List.getD_eq_getElem?_getD, List.getElem?_eq_getElem (by simpa using h)]; simp; rfl
 simp only [Int.toNat_natCast]
 rw [this]
theorem sub_bytes_r (s : ByteArray) (a b : Nat) : (s.extract a b).data.toList = (s.data.toList.drop a).take (b - a) := by simp [List.take_drop]
theorem valR_bd (l : List UInt8) (h : allR l = true) (hl : l.length ≤ 13) : 0 ≤ valR l ∧ valR l ≤ 9999999999999 := by
 have key : ∀ k, k ≤ l.length → 0 ≤ valR (l.take k) ∧ valR (l.take k) < 10 ^ k := by
  intro k
  induction k with
  | zero => intro _; exact ⟨by simp [valR], by simp [valR]⟩
  | succ k ih =>
   intro hk
   obtain ⟨i1, i2⟩ := ih (by omega)
   have hd : digR (l.getD k 0) = true := by
    rw [allR, List.all_eq_true] at h
    rw [List.getD_eq_getElem?_getD, List.getElem?_eq_getElem (by omega)]
    exact h _ (List.getElem_mem ..)
   obtain ⟨d1, d2⟩ := (digR_iff _).1 hd
   rw [take_snoc_r (by omega), valR_snoc, Int.pow_succ]
   omega
 obtain ⟨k1, k2⟩ := key l.length (Nat.le_refl _)
 rw [List.take_length] at k1 k2
 have : (10 : Int) ^ l.length ≤ 10 ^ 13 := by
  have h1 : (10 : Nat) ^ l.length ≤ 10 ^ 13 := Nat.pow_le_pow_right (by decide) hl
  exact_mod_cast h1
 have e : (10 : Int) ^ 13 = 10000000000000 := by decide
 omega
theorem empty_iff (d : ByteArray) : d.toList = [] ↔ d.size = 0 := by
 rw [ByteArray.toList_eq]
 have e : d.data.toList.length = d.size := Array.length_toList
 rw [← e]
 exact List.length_eq_zero_iff.symm
end Go.Proofs.YtldlandcjegikaaGreatDoor
