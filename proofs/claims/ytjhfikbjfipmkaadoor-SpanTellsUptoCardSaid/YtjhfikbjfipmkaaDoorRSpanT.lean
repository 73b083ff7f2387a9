/- The reference's numbers and spans as texts, walked. -/
import Derived.Test.YtjhfikbjfipmkaaDoorRSpanP
import Derived.Test.YtjhfikbjfipmkaaDoorSpanS
import Derived.Test.YtjhfikbjfipmkaaDoorRef1
import Derived.Deep.DeepCutAuto
namespace Go.Proofs.YtjhfikbjfipmkaaDoor
open Go.RowKit
set_option linter.unusedVariables false
set_option linter.unusedSimpArgs false
theorem dig_cutR (k : Nat) (h : k < 10) : (⟨#[48, 49, 50, 51, 52, 53, 54, 55, 56, 57]⟩ : ByteArray).extract k (k + 1) = ⟨[UInt8.ofNat (48 + k)].toArray⟩ := by
  have hc : k = 0 ∨ k = 1 ∨ k = 2 ∨ k = 3 ∨ k = 4 ∨ k = 5 ∨ k = 6 ∨ k = 7 ∨ k = 8 ∨ k = 9 := by omega
  rcases hc with rfl | rfl | rfl | rfl | rfl | rfl | rfl | rfl | rfl | rfl <;> rfl
set_option maxRecDepth 100000 in
theorem r1_Digits_1 (k : Nat) (w : World) (h1 : k < 10) : Calls Tryd.prog 31 #[.int .i64 k] w fun e w' => e = .returned (.string ⟨(Lib.decDigits k).toArray⟩) ∧ Below w.heap.size w w' := by
  have hd := Lib.hid (dig_cutR k h1)
  have hv := Lib.hid (Lib.decDigits_one h1)
  go_enter Tryd.func31, Tryd.ntmps31
  go_wp2_with fail
  go_ret
  exact ⟨by rw [hv.out, ← hd.out]; rfl, (by repeat (first | with_reducible exact Below.refl _ _ | (with_reducible refine Below.alloc ?_ (by first | omega | (simp; done) | (simp; omega)) _) | (with_reducible refine Below.setCell ?_ (by first | omega | (simp; done) | (simp; omega)) _) | (with_reducible refine Below.drew ?_) | (with_reducible refine below_drewN ?_ _) | (with_reducible assumption) | (with_reducible refine bel_step (by with_reducible assumption) ?_ (by first | omega | (simp; done) | (simp; omega)))))⟩
set_option maxRecDepth 100000 in
theorem r1_Digits_step (u : Nat) (l : List UInt8) (w : World) (h0 : 10 ≤ u) (h1 : u ≤ 1000000000000) (hl : l.length ≤ 30) (C : ∀ w, Calls Tryd.prog 31 #[.int .i64 ((u / 10 : Nat) : Int)] w fun e w' => e = .returned (.string ⟨l.toArray⟩) ∧ Below w.heap.size w w') :
    Calls Tryd.prog 31 #[.int .i64 u] w fun e w' => e = .returned (.string ⟨(l ++ [UInt8.ofNat (48 + u % 10)]).toArray⟩) ∧ Below w.heap.size w w' := by
  obtain ⟨k, ek⟩ : ∃ k : Nat, u % 10 = k := ⟨_, rfl⟩
  have hk : k < 10 := by omega
  have HD := Lib.hid (dig_cutR k hk)
  rw [ek]
  have e1 : (u : Int) % 10 = (k : Int) := by omega
  obtain ⟨m, em⟩ : ∃ m : Nat, u / 10 = m := ⟨_, rfl⟩
  have e2 : (u : Int) / 10 = (m : Int) := by omega
  rw [em] at C
  obtain ⟨n, en⟩ : ∃ n : Int, (u : Int) = n := ⟨_, rfl⟩
  rw [en] at e1 e2 ⊢
  have g0 : 10 ≤ n := by omega
  have g1 : n ≤ 1000000000000 := by omega
  have C := Lib.hid C
  clear ek em en h0 h1
  go_enter Tryd.func31, Tryd.ntmps31
  go_wp2_with fail
  (try (go_at_call 31; refine (C.out _).mono ?_; rintro e w1 ⟨rfl, hb1⟩; obtain ⟨hc1, hf1⟩ := bcell hb1; have hz1 := hb1.size; (try simp at hz1); (try have q1_0_0_0 : w.heap.size < w1.heap.size := by omega); (try have q1_0_0_2 : w.heap.size < w1.heap.size + 1 + 1 := by omega); (try have q1_0_0_3 : w.heap.size < w1.heap.size + 1 + 1 + 1 := by omega); (try have q1_0_1_0 : w.heap.size + 1 < w1.heap.size := by omega); (try have q1_0_1_2 : w.heap.size + 1 < w1.heap.size + 1 + 1 := by omega); (try have q1_0_1_3 : w.heap.size + 1 < w1.heap.size + 1 + 1 + 1 := by omega); (try have q1_0_2_0 : w.heap.size + 1 + 1 < w1.heap.size := by omega); (try have q1_0_2_2 : w.heap.size + 1 + 1 < w1.heap.size + 1 + 1 := by omega); (try have q1_0_2_3 : w.heap.size + 1 + 1 < w1.heap.size + 1 + 1 + 1 := by omega); (try have q1_0_3_0 : w.heap.size + 1 + 1 + 1 < w1.heap.size := by omega); (try have q1_0_3_2 : w.heap.size + 1 + 1 + 1 < w1.heap.size + 1 + 1 := by omega); (try have q1_0_3_3 : w.heap.size + 1 + 1 + 1 < w1.heap.size + 1 + 1 + 1 := by omega); (try go_wp2_with fail)))
  go_ret
  exact ⟨ret_v (by rw [HD.out]; exact congrArg Value.string (ByteArray.ext (by simp [ByteArray.data_append]))), (by repeat (first | with_reducible exact Below.refl _ _ | (with_reducible refine Below.alloc ?_ (by first | omega | (simp; done) | (simp; omega)) _) | (with_reducible refine Below.setCell ?_ (by first | omega | (simp; done) | (simp; omega)) _) | (with_reducible refine Below.drew ?_) | (with_reducible refine below_drewN ?_ _) | (with_reducible assumption) | (with_reducible refine bel_step (by with_reducible assumption) ?_ (by first | omega | (simp; done) | (simp; omega)))))⟩
theorem r1_DigitsU (u : Nat) (h : u ≤ 1000000000000) : ∀ w, Calls Tryd.prog 31 #[.int .i64 u] w fun e w' => e = .returned (.string ⟨(Lib.decDigits u).toArray⟩) ∧ Below w.heap.size w w' := by
  induction u using Nat.strongRecOn with
  | _ u ih =>
    intro w
    by_cases h9 : u < 10
    · exact r1_Digits_1 u w h9
    · have hl : (Lib.decDigits (u / 10)).length ≤ 30 := by
        rw [Lib.decDigits_length]
        have := nDigits_13 (u / 10) (by omega)
        omega
      have := r1_Digits_step u _ w (by omega) h hl (ih (u / 10) (by omega) (by omega))
      rw [Lib.decDigits, dif_neg h9]
      exact this
set_option maxRecDepth 100000 in
theorem r1_Digits (n : Int) (w : World) (h0 : -1000000000000 ≤ n) (h1 : n ≤ 1000000000000) : Calls Tryd.prog 31 #[.int .i64 n] w fun e w' => e = .returned (.string ⟨(Lib.itoa n).toArray⟩) ∧ Below w.heap.size w w' := by
  by_cases hn : n < 0
  · obtain ⟨u, hu⟩ : ∃ u : Nat, -n = (u : Int) := ⟨n.natAbs, by omega⟩
    have hv := Lib.hid (show Lib.itoa n = 45 :: Lib.decDigits u by rw [show n = -(u : Int) by omega]; exact Lib.itoa_neg u (by omega))
    have C := r1_DigitsU u (by omega)
    obtain ⟨l, el⟩ : ∃ l, Lib.decDigits u = l := ⟨_, rfl⟩
    have hl : l.length ≤ 30 := by
      rw [← el, Lib.decDigits_length]
      have := nDigits_13 u (by omega)
      omega
    rw [el] at hv C
    rw [hv.out]
    have C := Lib.hid C
    clear el hv
    go_enter Tryd.func31, Tryd.ntmps31
    go_wp2_with fail
    (try (go_at_call 31; refine (C.out _).mono ?_; rintro e w1 ⟨rfl, hb1⟩; obtain ⟨hc1, hf1⟩ := bcell hb1; have hz1 := hb1.size; (try simp at hz1); (try have q1_0_0_0 : w.heap.size < w1.heap.size := by omega); (try have q1_0_0_2 : w.heap.size < w1.heap.size + 1 + 1 := by omega); (try have q1_0_0_3 : w.heap.size < w1.heap.size + 1 + 1 + 1 := by omega); (try have q1_0_1_0 : w.heap.size + 1 < w1.heap.size := by omega); (try have q1_0_1_2 : w.heap.size + 1 < w1.heap.size + 1 + 1 := by omega); (try have q1_0_1_3 : w.heap.size + 1 < w1.heap.size + 1 + 1 + 1 := by omega); (try have q1_0_2_0 : w.heap.size + 1 + 1 < w1.heap.size := by omega); (try have q1_0_2_2 : w.heap.size + 1 + 1 < w1.heap.size + 1 + 1 := by omega); (try have q1_0_2_3 : w.heap.size + 1 + 1 < w1.heap.size + 1 + 1 + 1 := by omega); (try have q1_0_3_0 : w.heap.size + 1 + 1 + 1 < w1.heap.size := by omega); (try have q1_0_3_2 : w.heap.size + 1 + 1 + 1 < w1.heap.size + 1 + 1 := by omega); (try have q1_0_3_3 : w.heap.size + 1 + 1 + 1 < w1.heap.size + 1 + 1 + 1 := by omega); (try go_wp2_with fail)))
    go_ret
    exact ⟨ret_v (congrArg Value.string (ByteArray.ext (by simp [ByteArray.data_append]))), (by repeat (first | with_reducible exact Below.refl _ _ | (with_reducible refine Below.alloc ?_ (by first | omega | (simp; done) | (simp; omega)) _) | (with_reducible refine Below.setCell ?_ (by first | omega | (simp; done) | (simp; omega)) _) | (with_reducible refine Below.drew ?_) | (with_reducible refine below_drewN ?_ _) | (with_reducible assumption) | (with_reducible refine bel_step (by with_reducible assumption) ?_ (by first | omega | (simp; done) | (simp; omega)))))⟩
  · obtain ⟨u, rfl⟩ : ∃ u : Nat, n = (u : Int) := ⟨n.toNat, by omega⟩
    rw [Lib.itoa_nonneg]
    exact r1_DigitsU u (by omega) w
set_option maxRecDepth 100000 in
theorem r1_SpanText (a b : Int) (w : World) (h : rightB a b = true) : Calls Tryd.prog 14 #[.agg #[.int .i64 a, .int .i64 b]] w fun e w' => e = .returned (.string ⟨(printL a b).toArray⟩) ∧ Below w.heap.size w w' := by
  obtain ⟨g1, g2, g3⟩ := rightB_iff.1 h
  have CA := fun w => r1_Digits a w (by omega) (by omega)
  have CB := fun w => r1_Digits b w (by omega) (by omega)
  have la := Lib.itoa_length_le a (by omega) (by omega)
  have lb := Lib.itoa_length_le b (by omega) (by omega)
  unfold printL
  obtain ⟨A, eA⟩ : ∃ l, Lib.itoa a = l := ⟨_, rfl⟩
  obtain ⟨B, eB⟩ : ∃ l, Lib.itoa b = l := ⟨_, rfl⟩
  rw [eA] at CA la ⊢
  rw [eB] at CB lb ⊢
  have CA := Lib.hid CA
  have CB := Lib.hid CB
  clear eA eB h
  go_enter Tryd.func14, Tryd.ntmps14
  go_wp2_with fail
  (try (go_at_call 31; refine (CA.out _).mono ?_; rintro e w1 ⟨rfl, hb1⟩; obtain ⟨hc1, hf1⟩ := bcell hb1; have hz1 := hb1.size; (try simp at hz1); (try have q1_0_0_0 : w.heap.size < w1.heap.size := by omega); (try have q1_0_0_2 : w.heap.size < w1.heap.size + 1 + 1 := by omega); (try have q1_0_0_3 : w.heap.size < w1.heap.size + 1 + 1 + 1 := by omega); (try have q1_0_1_0 : w.heap.size + 1 < w1.heap.size := by omega); (try have q1_0_1_2 : w.heap.size + 1 < w1.heap.size + 1 + 1 := by omega); (try have q1_0_1_3 : w.heap.size + 1 < w1.heap.size + 1 + 1 + 1 := by omega); (try have q1_0_2_0 : w.heap.size + 1 + 1 < w1.heap.size := by omega); (try have q1_0_2_2 : w.heap.size + 1 + 1 < w1.heap.size + 1 + 1 := by omega); (try have q1_0_2_3 : w.heap.size + 1 + 1 < w1.heap.size + 1 + 1 + 1 := by omega); (try have q1_0_3_0 : w.heap.size + 1 + 1 + 1 < w1.heap.size := by omega); (try have q1_0_3_2 : w.heap.size + 1 + 1 + 1 < w1.heap.size + 1 + 1 := by omega); (try have q1_0_3_3 : w.heap.size + 1 + 1 + 1 < w1.heap.size + 1 + 1 + 1 := by omega); (try go_wp2_with fail)))
  (try (go_at_call 31; refine (CB.out _).mono ?_; rintro e w2 ⟨rfl, hb2⟩; obtain ⟨hc2, hf2⟩ := bcell hb2; have hz2 := hb2.size; (try simp at hz2); (try have q2_0_0_0 : w.heap.size < w2.heap.size := by omega); (try have q2_0_0_2 : w.heap.size < w2.heap.size + 1 + 1 := by omega); (try have q2_0_0_3 : w.heap.size < w2.heap.size + 1 + 1 + 1 := by omega); (try have q2_0_1_0 : w.heap.size + 1 < w2.heap.size := by omega); (try have q2_0_1_2 : w.heap.size + 1 < w2.heap.size + 1 + 1 := by omega); (try have q2_0_1_3 : w.heap.size + 1 < w2.heap.size + 1 + 1 + 1 := by omega); (try have q2_0_2_0 : w.heap.size + 1 + 1 < w2.heap.size := by omega); (try have q2_0_2_2 : w.heap.size + 1 + 1 < w2.heap.size + 1 + 1 := by omega); (try have q2_0_2_3 : w.heap.size + 1 + 1 < w2.heap.size + 1 + 1 + 1 := by omega); (try have q2_0_3_0 : w.heap.size + 1 + 1 + 1 < w2.heap.size := by omega); (try have q2_0_3_2 : w.heap.size + 1 + 1 + 1 < w2.heap.size + 1 + 1 := by omega); (try have q2_0_3_3 : w.heap.size + 1 + 1 + 1 < w2.heap.size + 1 + 1 + 1 := by omega); (try have q2_1_0_0 : w1.heap.size < w2.heap.size := by omega); (try have q2_1_0_2 : w1.heap.size < w2.heap.size + 1 + 1 := by omega); (try have q2_1_1_0 : w1.heap.size + 1 < w2.heap.size := by omega); (try have q2_1_1_2 : w1.heap.size + 1 < w2.heap.size + 1 + 1 := by omega); (try go_wp2_with fail)))
  go_ret
  exact ⟨ret_v (congrArg Value.string (ByteArray.ext (by simp [ByteArray.data_append, dots]))), (by repeat (first | with_reducible exact Below.refl _ _ | (with_reducible refine Below.alloc ?_ (by first | omega | (simp; done) | (simp; omega)) _) | (with_reducible refine Below.setCell ?_ (by first | omega | (simp; done) | (simp; omega)) _) | (with_reducible refine Below.drew ?_) | (with_reducible refine below_drewN ?_ _) | (with_reducible assumption) | (with_reducible refine bel_step (by with_reducible assumption) ?_ (by first | omega | (simp; done) | (simp; omega)))))⟩
theorem idx_r (s : ByteArray) (k : Nat) (h : k < s.size) (i : Int) (hi : i = (k : Int)) (w : World) : (Instr.index 9 (.string s) (.int .i64 i)).run Tryd.prog w = .ok (.int .u8 ((s.data.toList.getD k 0).toNat : Int)) w := by
  subst hi
  rw [run_index_string w 9 s .i64 k Tryd.underlying9, dif_pos ⟨by omega, by omega⟩]
  have : ((s[k]'h).toNat : Int) = ((s.data.toList.getD k 0).toNat : Int) := by rw [List.getD_eq_getElem?_getD, List.getElem?_eq_getElem (by simpa using h)]; simp; rfl
  simp only [Int.toNat_natCast]
  rw [this]
theorem sub_bytes_r (s : ByteArray) (a b : Nat) : (s.extract a b).data.toList = (s.data.toList.drop a).take (b - a) := by simp [List.take_drop]
theorem valR_bd (l : List UInt8) (h : allR l = true) (hl : l.length ≤ 13) : 0 ≤ valR l ∧ valR l ≤ 9999999999999 := by
  have key : ∀ k, k ≤ l.length → 0 ≤ valR (l.take k) ∧ valR (l.take k) < 10 ^ k := by
    intro k
    induction k with
    | zero => intro _; exact ⟨by simp [valR], by simp [valR]⟩
    | succ k ih =>
      intro hk
      obtain ⟨i1, i2⟩ := ih (by omega)
      have hd : digR (l.getD k 0) = true := by
        rw [allR, List.all_eq_true] at h
        rw [List.getD_eq_getElem?_getD, List.getElem?_eq_getElem (by omega)]
        exact h _ (List.getElem_mem ..)
      obtain ⟨d1, d2⟩ := (digR_iff _).1 hd
      rw [take_snoc_r (by omega), valR_snoc, Int.pow_succ]
      omega
  obtain ⟨k1, k2⟩ := key l.length (Nat.le_refl _)
  rw [List.take_length] at k1 k2
  have : (10 : Int) ^ l.length ≤ 10 ^ 13 := by
    have h1 : (10 : Nat) ^ l.length ≤ 10 ^ 13 := Nat.pow_le_pow_right (by decide) hl
    exact_mod_cast h1
  have e : (10 : Int) ^ 13 = 10000000000000 := by decide
  omega
theorem empty_iff (d : ByteArray) : d.toList = [] ↔ d.size = 0 := by
  rw [ByteArray.toList_eq]
  have e : d.data.toList.length = d.size := Array.length_toList
  rw [← e]
  exact List.length_eq_zero_iff.symm
set_option maxRecDepth 100000 in
set_option maxHeartbeats 4000000 in
theorem r1_Number (s : ByteArray) (w : World) (hs : s.size ≤ 1048576) :
    Calls Tryd.prog 33 #[.string s, .int .i64 13] w fun e w' => e = .returned (.tuple #[.int .i64 (numRV s.data.toList), .bool (numRB s.data.toList)]) ∧ Below w.heap.size w w' := by
  have hlen : s.data.toList.length = s.size := Array.length_toList
  obtain ⟨less, eless⟩ : ∃ b, lessR s.data.toList = b := ⟨_, rfl⟩
  obtain ⟨d, ed⟩ : ∃ d : ByteArray, (if less = true then s.extract 1 s.size else s) = d := ⟨_, rfl⟩
  have hd : d.data.toList = bodyR s.data.toList := by
    unfold bodyR
    rw [eless, ← ed]
    cases less with
    | true =>
      rw [if_pos rfl, if_pos rfl, sub_bytes_r, List.take_of_length_le]
      rw [List.length_drop]; omega
    | false => rw [if_neg (by decide), if_neg (by decide)]
  have hds : d.size ≤ 1048576 := by
    rw [← ed]
    cases less with
    | true => rw [if_pos rfl]; simp; omega
    | false => rw [if_neg (by decide)]; exact hs
  have hB : numRB s.data.toList = goodR less d.data.toList := by unfold numRB; rw [eless, hd]
  have hV : numRV s.data.toList = if goodR less d.data.toList = true then signR less (valR d.data.toList) else 0 := by unfold numRV; rw [hB, eless, hd]
  rw [hB, hV]
  have hsl : lessR s.data.toList = (decide (1 < s.size) && decide (((s.data.toList.getD 0 0).toNat : Int) = 45)) := by unfold lessR; rw [hlen]
  rw [eless] at hsl
  have HSL := Lib.hid hsl
  have ED := Lib.hid ed
  have HX0 := Lib.hid (fun h w => idx_r s 0 h 0 rfl w)
  obtain ⟨c0, ec0⟩ : ∃ c : Int, ((s.data.toList.getD 0 0).toNat : Int) = c := ⟨_, rfl⟩
  rw [ec0] at HSL HX0
  clear hB hV hsl ed hd eless ec0 hlen
  have hl : d.data.toList.length = d.size := Array.length_toList
  have HL := Lib.hid hl
  have HG : Hid (∀ k (hk : k < d.size), ((d[k]'hk).toNat : Int) = ((d.data.toList.getD k 0).toNat : Int)) := Lib.hid (fun k hk => by
    rw [List.getD_eq_getElem?_getD, List.getElem?_eq_getElem (by simpa using hk)]; simp; rfl)
  have HY0 := Lib.hid (fun h w => idx_r d 0 h 0 rfl w)
  have HE := Lib.hid (empty_iff d)
  obtain ⟨bad, ebad⟩ : ∃ b, (decide (d.data.toList.length = 0) || (decide (13 < d.data.toList.length) || zeroR less d.data.toList)) = b := ⟨_, rfl⟩
  have HGd := Lib.hid (show goodR less d.data.toList = (!bad && allR d.data.toList) by unfold goodR; rw [ebad])
  unfold zeroR at ebad
  rw [hl] at ebad
  have HBd := Lib.hid ebad
  obtain ⟨c1, ec1⟩ : ∃ c : Int, ((d.data.toList.getD 0 0).toNat : Int) = c := ⟨_, rfl⟩
  rw [ec1] at HBd HY0
  obtain ⟨l, el⟩ : ∃ l, d.data.toList = l := ⟨_, rfl⟩
  rw [el] at HL HG HGd ⊢
  obtain ⟨B, eB⟩ : ∃ B, goodR less l = B := ⟨_, rfl⟩
  obtain ⟨V, eV⟩ : ∃ V, (if goodR less l = true then signR less (valR l) else 0) = V := ⟨_, rfl⟩
  have HF := Lib.hid (show goodR less l = false → V = 0 ∧ B = false from fun h => ⟨by rw [← eV, h]; rfl, by rw [← eB, h]⟩)
  have HT := Lib.hid (show goodR less l = true → V = signR less (valR l) ∧ B = true from fun h => ⟨by rw [← eV, if_pos h], by rw [← eB, h]⟩)
  rw [eV, eB]
  clear hl ebad ec1 el eB eV
  go_enter Tryd.func33, Tryd.ntmps33
  go_upto_region 1 with fail
  go_cut [6] (fun s6 wx => s6 = .bool less ∧ wx = w)
  case first =>
    by_cases k1 : 1 < s.size
    · have x0 := HX0.out (by omega)
      by_cases k2 : c0 = 45
      · have e := Lib.hid (show less = true by rw [HSL.out, decide_eq_true k1, decide_eq_true k2]; rfl)
        subst k2
        go_wp2_with fail
        go_meet
        case rel => exact ⟨by rw [e.out], rfl⟩
      · have e := Lib.hid (show less = false by rw [HSL.out, decide_eq_false k2, Bool.and_false])
        go_wp2_with fail
        go_meet
        case rel => exact ⟨by rw [e.out]; simp [k2], rfl⟩
    · have e := Lib.hid (show less = false by rw [HSL.out, decide_eq_false k1]; rfl)
      go_wp2_with fail
      go_meet
      case rel => exact ⟨by rw [e.out], rfl⟩
  case rest =>
  obtain ⟨rfl, rfl⟩ := hcut
  go_upto_if 17 with fail
  go_cut [0] (fun s0 wx => s0 = .string d ∧ wx = wc)
  case first =>
    cases less
    · have e := Lib.hid (show s = d by rw [← ED.out]; rfl)
      go_wp2_with fail
      go_meet
      case rel => exact ⟨by rw [e.out], rfl⟩
    · have e := Lib.hid (show s.extract 1 s.size = d by rw [← ED.out]; rfl)
      have k1 : 1 < s.size := by
        have h := HSL.out
        rcases Nat.lt_or_ge 1 s.size with h1 | h1
        · exact h1
        · rw [decide_eq_false (by omega)] at h; cases h
      have u0 : (1 : Int) ≤ (s.size : Int) := by omega
      go_wp2_with fail
      go_meet
      case rel => exact ⟨by rw [← e.out], rfl⟩
  case rest =>
  obtain ⟨rfl, hwq⟩ := hcut
  subst hwq
  clear HX0 HSL ED
  go_upto_region 4 with fail
  go_cut [40] (fun s40 wx => s40 = .bool bad ∧ wx = wc)
  case first =>
    by_cases k1 : d.size = 0
    · have e := Lib.hid (show bad = true by rw [← HBd.out, decide_eq_true k1]; rfl)
      have hE := HE.out.2 k1
      go_wp2_with fail
      go_meet
      case rel => exact ⟨by rw [e.out], rfl⟩
    · have hE : ¬ d.toList = [] := fun h => k1 (HE.out.1 h)
      by_cases k2 : 13 < d.size
      · have e := Lib.hid (show bad = true by rw [← HBd.out, decide_eq_true k2, Bool.true_or, Bool.or_true])
        go_wp2_with fail
        go_meet
        case rel => exact ⟨by rw [e.out], rfl⟩
      · have y0 := HY0.out (by omega)
        have k2i : ¬ (13 : Int) < (d.size : Int) := by omega
        by_cases k3 : c1 = 48
        · by_cases k4 : 1 < d.size
          · have e := Lib.hid (show bad = true by rw [← HBd.out, decide_eq_true k3, decide_eq_true k4]; simp)
            subst k3
            go_wp2_with fail
            go_meet
            case rel => exact ⟨by rw [e.out], rfl⟩
          · have e := Lib.hid (show bad = less by rw [← HBd.out, decide_eq_false k1, decide_eq_false k2, decide_eq_true k3, decide_eq_false k4]; simp)
            have k4i : ¬ (1 : Int) < (d.size : Int) := by omega
            subst k3
            go_wp2_with fail
            go_meet
            case rel => exact ⟨by rw [e.out]; simp [hE, k2i, k4i], rfl⟩
        · have e := Lib.hid (show bad = false by rw [← HBd.out, decide_eq_false k1, decide_eq_false k2, decide_eq_false k3]; simp)
          go_wp2_with fail
          go_meet
          case rel => exact ⟨by rw [e.out]; simp [k3, hE], rfl⟩
  case rest =>
  obtain ⟨rfl, hwq⟩ := hcut
  subst hwq
  cases bad with
  | true =>
    have e := Lib.hid (show goodR less l = false by rw [HGd.out]; rfl)
    go_wp2_with fail
    go_ret2
    obtain ⟨e1, e2⟩ := HF.out e.out
    exact ⟨by rw [e1, e2]; rfl, (by repeat (first | with_reducible exact Below.refl _ _ | (with_reducible refine Below.alloc ?_ (by first | omega | (simp; done) | (simp; omega)) _) | (with_reducible refine Below.setCell ?_ (by first | omega | (simp; done) | (simp; omega)) _) | (with_reducible refine Below.drew ?_) | (with_reducible refine below_drewN ?_ _) | (with_reducible assumption) | (with_reducible refine bel_step (by with_reducible assumption) ?_ (by first | omega | (simp; done) | (simp; omega)))))⟩
  | false =>
    have hd13 : d.size ≤ 13 := by
      rcases Nat.lt_or_ge 13 d.size with h1 | h1
      · have h := HBd.out
        rw [decide_eq_true h1] at h
        simp at h
      · exact h1
    have HG2 := Lib.hid (show goodR less l = allR l by rw [HGd.out]; rfl)
    clear HGd HBd HE HY0
    go_wp2
    go_loop [7, 8] (fun n i => ∃ k : Nat, k ≤ d.size ∧ i = .int .i64 k ∧ n = .int .i64 (valR (l.take k)) ∧ allR (l.take k) = true) (fun _ i => d.size - (intOf i).toNat)
    case atStart => exact ⟨0, by omega, rfl, by simp [valR], by simp [allR]⟩
    case round =>
      obtain ⟨k, hk, rfl, rfl, hB⟩ := hrel
      obtain ⟨b0, b1⟩ := valR_bd (l.take k) hB (by rw [List.length_take]; omega)
      by_cases hlt : k < d.size
      · have hg := HG.out k hlt
        have ht := take_snoc_r (l := l) (k := k) (by rw [HL.out]; exact hlt)
        have HS := Lib.hid (show valR (l.take (k + 1)) = valR (l.take k) * 10 + (((l.getD k 0).toNat : Int) - 48) by rw [ht, valR_snoc])
        have HS2 := Lib.hid (show allR (l.take (k + 1)) = digR (l.getD k 0) by rw [ht, allR_snoc, hB, Bool.true_and])
        have hc0 : ((l.getD k 0).toNat : Int) < 256 := by have := (l.getD k 0).toNat_lt; omega
        have hD := Lib.hid (digR_iff (l.getD k 0))
        obtain ⟨q, eq⟩ : ∃ q, digR (l.getD k 0) = q := ⟨_, rfl⟩
        rw [eq] at HS2 hD
        obtain ⟨c, ec⟩ : ∃ c : Int, ((l.getD k 0).toNat : Int) = c := ⟨_, rfl⟩
        obtain ⟨N, eN⟩ : ∃ N, valR (l.take k) = N := ⟨_, rfl⟩
        have hc1 : 0 ≤ c := by omega
        rw [ec] at hg hc0 HS hD
        rw [eN] at b0 b1 HS ⊢
        clear ec eN eq ht hB
        by_cases d1 : 48 ≤ c ∧ c ≤ 57
        · have HQ := Lib.hid (show q = true from hD.out.2 d1)
          obtain ⟨d1, d2⟩ := d1
          go_wp2
          go_round
          case rel => exact ⟨k + 1, by omega, by go_num, by rw [HS.out]; first | rfl | (congr 1; omega), by rw [HS2.out, HQ.out]⟩
          case measure => simp [intOf]; omega
        · have HQ := Lib.hid (show allR l = false from allR_take (k := k + 1) (by rw [HS2.out]; cases q; rfl; exact absurd (hD.out.1 rfl) d1))
          rcases (show c < 48 ∨ (¬ c < 48 ∧ 57 < c) by omega) with d2 | ⟨d2, d3⟩
          all_goals
            clear d1
            go_wp2
            go_ret2
            obtain ⟨e1, e2⟩ := HF.out (HG2.out.trans HQ.out)
            exact ⟨by rw [e1, e2]; rfl, (by repeat (first | with_reducible exact Below.refl _ _ | (with_reducible refine Below.alloc ?_ (by first | omega | (simp; done) | (simp; omega)) _) | (with_reducible refine Below.setCell ?_ (by first | omega | (simp; done) | (simp; omega)) _) | (with_reducible refine Below.drew ?_) | (with_reducible refine below_drewN ?_ _) | (with_reducible assumption) | (with_reducible refine bel_step (by with_reducible assumption) ?_ (by first | omega | (simp; done) | (simp; omega)))))⟩
      · have : k = d.size := by omega
        subst this
        rw [List.take_of_length_le (by rw [HL.out]; omega)] at hB b0 b1 ⊢
        have HB := Lib.hid hB
        clear hB
        cases less
        · go_wp2
          go_ret2
          obtain ⟨e1, e2⟩ := HT.out (HG2.out.trans HB.out)
          exact ⟨by rw [e1, e2]; rfl, (by repeat (first | with_reducible exact Below.refl _ _ | (with_reducible refine Below.alloc ?_ (by first | omega | (simp; done) | (simp; omega)) _) | (with_reducible refine Below.setCell ?_ (by first | omega | (simp; done) | (simp; omega)) _) | (with_reducible refine Below.drew ?_) | (with_reducible refine below_drewN ?_ _) | (with_reducible assumption) | (with_reducible refine bel_step (by with_reducible assumption) ?_ (by first | omega | (simp; done) | (simp; omega)))))⟩
        · go_wp2
          go_ret2
          obtain ⟨e1, e2⟩ := HT.out (HG2.out.trans HB.out)
          exact ⟨by rw [e1, e2]; rfl, (by repeat (first | with_reducible exact Below.refl _ _ | (with_reducible refine Below.alloc ?_ (by first | omega | (simp; done) | (simp; omega)) _) | (with_reducible refine Below.setCell ?_ (by first | omega | (simp; done) | (simp; omega)) _) | (with_reducible refine Below.drew ?_) | (with_reducible refine below_drewN ?_ _) | (with_reducible assumption) | (with_reducible refine bel_step (by with_reducible assumption) ?_ (by first | omega | (simp; done) | (simp; omega)))))⟩
set_option maxRecDepth 100000 in
set_option maxHeartbeats 4000000 in
theorem r1_ReadSpan (s : ByteArray) (w : World) (hs : s.size ≤ 1048576) :
    Calls Tryd.prog 21 #[.string s] w fun e w' => e = .returned (.tuple #[.agg #[.int .i64 (parseS s.data.toList).lo, .int .i64 (parseS s.data.toList).hi], .int .i64 (parseS s.data.toList).c]) ∧ Below w.heap.size w w' := by
  have hl : s.data.toList.length = s.size := Array.length_toList
  have HL := Lib.hid hl
  have HX := Lib.hid (fun k h i hi w => idx_r s k h i hi w)
  obtain ⟨P, eP⟩ : ∃ P, parseS s.data.toList = P := ⟨_, rfl⟩
  have HP := Lib.hid eP
  rw [eP]
  clear eP
  have HN := Lib.hid (fun a b w h => r1_Number (s.extract a b) w h)
  clear hl
  go_enter Tryd.func21, Tryd.ntmps21
  go_wp2
  go_loop [4] (fun i => ∃ k : Nat, k ≤ s.size ∧ i = .int .i64 k ∧ ∀ j, j < k → Lib.occAt s.data.toList dots j = false) (fun i => s.size - (intOf i).toNat)
  case atStart => exact ⟨0, by omega, rfl, fun j hj => by omega⟩
  case round =>
    obtain ⟨k, hk, rfl, hO⟩ := hrel
    have HO := Lib.hid hO
    clear hO
    have hw := IntWalk.i64_in ((k : Int) + 1) (by omega)
    by_cases hlt : k + 1 < s.size
    · have y0 := HX.out k (by omega) (k : Int) rfl
      have y1 := HX.out (k + 1) hlt ((k : Int) + 1) rfl
      have hq : (k : Int) + 1 < (s.size : Int) := by omega
      have HD := Lib.hid (occ_dots s.data.toList k)
      obtain ⟨c0, e0⟩ : ∃ c : Int, ((s.data.toList.getD k 0).toNat : Int) = c := ⟨_, rfl⟩
      obtain ⟨c1, e1⟩ : ∃ c : Int, ((s.data.toList.getD (k + 1) 0).toNat : Int) = c := ⟨_, rfl⟩
      rw [e0] at HD
      rw [e1] at HD
      simp only [e0] at y0
      simp only [e1] at y1
      clear e0 e1
      by_cases g0 : c0 = 46
      · by_cases g1 : c1 = 46
        · obtain ⟨hi1, hi2, hi3⟩ := cut_first s.data.toList k HO.out (HD.out.2 ⟨by rw [HL.out]; exact hlt, g0, g1⟩)
          have C1 := fun w => HN.out 0 k w (by simp; omega)
          have C2 := fun w => HN.out (k + 2) s.size w (by simp; omega)
          have E1 : (s.extract 0 k).data.toList = cutA s.data.toList := by rw [sub_bytes_r, hi2]; rfl
          have E2 : (s.extract (k + 2) s.size).data.toList = cutB s.data.toList := by
            rw [sub_bytes_r, hi3, List.take_of_length_le]
            rw [List.length_drop, HL.out]; omega
          rw [E1] at C1
          rw [E2] at C2
          have hbad := parse_bad s.data.toList
          have hgood := parse_good s.data.toList hi1
          rw [hi1, HP.out] at hbad
          rw [HP.out] at hgood
          clear hi1 hi2 hi3 E1 E2 HX
          obtain ⟨q1, eq1⟩ : ∃ q, numRB (cutA s.data.toList) = q := ⟨_, rfl⟩
          obtain ⟨q2, eq2⟩ : ∃ q, numRB (cutB s.data.toList) = q := ⟨_, rfl⟩
          obtain ⟨n1, en1⟩ : ∃ q, numRV (cutA s.data.toList) = q := ⟨_, rfl⟩
          obtain ⟨n2, en2⟩ : ∃ q, numRV (cutB s.data.toList) = q := ⟨_, rfl⟩
          rw [eq1, en1] at C1
          rw [eq2, en2] at C2
          rw [eq1, eq2] at hbad hgood
          rw [en1, en2] at hgood
          have C1 := Lib.hid C1
          have C2 := Lib.hid C2
          have HBd := Lib.hid hbad
          have HGd := Lib.hid hgood
          clear hbad hgood eq1 eq2 en1 en2 HO HD HP HN HL
          subst g0 g1
          have u0 : (k : Int) ≤ (s.size : Int) := by omega
          have u1 : (0 : Int) ≤ (k : Int) := by omega
          have u2 : (k : Int) + 2 ≤ (s.size : Int) := by omega
          have hw2 := IntWalk.i64_in ((k : Int) + 2) (by omega)
          cases q1 with
          | false =>
            obtain rfl := HBd.out (by rfl)
            go_wp2_with fail
            (try (go_at_call 33; refine (C1.out _).mono ?_; rintro e w1 ⟨rfl, hb1⟩; obtain ⟨hc1, hf1⟩ := bcell hb1; have hz1 := hb1.size; (try simp at hz1); (try have q1_0_0_0 : w.heap.size < w1.heap.size := by omega); (try have q1_0_0_2 : w.heap.size < w1.heap.size + 1 + 1 := by omega); (try have q1_0_0_3 : w.heap.size < w1.heap.size + 1 + 1 + 1 := by omega); (try have q1_0_1_0 : w.heap.size + 1 < w1.heap.size := by omega); (try have q1_0_1_2 : w.heap.size + 1 < w1.heap.size + 1 + 1 := by omega); (try have q1_0_1_3 : w.heap.size + 1 < w1.heap.size + 1 + 1 + 1 := by omega); (try have q1_0_2_0 : w.heap.size + 1 + 1 < w1.heap.size := by omega); (try have q1_0_2_2 : w.heap.size + 1 + 1 < w1.heap.size + 1 + 1 := by omega); (try have q1_0_2_3 : w.heap.size + 1 + 1 < w1.heap.size + 1 + 1 + 1 := by omega); (try have q1_0_3_0 : w.heap.size + 1 + 1 + 1 < w1.heap.size := by omega); (try have q1_0_3_2 : w.heap.size + 1 + 1 + 1 < w1.heap.size + 1 + 1 := by omega); (try have q1_0_3_3 : w.heap.size + 1 + 1 + 1 < w1.heap.size + 1 + 1 + 1 := by omega); (try go_wp2_with fail)))
            (try (go_at_call 33; refine (C2.out _).mono ?_; rintro e w2 ⟨rfl, hb2⟩; obtain ⟨hc2, hf2⟩ := bcell hb2; have hz2 := hb2.size; (try simp at hz2); (try have q2_0_0_0 : w.heap.size < w2.heap.size := by omega); (try have q2_0_0_2 : w.heap.size < w2.heap.size + 1 + 1 := by omega); (try have q2_0_0_3 : w.heap.size < w2.heap.size + 1 + 1 + 1 := by omega); (try have q2_0_1_0 : w.heap.size + 1 < w2.heap.size := by omega); (try have q2_0_1_2 : w.heap.size + 1 < w2.heap.size + 1 + 1 := by omega); (try have q2_0_1_3 : w.heap.size + 1 < w2.heap.size + 1 + 1 + 1 := by omega); (try have q2_0_2_0 : w.heap.size + 1 + 1 < w2.heap.size := by omega); (try have q2_0_2_2 : w.heap.size + 1 + 1 < w2.heap.size + 1 + 1 := by omega); (try have q2_0_2_3 : w.heap.size + 1 + 1 < w2.heap.size + 1 + 1 + 1 := by omega); (try have q2_0_3_0 : w.heap.size + 1 + 1 + 1 < w2.heap.size := by omega); (try have q2_0_3_2 : w.heap.size + 1 + 1 + 1 < w2.heap.size + 1 + 1 := by omega); (try have q2_0_3_3 : w.heap.size + 1 + 1 + 1 < w2.heap.size + 1 + 1 + 1 := by omega); (try have q2_1_0_0 : w1.heap.size < w2.heap.size := by omega); (try have q2_1_0_2 : w1.heap.size < w2.heap.size + 1 + 1 := by omega); (try have q2_1_1_0 : w1.heap.size + 1 < w2.heap.size := by omega); (try have q2_1_1_2 : w1.heap.size + 1 < w2.heap.size + 1 + 1 := by omega); (try go_wp2_with fail)))
            refine bodyPost_ret (v := (.tuple #[.agg #[.int .i64 0, .int .i64 0], .int .i64 2])) (by simp [results, Tryd.results21, go_sem, errV, okC, *]) rfl ⟨rfl, ?_⟩; exact (by repeat (first | with_reducible exact Below.refl _ _ | (with_reducible refine Below.alloc ?_ (by first | omega | (simp; done) | (simp; omega)) _) | (with_reducible refine Below.setCell ?_ (by first | omega | (simp; done) | (simp; omega)) _) | (with_reducible refine Below.drew ?_) | (with_reducible refine below_drewN ?_ _) | (with_reducible assumption) | (with_reducible refine bel_step (by with_reducible assumption) ?_ (by first | omega | (simp; done) | (simp; omega)))))
          | true =>
            cases q2 with
            | false =>
              obtain rfl := HBd.out (by rfl)
              go_wp2_with fail
              (try (go_at_call 33; refine (C1.out _).mono ?_; rintro e w1 ⟨rfl, hb1⟩; obtain ⟨hc1, hf1⟩ := bcell hb1; have hz1 := hb1.size; (try simp at hz1); (try have q1_0_0_0 : w.heap.size < w1.heap.size := by omega); (try have q1_0_0_2 : w.heap.size < w1.heap.size + 1 + 1 := by omega); (try have q1_0_0_3 : w.heap.size < w1.heap.size + 1 + 1 + 1 := by omega); (try have q1_0_1_0 : w.heap.size + 1 < w1.heap.size := by omega); (try have q1_0_1_2 : w.heap.size + 1 < w1.heap.size + 1 + 1 := by omega); (try have q1_0_1_3 : w.heap.size + 1 < w1.heap.size + 1 + 1 + 1 := by omega); (try have q1_0_2_0 : w.heap.size + 1 + 1 < w1.heap.size := by omega); (try have q1_0_2_2 : w.heap.size + 1 + 1 < w1.heap.size + 1 + 1 := by omega); (try have q1_0_2_3 : w.heap.size + 1 + 1 < w1.heap.size + 1 + 1 + 1 := by omega); (try have q1_0_3_0 : w.heap.size + 1 + 1 + 1 < w1.heap.size := by omega); (try have q1_0_3_2 : w.heap.size + 1 + 1 + 1 < w1.heap.size + 1 + 1 := by omega); (try have q1_0_3_3 : w.heap.size + 1 + 1 + 1 < w1.heap.size + 1 + 1 + 1 := by omega); (try go_wp2_with fail)))
              (try (go_at_call 33; refine (C2.out _).mono ?_; rintro e w2 ⟨rfl, hb2⟩; obtain ⟨hc2, hf2⟩ := bcell hb2; have hz2 := hb2.size; (try simp at hz2); (try have q2_0_0_0 : w.heap.size < w2.heap.size := by omega); (try have q2_0_0_2 : w.heap.size < w2.heap.size + 1 + 1 := by omega); (try have q2_0_0_3 : w.heap.size < w2.heap.size + 1 + 1 + 1 := by omega); (try have q2_0_1_0 : w.heap.size + 1 < w2.heap.size := by omega); (try have q2_0_1_2 : w.heap.size + 1 < w2.heap.size + 1 + 1 := by omega); (try have q2_0_1_3 : w.heap.size + 1 < w2.heap.size + 1 + 1 + 1 := by omega); (try have q2_0_2_0 : w.heap.size + 1 + 1 < w2.heap.size := by omega); (try have q2_0_2_2 : w.heap.size + 1 + 1 < w2.heap.size + 1 + 1 := by omega); (try have q2_0_2_3 : w.heap.size + 1 + 1 < w2.heap.size + 1 + 1 + 1 := by omega); (try have q2_0_3_0 : w.heap.size + 1 + 1 + 1 < w2.heap.size := by omega); (try have q2_0_3_2 : w.heap.size + 1 + 1 + 1 < w2.heap.size + 1 + 1 := by omega); (try have q2_0_3_3 : w.heap.size + 1 + 1 + 1 < w2.heap.size + 1 + 1 + 1 := by omega); (try have q2_1_0_0 : w1.heap.size < w2.heap.size := by omega); (try have q2_1_0_2 : w1.heap.size < w2.heap.size + 1 + 1 := by omega); (try have q2_1_1_0 : w1.heap.size + 1 < w2.heap.size := by omega); (try have q2_1_1_2 : w1.heap.size + 1 < w2.heap.size + 1 + 1 := by omega); (try go_wp2_with fail)))
              refine bodyPost_ret (v := (.tuple #[.agg #[.int .i64 0, .int .i64 0], .int .i64 2])) (by simp [results, Tryd.results21, go_sem, errV, okC, *]) rfl ⟨rfl, ?_⟩; exact (by repeat (first | with_reducible exact Below.refl _ _ | (with_reducible refine Below.alloc ?_ (by first | omega | (simp; done) | (simp; omega)) _) | (with_reducible refine Below.setCell ?_ (by first | omega | (simp; done) | (simp; omega)) _) | (with_reducible refine Below.drew ?_) | (with_reducible refine below_drewN ?_ _) | (with_reducible assumption) | (with_reducible refine bel_step (by with_reducible assumption) ?_ (by first | omega | (simp; done) | (simp; omega)))))
            | true =>
              have hG := HGd.out rfl rfl
              clear HBd HGd
              have C3 := fun w => r1_Span n1 n2 w
              unfold whole at hG
              by_cases hr : rightB n1 n2 = true
              · rw [if_pos hr] at hG
                rw [hr] at C3
                have C3 := Lib.hid C3
                clear hr
                subst hG
                go_wp2_with fail
                (try (go_at_call 33; refine (C1.out _).mono ?_; rintro e w1 ⟨rfl, hb1⟩; obtain ⟨hc1, hf1⟩ := bcell hb1; have hz1 := hb1.size; (try simp at hz1); (try have q1_0_0_0 : w.heap.size < w1.heap.size := by omega); (try have q1_0_0_2 : w.heap.size < w1.heap.size + 1 + 1 := by omega); (try have q1_0_0_3 : w.heap.size < w1.heap.size + 1 + 1 + 1 := by omega); (try have q1_0_1_0 : w.heap.size + 1 < w1.heap.size := by omega); (try have q1_0_1_2 : w.heap.size + 1 < w1.heap.size + 1 + 1 := by omega); (try have q1_0_1_3 : w.heap.size + 1 < w1.heap.size + 1 + 1 + 1 := by omega); (try have q1_0_2_0 : w.heap.size + 1 + 1 < w1.heap.size := by omega); (try have q1_0_2_2 : w.heap.size + 1 + 1 < w1.heap.size + 1 + 1 := by omega); (try have q1_0_2_3 : w.heap.size + 1 + 1 < w1.heap.size + 1 + 1 + 1 := by omega); (try have q1_0_3_0 : w.heap.size + 1 + 1 + 1 < w1.heap.size := by omega); (try have q1_0_3_2 : w.heap.size + 1 + 1 + 1 < w1.heap.size + 1 + 1 := by omega); (try have q1_0_3_3 : w.heap.size + 1 + 1 + 1 < w1.heap.size + 1 + 1 + 1 := by omega); (try go_wp2_with fail)))
                (try (go_at_call 33; refine (C2.out _).mono ?_; rintro e w2 ⟨rfl, hb2⟩; obtain ⟨hc2, hf2⟩ := bcell hb2; have hz2 := hb2.size; (try simp at hz2); (try have q2_0_0_0 : w.heap.size < w2.heap.size := by omega); (try have q2_0_0_2 : w.heap.size < w2.heap.size + 1 + 1 := by omega); (try have q2_0_0_3 : w.heap.size < w2.heap.size + 1 + 1 + 1 := by omega); (try have q2_0_1_0 : w.heap.size + 1 < w2.heap.size := by omega); (try have q2_0_1_2 : w.heap.size + 1 < w2.heap.size + 1 + 1 := by omega); (try have q2_0_1_3 : w.heap.size + 1 < w2.heap.size + 1 + 1 + 1 := by omega); (try have q2_0_2_0 : w.heap.size + 1 + 1 < w2.heap.size := by omega); (try have q2_0_2_2 : w.heap.size + 1 + 1 < w2.heap.size + 1 + 1 := by omega); (try have q2_0_2_3 : w.heap.size + 1 + 1 < w2.heap.size + 1 + 1 + 1 := by omega); (try have q2_0_3_0 : w.heap.size + 1 + 1 + 1 < w2.heap.size := by omega); (try have q2_0_3_2 : w.heap.size + 1 + 1 + 1 < w2.heap.size + 1 + 1 := by omega); (try have q2_0_3_3 : w.heap.size + 1 + 1 + 1 < w2.heap.size + 1 + 1 + 1 := by omega); (try have q2_1_0_0 : w1.heap.size < w2.heap.size := by omega); (try have q2_1_0_2 : w1.heap.size < w2.heap.size + 1 + 1 := by omega); (try have q2_1_1_0 : w1.heap.size + 1 < w2.heap.size := by omega); (try have q2_1_1_2 : w1.heap.size + 1 < w2.heap.size + 1 + 1 := by omega); (try go_wp2_with fail)))
                (try (go_at_call 12; refine (C3.out _).mono ?_; rintro e w3 ⟨rfl, hb3⟩; obtain ⟨hc3, hf3⟩ := bcell hb3; have hz3 := hb3.size; (try simp at hz3); (try have q3_0_0_0 : w.heap.size < w3.heap.size := by omega); (try have q3_0_0_2 : w.heap.size < w3.heap.size + 1 + 1 := by omega); (try have q3_0_0_3 : w.heap.size < w3.heap.size + 1 + 1 + 1 := by omega); (try have q3_0_1_0 : w.heap.size + 1 < w3.heap.size := by omega); (try have q3_0_1_2 : w.heap.size + 1 < w3.heap.size + 1 + 1 := by omega); (try have q3_0_1_3 : w.heap.size + 1 < w3.heap.size + 1 + 1 + 1 := by omega); (try have q3_0_2_0 : w.heap.size + 1 + 1 < w3.heap.size := by omega); (try have q3_0_2_2 : w.heap.size + 1 + 1 < w3.heap.size + 1 + 1 := by omega); (try have q3_0_2_3 : w.heap.size + 1 + 1 < w3.heap.size + 1 + 1 + 1 := by omega); (try have q3_0_3_0 : w.heap.size + 1 + 1 + 1 < w3.heap.size := by omega); (try have q3_0_3_2 : w.heap.size + 1 + 1 + 1 < w3.heap.size + 1 + 1 := by omega); (try have q3_0_3_3 : w.heap.size + 1 + 1 + 1 < w3.heap.size + 1 + 1 + 1 := by omega); (try have q3_1_0_0 : w1.heap.size < w3.heap.size := by omega); (try have q3_1_0_2 : w1.heap.size < w3.heap.size + 1 + 1 := by omega); (try have q3_1_1_0 : w1.heap.size + 1 < w3.heap.size := by omega); (try have q3_1_1_2 : w1.heap.size + 1 < w3.heap.size + 1 + 1 := by omega); (try have q3_2_0_0 : w2.heap.size < w3.heap.size := by omega); (try have q3_2_0_2 : w2.heap.size < w3.heap.size + 1 + 1 := by omega); (try have q3_2_1_0 : w2.heap.size + 1 < w3.heap.size := by omega); (try have q3_2_1_2 : w2.heap.size + 1 < w3.heap.size + 1 + 1 := by omega); (try go_wp2_with fail)))
                have r0 : w3.cell? ⟨w.heap.size, 0, none⟩ = some (.int .i64 0) := (Below.cell (B := (w.alloc (.cells #[.int .i64 0, .int .i64 0] 23)).heap.size) (w := w.alloc (.cells #[.int .i64 0, .int .i64 0] 23)) (by repeat (first | with_reducible exact Below.refl _ _ | (with_reducible refine Below.alloc ?_ (by first | omega | (simp; done) | (simp; omega)) _) | (with_reducible refine Below.setCell ?_ (by first | omega | (simp; done) | (simp; omega)) _) | (with_reducible refine Below.drew ?_) | (with_reducible refine below_drewN ?_ _) | (with_reducible assumption) | (with_reducible refine bel_step (by with_reducible assumption) ?_ (by first | omega | (simp; done) | (simp; omega))))) (by simp)).trans (by simp)
                have r1 : w3.cell? ⟨w.heap.size, 1, none⟩ = some (.int .i64 0) := (Below.cell (B := (w.alloc (.cells #[.int .i64 0, .int .i64 0] 23)).heap.size) (w := w.alloc (.cells #[.int .i64 0, .int .i64 0] 23)) (by repeat (first | with_reducible exact Below.refl _ _ | (with_reducible refine Below.alloc ?_ (by first | omega | (simp; done) | (simp; omega)) _) | (with_reducible refine Below.setCell ?_ (by first | omega | (simp; done) | (simp; omega)) _) | (with_reducible refine Below.drew ?_) | (with_reducible refine below_drewN ?_ _) | (with_reducible assumption) | (with_reducible refine bel_step (by with_reducible assumption) ?_ (by first | omega | (simp; done) | (simp; omega))))) (by simp)).trans (by simp)
                refine bodyPost_ret (v := (.tuple #[.agg #[.int .i64 n1, .int .i64 n2], .int .i64 0])) (by simp [results, Tryd.results21, go_sem, errV, okC, *]) rfl ⟨rfl, ?_⟩; exact (by repeat (first | with_reducible exact Below.refl _ _ | (with_reducible refine Below.alloc ?_ (by first | omega | (simp; done) | (simp; omega)) _) | (with_reducible refine Below.setCell ?_ (by first | omega | (simp; done) | (simp; omega)) _) | (with_reducible refine Below.drew ?_) | (with_reducible refine below_drewN ?_ _) | (with_reducible assumption) | (with_reducible refine bel_step (by with_reducible assumption) ?_ (by first | omega | (simp; done) | (simp; omega)))))
              · rw [if_neg hr] at hG
                have hr : rightB n1 n2 = false := by simpa using hr
                rw [hr] at C3
                have C3 := Lib.hid C3
                clear hr
                subst hG
                go_wp2_with fail
                (try (go_at_call 33; refine (C1.out _).mono ?_; rintro e w1 ⟨rfl, hb1⟩; obtain ⟨hc1, hf1⟩ := bcell hb1; have hz1 := hb1.size; (try simp at hz1); (try have q1_0_0_0 : w.heap.size < w1.heap.size := by omega); (try have q1_0_0_2 : w.heap.size < w1.heap.size + 1 + 1 := by omega); (try have q1_0_0_3 : w.heap.size < w1.heap.size + 1 + 1 + 1 := by omega); (try have q1_0_1_0 : w.heap.size + 1 < w1.heap.size := by omega); (try have q1_0_1_2 : w.heap.size + 1 < w1.heap.size + 1 + 1 := by omega); (try have q1_0_1_3 : w.heap.size + 1 < w1.heap.size + 1 + 1 + 1 := by omega); (try have q1_0_2_0 : w.heap.size + 1 + 1 < w1.heap.size := by omega); (try have q1_0_2_2 : w.heap.size + 1 + 1 < w1.heap.size + 1 + 1 := by omega); (try have q1_0_2_3 : w.heap.size + 1 + 1 < w1.heap.size + 1 + 1 + 1 := by omega); (try have q1_0_3_0 : w.heap.size + 1 + 1 + 1 < w1.heap.size := by omega); (try have q1_0_3_2 : w.heap.size + 1 + 1 + 1 < w1.heap.size + 1 + 1 := by omega); (try have q1_0_3_3 : w.heap.size + 1 + 1 + 1 < w1.heap.size + 1 + 1 + 1 := by omega); (try go_wp2_with fail)))
                (try (go_at_call 33; refine (C2.out _).mono ?_; rintro e w2 ⟨rfl, hb2⟩; obtain ⟨hc2, hf2⟩ := bcell hb2; have hz2 := hb2.size; (try simp at hz2); (try have q2_0_0_0 : w.heap.size < w2.heap.size := by omega); (try have q2_0_0_2 : w.heap.size < w2.heap.size + 1 + 1 := by omega); (try have q2_0_0_3 : w.heap.size < w2.heap.size + 1 + 1 + 1 := by omega); (try have q2_0_1_0 : w.heap.size + 1 < w2.heap.size := by omega); (try have q2_0_1_2 : w.heap.size + 1 < w2.heap.size + 1 + 1 := by omega); (try have q2_0_1_3 : w.heap.size + 1 < w2.heap.size + 1 + 1 + 1 := by omega); (try have q2_0_2_0 : w.heap.size + 1 + 1 < w2.heap.size := by omega); (try have q2_0_2_2 : w.heap.size + 1 + 1 < w2.heap.size + 1 + 1 := by omega); (try have q2_0_2_3 : w.heap.size + 1 + 1 < w2.heap.size + 1 + 1 + 1 := by omega); (try have q2_0_3_0 : w.heap.size + 1 + 1 + 1 < w2.heap.size := by omega); (try have q2_0_3_2 : w.heap.size + 1 + 1 + 1 < w2.heap.size + 1 + 1 := by omega); (try have q2_0_3_3 : w.heap.size + 1 + 1 + 1 < w2.heap.size + 1 + 1 + 1 := by omega); (try have q2_1_0_0 : w1.heap.size < w2.heap.size := by omega); (try have q2_1_0_2 : w1.heap.size < w2.heap.size + 1 + 1 := by omega); (try have q2_1_1_0 : w1.heap.size + 1 < w2.heap.size := by omega); (try have q2_1_1_2 : w1.heap.size + 1 < w2.heap.size + 1 + 1 := by omega); (try go_wp2_with fail)))
                (try (go_at_call 12; refine (C3.out _).mono ?_; rintro e w3 ⟨rfl, hb3⟩; obtain ⟨hc3, hf3⟩ := bcell hb3; have hz3 := hb3.size; (try simp at hz3); (try have q3_0_0_0 : w.heap.size < w3.heap.size := by omega); (try have q3_0_0_2 : w.heap.size < w3.heap.size + 1 + 1 := by omega); (try have q3_0_0_3 : w.heap.size < w3.heap.size + 1 + 1 + 1 := by omega); (try have q3_0_1_0 : w.heap.size + 1 < w3.heap.size := by omega); (try have q3_0_1_2 : w.heap.size + 1 < w3.heap.size + 1 + 1 := by omega); (try have q3_0_1_3 : w.heap.size + 1 < w3.heap.size + 1 + 1 + 1 := by omega); (try have q3_0_2_0 : w.heap.size + 1 + 1 < w3.heap.size := by omega); (try have q3_0_2_2 : w.heap.size + 1 + 1 < w3.heap.size + 1 + 1 := by omega); (try have q3_0_2_3 : w.heap.size + 1 + 1 < w3.heap.size + 1 + 1 + 1 := by omega); (try have q3_0_3_0 : w.heap.size + 1 + 1 + 1 < w3.heap.size := by omega); (try have q3_0_3_2 : w.heap.size + 1 + 1 + 1 < w3.heap.size + 1 + 1 := by omega); (try have q3_0_3_3 : w.heap.size + 1 + 1 + 1 < w3.heap.size + 1 + 1 + 1 := by omega); (try have q3_1_0_0 : w1.heap.size < w3.heap.size := by omega); (try have q3_1_0_2 : w1.heap.size < w3.heap.size + 1 + 1 := by omega); (try have q3_1_1_0 : w1.heap.size + 1 < w3.heap.size := by omega); (try have q3_1_1_2 : w1.heap.size + 1 < w3.heap.size + 1 + 1 := by omega); (try have q3_2_0_0 : w2.heap.size < w3.heap.size := by omega); (try have q3_2_0_2 : w2.heap.size < w3.heap.size + 1 + 1 := by omega); (try have q3_2_1_0 : w2.heap.size + 1 < w3.heap.size := by omega); (try have q3_2_1_2 : w2.heap.size + 1 < w3.heap.size + 1 + 1 := by omega); (try go_wp2_with fail)))
                have r0 : w3.cell? ⟨w.heap.size, 0, none⟩ = some (.int .i64 0) := (Below.cell (B := (w.alloc (.cells #[.int .i64 0, .int .i64 0] 23)).heap.size) (w := w.alloc (.cells #[.int .i64 0, .int .i64 0] 23)) (by repeat (first | with_reducible exact Below.refl _ _ | (with_reducible refine Below.alloc ?_ (by first | omega | (simp; done) | (simp; omega)) _) | (with_reducible refine Below.setCell ?_ (by first | omega | (simp; done) | (simp; omega)) _) | (with_reducible refine Below.drew ?_) | (with_reducible refine below_drewN ?_ _) | (with_reducible assumption) | (with_reducible refine bel_step (by with_reducible assumption) ?_ (by first | omega | (simp; done) | (simp; omega))))) (by simp)).trans (by simp)
                have r1 : w3.cell? ⟨w.heap.size, 1, none⟩ = some (.int .i64 0) := (Below.cell (B := (w.alloc (.cells #[.int .i64 0, .int .i64 0] 23)).heap.size) (w := w.alloc (.cells #[.int .i64 0, .int .i64 0] 23)) (by repeat (first | with_reducible exact Below.refl _ _ | (with_reducible refine Below.alloc ?_ (by first | omega | (simp; done) | (simp; omega)) _) | (with_reducible refine Below.setCell ?_ (by first | omega | (simp; done) | (simp; omega)) _) | (with_reducible refine Below.drew ?_) | (with_reducible refine below_drewN ?_ _) | (with_reducible assumption) | (with_reducible refine bel_step (by with_reducible assumption) ?_ (by first | omega | (simp; done) | (simp; omega))))) (by simp)).trans (by simp)
                refine bodyPost_ret (v := (.tuple #[.agg #[.int .i64 0, .int .i64 0], .int .i64 1])) (by simp [results, Tryd.results21, go_sem, errV, okC, *]) rfl ⟨rfl, ?_⟩; exact (by repeat (first | with_reducible exact Below.refl _ _ | (with_reducible refine Below.alloc ?_ (by first | omega | (simp; done) | (simp; omega)) _) | (with_reducible refine Below.setCell ?_ (by first | omega | (simp; done) | (simp; omega)) _) | (with_reducible refine Below.drew ?_) | (with_reducible refine below_drewN ?_ _) | (with_reducible assumption) | (with_reducible refine bel_step (by with_reducible assumption) ?_ (by first | omega | (simp; done) | (simp; omega)))))
        · have HO2 := Lib.hid (show ∀ j, j < k + 1 → Lib.occAt s.data.toList dots j = false from fun j hj => by
            rcases Nat.lt_or_ge j k with h1 | h1
            · exact HO.out j h1
            · obtain rfl : j = k := by omega
              cases hoc : Lib.occAt s.data.toList dots j with
              | false => rfl
              | true => exact absurd (HD.out.1 hoc).2.2 g1)
          clear HO HD
          go_wp2
          go_round
          case rel => exact ⟨k + 1, by omega, by go_num, HO2.out⟩
          case measure => simp [intOf]; omega
      · have HO2 := Lib.hid (show ∀ j, j < k + 1 → Lib.occAt s.data.toList dots j = false from fun j hj => by
          rcases Nat.lt_or_ge j k with h1 | h1
          · exact HO.out j h1
          · obtain rfl : j = k := by omega
            cases hoc : Lib.occAt s.data.toList dots j with
            | false => rfl
            | true => exact absurd (HD.out.1 hoc).2.1 g0)
        clear HO HD
        go_wp2
        go_round
        case rel => exact ⟨k + 1, by omega, by go_num, HO2.out⟩
        case measure => simp [intOf]; omega
    · have hq : ¬ (k : Int) + 1 < (s.size : Int) := by omega
      have hbad := parse_bad s.data.toList (by rw [cut_none s.data.toList (fun j hj => HO.out j (by rw [HL.out] at hj; omega))]; rfl)
      rw [HP.out] at hbad
      subst hbad
      clear HO HL HX HP HN
      go_wp2_with fail
      refine bodyPost_ret (v := (.tuple #[.agg #[.int .i64 0, .int .i64 0], .int .i64 2])) (by simp [results, Tryd.results21, go_sem, errV, okC, *]) rfl ⟨rfl, ?_⟩; exact (by repeat (first | with_reducible exact Below.refl _ _ | (with_reducible refine Below.alloc ?_ (by first | omega | (simp; done) | (simp; omega)) _) | (with_reducible refine Below.setCell ?_ (by first | omega | (simp; done) | (simp; omega)) _) | (with_reducible refine Below.drew ?_) | (with_reducible refine below_drewN ?_ _) | (with_reducible assumption) | (with_reducible refine bel_step (by with_reducible assumption) ?_ (by first | omega | (simp; done) | (simp; omega)))))
end Go.Proofs.YtjhfikbjfipmkaaDoor
